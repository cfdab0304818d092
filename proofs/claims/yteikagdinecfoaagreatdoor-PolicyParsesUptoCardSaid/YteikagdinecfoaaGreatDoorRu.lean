/- A text cut at a byte: the reference's cut. -/
import Derived.Test.YteikagdinecfoaaGreatDoorPi
set_option linter.unusedVariables false
set_option linter.unusedSimpArgs false
namespace Go.Proofs.YteikagdinecfoaaGreatDoor.Ru
open Go.RowKit Lb Gr Pd Fl Go.Proofs.YteikagdinecfoaaGreatDoor.Pm Bk Is Go.Proofs.YteikagdinecfoaaGreatDoor.Sl Go.Proofs.YteikagdinecfoaaGreatDoor.Ck Pt
theorem cutG_hit {c : UInt8} {L : List UInt8} {k : Nat} (hk : k < L.length) (h : L[k] = c) (cur : List UInt8) : cutG c cur (L.drop k) = cur :: cutG c [] (L.drop (k + 1)) := by
  rw [List.drop_eq_getElem_cons hk, cutG, if_pos h]
theorem cutG_go {c : UInt8} {L : List UInt8} {k : Nat} (hk : k < L.length) (h : L[k] ≠ c) (cur : List UInt8) : cutG c cur (L.drop k) = cutG c (cur ++ [L[k]]) (L.drop (k + 1)) := by
  rw [List.drop_eq_getElem_cons hk, cutG, if_neg h]
theorem u8_eq {a b : UInt8} (h : a = b) : ((a.toNat : Int) == (b.toNat : Int)) = true := by subst h; simp
theorem u8_ne {a b : UInt8} (h : a ≠ b) : ((a.toNat : Int) == (b.toNat : Int)) = false := by
  simp only [beq_eq_false_iff_ne, ne_eq, Int.ofNat_inj]
  exact fun e => h (UInt8.toNat_inj.1 e)
theorem cutG_len (c : UInt8) : ∀ (l cur : List UInt8), (cutG c cur l).length ≤ l.length + 1
  | [], cur => by simp [cutG]
  | b :: t, cur => by
    unfold cutG
    split
    · have := cutG_len c t []; simp; omega
    · have := cutG_len c t (cur ++ [b]); simp; omega

set_option maxHeartbeats 2000000 in
set_option maxRecDepth 100000 in
theorem rCutC (s : ByteArray) (c : UInt8) (w : World) (hs : s.size ≤ 2147483647) : Calls Tryz.prog 115 #[.string s, .int .u8 (c.toNat : Int)] w fun e w' => ∃ v, e = .returned v ∧ Own w' w.heap.size v (cutS s c) ∧ Below w.heap.size w w' := by
  obtain ⟨i0, hi, hz0, hz1, hz2⟩ := info_parts infoStr
  obtain ⟨L, hL⟩ : ∃ L, L = s.data.toList := ⟨_, rfl⟩
  have hLs : L.length = s.size := by rw [hL, size_len]
  have HLs := Lib.hid hLs; clear hLs
  have HL := Lib.hid hL; clear hL
  go_enter Tryz.func115, Tryz.ntmps115
  go_wp2
  go_loopw [5, 6, 10] (fun v f i wr => ∃ (k a : Nat) (done : List ByteArray), k ≤ s.size ∧ a ≤ k ∧ i = .int .i64 k ∧ f = .int .i64 a ∧ Own wr w.heap.size v done ∧ Below w.heap.size w wr ∧ done.length ≤ k ∧
      Hid (done ++ (cutG c ((L.drop a).take (k - a)) (L.drop k)).map str = cutS s c)) (fun _ _ i _ => s.size - (intOf i).toNat)
  case atStart => exact ⟨0, 0, [], by omega, by omega, rfl, rfl, Own.nil _ _, Below.refl _ _, by simp, Lib.hid (by simp [cutS, cutL, HL.out])⟩
  case round =>
    obtain ⟨k, a, done, hk, hak, rfl, rfl, hown, hnx, hdl, hst⟩ := hrel
    have hsz := hnx.size
    have g1 : done.length + 1 ≤ maxLen := by unfold maxLen; omega
    have g2 : (done.length + 1) * 16 ≤ 140737488355328 := by omega
    by_cases hlt : k < s.size
    · have hlL : k < L.length := by rw [HLs.out]; exact hlt
      have hck : s[k] = L[k] := by rw [at_list]; congr 1; exact HL.out.symm
      by_cases he : s[k] = c
      · have b1 := u8_eq he
        have hst2 : Hid ((done ++ [s.extract a k]) ++ (cutG c [] (L.drop (k + 1))).map str = cutS s c) := Lib.hid (by
          have h1 := hst.out
          rw [cutG_hit hlL (hck ▸ he)] at h1
          rw [← h1, extract_str, ← HL.out]; simp)
        clear hst hck he
        go_wp2_with (at_builtin; (refine wpList_append_src _ rfl (.tmp 18) (.tmp 23) 27 rfl w.heap.size 9 i0 _ 1 16 Tryz.underlying27 hi hz0 hz1 hz2 rfl (by decide) _ _ _ rfl (hown.alloc _) (some ⟨wr.heap.size, 0, none⟩) 1 1 [.string (s.extract a k)] rfl rfl (news_src wr _ _) (by simp [Value.oneCell']) g1 g2 (by simp; omega) ?_; intro v' w1 hown' hgrow _))
        have hown2 := Own.push hown'
        have hb2 := push_below hown hnx hsz hgrow
        clear hown' hgrow hown hnx
        go_wp2
        go_roundw
        case rel => exact ⟨k + 1, k + 1, _, by omega, by omega, by go_num, by go_num, hown2, hb2, by simp; omega, by simpa using hst2⟩
        case measure => simp [intOf] <;> omega
      · have b1 := u8_ne he
        have hst2 : Hid (done ++ (cutG c ((L.drop a).take (k + 1 - a)) (L.drop (k + 1))).map str = cutS s c) := Lib.hid (by
          have h1 := hst.out
          rw [cutG_go hlL (fun e => he (hck.trans e)), seg_step hlL (by omega)] at h1
          exact h1)
        clear hst hck he
        go_wp2
        go_roundw
        case rel => exact ⟨k + 1, a, done, by omega, by omega, by go_num, rfl, hown, hnx, by omega, hst2⟩
        case measure => simp [intOf] <;> omega
    · have hke : k = s.size := by omega
      subst hke
      have hfin : Hid (done ++ [s.extract a s.size] = cutS s c) := Lib.hid (by
        have h1 := hst.out
        rw [List.drop_eq_nil_of_le (i := s.size) (by rw [HLs.out]; exact Nat.le_refl _)] at h1
        rw [show ∀ cur, cutG c cur [] = [cur] from fun _ => rfl] at h1
        rw [← h1, extract_str, ← HL.out]; simp)
      clear hst hlt
      go_wp2_with (at_builtin; (refine wpList_append_src _ rfl (.tmp 28) (.tmp 32) 27 rfl w.heap.size 9 i0 _ 1 16 Tryz.underlying27 hi hz0 hz1 hz2 rfl (by decide) _ _ _ rfl (hown.alloc _) (some ⟨wr.heap.size, 0, none⟩) 1 1 [.string (s.extract a s.size)] rfl rfl (news_src wr _ _) (by simp [Value.oneCell']) g1 g2 (by simp; omega) ?_; intro v' w1 hown' hgrow _))
      have hown2 := Own.push hown'
      have hb2 := push_below hown hnx hsz hgrow
      clear hown' hgrow hown hnx
      go_wp2
      go_ret
      exact ⟨_, rfl, by rw [← hfin.out]; exact hown2, hb2⟩
end Go.Proofs.YteikagdinecfoaaGreatDoor.Ru
