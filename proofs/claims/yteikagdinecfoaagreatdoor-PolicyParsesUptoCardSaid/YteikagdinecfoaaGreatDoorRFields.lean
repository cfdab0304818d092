/- The fields of a text. For texts of at most 2^31 - 1 bytes. -/
import Derived.Test.YteikagdinecfoaaGreatDoorProg
import Derived.Test.YteikagdinecfoaaGreatDoorStr
import Derived.Test.YteikagdinecfoaaGreatDoorRBl
set_option linter.unusedVariables false
set_option linter.unusedSimpArgs false
namespace Go.Proofs.YteikagdinecfoaaGreatDoor.Rf
open Go.RowKit Lb Fl Rb
set_option maxHeartbeats 2000000 in
set_option maxRecDepth 100000 in
theorem rFields (s : ByteArray) (w : World) (hs : s.size ≤ 2147483647) : Calls Tryz.prog 99 #[.string s] w fun e w' => ∃ v, e = .returned v ∧ Own w' w.heap.size v (fieldsS s) ∧ Below w.heap.size w w' := by
  obtain ⟨i0, hi, hz0, hz1, hz2⟩ := info_parts infoStr
  obtain ⟨L, hL⟩ : ∃ L, L = s.data.toList := ⟨_, rfl⟩
  have hLs : L.length = s.size := by rw [hL, size_len]
  have HLs := Lib.hid hLs; clear hLs
  have HL := Lib.hid hL; clear hL
  go_enter Tryz.func99, Tryz.ntmps99
  go_wp2
  go_loopw [3, 4, 5] (fun v f i wr => ∃ (k a : Nat) (done : List ByteArray), k ≤ s.size + 1 ∧ a ≤ k ∧ i = .int .i64 k ∧ f = .int .i64 a ∧ Own wr w.heap.size v done ∧ Below w.heap.size w wr ∧ done.length ≤ k ∧
      Hid (done ++ (flds ((L.drop a).take (k - a)) (L.drop k)).map str = fieldsS s) ∧ (k = s.size + 1 → a = k)) (fun _ _ i _ => s.size + 1 - (intOf i).toNat)
  case atStart => exact ⟨0, 0, [], by omega, by omega, rfl, rfl, Own.nil _ _, Below.refl _ _, by simp, Lib.hid (by simp [fieldsS, fieldsL, HL.out]), by omega⟩
  case round =>
    obtain ⟨k, a, done, hk, hak, rfl, rfl, hown, hnx, hdl, hst, hend⟩ := hrel
    have hsz := hnx.size
    have g1 : done.length + 1 ≤ maxLen := by unfold maxLen; omega
    have g2 : (done.length + 1) * 16 ≤ 140737488355328 := by omega
    by_cases hlt : k < s.size
    · have hlL : k < L.length := by rw [HLs.out]; exact hlt
      have hck : s[k] = L[k] := by rw [at_list]; congr 1; exact HL.out.symm
      cases hb : blB s[k]
      · have hb' : blB L[k] = false := by rw [← hck]; exact hb
        have HC := Lib.hid hck; clear hck hend
        go_wp2_with (go_at_call 150; refine (rBlank8 _ _).mono ?_; rintro e w' ⟨rfl, rfl⟩)
        go_roundw
        case rel => exact ⟨k + 1, a, done, by omega, by omega, by go_num, rfl, hown, hnx, by omega, Lib.hid (by
            have h1 := hst.out
            rw [flds_go hlL hb', seg_step hlL (by omega)] at h1
            exact h1), by omega⟩
        case measure => simp [intOf] <;> omega
      · have hb' : blB L[k] = true := by rw [← hck]; exact hb
        have HC := Lib.hid hck; clear hck hend
        by_cases hak2 : a < k
        · have hst2 : Hid ((done ++ [s.extract a k]) ++ (flds [] (L.drop (k + 1))).map str = fieldsS s) := Lib.hid (by
            have h1 := hst.out
            rw [flds_blank_some hlL hb' (seg_ne (by omega) hak2)] at h1
            rw [← h1, extract_str, ← HL.out]; simp)
          clear hst
          go_wp2_with (first | (go_at_call 150; refine (rBlank8 _ _).mono ?_; rintro e w' ⟨rfl, rfl⟩) | (at_builtin; refine wpList_append_own _ rfl (.tmp 26) (.tmp 31) 27 rfl w.heap.size 9 i0 (.string ByteArray.empty) 1 16 Tryz.underlying27 hi hz0 hz1 hz2 rfl (by decide) _ _ _ rfl (hown.alloc _) ⟨wr.heap.size, 0, none⟩ 1 1 [.string (s.extract a k)] rfl rfl (one_new _ _ _) (one_cell rfl) g1 g2 (le_alloc hsz _) ?_))
          intro v' w1 hown' hgrow _
          have hown2 := Own.push hown'
          have hb2 := push_below hown hnx hsz hgrow
          clear hown' hgrow hown hnx
          go_wp2
          go_roundw
          case rel => exact ⟨k + 1, k + 1, _, by omega, by omega, by go_num, by go_num, hown2, hb2, by simp; omega, by simpa using hst2, by omega⟩
          case measure => simp [intOf] <;> omega
        · have hst2 : Hid (done ++ (flds [] (L.drop (k + 1))).map str = fieldsS s) := Lib.hid (by
            have h1 := hst.out
            obtain rfl : a = k := by omega
            rw [Nat.sub_self, List.take_zero, flds_blank_none hlL hb'] at h1
            exact h1)
          clear hst
          go_wp2_with (go_at_call 150; refine (rBlank8 _ _).mono ?_; rintro e w' ⟨rfl, rfl⟩)
          go_roundw
          case rel => exact ⟨k + 1, k + 1, done, by omega, by omega, by go_num, by go_num, hown, hnx, by omega, by simpa using hst2, by omega⟩
          case measure => simp [intOf] <;> omega
    · by_cases hke : k = s.size
      · have hlL : L.length ≤ k := by have hq := HLs.out; omega
        clear hend
        by_cases hak2 : a < k
        · have hst2 : Hid ((done ++ [s.extract a k]) ++ (flds [] (L.drop (k + 1))).map str = fieldsS s) := Lib.hid (by
            have h1 := hst.out
            rw [flds_end_some hlL (seg_ne (by have hq := HLs.out; omega) hak2)] at h1
            rw [← h1, extract_str, ← HL.out]; simp)
          clear hst
          subst hke
          go_wp2_with (at_builtin; refine wpList_append_own _ rfl (.tmp 26) (.tmp 31) 27 rfl w.heap.size 9 i0 (.string ByteArray.empty) 1 16 Tryz.underlying27 hi hz0 hz1 hz2 rfl (by decide) _ _ _ rfl (hown.alloc _) ⟨wr.heap.size, 0, none⟩ 1 1 [.string (s.extract a s.size)] rfl rfl (one_new _ _ _) (one_cell rfl) g1 g2 (le_alloc hsz _) ?_)
          intro v' w1 hown' hgrow _
          have hown2 := Own.push hown'
          have hb2 := push_below hown hnx hsz hgrow
          clear hown' hgrow hown hnx
          go_wp2
          go_roundw
          case rel => exact ⟨s.size + 1, s.size + 1, _, by omega, by omega, by go_num, by go_num, hown2, hb2, by simp; omega, by simpa using hst2, by omega⟩
          case measure => simp [intOf] <;> omega
        · have hst2 : Hid (done ++ (flds [] (L.drop (k + 1))).map str = fieldsS s) := Lib.hid (by
            have h1 := hst.out
            obtain rfl : a = k := by omega
            rw [Nat.sub_self, List.take_zero, flds_end_none hlL] at h1
            rw [flds_end_none (by omega)]; exact h1)
          clear hst
          subst hke
          go_wp2
          go_roundw
          case rel => exact ⟨s.size + 1, s.size + 1, done, by omega, by omega, by go_num, by go_num, hown, hnx, by omega, by simpa using hst2, by omega⟩
          case measure => simp [intOf] <;> omega
      · have hk3 : s.size < k := by omega
        have hfin : Hid (done = fieldsS s) := Lib.hid (by
            have h1 := hst.out
            obtain rfl : a = k := hend (by omega)
            rw [Nat.sub_self, List.take_zero, flds_end_none (by have hq := HLs.out; omega)] at h1
            simpa using h1)
        clear hke hlt hst hend
        go_wp2
        go_ret
        exact ⟨_, rfl, by rw [← hfin.out]; exact hown, hnx⟩

theorem rFieldsR (s : ByteArray) (w : World) (hs : s.size ≤ 2147483647) : Calls Tryz.prog 99 #[.string s] w (RetS w (fieldsS s)) :=
  (rFields s w hs).mono fun _ _ ⟨_, he, h, hb⟩ => he ▸ RetS.mk h hb
end Go.Proofs.YteikagdinecfoaaGreatDoor.Rf
