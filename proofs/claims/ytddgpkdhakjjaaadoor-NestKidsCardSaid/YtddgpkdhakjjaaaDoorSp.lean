/- nest: the laws' helpers own and spoil. -/
import Derived.Test.YtddgpkdhakjjaaaDoorLw
set_option linter.unusedVariables false
set_option linter.unusedSimpArgs false
namespace Go.Proofs.YtddgpkdhakjjaaaDoor.Sp
open Go.RowKit Lb Fl Is Tp Np Wk Wp Wi Wo Pt Oc Go.Proofs.YtddgpkdhakjjaaaDoor.Ask Rt Go.Proofs.YtddgpkdhakjjaaaDoor.Op Aw Lt Lw

theorem own_cap {w : World} {B n c : Nat} {A : Option Addr} {l : List ByteArray} (h : Fl.Own w B (.slice A n c) l) : n ≤ c ∧ c ≤ 9223372036854775807 := by
  rcases h.2 with ⟨h1, h2⟩ | ⟨g, cap, cur, h1, _, _, h3, h4, _⟩
  · injection h1 with h1 h5 h6
    omega
  · injection h1 with h1 h5 h6
    unfold maxLen at h4
    omega
set_option maxHeartbeats 1600000 in
set_option maxRecDepth 100000 in
theorem ownL (A : Option Addr) (n c : Nat) (l : List ByteArray) (w : World) (hr : Rd w A n l) (hn : n ≤ 8796093022208) :
    Calls Tryd.prog 18 #[.slice A n c] w fun e w' => ∃ A2 c2, e = .returned (.slice A2 n c2) ∧ Fl.Own w' w.heap.size (.slice A2 n c2) l ∧ Below w.heap.size w w' := by
  obtain ⟨i0, hi, hz0, hz1, hz2⟩ := info_parts infoStr
  have hl := hr.1
  obtain ⟨B, hB⟩ : ∃ B, B = w.heap.size := ⟨_, rfl⟩
  have ho5 : Fl.Own (w.alloc (.cells #[] 9)) B (.slice (some ⟨w.heap.size, 0, none⟩) 0 0) [] := own_lit (w := w) (Nat.le_of_eq hB) [] (by simp)
  have hr5 := hr.below ((Below.refl _ _).alloc (Nat.le_refl _) (.cells #[] 9))
  have hb5 : Below w.heap.size w (w.alloc (.cells #[] 9)) := (Below.refl _ _).alloc (Nat.le_refl _) _
  have hz5 : B ≤ (w.alloc (.cells #[] 9)).heap.size := by rw [hB]; simp
  have hBw : w.heap.size ≤ B := Nat.le_of_eq hB.symm
  have HBE := Lib.hid hB
  subst hl
  clear hr hB
  go_enter Tryd.func18, Tryd.ntmps18
  go_wp2_with (at_builtin; refine wpList_append_src _ rfl (.tmp 3) (.tmp 4) 25 rfl B 9 i0 (.string ByteArray.empty) 1 16 Tryd.underlying25 hi hz0 hz1 hz2 rfl (by decide) _ _ _ rfl ho5 A l.length c (l.map Value.string) rfl (by simp) hr5.cells (by simp [Value.oneCell']) (by unfold maxLen; simp only [List.length_nil]; omega) (by simp only [List.length_nil]; omega) hz5 ?_; intro v6 w6 hown6 hgrow6 hrow6; obtain ⟨A6, m6, c6, rfl⟩ := slice_of hown6; have hb6 := hb5.grown hgrow6 (Nat.le_trans hBw hz5) (fun k hk => Nat.le_trans hBw (ho5.ge k hk)); have ho6 : Fl.Own w6 B (.slice A6 m6 c6) l := (by unfold Fl.Own; simpa using hown6))
  obtain ⟨A7, c7, h7⟩ := ho6.form
  injection h7 with q1 q2 q3
  subst q1 q2 q3
  go_ret
  exact ⟨_, _, rfl, own_mono ho6 (Nat.le_of_eq HBE.out.symm), hb6⟩

theorem grown_set {w wr : World} {g n c : Nat} (h : w.grownBy wr (Value.slice (some ⟨g, 0, none⟩) n c).ownBlock) (j : Nat) (u : Value) : w.grownBy (wr.setCell ⟨g, j, none⟩ u) (Value.slice (some ⟨g, 0, none⟩) n c).ownBlock :=
  ⟨h.os, h.tape, h.output, by have := h.size; simpa using this, fun k hk hne => (Below.heap_setCell wr ⟨g, j, none⟩ u k (fun e => hne (by rw [e]; rfl))).trans (h.block k hk hne)⟩
set_option maxHeartbeats 1600000 in
set_option maxRecDepth 100000 in
theorem spoilC (B n c : Nat) (A : Option Addr) (l : List ByteArray) (w : World) (ho : Fl.Own w B (.slice A n c) l) (hn : n = l.length) (hm : n ≤ 9223372036854775807) :
    Calls Tryd.prog 27 #[.slice A n c] w fun e w' => e = .returned (.tuple #[]) ∧ w.grownBy w' (Value.slice A n c).ownBlock ∧ w'.heap.size = w.heap.size ∧ ∃ l', l'.length = n ∧ Fl.Own w' B (.slice A n c) l' := by
  have HN := Lib.hid hn
  have HO := Lib.hid ho
  clear ho hn
  go_enter Tryd.func27, Tryd.ntmps27
  go_wp2
  go_loopw [5] (fun i wr => ∃ (k : Nat) (l' : List ByteArray), k ≤ n ∧ i = .int .i64 k ∧ Hid (l'.length = n) ∧ Hid (Fl.Own wr B (.slice A n c) l') ∧ Hid (w.grownBy wr (Value.slice A n c).ownBlock) ∧ Hid (wr.heap.size = w.heap.size)) (fun i _ => n - (intOf i).toNat)
  case atStart => exact ⟨0, l, by omega, rfl, Lib.hid HN.out.symm, HO, Lib.hid (World.grownBy.refl _ _), Lib.hid rfl⟩
  case round =>
    obtain ⟨k, l', hk, rfl, hl', ho', hg', hsz⟩ := hrel
    by_cases hlt : k < n
    · have hkl : k < l'.length := by rw [hl'.out]; exact hlt
      obtain ⟨g, hA, hBg, hgs, hfz, hcell, hst⟩ := ho'.out.store hkl ⟨#[115, 112, 111, 105, 108, 116]⟩
      subst hA
      have hb3 : (k : Int) < (n : Int) := by omega
      have hb0 : (0 : Int) ≤ (k : Int) := by omega
      have hgn : Hid (w.grownBy (wr.setCell ⟨g, k, none⟩ (.string ⟨#[115, 112, 111, 105, 108, 116]⟩)) (Value.slice (some ⟨g, 0, none⟩) n c).ownBlock) := Lib.hid (grown_set hg'.out k _)
      have hsn : Hid ((wr.setCell ⟨g, k, none⟩ (.string ⟨#[115, 112, 111, 105, 108, 116]⟩)).heap.size = w.heap.size) := Lib.hid (by simpa using hsz.out)
      have HST := Lib.hid hst
      have hln : Hid ((l'.set k ⟨#[115, 112, 111, 105, 108, 116]⟩).length = n) := Lib.hid (by rw [List.length_set]; exact hl'.out)
      clear hst
      go_wp2
      go_roundw
      case rel => exact ⟨k + 1, _, by omega, by go_num, hln, HST, hgn, hsn⟩
      case measure => simp [intOf] <;> omega
    · go_wp2
      go_end0
      exact ⟨rfl, hg'.out, hsz.out, l', hl'.out, ho'.out⟩
end Go.Proofs.YtddgpkdhakjjaaaDoor.Sp
