/- The reference's Needs. -/
import Derived.Test.YtjhimmljanbjcaaGreatDoorCh
import Derived.Test.YtjhimmljanbjcaaGreatDoorCm
import Derived.Test.YtjhimmljanbjcaaGreatDoorEs
set_option linter.unusedVariables false
set_option linter.unusedSimpArgs false
namespace Go.Proofs.YtjhimmljanbjcaaGreatDoor.Rc
open Go.RowKit Lb Gr Pd Fl St Rf Go.Proofs.YtjhimmljanbjcaaGreatDoor.Pm Bk
attribute [local go_sem ↓] Go.wp_at_zero Go.wp_at_succ

theorem lit_no {s : ByteArray} {l : List UInt8} (h : s ≠ str l) : (s.toList == l) = false := by
  have h1 := toList_ne_of h
  rw [Lib.toList_data (str l)] at h1
  exact h1
theorem lit_yes {s : ByteArray} {l : List UInt8} (h : s = str l) : (s.toList == l) = true := by
  have h1 := toList_eq_of h
  rw [Lib.toList_data (str l)] at h1
  exact h1
theorem needs_of {s : ByteArray} {t : ByteArray} (h : needsT s = t) : needsL s = fieldsS t := by unfold needsL; rw [h]
set_option maxHeartbeats 8000000 in
set_option maxRecDepth 100000 in
theorem rNeedsC (s : ByteArray) (w : World) : Calls Tryz.prog 50 #[.string s] w fun e w' =>
    ∃ A c G, e = .returned (.slice A (needsL s).length c) ∧ kdW.own w' w.heap.size (.slice A (needsL s).length c) (needsL s) G ∧ Below w.heap.size w w' := by
  have HF : Hid (∀ W (t : ByteArray), t.size ≤ 1000 → Calls Tryz.prog 108 #[.string t] W fun e w' => ∃ A c G, e = .returned (.slice A (fieldsS t).length c) ∧ kdW.own w' W.heap.size (.slice A (fieldsS t).length c) (fieldsS t) G ∧ Below W.heap.size W w') :=
    Lib.hid fun W t ht => (rFields t W (by omega)).mono fun e w' ⟨v, he, ho, hb⟩ => by obtain ⟨A, c, rfl⟩ := ho.form; exact ⟨A, c, _, he, ⟨ho, rfl⟩, hb⟩
  by_cases h0 : s = str [108, 105]
  · have ht : needsT s = str [117, 108] := by unfold needsT; rw [if_pos h0]
    have e0 := lit_yes h0
    clear h0
    have hn := needs_of ht
    rw [hn]
    clear hn ht
    have HC : Hid (∀ W, Calls Tryz.prog 108 #[.string (str [117, 108])] W fun e w' => ∃ A c G, e = .returned (.slice A (fieldsS (str [117, 108])).length c) ∧ kdW.own w' W.heap.size (.slice A (fieldsS (str [117, 108])).length c) (fieldsS (str [117, 108])) G ∧ Below W.heap.size W w') := Lib.hid fun W => HF.out W _ (by decide)
    generalize fieldsS (str [117, 108]) = FS at *
    clear HF
    go_enter Tryz.func50, Tryz.ntmps50
    go_wp2_with (go_at_call 108; refine (HC.out _).mono ?_; rintro e w1 ⟨A, c, G, rfl, ho, hb⟩)
    go_ret
    exact ⟨A, c, G, rfl, ho, hb⟩
  have e0 := lit_no h0
  by_cases h1 : s = str [117, 108]
  · have ht : needsT s = str [108, 105] := by unfold needsT; rw [if_neg h0, if_pos h1]
    have e1 := lit_yes h1
    clear h0 h1
    have hn := needs_of ht
    rw [hn]
    clear hn ht
    have HC : Hid (∀ W, Calls Tryz.prog 108 #[.string (str [108, 105])] W fun e w' => ∃ A c G, e = .returned (.slice A (fieldsS (str [108, 105])).length c) ∧ kdW.own w' W.heap.size (.slice A (fieldsS (str [108, 105])).length c) (fieldsS (str [108, 105])) G ∧ Below W.heap.size W w') := Lib.hid fun W => HF.out W _ (by decide)
    generalize fieldsS (str [108, 105]) = FS at *
    clear HF
    go_enter Tryz.func50, Tryz.ntmps50
    go_wp2_with (go_at_call 108; refine (HC.out _).mono ?_; rintro e w1 ⟨A, c, G, rfl, ho, hb⟩)
    go_ret
    exact ⟨A, c, G, rfl, ho, hb⟩
  have e1 := lit_no h1
  by_cases h2 : s = str [111, 108]
  · have ht : needsT s = str [108, 105] := by unfold needsT; rw [if_neg h0, if_neg h1, if_pos h2]
    have e2 := lit_yes h2
    clear h0 h1 h2
    have hn := needs_of ht
    rw [hn]
    clear hn ht
    have HC : Hid (∀ W, Calls Tryz.prog 108 #[.string (str [108, 105])] W fun e w' => ∃ A c G, e = .returned (.slice A (fieldsS (str [108, 105])).length c) ∧ kdW.own w' W.heap.size (.slice A (fieldsS (str [108, 105])).length c) (fieldsS (str [108, 105])) G ∧ Below W.heap.size W w') := Lib.hid fun W => HF.out W _ (by decide)
    generalize fieldsS (str [108, 105]) = FS at *
    clear HF
    go_enter Tryz.func50, Tryz.ntmps50
    go_wp2_with (go_at_call 108; refine (HC.out _).mono ?_; rintro e w1 ⟨A, c, G, rfl, ho, hb⟩)
    go_ret
    exact ⟨A, c, G, rfl, ho, hb⟩
  have e2 := lit_no h2
  by_cases h3 : s = str [109, 101, 110, 117]
  · have ht : needsT s = str [108, 105] := by unfold needsT; rw [if_neg h0, if_neg h1, if_neg h2, if_pos h3]
    have e3 := lit_yes h3
    clear h0 h1 h2 h3
    have hn := needs_of ht
    rw [hn]
    clear hn ht
    have HC : Hid (∀ W, Calls Tryz.prog 108 #[.string (str [108, 105])] W fun e w' => ∃ A c G, e = .returned (.slice A (fieldsS (str [108, 105])).length c) ∧ kdW.own w' W.heap.size (.slice A (fieldsS (str [108, 105])).length c) (fieldsS (str [108, 105])) G ∧ Below W.heap.size W w') := Lib.hid fun W => HF.out W _ (by decide)
    generalize fieldsS (str [108, 105]) = FS at *
    clear HF
    go_enter Tryz.func50, Tryz.ntmps50
    go_wp2_with (go_at_call 108; refine (HC.out _).mono ?_; rintro e w1 ⟨A, c, G, rfl, ho, hb⟩)
    go_ret
    exact ⟨A, c, G, rfl, ho, hb⟩
  have e3 := lit_no h3
  by_cases h4 : s = str [100, 116]
  · have ht : needsT s = str [100, 100, 32, 100, 108] := by unfold needsT; rw [if_neg h0, if_neg h1, if_neg h2, if_neg h3, if_pos h4]
    have e4 := lit_yes h4
    clear h0 h1 h2 h3 h4
    have hn := needs_of ht
    rw [hn]
    clear hn ht
    have HC : Hid (∀ W, Calls Tryz.prog 108 #[.string (str [100, 100, 32, 100, 108])] W fun e w' => ∃ A c G, e = .returned (.slice A (fieldsS (str [100, 100, 32, 100, 108])).length c) ∧ kdW.own w' W.heap.size (.slice A (fieldsS (str [100, 100, 32, 100, 108])).length c) (fieldsS (str [100, 100, 32, 100, 108])) G ∧ Below W.heap.size W w') := Lib.hid fun W => HF.out W _ (by decide)
    generalize fieldsS (str [100, 100, 32, 100, 108]) = FS at *
    clear HF
    go_enter Tryz.func50, Tryz.ntmps50
    go_wp2_with (go_at_call 108; refine (HC.out _).mono ?_; rintro e w1 ⟨A, c, G, rfl, ho, hb⟩)
    go_ret
    exact ⟨A, c, G, rfl, ho, hb⟩
  have e4 := lit_no h4
  by_cases h5 : s = str [100, 100]
  · have ht : needsT s = str [100, 108] := by unfold needsT; rw [if_neg h0, if_neg h1, if_neg h2, if_neg h3, if_neg h4, if_pos h5]
    have e5 := lit_yes h5
    clear h0 h1 h2 h3 h4 h5
    have hn := needs_of ht
    rw [hn]
    clear hn ht
    have HC : Hid (∀ W, Calls Tryz.prog 108 #[.string (str [100, 108])] W fun e w' => ∃ A c G, e = .returned (.slice A (fieldsS (str [100, 108])).length c) ∧ kdW.own w' W.heap.size (.slice A (fieldsS (str [100, 108])).length c) (fieldsS (str [100, 108])) G ∧ Below W.heap.size W w') := Lib.hid fun W => HF.out W _ (by decide)
    generalize fieldsS (str [100, 108]) = FS at *
    clear HF
    go_enter Tryz.func50, Tryz.ntmps50
    go_wp2_with (go_at_call 108; refine (HC.out _).mono ?_; rintro e w1 ⟨A, c, G, rfl, ho, hb⟩)
    go_ret
    exact ⟨A, c, G, rfl, ho, hb⟩
  have e5 := lit_no h5
  by_cases h6 : s = str [100, 108]
  · have ht : needsT s = str [100, 100] := by unfold needsT; rw [if_neg h0, if_neg h1, if_neg h2, if_neg h3, if_neg h4, if_neg h5, if_pos h6]
    have e6 := lit_yes h6
    clear h0 h1 h2 h3 h4 h5 h6
    have hn := needs_of ht
    rw [hn]
    clear hn ht
    have HC : Hid (∀ W, Calls Tryz.prog 108 #[.string (str [100, 100])] W fun e w' => ∃ A c G, e = .returned (.slice A (fieldsS (str [100, 100])).length c) ∧ kdW.own w' W.heap.size (.slice A (fieldsS (str [100, 100])).length c) (fieldsS (str [100, 100])) G ∧ Below W.heap.size W w') := Lib.hid fun W => HF.out W _ (by decide)
    generalize fieldsS (str [100, 100]) = FS at *
    clear HF
    go_enter Tryz.func50, Tryz.ntmps50
    go_wp2_with (go_at_call 108; refine (HC.out _).mono ?_; rintro e w1 ⟨A, c, G, rfl, ho, hb⟩)
    go_ret
    exact ⟨A, c, G, rfl, ho, hb⟩
  have e6 := lit_no h6
  by_cases h7 : s = str [116, 97, 98, 108, 101]
  · have ht : needsT s = str [116, 98, 111, 100, 121, 32, 116, 100, 32, 116, 114] := by unfold needsT; rw [if_neg h0, if_neg h1, if_neg h2, if_neg h3, if_neg h4, if_neg h5, if_neg h6, if_pos h7]
    have e7 := lit_yes h7
    clear h0 h1 h2 h3 h4 h5 h6 h7
    have hn := needs_of ht
    rw [hn]
    clear hn ht
    have HC : Hid (∀ W, Calls Tryz.prog 108 #[.string (str [116, 98, 111, 100, 121, 32, 116, 100, 32, 116, 114])] W fun e w' => ∃ A c G, e = .returned (.slice A (fieldsS (str [116, 98, 111, 100, 121, 32, 116, 100, 32, 116, 114])).length c) ∧ kdW.own w' W.heap.size (.slice A (fieldsS (str [116, 98, 111, 100, 121, 32, 116, 100, 32, 116, 114])).length c) (fieldsS (str [116, 98, 111, 100, 121, 32, 116, 100, 32, 116, 114])) G ∧ Below W.heap.size W w') := Lib.hid fun W => HF.out W _ (by decide)
    generalize fieldsS (str [116, 98, 111, 100, 121, 32, 116, 100, 32, 116, 114]) = FS at *
    clear HF
    go_enter Tryz.func50, Tryz.ntmps50
    go_wp2_with (go_at_call 108; refine (HC.out _).mono ?_; rintro e w1 ⟨A, c, G, rfl, ho, hb⟩)
    go_ret
    exact ⟨A, c, G, rfl, ho, hb⟩
  have e7 := lit_no h7
  by_cases h8 : s = str [99, 97, 112, 116, 105, 111, 110]
  · have ht : needsT s = str [116, 97, 98, 108, 101, 32, 116, 98, 111, 100, 121, 32, 116, 100, 32, 116, 114] := by unfold needsT; rw [if_neg h0, if_neg h1, if_neg h2, if_neg h3, if_neg h4, if_neg h5, if_neg h6, if_neg h7, if_pos h8]
    have e8 := lit_yes h8
    clear h0 h1 h2 h3 h4 h5 h6 h7 h8
    have hn := needs_of ht
    rw [hn]
    clear hn ht
    have HC : Hid (∀ W, Calls Tryz.prog 108 #[.string (str [116, 97, 98, 108, 101, 32, 116, 98, 111, 100, 121, 32, 116, 100, 32, 116, 114])] W fun e w' => ∃ A c G, e = .returned (.slice A (fieldsS (str [116, 97, 98, 108, 101, 32, 116, 98, 111, 100, 121, 32, 116, 100, 32, 116, 114])).length c) ∧ kdW.own w' W.heap.size (.slice A (fieldsS (str [116, 97, 98, 108, 101, 32, 116, 98, 111, 100, 121, 32, 116, 100, 32, 116, 114])).length c) (fieldsS (str [116, 97, 98, 108, 101, 32, 116, 98, 111, 100, 121, 32, 116, 100, 32, 116, 114])) G ∧ Below W.heap.size W w') := Lib.hid fun W => HF.out W _ (by decide)
    generalize fieldsS (str [116, 97, 98, 108, 101, 32, 116, 98, 111, 100, 121, 32, 116, 100, 32, 116, 114]) = FS at *
    clear HF
    go_enter Tryz.func50, Tryz.ntmps50
    go_wp2_with (go_at_call 108; refine (HC.out _).mono ?_; rintro e w1 ⟨A, c, G, rfl, ho, hb⟩)
    go_ret
    exact ⟨A, c, G, rfl, ho, hb⟩
  have e8 := lit_no h8
  by_cases h9 : s = str [99, 111, 108, 103, 114, 111, 117, 112]
  · have ht : needsT s = str [116, 97, 98, 108, 101, 32, 116, 98, 111, 100, 121, 32, 116, 100, 32, 116, 114] := by unfold needsT; rw [if_neg h0, if_neg h1, if_neg h2, if_neg h3, if_neg h4, if_neg h5, if_neg h6, if_neg h7, if_neg h8, if_pos h9]
    have e9 := lit_yes h9
    clear h0 h1 h2 h3 h4 h5 h6 h7 h8 h9
    have hn := needs_of ht
    rw [hn]
    clear hn ht
    have HC : Hid (∀ W, Calls Tryz.prog 108 #[.string (str [116, 97, 98, 108, 101, 32, 116, 98, 111, 100, 121, 32, 116, 100, 32, 116, 114])] W fun e w' => ∃ A c G, e = .returned (.slice A (fieldsS (str [116, 97, 98, 108, 101, 32, 116, 98, 111, 100, 121, 32, 116, 100, 32, 116, 114])).length c) ∧ kdW.own w' W.heap.size (.slice A (fieldsS (str [116, 97, 98, 108, 101, 32, 116, 98, 111, 100, 121, 32, 116, 100, 32, 116, 114])).length c) (fieldsS (str [116, 97, 98, 108, 101, 32, 116, 98, 111, 100, 121, 32, 116, 100, 32, 116, 114])) G ∧ Below W.heap.size W w') := Lib.hid fun W => HF.out W _ (by decide)
    generalize fieldsS (str [116, 97, 98, 108, 101, 32, 116, 98, 111, 100, 121, 32, 116, 100, 32, 116, 114]) = FS at *
    clear HF
    go_enter Tryz.func50, Tryz.ntmps50
    go_wp2_with (go_at_call 108; refine (HC.out _).mono ?_; rintro e w1 ⟨A, c, G, rfl, ho, hb⟩)
    go_ret
    exact ⟨A, c, G, rfl, ho, hb⟩
  have e9 := lit_no h9
  by_cases h10 : s = str [116, 104, 101, 97, 100]
  · have ht : needsT s = str [116, 97, 98, 108, 101, 32, 116, 98, 111, 100, 121, 32, 116, 100, 32, 116, 114] := by unfold needsT; rw [if_neg h0, if_neg h1, if_neg h2, if_neg h3, if_neg h4, if_neg h5, if_neg h6, if_neg h7, if_neg h8, if_neg h9, if_pos h10]
    have e10 := lit_yes h10
    clear h0 h1 h2 h3 h4 h5 h6 h7 h8 h9 h10
    have hn := needs_of ht
    rw [hn]
    clear hn ht
    have HC : Hid (∀ W, Calls Tryz.prog 108 #[.string (str [116, 97, 98, 108, 101, 32, 116, 98, 111, 100, 121, 32, 116, 100, 32, 116, 114])] W fun e w' => ∃ A c G, e = .returned (.slice A (fieldsS (str [116, 97, 98, 108, 101, 32, 116, 98, 111, 100, 121, 32, 116, 100, 32, 116, 114])).length c) ∧ kdW.own w' W.heap.size (.slice A (fieldsS (str [116, 97, 98, 108, 101, 32, 116, 98, 111, 100, 121, 32, 116, 100, 32, 116, 114])).length c) (fieldsS (str [116, 97, 98, 108, 101, 32, 116, 98, 111, 100, 121, 32, 116, 100, 32, 116, 114])) G ∧ Below W.heap.size W w') := Lib.hid fun W => HF.out W _ (by decide)
    generalize fieldsS (str [116, 97, 98, 108, 101, 32, 116, 98, 111, 100, 121, 32, 116, 100, 32, 116, 114]) = FS at *
    clear HF
    go_enter Tryz.func50, Tryz.ntmps50
    go_wp2_with (go_at_call 108; refine (HC.out _).mono ?_; rintro e w1 ⟨A, c, G, rfl, ho, hb⟩)
    go_ret
    exact ⟨A, c, G, rfl, ho, hb⟩
  have e10 := lit_no h10
  by_cases h11 : s = str [116, 102, 111, 111, 116]
  · have ht : needsT s = str [116, 97, 98, 108, 101, 32, 116, 98, 111, 100, 121, 32, 116, 100, 32, 116, 114] := by unfold needsT; rw [if_neg h0, if_neg h1, if_neg h2, if_neg h3, if_neg h4, if_neg h5, if_neg h6, if_neg h7, if_neg h8, if_neg h9, if_neg h10, if_pos h11]
    have e11 := lit_yes h11
    clear h0 h1 h2 h3 h4 h5 h6 h7 h8 h9 h10 h11
    have hn := needs_of ht
    rw [hn]
    clear hn ht
    have HC : Hid (∀ W, Calls Tryz.prog 108 #[.string (str [116, 97, 98, 108, 101, 32, 116, 98, 111, 100, 121, 32, 116, 100, 32, 116, 114])] W fun e w' => ∃ A c G, e = .returned (.slice A (fieldsS (str [116, 97, 98, 108, 101, 32, 116, 98, 111, 100, 121, 32, 116, 100, 32, 116, 114])).length c) ∧ kdW.own w' W.heap.size (.slice A (fieldsS (str [116, 97, 98, 108, 101, 32, 116, 98, 111, 100, 121, 32, 116, 100, 32, 116, 114])).length c) (fieldsS (str [116, 97, 98, 108, 101, 32, 116, 98, 111, 100, 121, 32, 116, 100, 32, 116, 114])) G ∧ Below W.heap.size W w') := Lib.hid fun W => HF.out W _ (by decide)
    generalize fieldsS (str [116, 97, 98, 108, 101, 32, 116, 98, 111, 100, 121, 32, 116, 100, 32, 116, 114]) = FS at *
    clear HF
    go_enter Tryz.func50, Tryz.ntmps50
    go_wp2_with (go_at_call 108; refine (HC.out _).mono ?_; rintro e w1 ⟨A, c, G, rfl, ho, hb⟩)
    go_ret
    exact ⟨A, c, G, rfl, ho, hb⟩
  have e11 := lit_no h11
  by_cases h12 : s = str [116, 104]
  · have ht : needsT s = str [116, 97, 98, 108, 101, 32, 116, 98, 111, 100, 121, 32, 116, 100, 32, 116, 114] := by unfold needsT; rw [if_neg h0, if_neg h1, if_neg h2, if_neg h3, if_neg h4, if_neg h5, if_neg h6, if_neg h7, if_neg h8, if_neg h9, if_neg h10, if_neg h11, if_pos h12]
    have e12 := lit_yes h12
    clear h0 h1 h2 h3 h4 h5 h6 h7 h8 h9 h10 h11 h12
    have hn := needs_of ht
    rw [hn]
    clear hn ht
    have HC : Hid (∀ W, Calls Tryz.prog 108 #[.string (str [116, 97, 98, 108, 101, 32, 116, 98, 111, 100, 121, 32, 116, 100, 32, 116, 114])] W fun e w' => ∃ A c G, e = .returned (.slice A (fieldsS (str [116, 97, 98, 108, 101, 32, 116, 98, 111, 100, 121, 32, 116, 100, 32, 116, 114])).length c) ∧ kdW.own w' W.heap.size (.slice A (fieldsS (str [116, 97, 98, 108, 101, 32, 116, 98, 111, 100, 121, 32, 116, 100, 32, 116, 114])).length c) (fieldsS (str [116, 97, 98, 108, 101, 32, 116, 98, 111, 100, 121, 32, 116, 100, 32, 116, 114])) G ∧ Below W.heap.size W w') := Lib.hid fun W => HF.out W _ (by decide)
    generalize fieldsS (str [116, 97, 98, 108, 101, 32, 116, 98, 111, 100, 121, 32, 116, 100, 32, 116, 114]) = FS at *
    clear HF
    go_enter Tryz.func50, Tryz.ntmps50
    go_wp2_with (go_at_call 108; refine (HC.out _).mono ?_; rintro e w1 ⟨A, c, G, rfl, ho, hb⟩)
    go_ret
    exact ⟨A, c, G, rfl, ho, hb⟩
  have e12 := lit_no h12
  by_cases h13 : s = str [116, 98, 111, 100, 121]
  · have ht : needsT s = str [116, 97, 98, 108, 101, 32, 116, 100, 32, 116, 114] := by unfold needsT; rw [if_neg h0, if_neg h1, if_neg h2, if_neg h3, if_neg h4, if_neg h5, if_neg h6, if_neg h7, if_neg h8, if_neg h9, if_neg h10, if_neg h11, if_neg h12, if_pos h13]
    have e13 := lit_yes h13
    clear h0 h1 h2 h3 h4 h5 h6 h7 h8 h9 h10 h11 h12 h13
    have hn := needs_of ht
    rw [hn]
    clear hn ht
    have HC : Hid (∀ W, Calls Tryz.prog 108 #[.string (str [116, 97, 98, 108, 101, 32, 116, 100, 32, 116, 114])] W fun e w' => ∃ A c G, e = .returned (.slice A (fieldsS (str [116, 97, 98, 108, 101, 32, 116, 100, 32, 116, 114])).length c) ∧ kdW.own w' W.heap.size (.slice A (fieldsS (str [116, 97, 98, 108, 101, 32, 116, 100, 32, 116, 114])).length c) (fieldsS (str [116, 97, 98, 108, 101, 32, 116, 100, 32, 116, 114])) G ∧ Below W.heap.size W w') := Lib.hid fun W => HF.out W _ (by decide)
    generalize fieldsS (str [116, 97, 98, 108, 101, 32, 116, 100, 32, 116, 114]) = FS at *
    clear HF
    go_enter Tryz.func50, Tryz.ntmps50
    go_wp2_with (go_at_call 108; refine (HC.out _).mono ?_; rintro e w1 ⟨A, c, G, rfl, ho, hb⟩)
    go_ret
    exact ⟨A, c, G, rfl, ho, hb⟩
  have e13 := lit_no h13
  by_cases h14 : s = str [116, 114]
  · have ht : needsT s = str [116, 97, 98, 108, 101, 32, 116, 98, 111, 100, 121, 32, 116, 100] := by unfold needsT; rw [if_neg h0, if_neg h1, if_neg h2, if_neg h3, if_neg h4, if_neg h5, if_neg h6, if_neg h7, if_neg h8, if_neg h9, if_neg h10, if_neg h11, if_neg h12, if_neg h13, if_pos h14]
    have e14 := lit_yes h14
    clear h0 h1 h2 h3 h4 h5 h6 h7 h8 h9 h10 h11 h12 h13 h14
    have hn := needs_of ht
    rw [hn]
    clear hn ht
    have HC : Hid (∀ W, Calls Tryz.prog 108 #[.string (str [116, 97, 98, 108, 101, 32, 116, 98, 111, 100, 121, 32, 116, 100])] W fun e w' => ∃ A c G, e = .returned (.slice A (fieldsS (str [116, 97, 98, 108, 101, 32, 116, 98, 111, 100, 121, 32, 116, 100])).length c) ∧ kdW.own w' W.heap.size (.slice A (fieldsS (str [116, 97, 98, 108, 101, 32, 116, 98, 111, 100, 121, 32, 116, 100])).length c) (fieldsS (str [116, 97, 98, 108, 101, 32, 116, 98, 111, 100, 121, 32, 116, 100])) G ∧ Below W.heap.size W w') := Lib.hid fun W => HF.out W _ (by decide)
    generalize fieldsS (str [116, 97, 98, 108, 101, 32, 116, 98, 111, 100, 121, 32, 116, 100]) = FS at *
    clear HF
    go_enter Tryz.func50, Tryz.ntmps50
    go_wp2_with (go_at_call 108; refine (HC.out _).mono ?_; rintro e w1 ⟨A, c, G, rfl, ho, hb⟩)
    go_ret
    exact ⟨A, c, G, rfl, ho, hb⟩
  have e14 := lit_no h14
  by_cases h15 : s = str [116, 100]
  · have ht : needsT s = str [116, 97, 98, 108, 101, 32, 116, 98, 111, 100, 121, 32, 116, 114] := by unfold needsT; rw [if_neg h0, if_neg h1, if_neg h2, if_neg h3, if_neg h4, if_neg h5, if_neg h6, if_neg h7, if_neg h8, if_neg h9, if_neg h10, if_neg h11, if_neg h12, if_neg h13, if_neg h14, if_pos h15]
    have e15 := lit_yes h15
    clear h0 h1 h2 h3 h4 h5 h6 h7 h8 h9 h10 h11 h12 h13 h14 h15
    have hn := needs_of ht
    rw [hn]
    clear hn ht
    have HC : Hid (∀ W, Calls Tryz.prog 108 #[.string (str [116, 97, 98, 108, 101, 32, 116, 98, 111, 100, 121, 32, 116, 114])] W fun e w' => ∃ A c G, e = .returned (.slice A (fieldsS (str [116, 97, 98, 108, 101, 32, 116, 98, 111, 100, 121, 32, 116, 114])).length c) ∧ kdW.own w' W.heap.size (.slice A (fieldsS (str [116, 97, 98, 108, 101, 32, 116, 98, 111, 100, 121, 32, 116, 114])).length c) (fieldsS (str [116, 97, 98, 108, 101, 32, 116, 98, 111, 100, 121, 32, 116, 114])) G ∧ Below W.heap.size W w') := Lib.hid fun W => HF.out W _ (by decide)
    generalize fieldsS (str [116, 97, 98, 108, 101, 32, 116, 98, 111, 100, 121, 32, 116, 114]) = FS at *
    clear HF
    go_enter Tryz.func50, Tryz.ntmps50
    go_wp2_with (go_at_call 108; refine (HC.out _).mono ?_; rintro e w1 ⟨A, c, G, rfl, ho, hb⟩)
    go_ret
    exact ⟨A, c, G, rfl, ho, hb⟩
  have e15 := lit_no h15
  by_cases h16 : s = str [99, 111, 108]
  · have ht : needsT s = str [99, 111, 108, 103, 114, 111, 117, 112, 32, 116, 97, 98, 108, 101, 32, 116, 98, 111, 100, 121, 32, 116, 100, 32, 116, 114] := by unfold needsT; rw [if_neg h0, if_neg h1, if_neg h2, if_neg h3, if_neg h4, if_neg h5, if_neg h6, if_neg h7, if_neg h8, if_neg h9, if_neg h10, if_neg h11, if_neg h12, if_neg h13, if_neg h14, if_neg h15, if_pos h16]
    have e16 := lit_yes h16
    clear h0 h1 h2 h3 h4 h5 h6 h7 h8 h9 h10 h11 h12 h13 h14 h15 h16
    have hn := needs_of ht
    rw [hn]
    clear hn ht
    have HC : Hid (∀ W, Calls Tryz.prog 108 #[.string (str [99, 111, 108, 103, 114, 111, 117, 112, 32, 116, 97, 98, 108, 101, 32, 116, 98, 111, 100, 121, 32, 116, 100, 32, 116, 114])] W fun e w' => ∃ A c G, e = .returned (.slice A (fieldsS (str [99, 111, 108, 103, 114, 111, 117, 112, 32, 116, 97, 98, 108, 101, 32, 116, 98, 111, 100, 121, 32, 116, 100, 32, 116, 114])).length c) ∧ kdW.own w' W.heap.size (.slice A (fieldsS (str [99, 111, 108, 103, 114, 111, 117, 112, 32, 116, 97, 98, 108, 101, 32, 116, 98, 111, 100, 121, 32, 116, 100, 32, 116, 114])).length c) (fieldsS (str [99, 111, 108, 103, 114, 111, 117, 112, 32, 116, 97, 98, 108, 101, 32, 116, 98, 111, 100, 121, 32, 116, 100, 32, 116, 114])) G ∧ Below W.heap.size W w') := Lib.hid fun W => HF.out W _ (by decide)
    generalize fieldsS (str [99, 111, 108, 103, 114, 111, 117, 112, 32, 116, 97, 98, 108, 101, 32, 116, 98, 111, 100, 121, 32, 116, 100, 32, 116, 114]) = FS at *
    clear HF
    go_enter Tryz.func50, Tryz.ntmps50
    go_wp2_with (go_at_call 108; refine (HC.out _).mono ?_; rintro e w1 ⟨A, c, G, rfl, ho, hb⟩)
    go_ret
    exact ⟨A, c, G, rfl, ho, hb⟩
  have e16 := lit_no h16
  have ht : needsT s = str [] := by unfold needsT; rw [if_neg h0, if_neg h1, if_neg h2, if_neg h3, if_neg h4, if_neg h5, if_neg h6, if_neg h7, if_neg h8, if_neg h9, if_neg h10, if_neg h11, if_neg h12, if_neg h13, if_neg h14, if_neg h15, if_neg h16]
  clear h0 h1 h2 h3 h4 h5 h6 h7 h8 h9 h10 h11 h12 h13 h14 h15 h16
  have hn := needs_of ht
  rw [hn]
  clear hn ht
  have HC : Hid (∀ W, Calls Tryz.prog 108 #[.string (str [])] W fun e w' => ∃ A c G, e = .returned (.slice A (fieldsS (str [])).length c) ∧ kdW.own w' W.heap.size (.slice A (fieldsS (str [])).length c) (fieldsS (str [])) G ∧ Below W.heap.size W w') := Lib.hid fun W => HF.out W _ (by decide)
  generalize fieldsS (str []) = FS at *
  clear HF
  go_enter Tryz.func50, Tryz.ntmps50
  go_wp2_with (go_at_call 108; refine (HC.out _).mono ?_; rintro e w1 ⟨A, c, G, rfl, ho, hb⟩)
  go_ret
  exact ⟨A, c, G, rfl, ho, hb⟩
end Go.Proofs.YtjhimmljanbjcaaGreatDoor.Rc

/- The reference's count and things. -/
set_option linter.unusedVariables false
set_option linter.unusedSimpArgs false
namespace Go.Proofs.YtjhimmljanbjcaaGreatDoor.Rg
open Go.RowKit Lb Gr Pd Fl Go.Proofs.YtjhimmljanbjcaaGreatDoor.Pm Bk Ru Go.Proofs.YtjhimmljanbjcaaGreatDoor.Th
attribute [local go_sem ↓] Go.wp_at_zero Go.wp_at_succ

theorem w64_len {n : Nat} (h : n ≤ 9223372036854775807) : (n : Int) = w64 n := (w64_in h).symm
set_option maxHeartbeats 4000000 in
set_option maxRecDepth 100000 in
theorem rCountC (l : List RuleD) (v : Value) (w : World) (h : kdR.rd w 0 w.heap.size v l) : Calls Tryz.prog 115 #[v] w fun e w' => e = .returned (.int .i64 (w64 (l.length + wordsN l))) ∧ Below w.heap.size w w' := by
  obtain ⟨A, c, rfl, hc1, hc2⟩ := fmR.rd_form h
  have hm : maxLen = 9223372036854775807 := rfl
  have hlen : (l.length : Int) ≤ 9223372036854775807 := by omega
  have HRD : Hid (∀ W, Below w.heap.size w W → kdR.rd W 0 w.heap.size (.slice A l.length c) l) := Lib.hid fun W hW => rd_below h hW (Nat.le_refl _)
  have H0 : Hid ((l.length : Int) = w64 (l.length + wordsN (l.take 0))) := Lib.hid (by rw [List.take_zero]; exact w64_len (n := l.length) (by omega))
  clear h hc1 hc2 hm
  go_enter Tryz.func115, Tryz.ntmps115
  go_wp2
  go_loopw [3, 10] (fun v3 i wr => ∃ k : Nat, k ≤ l.length ∧ i = .int .i64 k ∧ v3 = .int .i64 (w64 (l.length + wordsN (l.take k))) ∧ Below w.heap.size w wr) (fun _ i _ => l.length - (intOf i).toNat)
  case atStart => exact ⟨0, by omega, rfl, by rw [← H0.out], Below.refl _ _⟩
  case round =>
    obtain ⟨k, hk, rfl, rfl, hnx⟩ := hrel
    by_cases hlt : k < l.length
    · obtain ⟨b, off, u, rfl, hb1, hb2, hu, hcell⟩ := fmR.rd_at (HRD.out _ hnx) hlt
      have c0 := hcell 0 _ rfl
      have c1 := hcell 1 _ rfl
      have c2 := hcell 2 _ rfl
      rw [show off + (k * fmR.size + 0) = off + k * 3 from rfl] at c0
      rw [show off + (k * fmR.size + 1) = off + k * 3 + 1 from by show off + (k * 3 + 1) = _; omega] at c1
      rw [show off + (k * fmR.size + 2) = off + k * 3 + 2 from by show off + (k * 3 + 2) = _; omega] at c2
      have hu' : kdW.rd wr 0 w.heap.size u l[k].words := hu
      obtain ⟨A1, cc1, rfl, hq1, hq2⟩ := rdW_form hu'
      have hk0 : (0 : Int) ≤ (k : Int) := by omega
      have hzz := hnx.size
      have hs : Hid (w64 (l.length + wordsN (l.take (k + 1))) = RowKit.wrap64 (w64 (l.length + wordsN (l.take k)) + (l[k].words.length : Int))) := Lib.hid (by rw [words_take_succ hlt, w64_add, Nat.add_assoc])
      have hs2 : Hid (w64 (l.length + wordsN (l.take (k + 1))) = IntKind.i64.wrap (w64 (l.length + wordsN (l.take k)) + (l[k].words.length : Int))) := Lib.hid (by rw [words_take_succ hlt, w64_add', Nat.add_assoc])
      clear hcell hu hu'
      generalize w64 (l.length + wordsN (l.take k)) = n0 at *
      go_wp2
      go_roundw
      case rel => exact ⟨k + 1, by omega, by go_num, (by first | (rw [hs.out]; done) | (rw [hs2.out]; done) | (rw [hs.out]; rfl) | (rw [hs2.out]; rfl) | simp [hs.out, hs2.out]), hnx.alloc hzz _⟩
      case measure => simp [intOf] <;> omega
    · obtain rfl : k = l.length := by omega
      have HQ : Hid (wordsN (l.take l.length) = wordsN l) := Lib.hid (by rw [List.take_length])
      go_wp2
      go_ret
      exact ⟨by first | rfl | (rw [HQ.out]; done) | (rw [HQ.out]; rfl), hnx⟩

theorem w64_w64 (a b : Nat) : IntKind.i64.wrap (w64 a + w64 b) = w64 (a + b) := by rw [IntKind.wrap_i64]; unfold w64 RowKit.wrap64; omega
set_option maxHeartbeats 4000000 in
set_option maxRecDepth 100000 in
theorem rThingsC (x : Vs) (p : PolD) (w : World) (h : RdP w 0 w.heap.size x p) : Calls Tryz.prog 53 #[polV x p] w fun e w' => e = .returned (.int .i64 (w64 (thingsN p))) ∧ Below w.heap.size w w' := by
  obtain ⟨A1, c1, A2, c2, A3, c3, A4, c4, rfl, q1, q2, q3, q4, q5, q6, q7, q8⟩ := h.form
  have hm : maxLen = 9223372036854775807 := rfl
  have hlen : (p.els.length : Int) ≤ 9223372036854775807 := by omega
  have HRD : Hid (∀ W, Below w.heap.size w W → kdE.rd W 0 w.heap.size (.slice A1 p.els.length c1) p.els) := Lib.hid fun W hW => (h.stay (stay_below hW (Nat.le_refl _))).1
  have HCN : Hid (∀ W l v, kdR.rd W 0 W.heap.size v l → Calls Tryz.prog 115 #[v] W fun e w' => e = .returned (.int .i64 (w64 (l.length + wordsN l))) ∧ Below W.heap.size W w') := Lib.hid fun W l v hv => rCountC l v W hv
  have HG : Hid (∀ W, Below w.heap.size w W → Calls Tryz.prog 115 #[.slice A2 p.glob.length c2] W fun e w' => e = .returned (.int .i64 (w64 (p.glob.length + wordsN p.glob))) ∧ Below W.heap.size W w') := Lib.hid fun W hW => rCountC p.glob _ W (kdR.wide (rd_below h.2.1 hW (Nat.le_refl _)) (Nat.le_refl _) hW.size)
  clear h q1 q2 q3 q4 q5 q6 q7 q8 hm
  unfold polV
  obtain ⟨W0, hW0⟩ : ∃ W, W = w.alloc (.cells #[.slice A1 p.els.length c1, .slice A2 p.glob.length c2, .slice A3 p.schemes.length c3, .bool p.rel, .slice A4 p.drop.length c4, .int .i64 p.depth, .int .i64 p.window] 26) := ⟨_, rfl⟩
  have hb0 : Below w.heap.size w W0 := hW0 ▸ (Below.refl _ _).alloc (Nat.le_refl _) _
  have k0 : Bl W0 w.heap.size 26 [.slice A1 p.els.length c1, .slice A2 p.glob.length c2, .slice A3 p.schemes.length c3, .bool p.rel, .slice A4 p.drop.length c4, .int .i64 p.depth, .int .i64 p.window] := hW0 ▸ Bl.new w _ _ rfl
  have g0 := k0.cell 0 rfl
  have g1 := k0.cell 1 rfl
  have g2 := k0.cell 2 rfl
  have g4 := k0.cell 4 rfl
  have HX0 := Lib.hid hW0
  clear hW0
  have hz0 := hb0.size
  go_enter Tryz.func53, Tryz.ntmps53
  go_upto_region 1 with fail
  rw [← HX0.out]
  go_region_held3 (fun W' => W'.cell? ⟨w.heap.size, 0, none⟩ = some (.slice A1 p.els.length c1) ∧ W'.cell? ⟨w.heap.size, 1, none⟩ = some (.slice A2 p.glob.length c2) ∧ W'.cell? ⟨w.heap.size, 2, none⟩ = some (.slice A3 p.schemes.length c3) ∧ W'.cell? ⟨w.heap.size, 4, none⟩ = some (.slice A4 p.drop.length c4))
    (first | exact ⟨g0, g1, g2, g4⟩ | exact HS.out)
    (first | (go_at_call 115; refine (HG.out _ (by exact hb0.drew)).mono ?_; rintro e w1 ⟨rfl, hb1⟩; have h1 : Below W0.heap.size W0 w1 := (drw W0 1).trans hb1; have HS : Hid (w1.cell? ⟨w.heap.size, 0, none⟩ = some (.slice A1 p.els.length c1) ∧ w1.cell? ⟨w.heap.size, 1, none⟩ = some (.slice A2 p.glob.length c2) ∧ w1.cell? ⟨w.heap.size, 2, none⟩ = some (.slice A3 p.schemes.length c3) ∧ w1.cell? ⟨w.heap.size, 4, none⟩ = some (.slice A4 p.drop.length c4)) := Lib.hid ⟨(k0.below h1).cell 0 rfl, (k0.below h1).cell 1 rfl, (k0.below h1).cell 2 rfl, (k0.below h1).cell 4 rfl⟩))
  have HSUM : Hid (IntKind.i64.wrap (IntKind.i64.wrap (IntKind.i64.wrap ((p.els.length : Int) + (p.schemes.length : Int)) + (p.drop.length : Int)) + w64 (p.glob.length + wordsN p.glob)) = w64 (p.els.length + p.schemes.length + p.drop.length + (p.glob.length + wordsN p.glob))) := Lib.hid (by
    rw [w64_two', w64_add', w64_w64])
  have HTH : Hid (p.els.length + p.schemes.length + p.drop.length + (p.glob.length + wordsN p.glob) + elsN p.els = thingsN p) := Lib.hid (by unfold thingsN; omega)
  obtain ⟨bs, hbs⟩ : ∃ bs, bs = p.els.length + p.schemes.length + p.drop.length + (p.glob.length + wordsN p.glob) := ⟨_, rfl⟩
  rw [← hbs] at HSUM HTH
  clear hbs g0 g1 g2 g4
  all_goals (
    rw [HSUM.out]
    have h1w := hb0.trans (h1.mono hz0)
    have j0 := (k0.below h1).cell 0 rfl
    go_wp2
    go_loopw [3, 24] (fun v3 i wr => ∃ k : Nat, k ≤ p.els.length ∧ i = .int .i64 k ∧ v3 = .int .i64 (w64 (bs + elsN (p.els.take k))) ∧ Below w.heap.size w wr) (fun _ i _ => p.els.length - (intOf i).toNat)
    case atStart => exact ⟨0, by omega, rfl, by rw [List.take_zero]; rfl, h1w⟩
    case round =>
      clear j0
      obtain ⟨k, hk, rfl, rfl, hnx⟩ := hrel
      by_cases hlt : k < p.els.length
      · obtain ⟨b, off, u, rfl, _, hb2, hu, hcell⟩ := fmE.rd_at (HRD.out _ hnx) hlt
        have x0 := hcell 0 _ rfl
        have x1 := hcell 1 _ rfl
        rw [show off + (k * fmE.size + 0) = off + k * 2 from rfl] at x0
        rw [show off + (k * fmE.size + 1) = off + k * 2 + 1 from by show off + (k * 2 + 1) = _; omega] at x1
        have hu' : kdR.rd wr 0 w.heap.size u p.els[k].rules := hu
        obtain ⟨A5, c5, rfl, _⟩ := fmR.rd_form hu'
        have hk0 : (0 : Int) ≤ (k : Int) := by omega
        have hk1 : (k : Int) < (p.els.length : Int) := by omega
        have hzz := hnx.size
        have hs : Hid (w64 (bs + elsN (p.els.take (k + 1))) = IntKind.i64.wrap (w64 (bs + elsN (p.els.take k)) + w64 (p.els[k].rules.length + wordsN p.els[k].rules))) := Lib.hid (by rw [els_take_succ hlt, w64_w64, Nat.add_assoc])
        obtain ⟨W2, hW2⟩ : ∃ W, W = wr.alloc (.cells #[.string p.els[k].name, .slice A5 p.els[k].rules.length c5] 45) := ⟨_, rfl⟩
        have hb3 : Below wr.heap.size wr W2 := hW2 ▸ (Below.refl _ _).alloc (Nat.le_refl _) _
        have HC := Lib.hid (HCN.out W2 p.els[k].rules (.slice A5 p.els[k].rules.length c5) (kdR.wide (rd_below hu' hb3 (Nat.le_trans hzz (Nat.le_refl _))) (Nat.le_refl _) (Nat.le_trans hzz hb3.size)))
        have k5 : Bl W2 wr.heap.size 45 [.string p.els[k].name, .slice A5 p.els[k].rules.length c5] := hW2 ▸ Bl.new wr _ _ rfl
        have y1 := k5.cell 1 rfl
        have HW2 := Lib.hid hW2
        have hsub : fmE.sub p.els[k] = p.els[k].rules := rfl
        clear hcell hu hu' hW2 k5
        generalize w64 (bs + elsN (p.els.take k)) = n0 at *
        generalize w64 (p.els[k].rules.length + wordsN p.els[k].rules) = n1 at *
        go_upto_region 5 with fail
        rw [← HW2.out]
        clear x0 x1
        go_wp2_with (go_at_call 115; refine HC.out.mono ?_; rintro e w4 ⟨rfl, hb4⟩)
        go_roundw
        case rel => exact ⟨k + 1, by omega, by go_num, (by first | rfl | (rw [hs.out]; done) | (rw [hs.out, IntKind.wrap_i64]; congr 1; unfold RowKit.wrap64; omega)), hnx.trans ((hb3.trans (hb4.mono hb3.size)).mono hzz)⟩
        case measure => simp [intOf] <;> omega
      · obtain rfl : k = p.els.length := by omega
        have HQ : Hid (w64 (bs + elsN (p.els.take p.els.length)) = w64 (thingsN p)) := Lib.hid (by rw [List.take_length, HTH.out])
        rw [HQ.out]
        go_wp2
        go_ret
        exact ⟨rfl, hnx⟩)
end Go.Proofs.YtjhimmljanbjcaaGreatDoor.Rg

/- The reference's rules, over what its rule says (which is asked for as a premise here: to be joined to XRj). -/
set_option linter.unusedVariables false
set_option linter.unusedSimpArgs false
namespace Go.Proofs.YtjhimmljanbjcaaGreatDoor.Rq
open Go.RowKit Lb Gr Pd Fl Go.Proofs.YtjhimmljanbjcaaGreatDoor.Pm Bk
attribute [local go_sem ↓] Go.wp_at_zero Go.wp_at_succ

/-- what the reference's rule says -/
def RuleSays : Prop := ∀ (l : List RuleD) (v : Value) (k : Nat) (hk : l.length = k + 1) (w : World), kdR.rd w 0 w.heap.size v l → (∀ i (hi : i < l.length), (l[i]).name.size ≤ maxLen) →
    Calls Tryz.prog 110 #[v] w fun e w' => e = .returned (.bool (ruleB (l.take k) (l[k]'(by omega)))) ∧ Below w.heap.size w w'

set_option maxHeartbeats 4000000 in
set_option maxRecDepth 100000 in
theorem rRulesC (HM : RuleSays) (l : List RuleD) (v : Value) (w : World) (h : kdR.rd w 0 w.heap.size v l) (hs : ∀ i (hi : i < l.length), (l[i]).name.size ≤ maxLen) : Calls Tryz.prog 49 #[v] w fun e w' => e = .returned (.bool (rulesB l)) ∧ Below w.heap.size w w' := by
  obtain ⟨A, c, rfl, hc1, hc2⟩ := fmR.rd_form h
  have hm : maxLen = 9223372036854775807 := rfl
  have hlen : (l.length : Int) ≤ 9223372036854775807 := by omega
  have HC : Hid (∀ W, Below w.heap.size w W → ∀ k (hk : k < l.length), Calls Tryz.prog 110 #[.slice A (k + 1) c] W fun e w' => e = .returned (.bool (ruleB (l.take k) l[k])) ∧ Below W.heap.size W w') := Lib.hid fun W hW k hk => by
    have h1 := fmR.rd_take (rd_below h hW (Nat.le_refl _)) (show k + 1 ≤ l.length by omega)
    have h2 := HM (l.take (k + 1)) (.slice A (k + 1) c) k (by rw [List.length_take]; omega) W (kdR.wide h1 (Nat.le_refl _) hW.size) (fun i hi => by
      rw [List.getElem_take]
      exact hs i (by rw [List.length_take] at hi; omega))
    rw [List.take_take, Nat.min_eq_left (by omega : k ≤ k + 1), List.getElem_take] at h2
    exact h2
  have H0 : Hid (rulesB l = rulesFrom (l.take 0) (l.drop 0)) := Lib.hid rfl
  clear h hs
  go_enter Tryz.func49, Tryz.ntmps49
  go_wp2
  go_loopw [6] (fun i wr => ∃ k : Nat, k ≤ l.length ∧ i = .int .i64 k ∧ Hid (rulesB l = rulesFrom (l.take k) (l.drop k)) ∧ Below w.heap.size w wr) (fun i _ => l.length - (intOf i).toNat)
  case atStart => exact ⟨0, by omega, rfl, H0, Below.refl _ _⟩
  case round =>
    obtain ⟨k, hk, rfl, hst, hnx⟩ := hrel
    by_cases hlt : k < l.length
    · have hk0 : (0 : Int) ≤ (k : Int) := by omega
      have hk1 : (k : Int) + 1 ≤ (c : Int) := by omega
      have hw1 : IntKind.i64.wrap ((k : Int) + 1) = (k : Int) + 1 := by rw [IntKind.wrap_i64]; omega
      have hkn : ((k : Int) + 1).toNat = k + 1 := by omega
      have hk2 : (0 : Int) ≤ (k : Int) + 1 := by omega
      have HC2 := HC.out wr hnx k hlt
      cases hb : ruleB (l.take k) l[k]
      · rw [hb] at HC2
        have hr : Hid (rulesB l = false) := Lib.hid (by rw [hst.out]; exact rules_no hlt hb)
        have HC3 := Lib.hid HC2
        clear hb HC2
        go_wp2_with (go_at_call 110; refine HC3.out.mono ?_; rintro e w1 ⟨rfl, hb1⟩)
        go_ret
        exact ⟨rb hr.out, hnx.trans (hb1.mono hnx.size)⟩
      · rw [hb] at HC2
        have hr : Hid (rulesB l = rulesFrom (l.take (k + 1)) (l.drop (k + 1))) := Lib.hid (by rw [hst.out]; exact rules_go hlt hb)
        have HC3 := Lib.hid HC2
        clear hb HC2
        go_wp2_with (go_at_call 110; refine HC3.out.mono ?_; rintro e w1 ⟨rfl, hb1⟩)
        go_roundw
        case rel => exact ⟨k + 1, by omega, by go_num, hr, hnx.trans (hb1.mono hnx.size)⟩
        case measure => simp [intOf] <;> omega
    · have hr : Hid (rulesB l = true) := Lib.hid (by rw [hst.out]; exact rules_end (by omega))
      go_wp2
      go_ret
      exact ⟨rb hr.out, hnx⟩
end Go.Proofs.YtjhimmljanbjcaaGreatDoor.Rq
