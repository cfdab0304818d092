/- The reference's Needs. -/
import Derived.Test.YteikagdinecfoaaGreatDoorCh
import Derived.Test.YteikagdinecfoaaGreatDoorRFields
set_option linter.unusedVariables false
set_option linter.unusedSimpArgs false
namespace Go.Proofs.YteikagdinecfoaaGreatDoor.Rc
open Go.RowKit Lb Gr Pd Fl St Rf Go.Proofs.YteikagdinecfoaaGreatDoor.Pm Bk
attribute [local go_sem ↓] Go.wp_at_zero Go.wp_at_succ

theorem lit_no {s : ByteArray} {l : List UInt8} (h : s ≠ str l) : (s.toList == l) = false := by
  have h1 := toList_ne_of h
  rw [Lib.toList_data (str l)] at h1
  exact h1
theorem lit_yes {s : ByteArray} {l : List UInt8} (h : s = str l) : (s.toList == l) = true := by
  have h1 := toList_eq_of h
  rw [Lib.toList_data (str l)] at h1
  exact h1
theorem needs_of {s : ByteArray} {t : ByteArray} (h : needsT s = t) : needsL s = fieldsS t := by unfold needsL; rw [h]
set_option maxHeartbeats 8000000 in
set_option maxRecDepth 100000 in
theorem rNeedsC (s : ByteArray) (w : World) : Calls Tryz.prog 43 #[.string s] w fun e w' =>
    ∃ A c G, e = .returned (.slice A (needsL s).length c) ∧ kdW.own w' w.heap.size (.slice A (needsL s).length c) (needsL s) G ∧ Below w.heap.size w w' := by
  have HF : Hid (∀ W (t : ByteArray), t.size ≤ 1000 → Calls Tryz.prog 99 #[.string t] W fun e w' => ∃ A c G, e = .returned (.slice A (fieldsS t).length c) ∧ kdW.own w' W.heap.size (.slice A (fieldsS t).length c) (fieldsS t) G ∧ Below W.heap.size W w') :=
    Lib.hid fun W t ht => (rFields t W (by omega)).mono fun e w' ⟨v, he, ho, hb⟩ => by obtain ⟨A, c, rfl⟩ := ho.form; exact ⟨A, c, _, he, ⟨ho, rfl⟩, hb⟩
  by_cases h0 : s = str [108, 105]
  · have ht : needsT s = str [117, 108] := by unfold needsT; rw [if_pos h0]
    have e0 := lit_yes h0
    clear h0
    have hn := needs_of ht
    rw [hn]
    clear hn ht
    have HC : Hid (∀ W, Calls Tryz.prog 99 #[.string (str [117, 108])] W fun e w' => ∃ A c G, e = .returned (.slice A (fieldsS (str [117, 108])).length c) ∧ kdW.own w' W.heap.size (.slice A (fieldsS (str [117, 108])).length c) (fieldsS (str [117, 108])) G ∧ Below W.heap.size W w') := Lib.hid fun W => HF.out W _ (by decide)
    generalize fieldsS (str [117, 108]) = FS at *
    clear HF
    go_enter Tryz.func43, Tryz.ntmps43
    go_wp2_with (go_at_call 99; refine (HC.out _).mono ?_; rintro e w1 ⟨A, c, G, rfl, ho, hb⟩)
    go_ret
    exact ⟨A, c, G, rfl, ho, hb⟩
  have e0 := lit_no h0
  by_cases h1 : s = str [117, 108]
  · have ht : needsT s = str [108, 105] := by unfold needsT; rw [if_neg h0, if_pos h1]
    have e1 := lit_yes h1
    clear h0 h1
    have hn := needs_of ht
    rw [hn]
    clear hn ht
    have HC : Hid (∀ W, Calls Tryz.prog 99 #[.string (str [108, 105])] W fun e w' => ∃ A c G, e = .returned (.slice A (fieldsS (str [108, 105])).length c) ∧ kdW.own w' W.heap.size (.slice A (fieldsS (str [108, 105])).length c) (fieldsS (str [108, 105])) G ∧ Below W.heap.size W w') := Lib.hid fun W => HF.out W _ (by decide)
    generalize fieldsS (str [108, 105]) = FS at *
    clear HF
    go_enter Tryz.func43, Tryz.ntmps43
    go_wp2_with (go_at_call 99; refine (HC.out _).mono ?_; rintro e w1 ⟨A, c, G, rfl, ho, hb⟩)
    go_ret
    exact ⟨A, c, G, rfl, ho, hb⟩
  have e1 := lit_no h1
  by_cases h2 : s = str [111, 108]
  · have ht : needsT s = str [108, 105] := by unfold needsT; rw [if_neg h0, if_neg h1, if_pos h2]
    have e2 := lit_yes h2
    clear h0 h1 h2
    have hn := needs_of ht
    rw [hn]
    clear hn ht
    have HC : Hid (∀ W, Calls Tryz.prog 99 #[.string (str [108, 105])] W fun e w' => ∃ A c G, e = .returned (.slice A (fieldsS (str [108, 105])).length c) ∧ kdW.own w' W.heap.size (.slice A (fieldsS (str [108, 105])).length c) (fieldsS (str [108, 105])) G ∧ Below W.heap.size W w') := Lib.hid fun W => HF.out W _ (by decide)
    generalize fieldsS (str [108, 105]) = FS at *
    clear HF
    go_enter Tryz.func43, Tryz.ntmps43
    go_wp2_with (go_at_call 99; refine (HC.out _).mono ?_; rintro e w1 ⟨A, c, G, rfl, ho, hb⟩)
    go_ret
    exact ⟨A, c, G, rfl, ho, hb⟩
  have e2 := lit_no h2
  by_cases h3 : s = str [109, 101, 110, 117]
  · have ht : needsT s = str [108, 105] := by unfold needsT; rw [if_neg h0, if_neg h1, if_neg h2, if_pos h3]
    have e3 := lit_yes h3
    clear h0 h1 h2 h3
    have hn := needs_of ht
    rw [hn]
    clear hn ht
    have HC : Hid (∀ W, Calls Tryz.prog 99 #[.string (str [108, 105])] W fun e w' => ∃ A c G, e = .returned (.slice A (fieldsS (str [108, 105])).length c) ∧ kdW.own w' W.heap.size (.slice A (fieldsS (str [108, 105])).length c) (fieldsS (str [108, 105])) G ∧ Below W.heap.size W w') := Lib.hid fun W => HF.out W _ (by decide)
    generalize fieldsS (str [108, 105]) = FS at *
    clear HF
    go_enter Tryz.func43, Tryz.ntmps43
    go_wp2_with (go_at_call 99; refine (HC.out _).mono ?_; rintro e w1 ⟨A, c, G, rfl, ho, hb⟩)
    go_ret
    exact ⟨A, c, G, rfl, ho, hb⟩
  have e3 := lit_no h3
  by_cases h4 : s = str [100, 116]
  · have ht : needsT s = str [100, 100, 32, 100, 108] := by unfold needsT; rw [if_neg h0, if_neg h1, if_neg h2, if_neg h3, if_pos h4]
    have e4 := lit_yes h4
    clear h0 h1 h2 h3 h4
    have hn := needs_of ht
    rw [hn]
    clear hn ht
    have HC : Hid (∀ W, Calls Tryz.prog 99 #[.string (str [100, 100, 32, 100, 108])] W fun e w' => ∃ A c G, e = .returned (.slice A (fieldsS (str [100, 100, 32, 100, 108])).length c) ∧ kdW.own w' W.heap.size (.slice A (fieldsS (str [100, 100, 32, 100, 108])).length c) (fieldsS (str [100, 100, 32, 100, 108])) G ∧ Below W.heap.size W w') := Lib.hid fun W => HF.out W _ (by decide)
    generalize fieldsS (str [100, 100, 32, 100, 108]) = FS at *
    clear HF
    go_enter Tryz.func43, Tryz.ntmps43
    go_wp2_with (go_at_call 99; refine (HC.out _).mono ?_; rintro e w1 ⟨A, c, G, rfl, ho, hb⟩)
    go_ret
    exact ⟨A, c, G, rfl, ho, hb⟩
  have e4 := lit_no h4
  by_cases h5 : s = str [100, 100]
  · have ht : needsT s = str [100, 108] := by unfold needsT; rw [if_neg h0, if_neg h1, if_neg h2, if_neg h3, if_neg h4, if_pos h5]
    have e5 := lit_yes h5
    clear h0 h1 h2 h3 h4 h5
    have hn := needs_of ht
    rw [hn]
    clear hn ht
    have HC : Hid (∀ W, Calls Tryz.prog 99 #[.string (str [100, 108])] W fun e w' => ∃ A c G, e = .returned (.slice A (fieldsS (str [100, 108])).length c) ∧ kdW.own w' W.heap.size (.slice A (fieldsS (str [100, 108])).length c) (fieldsS (str [100, 108])) G ∧ Below W.heap.size W w') := Lib.hid fun W => HF.out W _ (by decide)
    generalize fieldsS (str [100, 108]) = FS at *
    clear HF
    go_enter Tryz.func43, Tryz.ntmps43
    go_wp2_with (go_at_call 99; refine (HC.out _).mono ?_; rintro e w1 ⟨A, c, G, rfl, ho, hb⟩)
    go_ret
    exact ⟨A, c, G, rfl, ho, hb⟩
  have e5 := lit_no h5
  by_cases h6 : s = str [100, 108]
  · have ht : needsT s = str [100, 100] := by unfold needsT; rw [if_neg h0, if_neg h1, if_neg h2, if_neg h3, if_neg h4, if_neg h5, if_pos h6]
    have e6 := lit_yes h6
    clear h0 h1 h2 h3 h4 h5 h6
    have hn := needs_of ht
    rw [hn]
    clear hn ht
    have HC : Hid (∀ W, Calls Tryz.prog 99 #[.string (str [100, 100])] W fun e w' => ∃ A c G, e = .returned (.slice A (fieldsS (str [100, 100])).length c) ∧ kdW.own w' W.heap.size (.slice A (fieldsS (str [100, 100])).length c) (fieldsS (str [100, 100])) G ∧ Below W.heap.size W w') := Lib.hid fun W => HF.out W _ (by decide)
    generalize fieldsS (str [100, 100]) = FS at *
    clear HF
    go_enter Tryz.func43, Tryz.ntmps43
    go_wp2_with (go_at_call 99; refine (HC.out _).mono ?_; rintro e w1 ⟨A, c, G, rfl, ho, hb⟩)
    go_ret
    exact ⟨A, c, G, rfl, ho, hb⟩
  have e6 := lit_no h6
  by_cases h7 : s = str [116, 97, 98, 108, 101]
  · have ht : needsT s = str [116, 98, 111, 100, 121, 32, 116, 100, 32, 116, 114] := by unfold needsT; rw [if_neg h0, if_neg h1, if_neg h2, if_neg h3, if_neg h4, if_neg h5, if_neg h6, if_pos h7]
    have e7 := lit_yes h7
    clear h0 h1 h2 h3 h4 h5 h6 h7
    have hn := needs_of ht
    rw [hn]
    clear hn ht
    have HC : Hid (∀ W, Calls Tryz.prog 99 #[.string (str [116, 98, 111, 100, 121, 32, 116, 100, 32, 116, 114])] W fun e w' => ∃ A c G, e = .returned (.slice A (fieldsS (str [116, 98, 111, 100, 121, 32, 116, 100, 32, 116, 114])).length c) ∧ kdW.own w' W.heap.size (.slice A (fieldsS (str [116, 98, 111, 100, 121, 32, 116, 100, 32, 116, 114])).length c) (fieldsS (str [116, 98, 111, 100, 121, 32, 116, 100, 32, 116, 114])) G ∧ Below W.heap.size W w') := Lib.hid fun W => HF.out W _ (by decide)
    generalize fieldsS (str [116, 98, 111, 100, 121, 32, 116, 100, 32, 116, 114]) = FS at *
    clear HF
    go_enter Tryz.func43, Tryz.ntmps43
    go_wp2_with (go_at_call 99; refine (HC.out _).mono ?_; rintro e w1 ⟨A, c, G, rfl, ho, hb⟩)
    go_ret
    exact ⟨A, c, G, rfl, ho, hb⟩
  have e7 := lit_no h7
  by_cases h8 : s = str [99, 97, 112, 116, 105, 111, 110]
  · have ht : needsT s = str [116, 97, 98, 108, 101, 32, 116, 98, 111, 100, 121, 32, 116, 100, 32, 116, 114] := by unfold needsT; rw [if_neg h0, if_neg h1, if_neg h2, if_neg h3, if_neg h4, if_neg h5, if_neg h6, if_neg h7, if_pos h8]
    have e8 := lit_yes h8
    clear h0 h1 h2 h3 h4 h5 h6 h7 h8
    have hn := needs_of ht
    rw [hn]
    clear hn ht
    have HC : Hid (∀ W, Calls Tryz.prog 99 #[.string (str [116, 97, 98, 108, 101, 32, 116, 98, 111, 100, 121, 32, 116, 100, 32, 116, 114])] W fun e w' => ∃ A c G, e = .returned (.slice A (fieldsS (str [116, 97, 98, 108, 101, 32, 116, 98, 111, 100, 121, 32, 116, 100, 32, 116, 114])).length c) ∧ kdW.own w' W.heap.size (.slice A (fieldsS (str [116, 97, 98, 108, 101, 32, 116, 98, 111, 100, 121, 32, 116, 100, 32, 116, 114])).length c) (fieldsS (str [116, 97, 98, 108, 101, 32, 116, 98, 111, 100, 121, 32, 116, 100, 32, 116, 114])) G ∧ Below W.heap.size W w') := Lib.hid fun W => HF.out W _ (by decide)
    generalize fieldsS (str [116, 97, 98, 108, 101, 32, 116, 98, 111, 100, 121, 32, 116, 100, 32, 116, 114]) = FS at *
    clear HF
    go_enter Tryz.func43, Tryz.ntmps43
    go_wp2_with (go_at_call 99; refine (HC.out _).mono ?_; rintro e w1 ⟨A, c, G, rfl, ho, hb⟩)
    go_ret
    exact ⟨A, c, G, rfl, ho, hb⟩
  have e8 := lit_no h8
  by_cases h9 : s = str [99, 111, 108, 103, 114, 111, 117, 112]
  · have ht : needsT s = str [116, 97, 98, 108, 101, 32, 116, 98, 111, 100, 121, 32, 116, 100, 32, 116, 114] := by unfold needsT; rw [if_neg h0, if_neg h1, if_neg h2, if_neg h3, if_neg h4, if_neg h5, if_neg h6, if_neg h7, if_neg h8, if_pos h9]
    have e9 := lit_yes h9
    clear h0 h1 h2 h3 h4 h5 h6 h7 h8 h9
    have hn := needs_of ht
    rw [hn]
    clear hn ht
    have HC : Hid (∀ W, Calls Tryz.prog 99 #[.string (str [116, 97, 98, 108, 101, 32, 116, 98, 111, 100, 121, 32, 116, 100, 32, 116, 114])] W fun e w' => ∃ A c G, e = .returned (.slice A (fieldsS (str [116, 97, 98, 108, 101, 32, 116, 98, 111, 100, 121, 32, 116, 100, 32, 116, 114])).length c) ∧ kdW.own w' W.heap.size (.slice A (fieldsS (str [116, 97, 98, 108, 101, 32, 116, 98, 111, 100, 121, 32, 116, 100, 32, 116, 114])).length c) (fieldsS (str [116, 97, 98, 108, 101, 32, 116, 98, 111, 100, 121, 32, 116, 100, 32, 116, 114])) G ∧ Below W.heap.size W w') := Lib.hid fun W => HF.out W _ (by decide)
    generalize fieldsS (str [116, 97, 98, 108, 101, 32, 116, 98, 111, 100, 121, 32, 116, 100, 32, 116, 114]) = FS at *
    clear HF
    go_enter Tryz.func43, Tryz.ntmps43
    go_wp2_with (go_at_call 99; refine (HC.out _).mono ?_; rintro e w1 ⟨A, c, G, rfl, ho, hb⟩)
    go_ret
    exact ⟨A, c, G, rfl, ho, hb⟩
  have e9 := lit_no h9
  by_cases h10 : s = str [116, 104, 101, 97, 100]
  · have ht : needsT s = str [116, 97, 98, 108, 101, 32, 116, 98, 111, 100, 121, 32, 116, 100, 32, 116, 114] := by unfold needsT; rw [if_neg h0, if_neg h1, if_neg h2, if_neg h3, if_neg h4, if_neg h5, if_neg h6, if_neg h7, if_neg h8, if_neg h9, if_pos h10]
    have e10 := lit_yes h10
    clear h0 h1 h2 h3 h4 h5 h6 h7 h8 h9 h10
    have hn := needs_of ht
    rw [hn]
    clear hn ht
    have HC : Hid (∀ W, Calls Tryz.prog 99 #[.string (str [116, 97, 98, 108, 101, 32, 116, 98, 111, 100, 121, 32, 116, 100, 32, 116, 114])] W fun e w' => ∃ A c G, e = .returned (.slice A (fieldsS (str [116, 97, 98, 108, 101, 32, 116, 98, 111, 100, 121, 32, 116, 100, 32, 116, 114])).length c) ∧ kdW.own w' W.heap.size (.slice A (fieldsS (str [116, 97, 98, 108, 101, 32, 116, 98, 111, 100, 121, 32, 116, 100, 32, 116, 114])).length c) (fieldsS (str [116, 97, 98, 108, 101, 32, 116, 98, 111, 100, 121, 32, 116, 100, 32, 116, 114])) G ∧ Below W.heap.size W w') := Lib.hid fun W => HF.out W _ (by decide)
    generalize fieldsS (str [116, 97, 98, 108, 101, 32, 116, 98, 111, 100, 121, 32, 116, 100, 32, 116, 114]) = FS at *
    clear HF
    go_enter Tryz.func43, Tryz.ntmps43
    go_wp2_with (go_at_call 99; refine (HC.out _).mono ?_; rintro e w1 ⟨A, c, G, rfl, ho, hb⟩)
    go_ret
    exact ⟨A, c, G, rfl, ho, hb⟩
  have e10 := lit_no h10
  by_cases h11 : s = str [116, 102, 111, 111, 116]
  · have ht : needsT s = str [116, 97, 98, 108, 101, 32, 116, 98, 111, 100, 121, 32, 116, 100, 32, 116, 114] := by unfold needsT; rw [if_neg h0, if_neg h1, if_neg h2, if_neg h3, if_neg h4, if_neg h5, if_neg h6, if_neg h7, if_neg h8, if_neg h9, if_neg h10, if_pos h11]
    have e11 := lit_yes h11
    clear h0 h1 h2 h3 h4 h5 h6 h7 h8 h9 h10 h11
    have hn := needs_of ht
    rw [hn]
    clear hn ht
    have HC : Hid (∀ W, Calls Tryz.prog 99 #[.string (str [116, 97, 98, 108, 101, 32, 116, 98, 111, 100, 121, 32, 116, 100, 32, 116, 114])] W fun e w' => ∃ A c G, e = .returned (.slice A (fieldsS (str [116, 97, 98, 108, 101, 32, 116, 98, 111, 100, 121, 32, 116, 100, 32, 116, 114])).length c) ∧ kdW.own w' W.heap.size (.slice A (fieldsS (str [116, 97, 98, 108, 101, 32, 116, 98, 111, 100, 121, 32, 116, 100, 32, 116, 114])).length c) (fieldsS (str [116, 97, 98, 108, 101, 32, 116, 98, 111, 100, 121, 32, 116, 100, 32, 116, 114])) G ∧ Below W.heap.size W w') := Lib.hid fun W => HF.out W _ (by decide)
    generalize fieldsS (str [116, 97, 98, 108, 101, 32, 116, 98, 111, 100, 121, 32, 116, 100, 32, 116, 114]) = FS at *
    clear HF
    go_enter Tryz.func43, Tryz.ntmps43
    go_wp2_with (go_at_call 99; refine (HC.out _).mono ?_; rintro e w1 ⟨A, c, G, rfl, ho, hb⟩)
    go_ret
    exact ⟨A, c, G, rfl, ho, hb⟩
  have e11 := lit_no h11
  by_cases h12 : s = str [116, 104]
  · have ht : needsT s = str [116, 97, 98, 108, 101, 32, 116, 98, 111, 100, 121, 32, 116, 100, 32, 116, 114] := by unfold needsT; rw [if_neg h0, if_neg h1, if_neg h2, if_neg h3, if_neg h4, if_neg h5, if_neg h6, if_neg h7, if_neg h8, if_neg h9, if_neg h10, if_neg h11, if_pos h12]
    have e12 := lit_yes h12
    clear h0 h1 h2 h3 h4 h5 h6 h7 h8 h9 h10 h11 h12
    have hn := needs_of ht
    rw [hn]
    clear hn ht
    have HC : Hid (∀ W, Calls Tryz.prog 99 #[.string (str [116, 97, 98, 108, 101, 32, 116, 98, 111, 100, 121, 32, 116, 100, 32, 116, 114])] W fun e w' => ∃ A c G, e = .returned (.slice A (fieldsS (str [116, 97, 98, 108, 101, 32, 116, 98, 111, 100, 121, 32, 116, 100, 32, 116, 114])).length c) ∧ kdW.own w' W.heap.size (.slice A (fieldsS (str [116, 97, 98, 108, 101, 32, 116, 98, 111, 100, 121, 32, 116, 100, 32, 116, 114])).length c) (fieldsS (str [116, 97, 98, 108, 101, 32, 116, 98, 111, 100, 121, 32, 116, 100, 32, 116, 114])) G ∧ Below W.heap.size W w') := Lib.hid fun W => HF.out W _ (by decide)
    generalize fieldsS (str [116, 97, 98, 108, 101, 32, 116, 98, 111, 100, 121, 32, 116, 100, 32, 116, 114]) = FS at *
    clear HF
    go_enter Tryz.func43, Tryz.ntmps43
    go_wp2_with (go_at_call 99; refine (HC.out _).mono ?_; rintro e w1 ⟨A, c, G, rfl, ho, hb⟩)
    go_ret
    exact ⟨A, c, G, rfl, ho, hb⟩
  have e12 := lit_no h12
  by_cases h13 : s = str [116, 98, 111, 100, 121]
  · have ht : needsT s = str [116, 97, 98, 108, 101, 32, 116, 100, 32, 116, 114] := by unfold needsT; rw [if_neg h0, if_neg h1, if_neg h2, if_neg h3, if_neg h4, if_neg h5, if_neg h6, if_neg h7, if_neg h8, if_neg h9, if_neg h10, if_neg h11, if_neg h12, if_pos h13]
    have e13 := lit_yes h13
    clear h0 h1 h2 h3 h4 h5 h6 h7 h8 h9 h10 h11 h12 h13
    have hn := needs_of ht
    rw [hn]
    clear hn ht
    have HC : Hid (∀ W, Calls Tryz.prog 99 #[.string (str [116, 97, 98, 108, 101, 32, 116, 100, 32, 116, 114])] W fun e w' => ∃ A c G, e = .returned (.slice A (fieldsS (str [116, 97, 98, 108, 101, 32, 116, 100, 32, 116, 114])).length c) ∧ kdW.own w' W.heap.size (.slice A (fieldsS (str [116, 97, 98, 108, 101, 32, 116, 100, 32, 116, 114])).length c) (fieldsS (str [116, 97, 98, 108, 101, 32, 116, 100, 32, 116, 114])) G ∧ Below W.heap.size W w') := Lib.hid fun W => HF.out W _ (by decide)
    generalize fieldsS (str [116, 97, 98, 108, 101, 32, 116, 100, 32, 116, 114]) = FS at *
    clear HF
    go_enter Tryz.func43, Tryz.ntmps43
    go_wp2_with (go_at_call 99; refine (HC.out _).mono ?_; rintro e w1 ⟨A, c, G, rfl, ho, hb⟩)
    go_ret
    exact ⟨A, c, G, rfl, ho, hb⟩
  have e13 := lit_no h13
  by_cases h14 : s = str [116, 114]
  · have ht : needsT s = str [116, 97, 98, 108, 101, 32, 116, 98, 111, 100, 121, 32, 116, 100] := by unfold needsT; rw [if_neg h0, if_neg h1, if_neg h2, if_neg h3, if_neg h4, if_neg h5, if_neg h6, if_neg h7, if_neg h8, if_neg h9, if_neg h10, if_neg h11, if_neg h12, if_neg h13, if_pos h14]
    have e14 := lit_yes h14
    clear h0 h1 h2 h3 h4 h5 h6 h7 h8 h9 h10 h11 h12 h13 h14
    have hn := needs_of ht
    rw [hn]
    clear hn ht
    have HC : Hid (∀ W, Calls Tryz.prog 99 #[.string (str [116, 97, 98, 108, 101, 32, 116, 98, 111, 100, 121, 32, 116, 100])] W fun e w' => ∃ A c G, e = .returned (.slice A (fieldsS (str [116, 97, 98, 108, 101, 32, 116, 98, 111, 100, 121, 32, 116, 100])).length c) ∧ kdW.own w' W.heap.size (.slice A (fieldsS (str [116, 97, 98, 108, 101, 32, 116, 98, 111, 100, 121, 32, 116, 100])).length c) (fieldsS (str [116, 97, 98, 108, 101, 32, 116, 98, 111, 100, 121, 32, 116, 100])) G ∧ Below W.heap.size W w') := Lib.hid fun W => HF.out W _ (by decide)
    generalize fieldsS (str [116, 97, 98, 108, 101, 32, 116, 98, 111, 100, 121, 32, 116, 100]) = FS at *
    clear HF
    go_enter Tryz.func43, Tryz.ntmps43
    go_wp2_with (go_at_call 99; refine (HC.out _).mono ?_; rintro e w1 ⟨A, c, G, rfl, ho, hb⟩)
    go_ret
    exact ⟨A, c, G, rfl, ho, hb⟩
  have e14 := lit_no h14
  by_cases h15 : s = str [116, 100]
  · have ht : needsT s = str [116, 97, 98, 108, 101, 32, 116, 98, 111, 100, 121, 32, 116, 114] := by unfold needsT; rw [if_neg h0, if_neg h1, if_neg h2, if_neg h3, if_neg h4, if_neg h5, if_neg h6, if_neg h7, if_neg h8, if_neg h9, if_neg h10, if_neg h11, if_neg h12, if_neg h13, if_neg h14, if_pos h15]
    have e15 := lit_yes h15
    clear h0 h1 h2 h3 h4 h5 h6 h7 h8 h9 h10 h11 h12 h13 h14 h15
    have hn := needs_of ht
    rw [hn]
    clear hn ht
    have HC : Hid (∀ W, Calls Tryz.prog 99 #[.string (str [116, 97, 98, 108, 101, 32, 116, 98, 111, 100, 121, 32, 116, 114])] W fun e w' => ∃ A c G, e = .returned (.slice A (fieldsS (str [116, 97, 98, 108, 101, 32, 116, 98, 111, 100, 121, 32, 116, 114])).length c) ∧ kdW.own w' W.heap.size (.slice A (fieldsS (str [116, 97, 98, 108, 101, 32, 116, 98, 111, 100, 121, 32, 116, 114])).length c) (fieldsS (str [116, 97, 98, 108, 101, 32, 116, 98, 111, 100, 121, 32, 116, 114])) G ∧ Below W.heap.size W w') := Lib.hid fun W => HF.out W _ (by decide)
    generalize fieldsS (str [116, 97, 98, 108, 101, 32, 116, 98, 111, 100, 121, 32, 116, 114]) = FS at *
    clear HF
    go_enter Tryz.func43, Tryz.ntmps43
    go_wp2_with (go_at_call 99; refine (HC.out _).mono ?_; rintro e w1 ⟨A, c, G, rfl, ho, hb⟩)
    go_ret
    exact ⟨A, c, G, rfl, ho, hb⟩
  have e15 := lit_no h15
  by_cases h16 : s = str [99, 111, 108]
  · have ht : needsT s = str [99, 111, 108, 103, 114, 111, 117, 112, 32, 116, 97, 98, 108, 101, 32, 116, 98, 111, 100, 121, 32, 116, 100, 32, 116, 114] := by unfold needsT; rw [if_neg h0, if_neg h1, if_neg h2, if_neg h3, if_neg h4, if_neg h5, if_neg h6, if_neg h7, if_neg h8, if_neg h9, if_neg h10, if_neg h11, if_neg h12, if_neg h13, if_neg h14, if_neg h15, if_pos h16]
    have e16 := lit_yes h16
    clear h0 h1 h2 h3 h4 h5 h6 h7 h8 h9 h10 h11 h12 h13 h14 h15 h16
    have hn := needs_of ht
    rw [hn]
    clear hn ht
    have HC : Hid (∀ W, Calls Tryz.prog 99 #[.string (str [99, 111, 108, 103, 114, 111, 117, 112, 32, 116, 97, 98, 108, 101, 32, 116, 98, 111, 100, 121, 32, 116, 100, 32, 116, 114])] W fun e w' => ∃ A c G, e = .returned (.slice A (fieldsS (str [99, 111, 108, 103, 114, 111, 117, 112, 32, 116, 97, 98, 108, 101, 32, 116, 98, 111, 100, 121, 32, 116, 100, 32, 116, 114])).length c) ∧ kdW.own w' W.heap.size (.slice A (fieldsS (str [99, 111, 108, 103, 114, 111, 117, 112, 32, 116, 97, 98, 108, 101, 32, 116, 98, 111, 100, 121, 32, 116, 100, 32, 116, 114])).length c) (fieldsS (str [99, 111, 108, 103, 114, 111, 117, 112, 32, 116, 97, 98, 108, 101, 32, 116, 98, 111, 100, 121, 32, 116, 100, 32, 116, 114])) G ∧ Below W.heap.size W w') := Lib.hid fun W => HF.out W _ (by decide)
    generalize fieldsS (str [99, 111, 108, 103, 114, 111, 117, 112, 32, 116, 97, 98, 108, 101, 32, 116, 98, 111, 100, 121, 32, 116, 100, 32, 116, 114]) = FS at *
    clear HF
    go_enter Tryz.func43, Tryz.ntmps43
    go_wp2_with (go_at_call 99; refine (HC.out _).mono ?_; rintro e w1 ⟨A, c, G, rfl, ho, hb⟩)
    go_ret
    exact ⟨A, c, G, rfl, ho, hb⟩
  have e16 := lit_no h16
  have ht : needsT s = str [] := by unfold needsT; rw [if_neg h0, if_neg h1, if_neg h2, if_neg h3, if_neg h4, if_neg h5, if_neg h6, if_neg h7, if_neg h8, if_neg h9, if_neg h10, if_neg h11, if_neg h12, if_neg h13, if_neg h14, if_neg h15, if_neg h16]
  clear h0 h1 h2 h3 h4 h5 h6 h7 h8 h9 h10 h11 h12 h13 h14 h15 h16
  have hn := needs_of ht
  rw [hn]
  clear hn ht
  have HC : Hid (∀ W, Calls Tryz.prog 99 #[.string (str [])] W fun e w' => ∃ A c G, e = .returned (.slice A (fieldsS (str [])).length c) ∧ kdW.own w' W.heap.size (.slice A (fieldsS (str [])).length c) (fieldsS (str [])) G ∧ Below W.heap.size W w') := Lib.hid fun W => HF.out W _ (by decide)
  generalize fieldsS (str []) = FS at *
  clear HF
  go_enter Tryz.func43, Tryz.ntmps43
  go_wp2_with (go_at_call 99; refine (HC.out _).mono ?_; rintro e w1 ⟨A, c, G, rfl, ho, hb⟩)
  go_ret
  exact ⟨A, c, G, rfl, ho, hb⟩
end Go.Proofs.YteikagdinecfoaaGreatDoor.Rc
