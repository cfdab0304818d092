/- nest: on right stacks an end tag closes the same of the program and of the reference. No program. -/
import Derived.Test.YtddgpkdhakjjaaaDoorRe
import Derived.Test.YtddgpkdhakjjaaaDoorFl
set_option linter.unusedVariables false
set_option linter.unusedSimpArgs false
namespace Go.Proofs.YtddgpkdhakjjaaaDoor.Ed
open Go.Proofs.YtddgpkdhakjjaaaDoor.Np hiding is_li is_dt is_dd is_textarea is_a
open Go.RowKit Lb Fl Is Tp Wk Wp Wi Wo Pt Oc Pm Go.Proofs.YtddgpkdhakjjaaaDoor.Ask Rt Go.Proofs.YtddgpkdhakjjaaaDoor.Op Aw Lt En El Rn Ri Rj Rp Rq Go.Proofs.YtddgpkdhakjjaaaDoor.Eq Ro Re Fo
open Go.Proofs.YtddgpkdhakjjaaaDoor.St (nm inL)

theorem right_mem {s : List ByteArray} (h : rightB s = true) {x : ByteArray} (hx : x ∈ s) : inS x 15 = true ∧ inS x 0 = false := by
  obtain ⟨j, hj, rfl⟩ := List.getElem_of_mem hx
  have h1 := right_at h j hj
  unfold okY at h1
  simp only [Bool.and_eq_true, Bool.not_eq_true'] at h1
  exact h1.1
theorem tab_all : (fieldsS c_tab).all (fun z => inS z 14 && decide (fieldsS z = [z])) = true := by decide +kernel
theorem tab_yes {y : ByteArray} (h : isB c_tab y = true) : inS y 14 = true ∧ fieldsS y = [y] := by
  unfold isB at h
  rw [List.any_eq_true] at h
  obtain ⟨z, hz, e⟩ := h
  have e2 : z = y := by simpa using e
  subst e2
  have := List.all_eq_true.1 tab_all z hz
  simpa using this
theorem tab_no {y : ByteArray} (h : isB c_tab y = false) (h2 : inS y 14 = true) : inS y 0 = true := by
  have := in_all (k := 14) (by decide) (P := fun x => isB c_tab x || inS x 0) (by decide +kernel) h2
  simp only [h, Bool.false_or] at this
  exact this
theorem allow_one {x : ByteArray} (h : inS x 15 = true) : rTrimOk x = true ∧ (((fieldsS x).length : Int) == 1) = true := by
  have := in_all (k := 15) (by decide) (P := fun x => rTrimOk x && (((fieldsS x).length : Int) == 1)) (by decide +kernel) h
  simpa using this
theorem one_own {y : ByteArray} (h : rTrimOk y = true) (h2 : (((fieldsS y).length : Int) == 1) = true) : fieldsS y = [y] := by
  have h3 : (fieldsS y).length = 1 := by
    have := eq_of_beq h2
    omega
  unfold fieldsS at h3
  rw [List.length_map] at h3
  obtain ⟨l, hl⟩ := List.length_eq_one_iff.1 h3
  unfold rTrimOk at h
  rw [eq_str] at h
  have h4 : str (trimL y.data.toList) = y := by simpa using h
  have h5 : trimL y.data.toList = y.data.toList := by
    have := congrArg (fun z : ByteArray => z.data.toList) h4
    exact this
  have h6 := trim_field h5 hl
  unfold fieldsS
  rw [hl, h6]
  simp [str_of]
theorem at_eq {s : List ByteArray} {y : ByteArray} (h : rightB s = true) : endAt s y = rEnd s y := by
  unfold endAt rEnd
  cases h1 : headB y
  · simp only [Bool.false_eq_true, if_false]
    cases h2 : is_table y
    · simp only [Bool.false_eq_true, if_false]
      cases h3 : isB c_tab y
      · simp only [Bool.false_eq_true, if_false]
        cases h4 : inS y 14
        · simp only [Bool.false_eq_true, if_false]
          cases h5 : (rTrimOk y && (((fieldsS y).length : Int) == 1) && !inS y 0)
          · simp only [Bool.false_eq_true, if_false]
            refine tm_miss (fun x hx => named_ne ?_)
            rintro rfl
            have h6 := right_mem h hx
            have h7 := allow_one h6.1
            rw [h7.1, h7.2, h6.2] at h5
            exact absurd h5 (by decide)
          · simp only [if_true]
            simp only [Bool.and_eq_true] at h5
            rw [one_B (one_own h5.1.1 h5.1.2)]
        · simp only [if_true]
          have h5 := tab_no h3 h4
          rw [h5]
          simp only [Bool.not_true, Bool.and_false, Bool.false_eq_true, if_false]
          refine tm_miss (fun x hx => named_ne ?_)
          rintro rfl
          have h6 := right_mem h hx
          rw [h5] at h6
          exact absurd h6.2 (by decide)
      · have h4 := tab_yes h3
        rw [h4.1, one_B h4.2]
        simp only [if_true]
    · simp only [if_true]
      unfold is_table at h2
      rw [z_of (a := s_table) (by decide +kernel) h2]
  · simp only [if_true]
theorem end_eq {s : List ByteArray} {y : ByteArray} (h : rightB s = true) : rEndV s.length s y = endV s y := by
  unfold rEndV endV
  rw [h, at_eq h]
  simp only [if_true]
end Go.Proofs.YtddgpkdhakjjaaaDoor.Ed
