/- nest: on right stacks a text asks the same of the program and of the reference. No program. -/
import Derived.Test.YtddgpkdhakjjaaaDoorRx
set_option linter.unusedVariables false
set_option linter.unusedSimpArgs false
namespace Go.Proofs.YtddgpkdhakjjaaaDoor.Te
open Go.Proofs.YtddgpkdhakjjaaaDoor.Np hiding is_li is_dt is_dd is_textarea is_a
open Go.RowKit Lb Fl Is Tp Wk Wp Wi Wo Pt Oc Pm Go.Proofs.YtddgpkdhakjjaaaDoor.Ask Rt Go.Proofs.YtddgpkdhakjjaaaDoor.Op Aw Lt En El Rn Ri Rj Rp Rq Go.Proofs.YtddgpkdhakjjaaaDoor.Eq Ro Tx Rx

theorem addN_want (y : ByteArray) (h : is_colgroup y = false) : decide (0 < (addN y).length) = wantB y := by
  unfold addN wantB
  rw [h]
  cases is_table y <;> cases groupB y <;> cases is_tr y <;> cases listB y <;> cases is_dl y <;> simp
theorem top_ne {s : List ByteArray} (h : is_colgroup (topS s) = true) : s ≠ [] := by
  rintro rfl
  exact absurd h (by decide +kernel)
theorem rtC_eq {s : List ByteArray} (h : rightB s = true) : rtC s = wantB (topS s) := by
  have hcc := right_CC h
  unfold rtC
  rw [inn_eq hcc, inp_eq hcc, inP2_eq]
  cases hc : is_colgroup (topS s)
  · have e : inS2 s [] = s := by unfold inS2; rw [hc]; simp
    rw [e, addN_want _ hc]
    simp
  · have e : inS2 s [] = s.dropLast := by unfold inS2; rw [hc]; simp
    have hl : 0 < s.length := List.length_pos_iff.2 (top_ne hc)
    have h2 : decide ((inS2 s []).length < s.length) = true := by
      rw [e, List.length_dropLast, decide_eq_true_iff]
      omega
    rw [h2]
    unfold wantB
    rw [hc]
    simp
theorem rtT_eq (s : List ByteArray) : rtT s = is_textarea (topS s) := by
  unfold rtT
  cases s with
  | nil => decide +kernel
  | cons x r => simp
theorem text_eq {s : List ByteArray} {b : Bool} (h : rightB s = true) : rtK s b = txK s b ∧ rtP s b = txP s b ∧ rtD s b = txD s b := by
  have hcc := right_CC h
  have hg : rtGo s b = txGo s b := by unfold rtGo txGo; rw [rtC_eq h, rtT_eq, h]; simp
  refine ⟨?_, ?_, ?_⟩
  · unfold rtK txK; rw [hg, inn_eq hcc]
  · unfold rtP txP; rw [hg, inp_eq hcc]
  · unfold rtD txD; rw [rtC_eq h, rtT_eq, h]; simp
end Go.Proofs.YtddgpkdhakjjaaaDoor.Te
