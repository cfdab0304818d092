/- nest: the laws' helpers long, plan, nothing. -/
import Derived.Test.YtddgpkdhakjjaaaDoorLt
set_option linter.unusedVariables false
set_option linter.unusedSimpArgs false
namespace Go.Proofs.YtddgpkdhakjjaaaDoor.Lw
open Go.RowKit Lb Fl Is Tp Np Wk Wp Wi Wo Pt Oc Go.Proofs.YtddgpkdhakjjaaaDoor.Ask Rt Go.Proofs.YtddgpkdhakjjaaaDoor.Op Aw Lt

theorem longC (A : Option Addr) (n c : Nat) (w : World) : Calls Tryd.prog 14 #[.slice A n c] w fun e w' => e = .returned (.bool (decide (600 < n))) ∧ w = w' := by
  by_cases h : 600 < n
  · have h1 : (600 : Int) < (n : Int) := by omega
    go_enter Tryd.func14, Tryd.ntmps14
    go_wp2
    go_ret
    exact ⟨rb (by simp [h]), rfl⟩
  · have h1 : ¬ (600 : Int) < (n : Int) := by omega
    go_enter Tryd.func14, Tryd.ntmps14
    go_wp2
    go_ret
    exact ⟨rb (by simp [h]), rfl⟩

def planB (k k' : Int) (d d' : Bool) (l l' : List ByteArray) : Bool := k == k' && (d == d') && sameL l l'
set_option maxHeartbeats 1600000 in
set_option maxRecDepth 100000 in
theorem planL (w : World) (k k' : Int) (d d' : Bool) (A A' : Option Addr) (m m' c c' : Nat) (l l' : List ByteArray) (h1 : Rd w A m l) (h2 : Rd w A' m' l') (hm : m ≤ 8796093022208) (hm' : m' ≤ 8796093022208) :
    Calls Tryd.prog 26 #[.agg #[.int .i64 k, .slice A m c, .bool d], .agg #[.int .i64 k', .slice A' m' c', .bool d']] w fun e w' => e = .returned (.bool (planB k k' d d' l l')) ∧ Below w.heap.size w w' := by
  have hb : Below w.heap.size w ((w.alloc (.cells #[.int .i64 k, .slice A m c, .bool d] 33)).alloc (.cells #[.int .i64 k', .slice A' m' c', .bool d'] 33)) := ((Below.refl _ _).alloc (Nat.le_refl _) _).alloc (by simp) _
  have hp := (Pl.new w (.int .i64 k) (.slice A m c) (.bool d) _ rfl).below ((Below.refl _ _).alloc (Nat.le_refl _) (.cells #[.int .i64 k', .slice A' m' c', .bool d'] 33))
  have e0 := hp.c0
  have e1 := hp.c1
  have e2 := hp.c2
  have hS := Lib.hid (lSame (c := c) (d := c') _ (h1.below hb) (h2.below hb) (by omega) (by omega))
  have HB := Lib.hid hb
  unfold planB
  clear hp h1 h2 hb
  cases hk : k == k' <;> cases d <;> cases d'
  all_goals
    go_enter Tryd.func26, Tryd.ntmps26
    go_wp2_with (go_at_call 23; refine hS.out.mono ?_; rintro e w5 ⟨rfl, hb5⟩)
    go_ret
    first
      | exact ⟨rb (by rfl), HB.out⟩
      | exact ⟨rb (by simp), seq HB.out hb5⟩
set_option maxHeartbeats 800000 in
theorem nothingC (w : World) (k : Int) (d : Bool) (A : Option Addr) (m c : Nat) (l : List ByteArray) (h1 : Rd w A m l) (hm : m ≤ 8796093022208) :
    Calls Tryd.prog 24 #[.agg #[.int .i64 k, .slice A m c, .bool d]] w fun e w' => e = .returned (.bool (planB k 0 d false l [])) ∧ Below w.heap.size w w' := by
  have hb : Below w.heap.size w (w.alloc (.cells #[.int .i64 k, .slice A m c, .bool d] 33)) := (Below.refl _ _).alloc (Nat.le_refl _) _
  have hP := Lib.hid (planL (w.alloc (.cells #[.int .i64 k, .slice A m c, .bool d] 33)) k 0 d false A none m 0 c 0 l [] (h1.below hb) ⟨rfl, fun j hj => absurd hj (Nat.not_lt_zero _)⟩ hm (by omega))
  have HB := Lib.hid hb
  clear h1 hb
  go_enter Tryd.func24, Tryd.ntmps24
  go_wp2_with (go_at_call 26; refine hP.out.mono ?_; rintro e w5 ⟨rfl, hb5⟩)
  go_ret
  exact ⟨rfl, seq HB.out hb5⟩
theorem op_off {s : List ByteArray} {y : ByteArray} (h : opE s y ≠ 0) : opK s y = 0 ∧ opP s y = [] := by
  unfold opE at h
  unfold opK opP
  cases h1 : rightB s <;> cases h2 : inS y 15 <;> rw [h1] at h <;> simp_all
theorem op_on {s : List ByteArray} {y : ByteArray} : 0 ≤ opK s y ∧ opK s y ≤ s.length ∧ (opP s y).length ≤ 4 ∧ ∀ x ∈ opP s y, x ∈ putL := by
  have h1 := askS_len y s
  have h2 := askP_4 y s
  have h3 := askP_mem y s
  unfold opK opP
  split
  · exact ⟨by omega, by omega, h2, h3⟩
  · exact ⟨by omega, by omega, by simp, fun x h => by cases h⟩
end Go.Proofs.YtddgpkdhakjjaaaDoor.Lw
