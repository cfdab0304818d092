/- nest: the functions of the parts of a table. -/
import Derived.Test.YtddgpkdhakjjaaaDoorWo
set_option linter.unusedVariables false
set_option linter.unusedSimpArgs false
namespace Go.Proofs.YtddgpkdhakjjaaaDoor.Pt
open Go.RowKit Lb Fl Is Tp Np Wk Wp Wi Wo

def noneF (_ : ByteArray) : List ByteArray := []
def cellsB (s : ByteArray) : Bool := is_tr s || groupB s || is_table s
def cellsF (s : ByteArray) : List ByteArray := if is_tr s then [] else if is_table s then [s_tbody, s_tr] else [s_tr]
def colB (s : ByteArray) : Bool := is_colgroup s || is_table s
def colF (s : ByteArray) : List ByteArray := if is_table s then [s_colgroup] else []
def trB (s : ByteArray) : Bool := groupB s || is_table s
def trF (s : ByteArray) : List ByteArray := if is_table s then [s_tbody] else []

theorem own_lit {w : World} {B : Nat} (hB : B ≤ w.heap.size) (l : List ByteArray) (hl : l.length ≤ 1000) : Fl.Own (w.alloc (.cells (l.map Value.string).toArray 9)) B (.slice (some ⟨w.heap.size, 0, none⟩) l.length l.length) l := by
  unfold Fl.Own
  have := World.ownsRow_lit (base := B) (e := 9) (size := 1) w (l.map Value.string).toArray l.length hB (by unfold maxLen; omega) (by simp)
  simp at this
  exact this

set_option maxHeartbeats 400000 in
theorem none1C (s : ByteArray) (w : World) : Calls Tryd.prog 82 #[.string s] w fun e w' => e = .returned (.slice none 0 0) ∧ w = w' := by
  go_enter Tryd.func82, Tryd.ntmps82
  go_wp2
  go_ret
  exact ⟨rfl, rfl⟩
theorem noneU : Pu 82 #[] noneF :=
  ⟨enters_of Tryd.func82 (by kernel_rfl) rfl, fun W s => (none1C s W).mono fun _ _ ⟨h1, h2⟩ => ⟨none, 0, h1, h2 ▸ Fl.Own.nil _ _, h2 ▸ Below.refl _ _⟩⟩

set_option maxHeartbeats 800000 in
theorem cells2C (s : ByteArray) (w : World) : Calls Tryd.prog 83 #[.string s] w fun e w' => e = .returned (.bool (cellsB s)) ∧ w = w' := by
  cases h1 : (s.toList == [116, 114]) <;> cases h2 : groupB s <;> cases h3 : (s.toList == [116, 97, 98, 108, 101])
  all_goals
    go_enter Tryd.func83, Tryd.ntmps83
    go_wp2_with (go_at_call 54; refine (groupC _ _).mono ?_; rintro e w' ⟨rfl, rfl⟩)
    all_goals (go_ret; exact ⟨rb (by simp [cellsB, is_tr, is_table, h1, h2, h3]), rfl⟩)
theorem cellsP (w : World) : Pd w 83 #[] cellsB :=
  ⟨enters_of Tryd.func83 (by kernel_rfl) rfl, fun W _ s => (cells2C s W).mono fun _ _ ⟨h1, h2⟩ => ⟨h1, h2 ▸ Below.refl _ _⟩⟩

set_option maxHeartbeats 800000 in
theorem cells3C (s : ByteArray) (w : World) : Calls Tryd.prog 84 #[.string s] w fun e w' => ∃ A c, e = .returned (.slice A (cellsF s).length c) ∧ Fl.Own w' w.heap.size (.slice A (cellsF s).length c) (cellsF s) ∧ Below w.heap.size w w' := by
  have hb := fun o => (Below.refl w.heap.size w).alloc (Nat.le_refl _) o
  cases h1 : (s.toList == [116, 114])
  · cases h3 : (s.toList == [116, 97, 98, 108, 101])
    · have e : cellsF s = [s_tr] := by unfold cellsF is_tr is_table; rw [h1, h3]; rfl
      rw [e]
      have ho := Lib.hid (own_lit (w := w) (Nat.le_refl _) [s_tr] (by simp))
      clear e
      go_enter Tryd.func84, Tryd.ntmps84
      go_wp2
      go_ret
      exact ⟨_, _, rfl, ho.out, hb _⟩
    · have e : cellsF s = [s_tbody, s_tr] := by unfold cellsF is_tr is_table; rw [h1, h3]; rfl
      rw [e]
      have ho := Lib.hid (own_lit (w := w) (Nat.le_refl _) [s_tbody, s_tr] (by simp))
      clear e
      go_enter Tryd.func84, Tryd.ntmps84
      go_wp2
      go_ret
      exact ⟨_, _, rfl, ho.out, hb _⟩
  · have e : cellsF s = [] := by unfold cellsF is_tr; rw [h1]; rfl
    rw [e]
    clear e
    go_enter Tryd.func84, Tryd.ntmps84
    go_wp2
    go_ret
    exact ⟨_, _, rfl, Fl.Own.nil _ _, Below.refl _ _⟩
theorem cellsU : Pu 84 #[] cellsF :=
  ⟨enters_of Tryd.func84 (by kernel_rfl) rfl, fun W s => cells3C s W⟩

set_option maxHeartbeats 800000 in
theorem col4C (s : ByteArray) (w : World) : Calls Tryd.prog 85 #[.string s] w fun e w' => e = .returned (.bool (colB s)) ∧ w = w' := by
  cases h1 : (s.toList == [99, 111, 108, 103, 114, 111, 117, 112]) <;> cases h3 : (s.toList == [116, 97, 98, 108, 101])
  all_goals
    go_enter Tryd.func85, Tryd.ntmps85
    go_wp2
    all_goals (go_ret; exact ⟨rb (by simp [colB, is_colgroup, is_table, h1, h3]), rfl⟩)
theorem colP (w : World) : Pd w 85 #[] colB :=
  ⟨enters_of Tryd.func85 (by kernel_rfl) rfl, fun W _ s => (col4C s W).mono fun _ _ ⟨h1, h2⟩ => ⟨h1, h2 ▸ Below.refl _ _⟩⟩

set_option maxHeartbeats 800000 in
theorem tr6C (s : ByteArray) (w : World) : Calls Tryd.prog 87 #[.string s] w fun e w' => e = .returned (.bool (trB s)) ∧ w = w' := by
  cases h2 : groupB s <;> cases h3 : (s.toList == [116, 97, 98, 108, 101])
  all_goals
    go_enter Tryd.func87, Tryd.ntmps87
    go_wp2_with (go_at_call 54; refine (groupC _ _).mono ?_; rintro e w' ⟨rfl, rfl⟩)
    all_goals (go_ret; exact ⟨rb (by simp [trB, is_table, h2, h3]), rfl⟩)
theorem trP (w : World) : Pd w 87 #[] trB :=
  ⟨enters_of Tryd.func87 (by kernel_rfl) rfl, fun W _ s => (tr6C s W).mono fun _ _ ⟨h1, h2⟩ => ⟨h1, h2 ▸ Below.refl _ _⟩⟩

set_option maxHeartbeats 800000 in
theorem col5C (s : ByteArray) (w : World) : Calls Tryd.prog 86 #[.string s] w fun e w' => ∃ A c, e = .returned (.slice A (colF s).length c) ∧ Fl.Own w' w.heap.size (.slice A (colF s).length c) (colF s) ∧ Below w.heap.size w w' := by
  have hb := fun o => (Below.refl w.heap.size w).alloc (Nat.le_refl _) o
  cases h3 : (s.toList == [116, 97, 98, 108, 101])
  · have e : colF s = [] := by unfold colF is_table; rw [h3]; rfl
    rw [e]
    clear e
    go_enter Tryd.func86, Tryd.ntmps86
    go_wp2
    go_ret
    exact ⟨_, _, rfl, Fl.Own.nil _ _, Below.refl _ _⟩
  · have e : colF s = [s_colgroup] := by unfold colF is_table; rw [h3]; rfl
    rw [e]
    have ho := Lib.hid (own_lit (w := w) (Nat.le_refl _) [s_colgroup] (by simp))
    clear e
    go_enter Tryd.func86, Tryd.ntmps86
    go_wp2
    go_ret
    exact ⟨_, _, rfl, ho.out, hb _⟩
theorem colU : Pu 86 #[] colF :=
  ⟨enters_of Tryd.func86 (by kernel_rfl) rfl, fun W s => col5C s W⟩

set_option maxHeartbeats 800000 in
theorem tr7C (s : ByteArray) (w : World) : Calls Tryd.prog 88 #[.string s] w fun e w' => ∃ A c, e = .returned (.slice A (trF s).length c) ∧ Fl.Own w' w.heap.size (.slice A (trF s).length c) (trF s) ∧ Below w.heap.size w w' := by
  have hb := fun o => (Below.refl w.heap.size w).alloc (Nat.le_refl _) o
  cases h3 : (s.toList == [116, 97, 98, 108, 101])
  · have e : trF s = [] := by unfold trF is_table; rw [h3]; rfl
    rw [e]
    clear e
    go_enter Tryd.func88, Tryd.ntmps88
    go_wp2
    go_ret
    exact ⟨_, _, rfl, Fl.Own.nil _ _, Below.refl _ _⟩
  · have e : trF s = [s_tbody] := by unfold trF is_table; rw [h3]; rfl
    rw [e]
    have ho := Lib.hid (own_lit (w := w) (Nat.le_refl _) [s_tbody] (by simp))
    clear e
    go_enter Tryd.func88, Tryd.ntmps88
    go_wp2
    go_ret
    exact ⟨_, _, rfl, ho.out, hb _⟩
theorem trU : Pu 88 #[] trF :=
  ⟨enters_of Tryd.func88 (by kernel_rfl) rfl, fun W s => tr7C s W⟩
end Go.Proofs.YtddgpkdhakjjaaaDoor.Pt
