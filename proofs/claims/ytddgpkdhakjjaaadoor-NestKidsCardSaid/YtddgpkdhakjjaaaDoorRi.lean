/- The reference's inner, unblocked; the names in its constants. -/
import Derived.Test.YtddgpkdhakjjaaaDoorRn
set_option linter.unusedVariables false
set_option linter.unusedSimpArgs false
namespace Go.Proofs.YtddgpkdhakjjaaaDoor.Ri
open Go.RowKit Lb Fl Is Tp Np Wk Wp Wi Wo Pt Oc Pm Go.Proofs.YtddgpkdhakjjaaaDoor.Ask Rt Go.Proofs.YtddgpkdhakjjaaaDoor.Op Aw Lt En El Rn
open Go.Proofs.YtddgpkdhakjjaaaDoor.St (nm inL)

theorem is_dec (x a : ByteArray) (l : List UInt8) (h : a.toList = l) : (x.toList == l) = decide (a = x) := by
  subst h
  rw [eq_str]
  by_cases e : a = x
  · subst e; rfl
  · rw [decide_eq_false e, decide_eq_false (fun h => e h.symm)]
theorem isB_of {some : ByteArray} {l : List ByteArray} (h : fieldsS some = l) (x : ByteArray) : isB some x = l.any fun z => decide (z = x) := by unfold isB; rw [h]
theorem f_groups : fieldsS c_groups = [s_thead, s_tbody, s_tfoot] := by decide +kernel
theorem f_lists : fieldsS c_lists = [s_ul, ⟨#[111, 108]⟩, ⟨#[109, 101, 110, 117]⟩] := by decide +kernel
theorem f_cells : fieldsS c_cells = [s_td, s_th, s_caption] := by decide +kernel
theorem f_walls : fieldsS c_walls = [s_td, s_th, s_caption, s_table] := by decide +kernel
theorem f_col : fieldsS c_col = [s_table, s_colgroup] := by decide +kernel
theorem f_tr : fieldsS c_tr = [s_table, s_thead, s_tbody, s_tfoot] := by decide +kernel
theorem f_td : fieldsS c_td = [s_table, s_thead, s_tbody, s_tfoot, s_tr] := by decide +kernel
theorem f_own : fieldsS c_own = [s_caption, s_colgroup, s_thead, s_tbody, s_tfoot] := by decide +kernel
theorem f_heads : fieldsS c_heads = (nm 5).map str := by decide +kernel
theorem f_p : fieldsS s_p = [s_p] := by decide +kernel
theorem f_a : fieldsS s_a = [s_a] := by decide +kernel
theorem f_dl : fieldsS s_dl = [s_dl] := by decide +kernel
theorem f_table : fieldsS s_table = [s_table] := by decide +kernel
theorem one_B {some y : ByteArray} (h : fieldsS some = [y]) : isB some = namedB y := by
  funext x
  rw [isB_of h, named_eq]
  simp only [List.any_cons, List.any_nil, Bool.or_false]
  by_cases e : y = x
  · subst e; rfl
  · rw [decide_eq_false e, decide_eq_false (fun h => e h.symm)]
theorem groups_B : isB c_groups = groupB := by
  funext x
  rw [isB_of f_groups]
  unfold groupB is_thead is_tbody is_tfoot
  rw [is_dec x s_thead _ (by decide +kernel), is_dec x s_tbody _ (by decide +kernel), is_dec x s_tfoot _ (by decide +kernel)]
  simp [Bool.or_assoc]
theorem lists_B : isB c_lists = listB := by
  funext x
  rw [isB_of f_lists]
  unfold listB is_ul is_ol is_menu
  rw [is_dec x s_ul _ (by decide +kernel), is_dec x ⟨#[111, 108]⟩ _ (by decide +kernel), is_dec x ⟨#[109, 101, 110, 117]⟩ _ (by decide +kernel)]
  simp [Bool.or_assoc]
theorem cells_B : isB c_cells = cellB := by
  funext x
  rw [isB_of f_cells]
  unfold cellB is_td is_th is_caption
  rw [is_dec x s_td _ (by decide +kernel), is_dec x s_th _ (by decide +kernel), is_dec x s_caption _ (by decide +kernel)]
  simp [Bool.or_assoc]
theorem walls_B : isB c_walls = wallB := by
  funext x
  rw [isB_of f_walls]
  unfold wallB cellB is_td is_th is_caption is_table
  rw [is_dec x s_td _ (by decide +kernel), is_dec x s_th _ (by decide +kernel), is_dec x s_caption _ (by decide +kernel), is_dec x s_table _ (by decide +kernel)]
  simp [Bool.or_assoc]
theorem heads_B : isB c_heads = headB := by
  funext x
  rw [isB_of f_heads]
  unfold headB inS inL
  simp only [List.any_map]
  rw [show ((5 : Int).toNat) = 5 from rfl]
  rw [show (decide ((0 : Int) ≤ 5)) = true from rfl, show (decide ((5 : Int) < 16)) = true from rfl]
  simp only [Bool.true_and]
  rw [Bool.eq_iff_iff, List.any_eq_true, List.contains_iff_mem]
  constructor
  · rintro ⟨l, hl, h⟩
    have h2 : str l = x := by simpa using h
    rw [← h2, str_toList]; exact hl
  · intro h
    exact ⟨_, h, by simp [str_of]⟩
theorem col_B : isB c_col = fun x => decide (s_table = x) || decide (s_colgroup = x) := by
  funext x; rw [isB_of f_col]; simp
theorem tr_B : isB c_tr = fun x => decide (s_table = x) || groupB x := by
  funext x; rw [isB_of f_tr, ← groups_B, isB_of f_groups]; simp
theorem td_B : isB c_td = fun x => decide (s_table = x) || (decide (s_thead = x) || (decide (s_tbody = x) || (decide (s_tfoot = x) || decide (s_tr = x)))) := by
  funext x; rw [isB_of f_td]; simp
theorem tab_dec (x : ByteArray) : is_table x = decide (s_table = x) := by unfold is_table; exact is_dec x s_table _ (by decide +kernel)
theorem colB_eq : isB c_col = colB := by
  rw [col_B]; funext x
  unfold colB is_colgroup
  rw [is_dec x s_colgroup _ (by decide +kernel), tab_dec, Bool.or_comm]
theorem trB_eq : isB c_tr = trB := by
  rw [tr_B]; funext x
  unfold trB
  rw [tab_dec, Bool.or_comm]
theorem cellsB_eq : isB c_td = cellsB := by
  rw [td_B]; funext x
  unfold cellsB groupB is_tr is_thead is_tbody is_tfoot
  rw [tab_dec, is_dec x s_tr _ (by decide +kernel), is_dec x s_thead _ (by decide +kernel), is_dec x s_tbody _ (by decide +kernel), is_dec x s_tfoot _ (by decide +kernel)]
  cases decide (s_table = x) <;> cases decide (s_thead = x) <;> cases decide (s_tbody = x) <;> cases decide (s_tfoot = x) <;> cases decide (s_tr = x) <;> rfl

/-! inner -/
def dropCg : List ByteArray → List ByteArray
  | [] => []
  | x :: r => if is_colgroup x then dropCg r else x :: r
def innS (s : List ByteArray) : List ByteArray := (dropCg s.reverse).reverse
def innP (s : List ByteArray) : List ByteArray := addN (topS (innS s))
theorem innS_snoc (l : List ByteArray) (x : ByteArray) : innS (l ++ [x]) = if is_colgroup x then innS l else l ++ [x] := by
  unfold innS
  rw [List.reverse_append, List.reverse_singleton, List.singleton_append, dropCg]
  split <;> simp
theorem topS_snoc (l : List ByteArray) (x : ByteArray) : topS (l ++ [x]) = x := by unfold topS; simp
/-- the row lies behind B0 -/
def Fr (B0 : Nat) (A : Option Addr) (P : List ByteArray) : Prop := ∀ b off sp, A = some ⟨b, off, sp⟩ → P ≠ [] → B0 ≤ b
theorem fr_none (B0 : Nat) (P : List ByteArray) : Fr B0 none P := fun _ _ _ h => by cases h
theorem fr_nil (B0 : Nat) (A : Option Addr) : Fr B0 A [] := fun _ _ _ _ h => absurd rfl h
theorem fr_lit {B0 : Nat} (b off : Nat) (h : B0 ≤ b) (P : List ByteArray) : Fr B0 (some ⟨b, off, none⟩) P := fun b' off' sp e _ => by
  injection e with e
  injection e with e1
  omega
theorem fr_own {B0 B n c : Nat} {W : World} {A : Option Addr} {P : List ByteArray} (h : Fl.Own W B (.slice A n c) P) (hB : B0 ≤ B) : Fr B0 A P := fun b off sp e _ => by
  rcases h.2 with ⟨h1, _⟩ | ⟨g, cap, cur, h1, h2, _⟩
  · injection h1 with h1
    rw [h1] at e; cases e
  · injection h1 with h1
    rw [h1] at e
    injection e with e
    injection e with e1
    omega
/-- how a call that gives a stack cut and what is put in ends -/
def Two (B0 : Nat) (A : Option Addr) (c : Nat) (S P : List ByteArray) (w : World) (e : Ending) (w' : World) : Prop :=
  ∃ A2 c2, e = .returned (.tuple #[.slice A S.length c, .slice A2 P.length c2]) ∧ (Rd w' A2 P.length P ∧ Fr B0 A2 P) ∧ Below w.heap.size w w'
theorem rd_nil (w : World) (A : Option Addr) : Rd w A 0 [] := ⟨rfl, fun j hj => absurd hj (Nat.not_lt_zero _)⟩

theorem noS_pre (s : List ByteArray) : noS s = s.take (noS s).length := by
  unfold noS
  split
  · rw [List.length_take, List.take_eq_take_iff]; omega
  · rw [List.take_length]
set_option maxHeartbeats 1600000 in
set_option maxRecDepth 100000 in
theorem unbC (A : Option Addr) (n c : Nat) (s : List ByteArray) (w : World) (hr : Rd w A n s) (hc : n ≤ c) (hc2 : c ≤ 9223372036854775807) :
    Calls Tryd.prog 74 #[.slice A n c] w fun e w' => e = .returned (.slice A (noS s).length c) ∧ Below w.heap.size w w' := by
  have hA := aboveC A n c s s_p c_walls w hr (by omega) (by decide) (by decide)
  rw [one_B f_p, walls_B] at hA
  have h1 := tm_ge (namedB s_p) wallB s
  have h2 := tm_le (namedB s_p) wallB s
  have hl := hr.1
  have hno : (noS s).length = if 0 ≤ tm (namedB s_p) wallB s then (tm (namedB s_p) wallB s).toNat else n := by
    unfold noS
    split
    · rw [List.length_take]; omega
    · exact hl.symm
  rw [← hl] at h2
  generalize (noS s).length = k at *
  generalize tm (namedB s_p) wallB s = t at *
  have HA := Lib.hid hA
  clear hA hr hl
  by_cases h0 : 0 ≤ t
  · rw [if_pos h0] at hno
    obtain ⟨m, rfl⟩ : ∃ m : Nat, t = m := ⟨t.toNat, by omega⟩
    rw [Int.toNat_natCast] at hno
    rw [hno]
    have hkc : m ≤ c := by omega
    go_enter Tryd.func74, Tryd.ntmps74
    go_wp2_with (go_at_call 59; refine HA.out.mono ?_; rintro e w2 ⟨rfl, hb2⟩)
    go_ret
    exact ⟨rfl, hb2⟩
  · rw [if_neg h0] at hno
    rw [hno]
    go_enter Tryd.func74, Tryd.ntmps74
    go_wp2_with (go_at_call 59; refine HA.out.mono ?_; rintro e w2 ⟨rfl, hb2⟩)
    go_ret
    exact ⟨rfl, hb2⟩
end Go.Proofs.YtddgpkdhakjjaaaDoor.Ri
