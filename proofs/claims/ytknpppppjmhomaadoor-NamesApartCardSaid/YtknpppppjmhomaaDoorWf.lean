/- Sets within others, and what no set may have. No program. -/
import Derived.Test.YtknpppppjmhomaaDoorKm
import Derived.Test.YtknpppppjmhomaaDoorCt
import Derived.Laws.OwnMore
import Derived.Deep.Cut
import Derived.Test.YtknpppppjmhomaaDoorRl
set_option linter.unusedVariables false
set_option linter.unusedSimpArgs false
namespace Go.Proofs.YtknpppppjmhomaaDoor.Wf
open Go.RowKit Lb St Is Go.Proofs.YtknpppppjmhomaaDoor.So Kn Km Sh Sy Ct

theorem in_iff {s : ByteArray} {k : Nat} (hk : k < 16) : inS s (k : Int) = true ↔ s.data.toList ∈ nm k := by
  unfold inS inL
  rw [decide_eq_true (by omega : (0 : Int) ≤ (k : Int)), decide_eq_true (by omega : (k : Int) < 16)]
  simp
theorem all_in {s : ByteArray} {k : Nat} {p : List UInt8 → Bool} (hk : k < 16) (h : (nm k).all p = true) (hs : inS s (k : Int) = true) : p s.data.toList = true :=
  List.all_eq_true.1 h _ ((in_iff hk).1 hs)
theorem sub_in {s : ByteArray} {a b : Nat} (ha : a < 16) (hb : b < 16) (h : (nm a).all (fun x => (nm b).contains x) = true) (hs : inS s (a : Int) = true) : inS s (b : Int) = true :=
  (in_iff hb).2 (by simpa using all_in ha h hs)
theorem dis_in {s : ByteArray} {a b : Nat} (ha : a < 16) (hb : b < 16) (h : (nm a).all (fun x => !(nm b).contains x) = true) (hs : inS s (a : Int) = true) : inS s (b : Int) = false := by
  cases hc : inS s (b : Int) with
  | false => rfl
  | true =>
    have h1 := all_in ha h hs
    have h2 := (in_iff hb).1 hc
    simp at h1
    exact absurd h2 h1
theorem d01 : (nm 0).all (fun x => (nm 1).contains x) = true := by decide +kernel
theorem d89 : (nm 8).all (fun x => (nm 9).contains x) = true := by decide +kernel
theorem d8a : (nm 8).all (fun x => (nm 10).contains x) = true := by decide +kernel
theorem d56 : (nm 5).all (fun x => (nm 6).contains x) = true := by decide +kernel
theorem d64 : (nm 6).all (fun x => !(nm 4).contains x) = true := by decide +kernel
theorem df3 : (nm 15).all (fun x => !(nm 3).contains x) = true := by decide +kernel
theorem df2 : (nm 15).all (fun x => !(nm 2).contains x || x == [116, 101, 120, 116, 97, 114, 101, 97]) = true := by decide +kernel
theorem dfs : (nm 15).all (fun x => !(x == [115, 99, 114, 105, 112, 116]) && !(x == [112, 108, 97, 105, 110, 116, 101, 120, 116])) = true := by decide +kernel
theorem dtag : ∀ k, k < 16 → (nm k).all (fun x => wrt false x) = true := by decide +kernel
theorem p01 {s : ByteArray} (h : inS s 0 = true) : inS s 1 = true := sub_in (a := 0) (b := 1) (by omega) (by omega) d01 h
theorem p89 {s : ByteArray} (h : inS s 8 = true) : inS s 9 = true := sub_in (a := 8) (b := 9) (by omega) (by omega) d89 h
theorem p8a {s : ByteArray} (h : inS s 8 = true) : inS s 10 = true := sub_in (a := 8) (b := 10) (by omega) (by omega) d8a h
theorem p56 {s : ByteArray} (h : inS s 5 = true) : inS s 6 = true := sub_in (a := 5) (b := 6) (by omega) (by omega) d56 h
theorem p64 {s : ByteArray} (h : inS s 6 = true) : inS s 4 = false := dis_in (a := 6) (b := 4) (by omega) (by omega) d64 h
theorem pf3 {s : ByteArray} (h : inS s 15 = true) : inS s 3 = false := dis_in (a := 15) (b := 3) (by omega) (by omega) df3 h
theorem pf2 {s : ByteArray} (h : inS s 15 = true) (h2 : inS s 2 = true) : (s.toList != [116, 101, 120, 116, 97, 114, 101, 97]) = false ∧ (s.toList == [116, 101, 120, 116, 97, 114, 101, 97]) = true := by
  have h1 := all_in (k := 15) (by omega) df2 h
  have h3 := (in_iff (k := 2) (by omega)).1 h2
  rw [Lib.toList_data]
  simp at h1
  rcases h1 with h1 | h1
  · exact absurd h3 h1
  · simp [h1]
theorem pfs {s : ByteArray} (h : inS s 15 = true) : (s.toList == [115, 99, 114, 105, 112, 116]) = false ∧ (s.toList == [112, 108, 97, 105, 110, 116, 101, 120, 116]) = false := by
  have h1 := all_in (k := 15) (by omega) dfs h
  rw [Lib.toList_data]
  simp at h1
  simp [h1.1, h1.2]
theorem sets_some {s : ByteArray} (h : 0 < (setsL s 16).length) : ∃ k : Nat, k < 16 ∧ inS s (k : Int) = true := by
  have hm : (setsL s 16)[0] ∈ setsL s 16 := List.getElem_mem _
  exact ⟨_, sets_mem.1 hm⟩
theorem sets_tag {s : ByteArray} (h : 0 < (setsL s 16).length) : wrt false s.data.toList = true := by
  obtain ⟨k, hk, hs⟩ := sets_some h
  exact all_in hk (dtag k hk) hs
theorem known_sets {s : ByteArray} : s ∈ knownL ↔ 0 < (setsL s 16).length := by
  rw [known_mem]
  constructor
  · rintro ⟨k, hk, h⟩
    exact List.length_pos_of_mem (sets_mem.2 ⟨hk, (in_iff hk).2 h⟩)
  · intro h
    obtain ⟨k, hk, hs⟩ := sets_some h
    exact ⟨k, hk, (in_iff hk).1 hs⟩
/-- one for each set that has the name, among the first j -/
def ons (s : ByteArray) (j k : Nat) : Nat := if k ∈ (setsL s 16).take j then 1 else 0
theorem ons_le (s : ByteArray) (j k : Nat) : ons s j k ≤ 1 := by unfold ons; split <;> omega
theorem ons_0 (s : ByteArray) (k : Nat) : ons s 0 k = 0 := by unfold ons; simp
theorem ons_all (s : ByteArray) {k : Nat} (hk : k < 16) : ons s (setsL s 16).length k = cnt [s] k := by
  unfold ons cnt
  rw [List.take_length]
  by_cases h : inS s (k : Int) = true
  · rw [if_pos (sets_mem.2 ⟨hk, h⟩)]; simp [h]
  · rw [if_neg (fun hm => h (sets_mem.1 hm).2)]; simp [h]
theorem ons_new {s : ByteArray} {j : Nat} (h : j < (setsL s 16).length) : ons s j (setsL s 16)[j] = 0 := by
  unfold ons
  rw [if_neg]
  intro hm
  obtain ⟨i, hi, e⟩ := List.getElem_of_mem hm
  rw [List.getElem_take] at e
  rw [List.length_take] at hi
  exact (List.pairwise_iff_getElem.1 (sets_nodup s 16)) i j (by omega) h (by omega) e
theorem ons_at {s : ByteArray} {j : Nat} (h : j < (setsL s 16).length) : ons s (j + 1) (setsL s 16)[j] = 1 := by
  unfold ons
  rw [if_pos]
  have := List.take_succ_eq_append_getElem h
  rw [this]
  exact List.mem_append_right _ (List.mem_singleton.2 rfl)
theorem ons_other {s : ByteArray} {j k : Nat} (h : j < (setsL s 16).length) (hk : k ≠ (setsL s 16)[j]) : ons s (j + 1) k = ons s j k := by
  unfold ons
  have := List.take_succ_eq_append_getElem h
  rw [this]
  simp only [List.mem_append, List.mem_singleton, hk, or_false]
theorem two {a b : Bool} (h : a = true → b = true) : a = false ∨ (a = true ∧ b = true) := by cases a with | false => exact .inl rfl | true => exact .inr ⟨rfl, h rfl⟩
theorem no {a b : Bool} (h : a = true → b = false) : a = false ∨ (a = true ∧ b = false) := by cases a with | false => exact .inl rfl | true => exact .inr ⟨rfl, h rfl⟩
theorem q01 (s : ByteArray) : inS s 0 = false ∨ (inS s 0 = true ∧ inS s 1 = true) := two p01
theorem q8 (s : ByteArray) : inS s 8 = false ∨ (inS s 8 = true ∧ inS s 9 = true ∧ inS s 10 = true) := by
  cases h : inS s 8 with | false => exact .inl rfl | true => exact .inr ⟨rfl, p89 h, p8a h⟩
theorem q56 (s : ByteArray) : inS s 5 = false ∨ (inS s 5 = true ∧ inS s 6 = true) := two p56
theorem q64 (s : ByteArray) : inS s 6 = false ∨ (inS s 6 = true ∧ inS s 4 = false) := no p64
theorem qf (s : ByteArray) : inS s 15 = false ∨ (inS s 15 = true ∧ inS s 3 = false ∧ inS s 2 = false ∧ (s.toList == [115, 99, 114, 105, 112, 116]) = false ∧ (s.toList == [112, 108, 97, 105, 110, 116, 101, 120, 116]) = false) ∨
    (inS s 15 = true ∧ inS s 3 = false ∧ inS s 2 = true ∧ (s.toList != [116, 101, 120, 116, 97, 114, 101, 97]) = false ∧ (s.toList == [116, 101, 120, 116, 97, 114, 101, 97]) = true ∧ (s.toList == [115, 99, 114, 105, 112, 116]) = false ∧ (s.toList == [112, 108, 97, 105, 110, 116, 101, 120, 116]) = false) := by
  cases h : inS s 15 with
  | false => exact .inl rfl
  | true =>
    cases h2 : inS s 2 with
    | false => exact .inr (.inl ⟨rfl, pf3 h, rfl, (pfs h).1, (pfs h).2⟩)
    | true => exact .inr (.inr ⟨rfl, pf3 h, rfl, (pf2 h h2).1, (pf2 h h2).2, (pfs h).1, (pfs h).2⟩)
/-- is the name among the first j? -/
def amg (s : ByteArray) (l : List ByteArray) (j : Nat) : Bool := (l.take j).any fun x => decide (x = s)
theorem amg_0 (s : ByteArray) (l : List ByteArray) : amg s l 0 = false := by unfold amg; simp
theorem amg_succ {s : ByteArray} {l : List ByteArray} {j : Nat} (h : j < l.length) : amg s l (j + 1) = (amg s l j || decide (l[j] = s)) := by
  unfold amg
  have := List.take_succ_eq_append_getElem h
  rw [this, List.any_append]
  simp
theorem amg_all (s : ByteArray) : amg s knownL knownL.length = decide (0 < (setsL s 16).length) := by
  unfold amg
  rw [List.take_length, Bool.eq_iff_iff]
  simp only [decide_eq_true_eq, List.any_eq_true]
  rw [← known_sets]
  constructor
  · rintro ⟨x, h1, rfl⟩; exact h1
  · intro h; exact ⟨s, h, rfl⟩
theorem equal_arr (f : Nat → Nat) (w : World) : (Op.equalIn 10000 48 (.agg (arr f)) (.agg (arr f))).run Tryd.prog w = .ok true w := by
    obtain ⟨i0, hi, hz0, hz1, hz2⟩ := info_int
    have hsz : ∀ w, (sizeOf 3).run Tryd.prog w = .ok 1 w := fun w => by simp [sizeOf, typeInfo, hi, hz1]
    show (Op.equalIn (9998 + 2) 48 (.agg (arr f)) (.agg (arr f))).run Tryd.prog w = .ok true w
    rw [Op.equalIn]
    simp only [Sem.run_bind, run_underlying Tryd.underlying48, Result.andThen_ok, hsz, Std.Legacy.Range.forIn_eq_forIn_range', Std.Legacy.Range.size, Nat.sub_zero, Nat.add_sub_cancel, Nat.div_one]
    have hl : ∀ i ∈ List.range' 0 16 1, i < 16 := fun i hi => by simpa using (List.mem_range'_1.1 hi).2
    generalize List.range' 0 16 1 = l at hl ⊢
    induction l with
    | nil => simp
    | cons i l ih =>
      have hi : i < 16 := hl i (by simp)
      have px : (part 3 (arr f) (i * 1)).run Tryd.prog w = .ok (.int .i64 (f i : Int)) w := by
        simp [part, isAgg, run_underlying Tryd.underlying3, arr_at hi]
      have pe : (Op.equalIn (9998 + 1) 3 (.int .i64 (f i : Int)) (.int .i64 (f i : Int))).run Tryd.prog w = .ok true w := by
        rw [run_equalIn_int w 9998 3 .i64 .i64 _ _ Tryd.underlying3]
        simp
      simp only [List.forIn_cons, Sem.run_bind, px, pe, Result.andThen_ok]
      simp only [Bool.not_true, Bool.false_eq_true, if_false, Sem.run_pure, Result.andThen_ok, Bool.true_and]
      exact ih fun j hj => hl j (by simp [hj])
theorem own_up {w : World} {B B' : Nat} {t : TypeId} {v : Value} {l : List Nat} (h : OwnN w B t v l) (hB : B' ≤ B) : OwnN w B' t v l := by
  obtain ⟨h1, h2⟩ := h
  refine ⟨h1, ?_⟩
  rcases h2 with h2 | ⟨g, cap, cur, hv, hg, r⟩
  · exact .inl h2
  · exact .inr ⟨g, cap, cur, hv, Nat.le_trans hB hg, r⟩
theorem drw (W : World) : Below W.heap.size W W.drew := ⟨rfl, rfl, rfl, Nat.le_refl _, fun _ _ => rfl⟩
end Go.Proofs.YtknpppppjmhomaaDoor.Wf
