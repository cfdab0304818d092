/- A text up to the limit; the least of three; a row of numbers in memory. -/
import Derived.WalkLawsBesides
import Derived.WalkKit
import Derived.WalkSpells
import Derived.Lib.Hide
import Derived.Test.YtknpppppjmhomaaDoorProg
import Derived.Test.YtknpppppjmhomaaDoorLv
set_option linter.unusedVariables false
set_option linter.unusedSimpArgs false
namespace Go.Proofs.YtknpppppjmhomaaDoor.Sh
open Go.RowKit Lb Lv

def shS (s : ByteArray) : ByteArray := str (sh s)
theorem shS_data (s : ByteArray) : (shS s).data.toList = sh s := rfl
theorem shS_size (s : ByteArray) : (shS s).size = (sh s).length := by unfold shS; exact str_size _
theorem sh_len (s : ByteArray) : (sh s).length ≤ 100 := by unfold sh; rw [List.length_take]; omega
theorem sh_short {s : ByteArray} (h : s.size ≤ 100) : shS s = s := by
  unfold shS sh
  rw [List.take_of_length_le (by rw [size_len]; exact h), str_of]
theorem ext_short {s : ByteArray} {n : Nat} (h : n = s.size) : s.extract 0 n = s := by
  rw [extract_str]
  simp only [List.drop_zero, Nat.sub_zero]
  rw [List.take_of_length_le (by rw [size_len]; omega), str_of]
theorem ext_long {s : ByteArray} : s.extract 0 100 = shS s := by
  rw [extract_str]
  rfl

set_option maxHeartbeats 800000 in
theorem nShort (s : ByteArray) (w : World) (hs : s.size ≤ maxLen) : Calls Tryd.prog 78 #[.string s] w fun e w' => e = .returned (.string (shS s)) ∧ w = w' := by
  have hm : s.size ≤ 9223372036854775807 := by unfold maxLen at hs; omega
  by_cases h : s.size ≤ 100
  · have h2 : (s.size : Int) ≤ 100 := by omega
    have hf := Lib.hid (sh_short h)
    go_enter Tryd.func78, Tryd.ntmps78
    go_wp2
    go_ret
    exact ⟨rs hf.out, rfl⟩
  · have h2 : ¬ (s.size : Int) ≤ 100 := by omega
    have h3 : (100 : Int) ≤ (s.size : Int) := by omega
    have h4 : 100 ≤ s.size := by omega
    go_enter Tryd.func78, Tryd.ntmps78
    go_wp2
    go_ret
    exact ⟨rs ext_long.symm, rfl⟩
set_option maxHeartbeats 800000 in
theorem rFirst (s : ByteArray) (w : World) (hs : s.size ≤ maxLen) : Calls Tryd.prog 79 #[.string s] w fun e w' => e = .returned (.string (shS s)) ∧ w = w' := by
  by_cases h : 100 < s.size
  · have h2 : (100 : Int) < (s.size : Int) := by omega
    have h4 : 100 ≤ s.size := by omega
    go_enter Tryd.func79, Tryd.ntmps79
    go_wp2
    go_ret
    exact ⟨rs (by first | rw [ext_long] | simp [ext_long]), rfl⟩
  · have h2 : ¬ (100 : Int) < (s.size : Int) := by omega
    have hf := Lib.hid (sh_short (s := s) (by omega))
    go_enter Tryd.func79, Tryd.ntmps79
    go_wp2
    go_ret
    exact ⟨rs hf.out, rfl⟩
set_option maxHeartbeats 800000 in
theorem rLeast (a b c : Int) (w : World) : Calls Tryd.prog 80 #[.int .i64 a, .int .i64 b, .int .i64 c] w fun e w' => e = .returned (.int .i64 (min a (min b c))) ∧ w = w' := by
  by_cases h : b < a
  · by_cases h2 : c < b
    all_goals (
      go_enter Tryd.func80, Tryd.ntmps80
      go_wp2
      go_ret
      exact ⟨ri (by omega), rfl⟩)
  · by_cases h2 : c < a
    all_goals (
      go_enter Tryd.func80, Tryd.ntmps80
      go_wp2
      go_ret
      exact ⟨ri (by omega), rfl⟩)

/-! a row of numbers -/
def IR (w : World) (g m : Nat) (f : Nat → Nat) : Prop := ∃ cur, w.heap[g]? = some (.cells cur 3 (0, 0)) ∧ cur.size = m ∧ ∀ j, j < m → cur[j]? = some (.int .i64 (f j : Int))
theorem IR.lt {w : World} {g m : Nat} {f : Nat → Nat} (h : IR w g m f) : g < w.heap.size := by obtain ⟨_, h1, _⟩ := h; exact (Array.getElem?_eq_some_iff.1 h1).1
theorem IR.c {w : World} {g m j : Nat} {f : Nat → Nat} (h : IR w g m f) (hj : j < m) : w.cell? ⟨g, j, none⟩ = some (.int .i64 (f j : Int)) := by
  obtain ⟨cur, h1, h2, h3⟩ := h
  simp [World.cell?, h1, h3 j hj]
theorem IR.fz {w : World} {g m : Nat} {f : Nat → Nat} (h : IR w g m f) (j : Nat) : w.frozen? ⟨g, j, none⟩ = false := by
  obtain ⟨cur, h1, _⟩ := h
  simp [World.frozen?, h1]
theorem IR.below {w w' : World} {g m : Nat} {f : Nat → Nat} (h : IR w g m f) (hb : Below w.heap.size w w') : IR w' g m f := by
  have hl := h.lt
  obtain ⟨cur, h1, r⟩ := h
  exact ⟨cur, (hb.block g hl).trans h1, r⟩
theorem IR.set {w : World} {g m j : Nat} {f f' : Nat → Nat} {x : Nat} (h : IR w g m f) (hj : j < m) (h0 : f' j = x) (h1 : ∀ i, i < m → i ≠ j → f' i = f i) : IR (w.setCell ⟨g, j, none⟩ (.int .i64 (x : Int))) g m f' := by
  obtain ⟨cur, hg, hs, hc⟩ := h
  refine ⟨cur.setIfInBounds j (.int .i64 (x : Int)), by simp [World.setCell, hg, Array.getElem?_modify], by simpa using hs, fun i hi => ?_⟩
  by_cases e : j = i
  · subst e
    rw [Array.getElem?_setIfInBounds]
    simp [hs, hj, h0]
  · rw [Array.getElem?_setIfInBounds, if_neg e, hc i hi, h1 i hi (fun h => e h.symm)]
theorem IR.congr {w : World} {g m : Nat} {f f' : Nat → Nat} (h : IR w g m f) (h1 : ∀ i, i < m → f' i = f i) : IR w g m f' := by
  obtain ⟨cur, hg, hs, hc⟩ := h
  exact ⟨cur, hg, hs, fun i hi => by rw [hc i hi, h1 i hi]⟩
theorem IR.other {w : World} {g m : Nat} {f : Nat → Nat} (h : IR w g m f) {p : Addr} (hp : g ≠ p.block) (u : Value) : IR (w.setCell p u) g m f := by
  obtain ⟨cur, hg, r⟩ := h
  exact ⟨cur, (Below.heap_setCell w p u g hp).trans hg, r⟩
theorem infoInt : (Tryd.prog.info? 3).map (fun i => (i.zero, i.size, i.bytes)) = some (some (.int .i64 0), 1, 8) := by kernel_rfl
theorem info_int : ∃ i, Tryd.prog.info? 3 = some i ∧ i.zero = some (.int .i64 0) ∧ i.size = 1 ∧ i.bytes = 8 := by
  have h := infoInt
  cases hi : Tryd.prog.info? 3 with
  | none => rw [hi] at h; cases h
  | some i =>
    rw [hi] at h
    simp at h
    exact ⟨i, rfl, h⟩
/-- what make lays -/
theorem IR.made {w : World} {base g n : Nat} (h : w.ownsRow base 3 1 (.slice (some ⟨g, 0, none⟩) n n) n (madeCells (Value.int .i64 0).cells (n * 1)).toList) : IR w g n (fun _ => 0) := by
  rcases h.2 with ⟨h1, _⟩ | ⟨g', cap, cur, hv, _, hg, _, _, hcs, htake⟩
  · cases h1
  · injection hv with e1 e2 e3
    injection e1 with e1
    injection e1 with e1
    subst e1 e3
    refine ⟨cur, hg, by omega, fun j hj => ?_⟩
    have h2 : (cur.toList.take (n * 1))[j]? = (madeCells (Value.int .i64 0).cells (n * 1)).toList[j]? := by rw [htake]
    rw [List.getElem?_take_of_lt (by omega), Array.getElem?_toList] at h2
    rw [h2]
    simp [madeCells, Value.cells, hj, Nat.mod_one]
end Go.Proofs.YtknpppppjmhomaaDoor.Sh
