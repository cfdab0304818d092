/- What stands in the list of all names. No program. -/
import Derived.Test.YtknpppppjmhomaaDoorKn
set_option linter.unusedVariables false
set_option linter.unusedSimpArgs false
namespace Go.Proofs.YtknpppppjmhomaaDoor.Km
open Go.RowKit Lb St Is Go.Proofs.YtknpppppjmhomaaDoor.So Kn

theorem short_nm : ∀ k, k < 16 → (nm k).all (fun l => decide (l.length ≤ 100)) = true := by decide +kernel
theorem upto_sub (d : Array (List UInt8)) (m : Nat) (hm : m ≤ d.size) {x : List UInt8} (h : x ∈ Lib.compactUpTo d m) : x ∈ d.toList := by
  unfold Lib.compactUpTo at h
  rw [List.mem_map] at h
  obtain ⟨j, hj, rfl⟩ := h
  have hj2 := List.mem_range.1 (List.mem_filter.1 hj).1
  rw [getElem!_pos d j (by omega)]
  exact Array.mem_toList_iff.2 (Array.getElem_mem _)
theorem upto_all (d : Array (List UInt8)) (m : Nat) : ∀ j, j < m → d[j]! ∈ Lib.compactUpTo d m := by
  intro j
  induction j with
  | zero =>
    intro h
    unfold Lib.compactUpTo
    exact List.mem_map.2 ⟨0, List.mem_filter.2 ⟨List.mem_range.2 h, Lib.keeps_lt_one d 0 (by decide)⟩, rfl⟩
  | succ j ih =>
    intro h
    by_cases e : d[j + 1]! = d[j]!
    · rw [e]; exact ih (by omega)
    · unfold Lib.compactUpTo
      exact List.mem_map.2 ⟨j + 1, List.mem_filter.2 ⟨List.mem_range.2 h, Lib.keeps_pos (d := d) (m := j + 1) e⟩, rfl⟩
theorem srtL_mem {x : List UInt8} : x ∈ srtL ↔ ∃ k, k < 16 ∧ x ∈ nm k := by
  unfold srtL
  rw [(List.mergeSort_perm _ _).mem_iff]
  unfold catL
  rw [List.mem_flatMap]
  constructor
  · rintro ⟨k, hk, h⟩; exact ⟨k, List.mem_range.1 hk, h⟩
  · rintro ⟨k, hk, h⟩; exact ⟨k, List.mem_range.2 hk, h⟩
theorem knownB_mem {x : List UInt8} : x ∈ knownB ↔ ∃ k, k < 16 ∧ x ∈ nm k := by
  rw [← srtL_mem]
  unfold knownB Lib.compact
  constructor
  · intro h
    have := upto_sub _ _ (by simp) h
    simpa using this
  · intro h
    obtain ⟨j, hj, rfl⟩ := List.getElem_of_mem h
    have := upto_all srtL.toArray srtL.length j hj
    rw [getElem!_pos srtL.toArray j (by simpa using hj)] at this
    simpa using this
theorem known_mem {x : ByteArray} : x ∈ knownL ↔ ∃ k, k < 16 ∧ x.data.toList ∈ nm k := by
  unfold knownL
  rw [List.mem_map]
  constructor
  · rintro ⟨l, hl, rfl⟩
    exact knownB_mem.1 hl
  · intro h
    exact ⟨_, knownB_mem.2 h, str_of x⟩
theorem known_size {x : ByteArray} (h : x ∈ knownL) : x.size ≤ 100 := by
  obtain ⟨k, hk, hx⟩ := known_mem.1 h
  have := List.all_eq_true.1 (short_nm k hk) _ hx
  rw [← size_len]
  simpa using this
end Go.Proofs.YtknpppppjmhomaaDoor.Km
