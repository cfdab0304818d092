/- A set's names in rising order: what names.sorted gives. -/
import Derived.Sort.OwnSorted
import Derived.Sort.KeysCollected
import Derived.Test.YteikagdinecfoaaGreatDoorIn
set_option linter.unusedVariables false
set_option linter.unusedSimpArgs false
namespace Go.Proofs.YteikagdinecfoaaGreatDoor.So
open Go.RowKit Lb St Fl Ls Rt Is

/-- a list of texts, in rising order -/
def srt (l : List ByteArray) : List ByteArray := ((l.map fun s => s.data.toList).mergeSort leB).map str
theorem bts_str (l : List (List UInt8)) : (l.map str).map (fun s : ByteArray => s.data.toList) = l := by
  rw [List.map_map]
  exact List.map_id' l
theorem str_bts (l : List ByteArray) : (l.map fun s : ByteArray => s.data.toList).map str = l := by
  rw [List.map_map]
  have : (str ∘ fun s : ByteArray => s.data.toList) = id := by funext s; exact str_of s
  rw [this, List.map_id]
theorem srt_str (l : List (List UInt8)) : srt (l.map str) = (l.mergeSort leB).map str := by unfold srt; rw [bts_str]
theorem srt_len (l : List ByteArray) : (srt l).length = l.length := by unfold srt; simp
/-- whatever is in rising order and has the same texts -/
theorem srt_eq {l r : List ByteArray} (hp : r.Perm l) (hs : r.Pairwise fun x y => leB x.data.toList y.data.toList = true) : r = srt l := by
  have h1 : (r.map fun s : ByteArray => s.data.toList) = (l.map fun s : ByteArray => s.data.toList).mergeSort leB := by
    have e1 : (r.map fun s : ByteArray => s.data.toList).mergeSort leB = r.map fun s : ByteArray => s.data.toList := List.mergeSort_of_pairwise (List.pairwise_map.2 hs)
    rw [← e1]
    exact mergeSort_of_perm (hp.map _)
  unfold srt
  rw [← h1, str_bts]

theorem own_str {w : World} {B : Nat} {v : Value} {l : List (List UInt8)} : Own w B v (l.map str) ↔ w.ownsRow B 9 1 v l.length (l.map encStr) := by
  unfold Own
  rw [List.length_map, List.map_map]
  exact Iff.rfl
theorem nm_len {k : Nat} (hk : k < 16) : (nm k).length ≤ 2000 := by
  have h1 := flds_length (rtx k) []
  have h2 := len_rt k hk
  have h3 : (nm k).length = (flds [] (rtx k)).length := rfl
  omega
/-- the library's sort, on a row of the call's own -/
theorem libSort {w : World} {B n c : Nat} {A : Option Addr} {l : List (List UInt8)} (h : Own w B (.slice A n c) (l.map str)) (hl : l.length < 4611686018427387904) : Calls Tryz.prog 95 #[.slice A n c] w fun e w' =>
    e = .returned (.tuple #[]) ∧ Own w' B (.slice A n c) (srt (l.map str)) ∧ w.grownBy w' (Value.slice A n c).ownBlock := by
  have h0 := own_str.1 h
  obtain ⟨hx, h0⟩ := h0
  rcases h0 with ⟨hv, hn⟩ | ⟨g, cap, cur, hv, hb, hg, hnc, hcm, hcs, htake⟩
  · injection hv with e1 e2 e3
    subst e1 e2 e3
    have hl0 : l = [] := List.eq_nil_of_length_eq_zero hn
    subst hl0
    refine (Tryz.slices_Sort_string_none none 0 w).mono ?_
    rintro e w' ⟨rfl, rfl⟩
    exact ⟨rfl, by rw [srt_str]; simpa using h, World.grownBy.refl _ _⟩
  · injection hv with e1 e2 e3
    subst e1 e2 e3
    refine (Tryz.slices_Sort_string g 0 c l w (holds_of_block hg (by simpa using htake)) (Array.getElem?_eq_some_iff.1 hg).1 hl).mono ?_
    rintro e w' ⟨rfl, nn, os, rfl⟩
    refine ⟨rfl, ?_, grownBy_sorted _⟩
    rw [srt_str]
    refine own_str.2 ?_
    have := ownsRow_sorted (n := nn) (os := os) (ss := l) (ts := l.mergeSort leB) (by simp) hb hg hnc hcm hcs
    rw [show (l.mergeSort leB).length = l.length from by simp]
    exact this

set_option maxHeartbeats 1000000 in
set_option maxRecDepth 100000 in
theorem sortedC (k : Int) (w : World) (ht : Tab w) (h0 : 0 ≤ k) (h1 : k < 16) : Calls Tryz.prog 140 #[.int .i64 k] w fun e w' => RetS w (srt ((nm k.toNat).map str)) e w' := by
  obtain ⟨i0, hi, hz0, hz1, hz2⟩ := info_parts infoStr
  have hkn : k.toNat < 16 := by omega
  have hidx := fun W => run_index_arr (P := Tryz.prog) (w := W) (kd := .i64) (i := k) (x := .string (str (ptx k.toNat))) Tryz.underlying149 hi hz1 (aggStr W) h0 (by omega) (setVals_at hkn)
  have hlen := nm_len hkn
  have hs := srt_len ((nm k.toNat).map str)
  rw [List.length_map] at hs
  obtain ⟨N, hN⟩ : ∃ N, N = nm k.toNat := ⟨_, rfl⟩
  rw [← hN] at hlen hs ⊢
  have HN := Lib.hid hN
  have HS := Lib.hid hs
  clear hN hs
  go_enter Tryz.func140, Tryz.ntmps140
  go_wp2_with (first
    | (go_at_call 143; refine (nLists _).mono ?_; rintro e w1 ⟨rfl, hb1⟩)
    | (go_at_call 80; refine (libFields k.toNat hkn _ (ht.below hb1)).mono ?_; rintro e w2 ⟨A, c, rfl, hown, hb2⟩; rw [← HN.out] at hown; have hgo := Lib.hid hown)
    | (go_at_call 95; rw [← HN.out]; refine (libSort hgo.out (by omega)).mono ?_; rintro e w3 ⟨rfl, ho3, hg3⟩))
  have hB : w.heap.size ≤ w1.heap.size := hb1.size
  go_ret
  have hb3 : Below w.heap.size w w3 := (seq hb1 hb2).grown hg3 (seq hb1 hb2).size (fun j hj => Nat.le_trans hB (hgo.out.ge j hj))
  obtain ⟨A3, c3, h3⟩ := ho3.form
  have h4 := h3
  injection h4 with r1 r2 r3
  rw [r2]
  exact ⟨A, c, rfl, by
    obtain ⟨q1, q2⟩ := ho3
    rw [← r2]
    exact ⟨q1, q2.elim .inl (fun ⟨g, cap, cur, hv, hb, r⟩ => .inr ⟨g, cap, cur, hv, Nat.le_trans hB hb, r⟩)⟩, hb3⟩
end Go.Proofs.YteikagdinecfoaaGreatDoor.So
