/- All names: Known, of the program and of the reference. -/
import Derived.Lib.SlicesCompact
import Derived.Lib.RowBridge
import Derived.Test.YtknpppppjmhomaaDoorRl
import Derived.Test.YtknpppppjmhomaaDoorStr
set_option linter.unusedVariables false
set_option linter.unusedSimpArgs false
namespace Go.Proofs.YtknpppppjmhomaaDoor.Kn
open Go.RowKit Lb St Fl Ls Rt Is Go.Proofs.YtknpppppjmhomaaDoor.So Rs Rl

def catL (j : Nat) : List (List UInt8) := (List.range j).flatMap nm
theorem cat_succ (j : Nat) : catL (j + 1) = catL j ++ nm j := by unfold catL; rw [List.range_succ, List.flatMap_append]; simp
theorem cat_len : ∀ j, j ≤ 16 → (catL j).length ≤ 2000 * j
  | 0, _ => by simp [catL]
  | j + 1, h => by
    have h1 := cat_len j (by omega)
    have h2 := nm_len (k := j) (by omega)
    rw [cat_succ, List.length_append]
    omega
def srtL : List (List UInt8) := (catL 16).mergeSort leB
def knownB : List (List UInt8) := Lib.compact srtL
def knownL : List ByteArray := knownB.map str
theorem srtL_len : srtL.length ≤ 32000 := by
  unfold srtL
  have := cat_len 16 (Nat.le_refl _)
  simp
  omega
theorem known_len : knownL.length ≤ 32000 := by
  unfold knownL knownB
  rw [List.length_map]
  exact Nat.le_trans (Lib.compact_length_le _) srtL_len

theorem take_put {cur : Array Value} {a b : List (List UInt8)} (h : (a ++ b).length ≤ cur.size) : (Sort.putCells encStr 0 (a ++ b).toArray cur).toList.take a.length = a.map encStr := by
  have h1 := take_putCells cur (a ++ b) h
  have h2 := congrArg (List.take a.length) h1
  rw [List.take_take, List.map_append, List.take_append_of_le_length (by simp)] at h2
  rw [show min a.length (a ++ b).length = a.length from by rw [List.length_append]; omega] at h2
  rw [h2]
  exact List.take_of_length_le (by simp)
/-- the library's Compact, on a row of the call's own -/
theorem libCompact {w : World} {B n c : Nat} {A : Option Addr} {l : List (List UInt8)} (h : Own w B (.slice A n c) (l.map str)) (hl : l.length ≤ 9223372036854775807) : Calls Tryd.prog 77 #[.slice A n c] w fun e w' =>
    e = .returned (.slice A (Lib.compact l).length c) ∧ Own w' B (.slice A (Lib.compact l).length c) ((Lib.compact l).map str) ∧ w.grownBy w' (Value.slice A n c).ownBlock := by
  have h0 := own_str.1 h
  obtain ⟨hx, h0⟩ := h0
  rcases h0 with ⟨hv, hn⟩ | ⟨g, cap, cur, hv, hb, hg, hnc, hcm, hcs, htake⟩
  · injection hv with e1 e2 e3
    subst e1 e2 e3
    have hl0 : l = [] := List.eq_nil_of_length_eq_zero hn
    subst hl0
    refine (Tryd.slices_Compact_string_empty none 0 w).mono ?_
    rintro e w' ⟨rfl, rfl⟩
    exact ⟨rfl, h, World.grownBy.refl _ _⟩
  · injection hv with e1 e2 e3
    subst e1 e2 e3
    have hle := Lib.compact_length_le l
    refine (Tryd.slices_Compact_string g 0 c l w (holds_of_block hg (by simpa using htake)) hl hnc).mono ?_
    rintro e w' ⟨rfl, q, rfl⟩
    have hgr := grownBy_sorted (w := w) (g := g) (n := q) (os := #[]) (Lib.compact l ++ List.replicate (l.length - (Lib.compact l).length) []).toArray
    have hhp := heap_sorted (w := w) (g := g) (n := q) (os := #[]) (Lib.compact l ++ List.replicate (l.length - (Lib.compact l).length) []).toArray hg
    rw [Sort.grow_empty] at hgr hhp
    refine ⟨rfl, own_str.2 ⟨by simp, .inr ⟨g, c, _, rfl, hb, hhp, by omega, hcm, by simp [Sort.putCells, hcs], ?_⟩⟩, hgr⟩
    rw [Nat.mul_one]
    exact take_put (by simp; omega)

set_option maxHeartbeats 4000000 in
set_option maxRecDepth 100000 in
theorem knownC (w : World) (ht : Tab w) : Calls Tryd.prog 55 #[] w fun e w' => RetS w knownL e w' := by
  obtain ⟨i0, hi, hz0, hz1, hz2⟩ := info_parts infoStr
  have HT : Hid (∀ W, Below w.heap.size w W → Tab W) := Lib.hid fun W h => ht.below h
  have hb00 := Below.refl w.heap.size w
  clear ht
  go_enter Tryd.func55, Tryd.ntmps55
  go_wp2_with (go_at_call 71; refine (nLists _).mono ?_; rintro e w1 ⟨rfl, hb1⟩)
  go_loopw [1, 5] (fun v i wr => ∃ (j : Nat) (A : Option Addr) (q c : Nat), j ≤ 16 ∧ i = .int .i64 j ∧ v = .slice A q c ∧ Below w.heap.size w wr ∧ Hid (Own wr w.heap.size (.slice A q c) ((catL j).map str))) (fun _ i _ => 16 - (intOf i).toNat)
  case atStart => exact ⟨0, none, 0, 0, by omega, rfl, rfl, hb1, Lib.hid (Own.nil _ _)⟩
  case round =>
    obtain ⟨j, A, q, c, hj, rfl, rfl, hnx, hown⟩ := hrel
    have hcl := cat_len j hj
    by_cases hlt : j < 16
    · have hb3 : (j : Int) < (16 : Int) := by omega
      have hb0 : (0 : Int) ≤ (j : Int) := by omega
      have hidx := run_index_arr (P := Tryd.prog) (w := wr) (kd := .i64) (i := (j : Int)) (x := .string (str (ptx j))) Tryd.underlying62 hi hz1 (aggStr wr) hb0 hb3 (by rw [Int.toNat_natCast]; exact setVals_at hlt)
      have hnl := nm_len hlt
      have HS := Lib.hid (cat_succ j)
      have hq : Hid (q = (catL j).length) := Lib.hid (by obtain ⟨A', c', hv⟩ := hown.out.form; injection hv with _ e2 _; simpa using e2)
      go_upto_region 5 with fail
      go_wp2_with (first
        | (go_at_call 70; refine (libFields j hlt _ (HT.out _ hnx)).mono ?_; rintro e w2 ⟨A2, c2, rfl, ho2, hb2⟩; have ho3 := hown.out.below hb2; have hcells := ho2.rd.cells; have hzz := (seq hnx hb2).size)
        | (at_builtin; refine wpList_append_src _ rfl (.tmp 8) (.tmp 10) 25 rfl w.heap.size 9 i0 (.string ByteArray.empty) 1 16 Tryd.underlying25 hi hz0 hz1 hz2 rfl (by decide) _ _ _ rfl ho3 A2 (nm j).length c2 (((nm j).map str).map Value.string) rfl (by simp) hcells (by simp [Value.oneCell']) (by unfold maxLen; rw [List.length_map]; omega) (by rw [List.length_map]; omega) hzz ?_; intro v9 w9 hown9 hgrow9 hrow9))
      have ho9 : Own w9 w.heap.size v9 ((catL (j + 1)).map str) := by
        unfold Own
        rw [HS.out]
        simpa using hown9
      obtain ⟨A9, c9, h9⟩ := ho9.form
      subst h9
      go_roundw
      case rel => exact ⟨j + 1, A9, _, c9, by omega, by go_num, rfl, (seq hnx hb2).grown hgrow9 (seq hnx hb2).size (fun k hk => ho3.ge k hk), Lib.hid ho9⟩
      case measure => simp [intOf] <;> omega
    · obtain rfl : j = 16 := by omega
      have hl : (catL 16).length < 4611686018427387904 := by omega
      have hs := srtL_len
      have HO := Lib.hid hown.out
      clear hown
      go_wp2_with (first
        | (go_at_call 76; refine (libSort HO.out hl).mono ?_; rintro e w3 ⟨rfl, ho3, hg3⟩; rw [srt_str] at ho3; have ho4 : Own w3 w.heap.size (.slice A q c) (srtL.map str) := ho3)
        | (go_at_call 77; refine (libCompact ho4 (by omega)).mono ?_; rintro e w5 ⟨rfl, ho5, hg5⟩))
      go_ret
      have hb3 := hnx.grown hg3 hnx.size (fun k hk => HO.out.ge k hk)
      exact ⟨A, c, by unfold knownL knownB; rw [List.length_map]; rfl, by
        have e : knownL.length = (Lib.compact srtL).length := by unfold knownL knownB; rw [List.length_map]
        rw [e]; exact ho5, hb3.grown hg5 hb3.size (fun k hk => ho4.ge k hk)⟩
end Go.Proofs.YtknpppppjmhomaaDoor.Kn
