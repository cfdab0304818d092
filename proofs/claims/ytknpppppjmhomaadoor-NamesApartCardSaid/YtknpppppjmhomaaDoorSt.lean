/- The sets of a name: names.Sets, and the reference's SetsOf. -/
import Derived.Test.YtknpppppjmhomaaDoorTb
import Derived.Test.YtknpppppjmhomaaDoorSh
set_option linter.unusedVariables false
set_option linter.unusedSimpArgs false
namespace Go.Proofs.YtknpppppjmhomaaDoor.Sy
open Go.RowKit Lb St Fl Ls Rt Is Go.Proofs.YtknpppppjmhomaaDoor.So Mp Tb Sh

def setsL (s : ByteArray) (n : Nat) : List Nat := (List.range n).filter fun k => inS s (k : Int)
def numV (l : List Nat) : List Value := l.map fun (k : Nat) => Value.int .i64 (k : Int)
theorem sets_in {s : ByteArray} {n : Nat} (h : inS s (n : Int) = true) : setsL s (n + 1) = setsL s n ++ [n] := by
  unfold setsL; rw [List.range_succ, List.filter_append]; simp [h]
theorem sets_out {s : ByteArray} {n : Nat} (h : inS s (n : Int) = false) : setsL s (n + 1) = setsL s n := by
  unfold setsL; rw [List.range_succ, List.filter_append]; simp [h]
theorem sets_len (s : ByteArray) (n : Nat) : (setsL s n).length ≤ n := by
  unfold setsL
  exact Nat.le_trans (List.length_filter_le _ _) (by simp)
theorem num_push {l : List Nat} {k : Nat} : numV l ++ [Value.int .i64 (k : Int)] = numV (l ++ [k]) := by unfold numV; simp
theorem num_len (l : List Nat) : (numV l).length = l.length := by unfold numV; simp
/-- a row of numbers of the call's own, of either type -/
def OwnN (w : World) (B : Nat) (t : TypeId) (v : Value) (l : List Nat) : Prop := w.ownsRow B t 1 v l.length (numV l)
theorem OwnN.push {w : World} {B : Nat} {t : TypeId} {v : Value} {l : List Nat} {k : Nat} (h : w.ownsRow B t 1 v (l.length + 1) (numV l ++ [Value.int .i64 (k : Int)])) : OwnN w B t v (l ++ [k]) := by
  unfold OwnN
  rw [num_push] at h
  simpa using h
theorem OwnN.below {w w' : World} {B : Nat} {t : TypeId} {v : Value} {l : List Nat} (h : OwnN w B t v l) (hb : Below w.heap.size w w') : OwnN w' B t v l := by
  obtain ⟨h1, h2⟩ := h
  refine ⟨h1, ?_⟩
  rcases h2 with h2 | ⟨g, cap, cur, hv, hg, hh, r⟩
  · exact Or.inl h2
  · exact Or.inr ⟨g, cap, cur, hv, hg, by rw [hb.block g (Array.getElem?_eq_some_iff.1 hh).1]; exact hh, r⟩
theorem OwnN.form {w : World} {B : Nat} {t : TypeId} {v : Value} {l : List Nat} (h : OwnN w B t v l) : ∃ A c, v = .slice A l.length c := by
  rcases h.2 with ⟨hv, hn⟩ | ⟨g, cap, cur, hv, _⟩
  · rw [hn]; exact ⟨none, 0, hv⟩
  · exact ⟨_, cap, hv⟩
theorem OwnN.alloc {w : World} {B : Nat} {t : TypeId} {v : Value} {l : List Nat} (h : OwnN w B t v l) (o : Obj) : (w.alloc o).ownsRow B t 1 v l.length (numV l) := World.ownsRow.alloc h o
theorem OwnN.nil (w : World) (B : Nat) (t : TypeId) : OwnN w B t (.slice none 0 0) [] := World.ownsRow_nil _ _ _ _
theorem OwnN.ge {w : World} {B : Nat} {t : TypeId} {v : Value} {l : List Nat} (h : OwnN w B t v l) : ∀ k, v.ownBlock = some k → B ≤ k := own_ge h
def RetN (w : World) (t : TypeId) (l : List Nat) (e : Ending) (w' : World) : Prop :=
  ∃ A c, e = .returned (.slice A l.length c) ∧ OwnN w' w.heap.size t (.slice A l.length c) l ∧ Below w.heap.size w w'
theorem infoMap : (Tryd.prog.info? 67).map (fun i => (i.zero, i.size, i.bytes)) = some (some (.map none), 1, 8) := by kernel_rfl
theorem info_map : ∃ i, Tryd.prog.info? 67 = some i ∧ i.size = 1 := by
  have h := infoMap
  cases hi : Tryd.prog.info? 67 with
  | none => rw [hi] at h; cases h
  | some i => rw [hi] at h; simp at h; exact ⟨i, rfl, h.2.1⟩
theorem infoSet : (Tryd.prog.info? 22).map (fun i => (i.zero, i.size, i.bytes)) = some (some (.int .i64 0), 1, 8) := by kernel_rfl
theorem info_set : ∃ i, Tryd.prog.info? 22 = some i ∧ i.zero = some (.int .i64 0) ∧ i.size = 1 ∧ i.bytes = 8 := by
  have h := infoSet
  cases hi : Tryd.prog.info? 22 with
  | none => rw [hi] at h; cases h
  | some i => rw [hi] at h; simp at h; exact ⟨i, rfl, h.1, h.2.1, h.2.2⟩
theorem aggMap (w : World) : (isAgg 67).run Tryd.prog w = .ok false w := by kernel_rfl
theorem look_tab : ∀ (l : List (List UInt8)) (s : ByteArray), (lookL s (tab l)).getD (.bool false) = .bool (l.contains s.data.toList)
  | [], s => rfl
  | y :: r, s => by
    unfold tab
    rw [List.map_cons]
    unfold lookL
    by_cases h : s = str y
    · rw [if_pos h, h]
      simp [str]
    · rw [if_neg h]
      have h1 := look_tab r s
      unfold tab at h1
      have h2 : (s.data.toList == y) = false := by
        rw [beq_eq_false_iff_ne]
        intro e
        exact h (by rw [← e, str_of])
      rw [List.contains_cons, h2, Bool.false_or]
      exact h1
theorem look_in {w : World} {b k : Nat} (hk : k < 16) (h : MapS w b (tab (nm k))) (s : ByteArray) :
    (Instr.lookup 67 (.map (some b)) (.string s) false).run Tryd.prog w = .ok (.bool (inS s (k : Int))) w := by
  have hz : (zeroValue 4).run Tryd.prog w = .ok (.bool false) w := by kernel_rfl
  have h1 := run_look Tryd.underlying67 Tryd.underlying9 h s hz false
  rw [look_tab] at h1
  have h2 : (nm k).contains s.data.toList = inS s (k : Int) := by
    unfold inS inL
    rw [decide_eq_true (by omega : (0 : Int) ≤ (k : Int)), decide_eq_true (by omega : (k : Int) < 16)]
    simp
  rw [h2] at h1
  exact h1

set_option maxHeartbeats 4000000 in
set_option maxRecDepth 100000 in
theorem setsC (s : ByteArray) (w : World) (ht : Tab w) : Calls Tryd.prog 51 #[.string s] w fun e w' => RetN w 22 (setsL s 16) e w' := by
  obtain ⟨im, him, him1⟩ := info_map
  obtain ⟨i0, hi, hz0, hz1, hz2⟩ := info_set
  have hb00 := Below.refl w.heap.size w
  go_enter Tryd.func51, Tryd.ntmps51
  go_wp2_with (go_at_call 75; refine (tableC _ ht).mono ?_; rintro e w1 ⟨bs, hbs, rfl, hms, hb1⟩)
  have Hbs := Lib.hid hbs
  have Hms := Lib.hid hms
  clear hbs hms ht
  obtain ⟨MV, hMV⟩ : ∃ MV, MV = (bs.map fun b => Value.map (some b)).toArray := ⟨_, rfl⟩
  rw [← hMV]
  have HMV := Lib.hid hMV
  clear hMV
  go_loopw [3, 7] (fun v i wr => ∃ (j : Nat) (A : Option Addr) (c : Nat), j ≤ 16 ∧ i = .int .i64 j ∧ v = .slice A (setsL s j).length c ∧ Below w.heap.size w wr ∧ Hid (Below w1.heap.size w1 wr) ∧ Hid (OwnN wr w1.heap.size 22 (.slice A (setsL s j).length c) (setsL s j))) (fun _ i _ => 16 - (intOf i).toNat)
  case atStart => exact ⟨0, none, 0, by omega, rfl, rfl, hb1, Lib.hid (Below.refl _ _), Lib.hid (OwnN.nil _ _ _)⟩
  case round =>
    obtain ⟨j, A, c, hj, rfl, rfl, hnx, hn1, hown⟩ := hrel
    have hsl := sets_len s j
    by_cases hlt : j < 16
    · have hb3 : (j : Int) < (16 : Int) := by omega
      have hb0 : (0 : Int) ≤ (j : Int) := by omega
      have hjb : j < bs.length := by rw [Hbs.out]; exact hlt
      have hidx := run_index_arr (P := Tryd.prog) (w := wr) (kd := .i64) (i := (j : Int)) (cs := MV) (x := .map (some bs[j])) Tryd.underlying68 him him1 (aggMap wr) hb0 hb3 (by rw [Int.toNat_natCast, HMV.out]; simp [hjb])
      have hmj : MapS wr bs[j] (tab (nm j)) := (Hms.out j hjb).below hn1.out
      have hlk := look_in hlt hmj s
      by_cases hin : inS s (j : Int) = true
      · rw [hin] at hlk
        have HIN := Lib.hid (sets_in hin)
        clear hin
        have hsz := hn1.out.size
        have hszw := hnx.size
        go_wp2_with (at_builtin; refine wpList_append_own _ rfl (.tmp 14) (.tmp 16) 23 rfl w1.heap.size 22 i0 (.int .i64 0) 1 8 Tryd.underlying23 hi hz0 hz1 hz2 rfl (by decide) _ _ _ rfl (hown.out.alloc _) ⟨wr.heap.size, 0, none⟩ 1 1 [.int .i64 (j : Int)] rfl rfl (Lb.one_new _ _ _) (Lb.one_cell rfl) (by unfold maxLen; omega) (by omega) (le_alloc hsz _) ?_; intro v9 w9 hown9 hgrow9 _)
        have ho9 : OwnN w9 w1.heap.size 22 v9 (setsL s (j + 1)) := by
          rw [HIN.out]
          exact OwnN.push hown9
        obtain ⟨A9, c9, h9⟩ := ho9.form
        subst h9
        have hb91 := (hn1.out.alloc hsz _).grown hgrow9 (le_alloc hsz _) hown.out.ge
        have hb9 := (hnx.alloc hszw _).grown hgrow9 (le_alloc hszw _) (fun k hk => Nat.le_trans hb1.size (hown.out.ge k hk))
        have ho9 := Lib.hid ho9
        have hb91 := Lib.hid hb91
        have hb9 := Lib.hid hb9
        clear hown9 hgrow9
        go_wp2
        go_roundw
        case rel => exact ⟨j + 1, A9, c9, by omega, by go_num, rfl, hb9.out, hb91, ho9⟩
        case measure => simp [intOf] <;> omega
      · rw [Bool.not_eq_true] at hin
        rw [hin] at hlk
        have HIN := Lib.hid (sets_out hin)
        clear hin
        go_wp2
        go_roundw
        case rel => exact ⟨j + 1, A, c, by omega, by go_num, by rw [HIN.out], hnx, hn1, by rw [HIN.out]; exact hown⟩
        case measure => simp [intOf] <;> omega
    · obtain rfl : j = 16 := by omega
      have HO := Lib.hid hown.out
      clear hown hn1
      go_wp2
      go_ret
      exact ⟨A, c, rfl, ⟨HO.out.1, by
        rcases HO.out.2 with h2 | ⟨g, cap, cur, hv, hg, r⟩
        · exact .inl h2
        · exact .inr ⟨g, cap, cur, hv, Nat.le_trans hb1.size hg, r⟩⟩, hnx⟩

set_option maxHeartbeats 4000000 in
set_option maxRecDepth 100000 in
theorem rSetsC (s : ByteArray) (w : World) : Calls Tryd.prog 52 #[.string s] w fun e w' => RetN w 3 (setsL s 16) e w' := by
  obtain ⟨i0, hi, hz0, hz1, hz2⟩ := info_int
  have hb00 := Below.refl w.heap.size w
  go_enter Tryd.func52, Tryd.ntmps52
  go_wp2
  go_loopw [3, 5] (fun v i wr => ∃ (j : Nat) (A : Option Addr) (c : Nat), j ≤ 16 ∧ i = .int .i64 j ∧ v = .slice A (setsL s j).length c ∧ Below w.heap.size w wr ∧ Hid (OwnN wr w.heap.size 3 (.slice A (setsL s j).length c) (setsL s j))) (fun _ i _ => 16 - (intOf i).toNat)
  case atStart => exact ⟨0, none, 0, by omega, rfl, rfl, hb00, Lib.hid (OwnN.nil _ _ _)⟩
  case round =>
    obtain ⟨j, A, c, hj, rfl, rfl, hnx, hown⟩ := hrel
    have hsl := sets_len s j
    by_cases hlt : j < 16
    · have hb3 : (j : Int) < (16 : Int) := by omega
      have hb0 : (0 : Int) ≤ (j : Int) := by omega
      by_cases hin : inS s (j : Int) = true
      · have HIN := Lib.hid (sets_in hin)
        have hszw := hnx.size
        go_wp2_with (first
          | (go_at_call 48; refine (rIn s (j : Int) _).mono ?_; rintro e w2 ⟨rfl, hb2⟩; have hz2' := hb2.size; rw [hin]; have HO2 := Lib.hid (hown.out.below hb2))
          | (at_builtin; refine wpList_append_own _ rfl (.tmp 11) (.tmp 13) 46 rfl w.heap.size 3 i0 (.int .i64 0) 1 8 Tryd.underlying46 hi hz0 hz1 hz2 rfl (by decide) _ _ _ rfl (HO2.out.alloc _) ⟨w2.heap.size, 0, none⟩ 1 1 [.int .i64 (j : Int)] rfl rfl (Lb.one_new _ _ _) (Lb.one_cell rfl) (by unfold maxLen; omega) (by omega) (le_alloc (Nat.le_trans hszw hz2') _) ?_; intro v9 w9 hown9 hgrow9 _))
        have ho9 : OwnN w9 w.heap.size 3 v9 (setsL s (j + 1)) := by
          rw [HIN.out]
          exact OwnN.push hown9
        obtain ⟨A9, c9, h9⟩ := ho9.form
        subst h9
        have hb3' := seq hnx hb2
        have hb9 := (hb3'.alloc hb3'.size _).grown hgrow9 (le_alloc hb3'.size _) HO2.out.ge
        have ho9 := Lib.hid ho9
        have hb9 := Lib.hid hb9
        clear hown9 hgrow9
        go_wp2
        go_roundw
        case rel => exact ⟨j + 1, A9, c9, by omega, by go_num, rfl, hb9.out, ho9⟩
        case measure => simp [intOf] <;> omega
      · rw [Bool.not_eq_true] at hin
        have HIN := Lib.hid (sets_out hin)
        go_wp2_with (go_at_call 48; refine (rIn s (j : Int) _).mono ?_; rintro e w2 ⟨rfl, hb2⟩; rw [hin]; have HO2 := Lib.hid (hown.out.below hb2))
        go_roundw
        case rel => exact ⟨j + 1, A, c, by omega, by go_num, by rw [HIN.out], seq hnx hb2, by rw [HIN.out]; exact HO2⟩
        case measure => simp [intOf] <;> omega
    · obtain rfl : j = 16 := by omega
      have HO := Lib.hid hown.out
      clear hown
      go_wp2
      go_ret
      exact ⟨A, c, rfl, HO.out, hnx⟩
end Go.Proofs.YtknpppppjmhomaaDoor.Sy
