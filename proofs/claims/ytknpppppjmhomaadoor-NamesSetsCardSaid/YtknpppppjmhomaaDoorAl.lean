/- names.All: a set's names in rising order, one by one: the iterator. -/
import Derived.RangeFuncNested
import Derived.RangeFuncBound
import Derived.RangeFuncCalls
import Derived.RangeFuncLeaves
import Derived.Shelf.Abstract
import Derived.Shelf.AbstractIn
import Derived.Shelf.RegionOpen
import Derived.WalkKit
import Derived.OwnWalkIn
import Derived.TacticsInMore
import Derived.LoopNIn
import Derived.LoopIn
import Derived.Test.YtknpppppjmhomaaDoorSo
set_option linter.unusedVariables false
set_option linter.unusedSimpArgs false
namespace Go.Proofs.YtknpppppjmhomaaDoor.Al
open Go.RowKit Go.Shelf Lb Fl St Ls Rt Is Go.Proofs.YtknpppppjmhomaaDoor.So

attribute [local go_sem] Oper.semAt_some

/-- the names that come -/
def allL (k : Int) : List ByteArray := if 0 ≤ k ∧ k < 16 then srt ((nm k.toNat).map str) else []
theorem all_len (k : Int) : (allL k).length ≤ 2000 := by
  unfold allL
  split
  · rw [srt_len, List.length_map]; exact nm_len (by omega)
  · exact Nat.zero_le _
/-- with their numbers, the first j -/
def zip (l : List ByteArray) (j : Nat) : List (Nat × ByteArray) := (List.range j).map fun i => (i, l.getD i ⟨#[]⟩)
theorem zip_succ (l : List ByteArray) (j : Nat) : zip l (j + 1) = zip l j ++ [(j, l.getD j ⟨#[]⟩)] := by simp [zip, List.range_succ]
theorem zip_len (l : List ByteArray) (j : Nat) : (zip l j).length = j := by simp [zip]

theorem grown_below {W W' : World} (h : Below W.heap.size W W') : W.grownBy W' none := ⟨h.os, h.tape, h.output, h.size, fun k hk _ => h.block k hk⟩

/-- what a round keeps of a block that is none of the body's -/
def Leaves (Kp : World → World → Prop) (Safe : World → Nat → Prop) : Prop := ∀ W W', Kp W W' → ∀ g o, W.heap[g]? = some o → o.isCells = true → Safe W g → W'.heap[g]? = some o ∧ Safe W' g

theorem own_at {w : World} {B n c : Nat} {A : Option Addr} {l : List ByteArray} (h : Fl.Own w B (.slice A n c) l) {j : Nat} (hj : j < l.length) :
    ∃ g o, A = some ⟨g, 0, none⟩ ∧ B ≤ g ∧ w.heap[g]? = some o ∧ o.isCells = true ∧ ∀ W' : World, W'.heap[g]? = some o → W'.cell? ⟨g, j, none⟩ = some (.string l[j]) := by
  obtain ⟨g, hA, hB, hg, _, hc, _⟩ := h.store hj ⟨#[]⟩
  rcases h.2 with ⟨_, h0⟩ | ⟨g', cap, cur, hv, hb, hgg, _⟩
  · omega
  · injection hv with e1 e2 e3
    rw [hA] at e1
    injection e1 with e1
    injection e1 with e1
    subst e1
    refine ⟨g, _, hA, hB, hgg, rfl, fun W' hW' => ?_⟩
    rw [← hc]
    unfold World.cell?
    simp only [hW', hgg]
set_option maxRecDepth 100000 in
set_option maxHeartbeats 4000000 in
theorem all1 (n : Nat) (hn : 2 ≤ n) (lp Bs n₀ : Nat) (k : Int) (Kp : World → World → Prop) (Safe : World → Nat → Prop) (hkp : Leaves Kp Safe) (J Jx : List (Nat × ByteArray) → World → Prop)
    (W : World) (ht : Tab W) (hBs : W.cell? ⟨Bs, 0, none⟩ = some (.int .i64 k)) (hJ : AbidesFrom W.heap.size J) (hJx : AbidesFrom W.heap.size Jx)
    (hsafe : ∀ W2, Below W.heap.size W W2 → ∀ g, W.heap.size ≤ g → Safe W2 g)
    (hY : ∀ pre x W1, J pre W1 → pre.length < (allL k).length → YieldAt Fence.wide (n - 1) Tryd.prog lp #[.int .i64 (x.1 : Int), .string x.2] W1 fun e W' =>
      (e = .returned (.bool true) ∧ J (pre ++ [x]) W' ∧ Kp W1 W') ∨ (e = .returned (.bool false) ∧ Jx (pre ++ [x]) W'))
    (h0 : J [] W) :
    CallsIn Fence.wide n Tryd.prog 74 #[.func (.yield lp) #[] #[], .pointer (some ⟨Bs, 0, none⟩)] W fun e W' => (∃ v, e = .returned v) ∧
      ((∃ ys, ys = zip (allL k) (allL k).length ∧ J ys W') ∨ (∃ pre, (∃ j, j ≤ (allL k).length ∧ pre = zip (allL k) j) ∧ Jx pre W')) := by
  have hro : Fence.wide.round = none := rfl
  have HIS := Lib.hid (fun W => (callsIn_wide (n := n - 1)).2 (nIsSet k W))
  by_cases hk : 0 ≤ k ∧ k < 16
  · have hL : allL k = srt ((nm k.toNat).map str) := by unfold allL; rw [if_pos hk]
    have hb : (decide (0 ≤ k) && decide (k < 16)) = true := by simp [hk.1, hk.2]
    rw [hb] at HIS
    have hS := sortedC k W ht hk.1 hk.2
    rw [← hL] at hS
    have hlen := all_len k
    generalize allL k = L at *
    have HS := Lib.hid ((callsIn_wide (n := n - 1)).2 hS)
    have HJ := Lib.hid hJ
    have HY := Lib.hid hY
    have HSAFE := Lib.hid hsafe
    have HJ0 := Lib.hid h0
    have HKP := Lib.hid hkp
    clear hS hJ hJx hY hsafe h0 hL hkp hb hk
    refine callsIn_of_wp Tryd.func74 rfl trivial ?_ hro
    simp only [Tryd.ntmps74, List.size_toArray, List.length_cons, List.length_nil, Nat.reduceAdd, Nat.reduceSub, Array.replicate_succ, Array.replicate_zero, List.push_toArray, List.append_toArray, List.nil_append, List.cons_append]
    gi_wp2_with (first
      | (refine ⟨trivial, fun _ => by omega, ?_⟩; gi_at_call 68; refine (HIS.out W).mono ?_; rintro e w1 ⟨rfl, rfl⟩)
      | (refine ⟨trivial, fun _ => by omega, ?_⟩; gi_at_call 69; refine HS.out.mono ?_; rintro e w2 ⟨A2, c2, rfl, ho2, hb2⟩))
    have HO := Lib.hid (fun (j : Nat) (hj : j < L.length) => own_at ho2 hj)
    have hkeep0 : Hid (∀ g, A2 = some ⟨g, 0, none⟩ → ∀ o, W.heap.size ≤ g → w2.heap[g]? = some o → o.isCells = true → w2.heap[g]? = some o ∧ Safe w2 g) := Lib.hid fun g e o h1 h2 h3 => ⟨h2, HSAFE.out w2 hb2 g h1⟩
    have hj2 := HJ.out _ _ _ none HJ0.out (grown_below hb2) (fun r e => by cases e)
    clear HJ HJ0 HSAFE HS HIS ho2 hb2
    gi_loopw [11] (fun i wr => ∃ j : Nat, j ≤ L.length ∧ i = .int .i64 j ∧ J (zip L j) wr ∧ Hid (∀ g, A2 = some ⟨g, 0, none⟩ → ∀ o, W.heap.size ≤ g → w2.heap[g]? = some o → o.isCells = true → wr.heap[g]? = some o ∧ Safe wr g))
      (fun i _ => L.length - (intOf i).toNat)
    case atStart => exact ⟨0, Nat.zero_le _, rfl, hj2, hkeep0⟩
    case round =>
      clear hj2 hkeep0
      obtain ⟨j, hj, rfl, hJs, hkeep⟩ := hrel
      by_cases hlt : j < L.length
      · obtain ⟨g, o, rfl, hge, hgo, hoc, hcell⟩ := HO.out j hlt
        have hg := hkeep.out g rfl o hge hgo hoc
        have hcx := hcell wr hg.1
        have hb3 : (j : Int) < (L.length : Int) := by omega
        have hb0 : (0 : Int) ≤ (j : Int) := by omega
        obtain ⟨fn, tmps, assign, body, hy, hR⟩ := HY.out (zip L j) (j, L[j]) wr hJs (by rw [zip_len]; exact hlt)
        dsimp only at hy
        have HZ : Hid (zip L (j + 1) = zip L j ++ [(j, L[j])]) := Lib.hid (by rw [zip_succ, List.getD_eq_getElem?_getD, List.getElem?_eq_getElem hlt, Option.getD_some])
        obtain ⟨y, hy2⟩ : ∃ y, y = L[j] := ⟨_, rfl⟩
        rw [← hy2] at hcx hy hR HZ
        clear hy2 hcell
        have HKEEP := hkeep
        have HG := Lib.hid hg
        clear hg hkeep
        gi_wp2
        refine ⟨fun _ => by omega, hR.mono ?_⟩
        rintro e W3 (⟨rfl, hJ3, hk3⟩ | ⟨rfl, hJx3⟩)
        · gi_wp2
          go_roundw
          case rel =>
            refine ⟨j + 1, by omega, by go_num, by rw [HZ.out]; exact hJ3, Lib.hid fun g' e' o' h1 h2 h3 => ?_⟩
            have h4 := HKEEP.out g' e' o' h1 h2 h3
            exact HKP.out _ _ hk3 g' o' h4.1 h3 h4.2
          case measure => simp [intOf] <;> omega
        · gi_wp2
          refine bodyPost_ret (results_none rfl _ _ _) rfl ?_
          exact ⟨⟨_, rfl⟩, .inr ⟨_, ⟨j + 1, by omega, HZ.out.symm⟩, hJx3⟩⟩
      · obtain rfl : j = L.length := by omega
        gi_wp2
        go_end0
        exact ⟨⟨_, rfl⟩, .inl ⟨_, rfl, hJs⟩⟩
  · have hL : allL k = [] := by unfold allL; rw [if_neg hk]
    have hb : (decide (0 ≤ k) && decide (k < 16)) = false := by
      rw [Bool.and_eq_false_iff, decide_eq_false_iff_not, decide_eq_false_iff_not]; omega
    rw [hb] at HIS
    rw [hL]
    have HJ0 := Lib.hid h0
    clear hJ hJx hY hsafe h0 hL hkp hb hk
    refine callsIn_of_wp Tryd.func74 rfl trivial ?_ hro
    simp only [Tryd.ntmps74, List.size_toArray, List.length_cons, List.length_nil, Nat.reduceAdd, Nat.reduceSub, Array.replicate_succ, Array.replicate_zero, List.push_toArray, List.append_toArray, List.nil_append, List.cons_append]
    gi_wp2_with (refine ⟨trivial, fun _ => by omega, ?_⟩; gi_at_call 68; refine (HIS.out W).mono ?_; rintro e w1 ⟨rfl, rfl⟩)
    refine bodyPost_ret (results_none rfl _ _ _) rfl ?_
    exact ⟨⟨_, rfl⟩, .inl ⟨_, rfl, HJ0.out⟩⟩
set_option maxHeartbeats 1000000 in
theorem allIn (n : Nat) (hn : 1 ≤ n) (k : Int) (w : World) :
    CallsIn Fence.wide n Tryd.prog 50 #[.int .i64 k] w fun e w' => e = .returned (.func (.func 74) #[] #[.pointer (some ⟨w.heap.size, 0, none⟩)]) ∧ w' = w.alloc (.cells #[.int .i64 k] 22) := by
  refine callsIn_of_wp Tryd.func50 rfl trivial ?_ rfl
  simp only [Tryd.ntmps50, List.size_toArray, List.length_cons, List.length_nil, Nat.reduceAdd, Nat.reduceSub, Array.replicate_succ, Array.replicate_zero, List.push_toArray, List.append_toArray, List.nil_append, List.cons_append]
  gi_wp2
  go_ret
  exact ⟨rfl, rfl⟩
/-- THE ITERATOR's CONTRACT -/
theorem allStops (n : Nat) (hn : 2 ≤ n) (Bs : Nat) (k : Int) (Kp : World → World → Prop) (Safe : World → Nat → Prop) (hkp : Leaves Kp Safe) (w : World) (ht : Tab w) (hBl : Bs < w.heap.size) (hBs : w.cell? ⟨Bs, 0, none⟩ = some (.int .i64 k))
    (hsafe : ∀ W2, Below w.heap.size w W2 → ∀ g, w.heap.size ≤ g → Safe W2 g) :
    SeqStopsK Fence.wide n Tryd.prog 74 #[.pointer (some ⟨Bs, 0, none⟩)] (fun x : Nat × ByteArray => #[Value.int .i64 (x.1 : Int), Value.string x.2]) Kp (fun ys => ys = zip (allL k) (allL k).length)
      (fun pre => ∃ j, j ≤ (allL k).length ∧ pre = zip (allL k) j) (allL k).length w := fun lp J Jx W hW hJ hJx hY h0 =>
  all1 n hn lp Bs 0 k Kp Safe hkp J Jx W (ht.below hW) ((hW.cell (p := ⟨Bs, 0, none⟩) hBl).trans hBs) hJ hJx (fun W2 h g hg => hsafe W2 (seq hW h) g (Nat.le_trans hW.size hg)) hY h0
end Go.Proofs.YtknpppppjmhomaaDoor.Al
