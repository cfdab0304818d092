/- names.table: all sets as maps. -/
import Derived.WalkLawsBesides
import Derived.Deep.Cut
import Derived.Maps.OwnOps
import Derived.Test.YtknpppppjmhomaaDoorMp
import Derived.Test.YtknpppppjmhomaaDoorSo
import Derived.Test.YtknpppppjmhomaaDoorStr
import Derived.Test.YtknpppppjmhomaaDoorAl
import Derived.Laws.CopyOwn
set_option linter.unusedVariables false
set_option linter.unusedSimpArgs false
namespace Go.Proofs.YtknpppppjmhomaaDoor.Tb
open Go.RowKit Lb St Fl Ls Rt Is Go.Proofs.YtknpppppjmhomaaDoor.So Mp

/-- what the map of a set holds -/
def tab (l : List (List UInt8)) : List (ByteArray × Value) := l.map fun x => (str x, Value.bool true)
theorem nodup_nm : ∀ k, k < 16 → decide ((nm k).Nodup) = true := by decide +kernel
theorem look_none : ∀ (l : List (List UInt8)) (x : List UInt8), x ∉ l → lookL (str x) (tab l) = none
  | [], x, _ => rfl
  | y :: r, x, h => by
    unfold tab
    rw [List.map_cons]
    unfold lookL
    rw [if_neg (fun e => h (by rw [str_inj e]; exact List.mem_cons_self ..))]
    exact look_none r x (fun hx => h (List.mem_cons_of_mem _ hx))
theorem tab_snoc {l : List (List UInt8)} {q : Nat} (h : q < l.length) : tab (l.take (q + 1)) = tab (l.take q) ++ [(str l[q], .bool true)] := by
  unfold tab
  rw [List.take_succ_eq_append_getElem h, List.map_append]
  rfl
theorem fresh {l : List (List UInt8)} (hn : l.Nodup) {q : Nat} (h : q < l.length) : lookL (str l[q]) (tab (l.take q)) = none := by
  refine look_none _ _ (fun hm => ?_)
  obtain ⟨i, hi, e⟩ := List.getElem_of_mem hm
  rw [List.getElem_take] at e
  rw [List.length_take] at hi
  exact (List.pairwise_iff_getElem.1 hn) i q (by omega) h (by omega) e
theorem MapS.grown {w w' : World} {b : Nat} {L : List (ByteArray × Value)} {row : Option Nat} (h : MapS w b L) (hg : w.grownBy w' row) (hne : some b ≠ row) : MapS w' b L := by
  obtain ⟨es, clock, h1, h2⟩ := h
  exact ⟨es, clock, (hg.block b (Array.getElem?_eq_some_iff.1 h1).1 hne).trans h1, h2⟩

/-! the array of maps -/
def mv (bs : List Nat) (r : Nat) : List Value := bs.map (fun b => Value.map (some b)) ++ List.replicate r (.map none)
def AM (w : World) (a : Nat) (l : List Value) : Prop := w.heap[a]? = some (.cells l.toArray 68 (0, 0))
theorem AM.lt {w : World} {a : Nat} {l : List Value} (h : AM w a l) : a < w.heap.size := (Array.getElem?_eq_some_iff.1 h).1
theorem AM.c {w : World} {a j : Nat} {l : List Value} {v : Value} (h : AM w a l) (hj : l[j]? = some v) : w.cell? ⟨a, j, none⟩ = some v := by
  simp [World.cell?, show w.heap[a]? = _ from h, hj]
theorem AM.fz {w : World} {a : Nat} {l : List Value} (h : AM w a l) (j : Nat) : w.frozen? ⟨a, j, none⟩ = false := by simp [World.frozen?, show w.heap[a]? = _ from h]
theorem AM.below {w w' : World} {a : Nat} {l : List Value} (h : AM w a l) (hb : Below w.heap.size w w') : AM w' a l := (hb.block a h.lt).trans h
theorem AM.grown {w w' : World} {a : Nat} {l : List Value} {row : Option Nat} (h : AM w a l) (hg : w.grownBy w' row) (hne : some a ≠ row) : AM w' a l := (hg.block a h.lt hne).trans h
theorem AM.other {w : World} {a : Nat} {l : List Value} (h : AM w a l) {p : Addr} (hp : a ≠ p.block) (u : Value) : AM (w.setCell p u) a l := (Below.heap_setCell w p u a hp).trans h
theorem AM.set {w : World} {a : Nat} {l : List Value} (h : AM w a l) (j : Nat) (v : Value) : AM (w.setCell ⟨a, j, none⟩ v) a (l.set j v) := by
  unfold AM at *
  simp [World.setCell, h, Array.getElem?_modify]
theorem mv_at {bs : List Nat} {r : Nat} : (mv bs (r + 1))[bs.length]? = some (.map none) := by
  unfold mv
  rw [List.getElem?_append_right (by simp)]
  simp
theorem mv_set {bs : List Nat} {r b : Nat} : (mv bs (r + 1)).set bs.length (.map (some b)) = mv (bs ++ [b]) r := by
  unfold mv
  rw [List.set_append_right _ _ (by simp), List.length_map, Nat.sub_self, List.replicate_succ, List.set_cons_zero, List.map_append, List.append_assoc]
  rfl
theorem mv_last {bs : List Nat} {r b : Nat} : (mv (bs ++ [b]) r)[bs.length]? = some (.map (some b)) := by
  unfold mv
  rw [List.getElem?_append_left (by simp), List.map_append, List.getElem?_append_right (by simp)]
  simp
/-- a store of a new key, at the operation -/
theorem wpList_put_new {P : Program} (w : World) {ops : Array Oper} {rest : List Oper} {o : Oper} {a : Act} {Q : Exit → Act → World → Prop}
    (hg : o.guard = none) (m x v : Operand) (t : TypeId) (hop : o.op = Op.mapUpdate t m x v)
    (k e : TypeId) (ht : P.underlying t = some (.map k e)) (hk : P.underlying k = some .string) (b : Nat) (L : List (ByteArray × Value)) (s : ByteArray) (val : Value)
    (hm : a.eval m = .map (some b)) (hown : MapS w b L) (hx : a.eval x = .string s) (hv : a.eval v = val) (hn : lookL s L = none)
    (hK : ∀ w', MapS w' b (L ++ [(s, val)]) → w.grownBy w' (some b) → wpList P ops Q rest (a.put o.dst undef) w') :
    wpList P ops Q (o :: rest) a w := by
  refine wpList_plain hg fun K' hK' => ?_
  obtain ⟨w', hrun, r1, r2⟩ := run_put ht hk hown (v := val) hn
  unfold Oper.wp
  simp [execOp, hop, hm, hx, hv, hrun, Result.andThen]
  exact hK' _ _ (hK w' r1 r2)
theorem grown_trans {a b c : World} {r : Option Nat} (h : a.grownBy b r) (g : b.grownBy c r) : a.grownBy c r :=
  ⟨g.os.trans h.os, g.tape.trans h.tape, g.output.trans h.output, Nat.le_trans h.size g.size, fun k hk hne => (g.block k (Nat.lt_of_lt_of_le hk h.size) hne).trans (h.block k hk hne)⟩
set_option maxHeartbeats 4000000 in
set_option maxRecDepth 100000 in
theorem tableC (w : World) (ht : Tab w) : Calls Tryd.prog 75 #[] w fun e w' => ∃ bs : List Nat, bs.length = 16 ∧ e = .returned (.agg (bs.map fun b => Value.map (some b)).toArray) ∧ (∀ i (h : i < bs.length), MapS w' bs[i] (tab (nm i))) ∧ Below w.heap.size w w' := by
  have hmm := @run_makeMap Tryd.prog
  obtain ⟨i0, hi, hz0, hz1, hz2⟩ := info_parts infoStr
  have HT : Hid (∀ W, Below w.heap.size w W → Tab W) := Lib.hid fun W h => ht.below h
  clear ht
  obtain ⟨a0, ha0⟩ : ∃ a, a = w.heap.size := ⟨_, rfl⟩
  go_enter Tryd.func75, Tryd.ntmps75
  go_upto_region 2 with fail
  obtain ⟨X, hX⟩ : ∃ X, X = (w.alloc (.cells (mv [] 16).toArray 68)).alloc (.cells (mv [] 16).toArray 68) := ⟨_, rfl⟩
  have hX0 : AM X w.heap.size (mv [] 16) := by
    rw [hX]
    have h0 : AM (w.alloc (.cells (mv [] 16).toArray 68)) w.heap.size (mv [] 16) := heap_alloc_new w _
    exact h0.below ((Below.refl _ _).alloc (Nat.le_refl _) _)
  have hX1 : AM X (w.heap.size + 1) (mv [] 16) := by
    rw [hX]
    have h1 := heap_alloc_new (w.alloc (.cells (mv [] 16).toArray 68)) (.cells (mv [] 16).toArray 68)
    have h2 : (w.alloc (.cells (mv [] 16).toArray 68)).heap.size = w.heap.size + 1 := by simp
    rw [h2] at h1
    exact h1
  have hbX : Below w.heap.size w X := hX ▸ ((Below.refl _ _).alloc (Nat.le_refl _) _).alloc (by simp) _
  have hsX : X.heap.size = w.heap.size + 2 := by rw [hX]; simp
  have HX := Lib.hid hX
  clear hX
  go_wp2_with (go_at_call 71; rw [show ((w.alloc (.cells #[.map none, .map none, .map none, .map none, .map none, .map none, .map none, .map none, .map none, .map none, .map none, .map none, .map none, .map none, .map none, .map none] 68)).alloc (.cells #[.map none, .map none, .map none, .map none, .map none, .map none, .map none, .map none, .map none, .map none, .map none, .map none, .map none, .map none, .map none, .map none] 68)) = X from HX.out.symm]; refine (nLists _).mono ?_; rintro e w1 ⟨rfl, hb1⟩)
  have hA0 := hX0.below hb1
  have hA1 := hX1.below hb1
  have hbw1 := seq hbX hb1
  have hs1 := hb1.size
  have HS1 : Hid (w.heap.size + 2 ≤ w1.heap.size) := Lib.hid (by omega)
  have HA0 := Lib.hid hA0
  have HA1 := Lib.hid hA1
  clear hX0 hX1 hA0 hA1 hbX hsX hs1 hb1 ha0
  go_loopw [7] (fun i wr => ∃ (j : Nat) (bs : List Nat), j ≤ 16 ∧ bs.length = j ∧ i = .int .i64 j ∧ Below w.heap.size w wr ∧ Hid (AM wr w.heap.size (mv [] 16)) ∧ Hid (AM wr (w.heap.size + 1) (mv bs (16 - j))) ∧ Hid (∀ i (h : i < bs.length), MapS wr bs[i] (tab (nm i)) ∧ w.heap.size + 2 ≤ bs[i])) (fun i _ => 16 - (intOf i).toNat)
  case atStart => exact ⟨0, [], by omega, rfl, rfl, hbw1, HA0, HA1, Lib.hid fun i h => absurd h (Nat.not_lt_zero _)⟩
  case round =>
    clear hbw1 HA0 HA1
    obtain ⟨j, bs, hj, hbs, rfl, hnx, hA0, hA1, hms⟩ := hrel
    by_cases hlt : j < 16
    · have hb3 : (j : Int) < (16 : Int) := by omega
      have hb0 : (0 : Int) ≤ (j : Int) := by omega
      have hidx := run_index_arr (P := Tryd.prog) (w := wr) (kd := .i64) (i := (j : Int)) (x := .string (str (ptx j))) Tryd.underlying62 hi hz1 (aggStr wr) hb0 hb3 (by rw [Int.toNat_natCast]; exact setVals_at hlt)
      obtain ⟨r, hr⟩ : ∃ r, 16 - j = r + 1 := ⟨15 - j, by omega⟩
      rw [hr] at hA1
      have hal := hA1.out.lt
      obtain ⟨b, hbd⟩ : ∃ b, b = wr.heap.size := ⟨_, rfl⟩
      have hbW : Below wr.heap.size wr (wr.alloc (.map #[] 0)) := (Below.refl _ _).alloc (Nat.le_refl _) _
      have hA1a : AM (wr.alloc (.map #[] 0)) (w.heap.size + 1) (mv bs (r + 1)) := hA1.out.below hbW
      have c1 := hA1a.c (j := j) (by rw [← hbs]; exact mv_at)
      have f1 := hA1a.fz j
      obtain ⟨wq, hwq⟩ : ∃ wq, wq = wr.setCell ⟨w.heap.size + 1, j, none⟩ (.map (some b)) := ⟨_, rfl⟩
      have hqs : wq.heap.size = b := by rw [hwq, hbd]; simp
      have hbQ : Below wq.heap.size wq (wq.alloc (.map #[] 0)) := (Below.refl _ _).alloc (Nat.le_refl _) _
      have hA1s := hA1.out.set j (.map (some b))
      rw [← hbs, mv_set, hbs, ← hwq] at hA1s
      have hA1s := hA1s.below hbQ
      have hMs := MapS.made wq
      rw [hqs] at hMs
      have hA0s := hA0.out.other (p := ⟨w.heap.size + 1, j, none⟩) (by show w.heap.size ≠ w.heap.size + 1; omega) (.map (some b))
      rw [← hwq] at hA0s
      have hA0s := hA0s.below hbQ
      have hold : Hid (∀ i (h : i < bs.length), MapS (wq.alloc (.map #[] 0)) bs[i] (tab (nm i)) ∧ w.heap.size + 2 ≤ bs[i] ∧ bs[i] < b) := Lib.hid fun i h => by
        have h1 := hms.out i h
        refine ⟨?_, h1.2, by rw [hbd]; exact h1.1.lt⟩
        have h2 := h1.1.other (p := ⟨w.heap.size + 1, j, none⟩) (by show bs[i] ≠ w.heap.size + 1; have := h1.2; omega) (.map (some b))
        rw [← hwq] at h2
        exact h2.below hbQ
      have hbs9 := hnx.setCell (p := ⟨w.heap.size + 1, j, none⟩) (Nat.le_succ _) (.map (some b))
      rw [← hwq] at hbs9
      have hbs9 := hbs9.alloc hbs9.size (.map #[] 0)
      have hb9 : Hid (w.heap.size + 2 ≤ b) := Lib.hid (by rw [hbd]; have := hnx.size; have := hal; omega)
      have hs9 : Hid ((wq.alloc (.map #[] 0)).heap.size = b + 1) := Lib.hid (by simp [hqs])
      have HA0s := Lib.hid hA0s
      have HA1s := Lib.hid hA1s
      have HMs := Lib.hid hMs
      have Hbs9 := Lib.hid hbs9
      have Hbs := Lib.hid hbs
      have Hr := Lib.hid hr
      have Hbd := Lib.hid hbd
      have HWQ := Lib.hid hwq
      clear hA0s hA1s hMs hA1a hbW hbs9 hbs hr hA0 hA1 hms hqs hbQ hwq hbd
      go_upto_region 6 with fail
      obtain ⟨W9, hW9⟩ : ∃ W9, W9 = wq.alloc (.map #[] 0) := ⟨_, rfl⟩
      rw [← Hbd.out, ← HWQ.out, ← hW9]
      rw [← hW9] at HA0s HA1s HMs Hbs9 hold hs9
      clear c1 f1 hW9 hal hA1s hA0s hbs9
      go_wp2_with (go_at_call 70; refine (libFields j hlt _ (HT.out _ Hbs9.out)).mono ?_; rintro e w5 ⟨A5, c5, rfl, ho5, hb5⟩)
      have HA0 := Lib.hid (HA0s.out.below hb5)
      have HA1 := Lib.hid (HA1s.out.below hb5)
      have HM := Lib.hid (HMs.out.below hb5)
      have Hold : Hid (∀ i (h : i < bs.length), MapS w5 bs[i] (tab (nm i)) ∧ w.heap.size + 2 ≤ bs[i] ∧ bs[i] < b) := Lib.hid fun i h => ⟨(hold.out i h).1.below hb5, (hold.out i h).2⟩
      have Hb := Lib.hid (seq Hbs9.out hb5)
      have HO5 := Lib.hid ho5
      have hnl := nm_len hlt
      have hnd : (nm j).Nodup := of_decide_eq_true (nodup_nm j hlt)
      clear HA0s HA1s HMs hold Hbs9 ho5 hb5
      go_loopw [17] (fun i wr2 => ∃ q, q ≤ (nm j).length ∧ i = .int .i64 q ∧ Hid (w5.grownBy wr2 (some b)) ∧ Hid (MapS wr2 b (tab ((nm j).take q)))) (fun i _ => (nm j).length - (intOf i).toNat)
      case atStart => exact ⟨0, Nat.zero_le _, rfl, Lib.hid (World.grownBy.refl _ _), HM⟩
      case round =>
        obtain ⟨q, hq, rfl, hgr, hmq⟩ := hrel
        by_cases hlq : q < (nm j).length
        · have hq3 : (q : Int) < ((nm j).length : Int) := by omega
          have hq0 : (0 : Int) ≤ (q : Int) := by omega
          obtain ⟨g, o, rfl, hgB, hgo, hoc, hcell⟩ := Al.own_at HO5.out (j := q) (by rw [List.length_map]; exact hlq)
          have hgne : g ≠ b := by have := hs9.out; omega
          have hcc := hcell wr ((hgr.out.block g (Array.getElem?_eq_some_iff.1 hgo).1 (fun e => hgne (Option.some.inj e))).trans hgo)
          rw [List.getElem_map] at hcc
          have hA1q := HA1.out.grown hgr.out (by have := hb9.out; intro e; injection e with e; omega)
          have c2 := hA1q.c (j := j) (by rw [← Hbs.out]; exact mv_last)
          go_wp2_with (refine wpList_put_new _ rfl (.tmp 23) (.tmp 24) (.const (.bool true)) 67 rfl 9 4 Tryd.underlying67 Tryd.underlying9 b _ (str (nm j)[q]) _ rfl hmq.out rfl rfl (fresh hnd hlq) ?_; intro w7 hm7 hg7)
          go_roundw
          case rel => exact ⟨q + 1, by omega, by go_num, Lib.hid (grown_trans hgr.out hg7), Lib.hid (by rw [tab_snoc hlq]; exact hm7)⟩
          case measure => simp [intOf] <;> omega
        · obtain rfl : q = (nm j).length := by omega
          go_wp2
          have hgr' := hgr.out
          go_roundw
          case rel => exact ⟨j + 1, bs ++ [b], by omega, by rw [List.length_append, Hbs.out]; rfl, by go_num, Hb.out.grown hgr' Hb.out.size (fun k hk => by injection hk with e; have := hb9.out; omega), Lib.hid (HA0.out.grown hgr' (by have := hb9.out; intro e; injection e with e; omega)), Lib.hid (by
            rw [show 16 - (j + 1) = r from by have := Hr.out; omega]
            exact HA1.out.grown hgr' (by have := hb9.out; intro e; injection e with e; omega)), Lib.hid (fun i h => by
            rw [List.length_append] at h
            by_cases hlt2 : i < bs.length
            · rw [List.getElem_append_left hlt2]
              have h1 := Hold.out i hlt2
              exact ⟨MapS.grown h1.1 hgr' (by intro e; injection e with e; omega), h1.2.1⟩
            · have hi2 : i = bs.length := by simp at h; omega
              subst hi2
              rw [List.getElem_append_right (Nat.le_refl _)]
              have h3 := hmq.out
              rw [List.take_length, ← Hbs.out] at h3
              simpa using ⟨h3, hb9.out⟩)⟩
          case measure => simp [intOf] <;> omega
    · obtain rfl : j = 16 := by omega
      have hA1f := hA1.out
      have hA0f := hA0.out
      have hz : (mv bs (16 - 16)).toArray.size = 16 := by unfold mv; simp [hbs]
      have hone : (mv bs (16 - 16)).toArray.all (·.oneCell') = true := by
        rw [Array.all_eq_true_iff_forall_mem]
        intro x hx
        unfold mv at hx
        simp only [Nat.sub_self, List.replicate_zero, List.append_nil, List.mem_toArray, List.mem_map] at hx
        obtain ⟨y, _, rfl⟩ := hx
        rfl
      have hif : (Tryd.prog.info? 68).map (·.size) = some (mv bs (16 - 16)).toArray.size := by rw [hz]; kernel_rfl
      have hz0' : (mv [] 16).toArray.size = (mv bs (16 - 16)).toArray.size := by rw [hz]; rfl
      clear hA1 hA0
      obtain ⟨ms, hms'⟩ : ∃ ms, ms = (mv bs (16 - 16)).toArray := ⟨_, rfl⟩
      have hA1g : wr.heap[w.heap.size + 1]? = some (.cells ms 68 (0, 0)) := by rw [hms']; exact hA1f
      rw [← hms'] at hone hif hz0'
      clear hz hA1f
      have Hms := Lib.hid hms'
      have Hif := Lib.hid hif
      clear hms' hif
      go_wp2_with (first
        | (refine wpList_load_row rfl 68 _ rfl (w.heap.size + 1) rfl _ ms _ _ hA1g Tryd.underlying68 rfl Hif.out ?_)
        | (refine wpList_store_row rfl 68 _ _ rfl w.heap.size ms rfl rfl _ _ hA0f Hif.out hz0' hone ?_))
      have hrow := setRow_heap wr w.heap.size _ ms _ _ hA0f
      clear HT hmm hi hz0 hz1 hz2
      refine bodyPost_ret (results_cell_row rfl _ _ w.heap.size _ ms _ _ rfl hrow Tryd.underlying68 rfl Hif.out) rfl ?_
      refine ⟨bs, hbs, ?_, fun i h => ?_, below_setRow hnx (Nat.le_refl _) ms⟩
      · rw [Hms.out]
        unfold mv
        simp
      · obtain ⟨⟨es, clock, h1, h2⟩, h3⟩ := hms.out i h
        exact ⟨es, clock, (setRow_other wr w.heap.size bs[i] ms (by omega)).trans h1, h2⟩
end Go.Proofs.YtknpppppjmhomaaDoor.Tb
