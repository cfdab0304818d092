/- policy.All: each rule that holds for each element: the iterator. -/
import Derived.RangeFuncNested
import Derived.RangeFuncBound
import Derived.RangeFuncCalls
import Derived.RangeFuncLeaves
import Derived.Shelf.Abstract
import Derived.Shelf.AbstractIn
import Derived.Shelf.RegionOpen
import Derived.WalkKit
import Derived.OwnWalkIn
import Derived.TacticsInMore
import Derived.LoopNIn
import Derived.LoopIn
import Derived.Stop.RegionWithIn
import Derived.Test.YteikagdinecfoaaGreatDoorNv
import Derived.Test.YteikagdinecfoaaGreatDoorEs
import Derived.Test.YteikagdinecfoaaGreatDoorCh
set_option linter.unusedVariables false
set_option linter.unusedSimpArgs false
namespace Go.Proofs.YteikagdinecfoaaGreatDoor.Ai
open Go.RowKit Go.Shelf Lb Gr Pd Fl Go.Proofs.YteikagdinecfoaaGreatDoor.Pm Bk Ru Co Is Go.Proofs.YteikagdinecfoaaGreatDoor.Ha Go.Proofs.YteikagdinecfoaaGreatDoor.Rm Go.Proofs.YteikagdinecfoaaGreatDoor.Nv

attribute [local go_sem] Oper.semAt_some

/-- what a round keeps: all that holds cells -/
def KpC (W W' : World) : Prop := W.heap.size ≤ W'.heap.size ∧ ∀ (k : Nat) (o : Obj), W.heap[k]? = some o → o.isCells = true → W'.heap[k]? = some o
theorem kpC_below {W W' : World} (h : Below W.heap.size W W') : KpC W W' := ⟨h.size, fun k o hk _ => (h.block k (Array.getElem?_eq_some_iff.1 hk).1).trans hk⟩
theorem kpC_t {A B C : World} (h : KpC A B) (g : KpC B C) : KpC A C := ⟨Nat.le_trans h.1 g.1, fun k o hk ho => g.2 k o (h.2 k o hk ho) ho⟩
theorem kpC_b {B : Nat} (W : World) (l : Nat) (o o' : Obj) (hl : B ≤ l) (h : W.heap[l]? = some o) (hc : o.isCells = false) (_ : o.isWalk = false) : KpC W (W.putObj l o') := by
  refine ⟨by simp, fun k o2 hk ho2 => ?_⟩
  rw [World.putObj_heap_other (fun e => by subst e; rw [h] at hk; cases hk; rw [hc] at ho2; cases ho2)]
  exact hk
/-- blocks of cells -/
def CellsIn (w : World) (F : List Nat) : Prop := ∀ k ∈ F, ∃ o, w.heap[k]? = some o ∧ o.isCells = true
theorem row_cells {w : World} {B : Nat} {e : TypeId} {size : Nat} {v : Value} {n : Nat} {xs : List Value} (h : w.ownsRow B e size v n xs) : CellsIn w v.ownBlock.toList := fun k hk => by
  rcases h.2 with ⟨rfl, _⟩ | ⟨g, cap, cur, rfl, hb, hg, _⟩
  · cases hk
  · simp [Value.ownBlock] at hk
    subst hk
    exact ⟨_, hg, rfl⟩
theorem cells_app {w : World} {F G : List Nat} (h : CellsIn w F) (g : CellsIn w G) : CellsIn w (F ++ G) := fun k hk => (List.mem_append.1 hk).elim (h k) (g k)
theorem kdW_cells {w : World} {B : Nat} {v : Value} {l : List ByteArray} {F : List Nat} (h : kdW.own w B v l F) : CellsIn w F := by rw [h.2]; exact row_cells h.1
theorem kdR_cells {w : World} {B : Nat} {v : Value} {l : List RuleD} {F : List Nat} (h : kdR.own w B v l F) : CellsIn w F := by
  obtain ⟨T, hT, ho, hs, rfl, hn⟩ := h
  refine cells_app (row_cells ho) fun k hk => ?_
  obtain ⟨t, ht, hk⟩ := List.mem_flatMap.1 hk
  exact kdW_cells (hs t ht) k hk
theorem kdE_cells {w : World} {B : Nat} {v : Value} {l : List ElD} {F : List Nat} (h : kdE.own w B v l F) : CellsIn w F := by
  obtain ⟨T, hT, ho, hs, rfl, hn⟩ := h
  refine cells_app (row_cells ho) fun k hk => ?_
  obtain ⟨t, ht, hk⟩ := List.mem_flatMap.1 hk
  exact kdR_cells (hs t ht) k hk
theorem ownP_cells {w : World} {B : Nat} {x : Vs} {p : PolD} {F : List Nat} (h : OwnP w B x p F) : CellsIn w F := by
  obtain ⟨F1, F2, F3, F4, h1, h2, h3, h4, rfl, hn⟩ := h
  exact cells_app (kdE_cells h1) (cells_app (kdR_cells h2) (cells_app (kdW_cells h3) (kdW_cells h4)))
theorem ownP_kp {w w' : World} {B : Nat} {x : Vs} {p : PolD} {F : List Nat} (h : OwnP w B x p F) (hk : KpC w w') : OwnP w' B x p F :=
  h.keep hk.1 fun k hk2 => by
    obtain ⟨o, ho, hc⟩ := ownP_cells h k hk2
    rw [hk.2 k o ho hc, ho]
theorem kdR_kp {w w' : World} {B : Nat} {v : Value} {l : List RuleD} {F : List Nat} (h : kdR.own w B v l F) (hk : KpC w w') : kdR.own w' B v l F :=
  kdR.keep h hk.1 fun k hk2 => by
    obtain ⟨o, ho, hc⟩ := kdR_cells h k hk2
    rw [hk.2 k o ho hc, ho]
theorem either {e : Ending} {A B : Prop} (h : (e = .returned (.bool true) ∧ A) ∨ (e = .returned (.bool false) ∧ B)) : ∃ bb, e = .returned (.bool bb) ∧ ((bb = true ∧ A) ∨ (bb = false ∧ B)) :=
  h.elim (fun h => ⟨true, h.1, .inl ⟨rfl, h.2⟩⟩) (fun h => ⟨false, h.1, .inr ⟨rfl, h.2⟩⟩)
theorem bl_kp {w w' : World} {g : Nat} {t : TypeId} {xs : List Value} (h : Bl w g t xs) (hk : KpC w w') : Bl w' g t xs := hk.2 g _ h rfl
theorem grown_below {W W' : World} (h : Below W.heap.size W W') : W.grownBy W' none := ⟨h.os, h.tape, h.output, h.size, fun k hk _ => h.block k hk⟩

/-- what comes: a name, a rule, where its words lie -/
structure Yd (p : PolD) where
  n : ByteArray
  r : RuleD
  A : Option Addr
  c : Nat
  mem : (n, r) ∈ allOf p
def encY {p : PolD} (x : Yd p) : Array Value := #[.string x.n, .agg #[.string x.r.name, .int .i64 x.r.kind, .slice x.A x.r.words.length x.c]]
/-- how many come at most, of the first k elements -/
def cntE (p : PolD) (k : Nat) : Nat := ((p.els.take k).map fun e => e.rules.length + p.glob.length).sum
theorem cntE_succ {p : PolD} {k : Nat} (h : k < p.els.length) : cntE p (k + 1) = cntE p k + (p.els[k].rules.length + p.glob.length) := by
  unfold cntE; rw [List.take_succ_eq_append_getElem h, List.map_append, List.sum_append]; simp only [List.map_cons, List.map_nil, List.sum_cons, List.sum_nil, Nat.add_zero]
theorem cntE_le (p : PolD) (k : Nat) : cntE p k ≤ cntE p p.els.length := by
  unfold cntE
  conv => rhs; rw [List.take_length, ← List.take_append_drop k p.els, List.map_append, List.sum_append]
  exact Nat.le_add_right _ _
theorem mem_own {p : PolD} {k j : Nat} (hk : k < p.els.length) (hj : j < p.els[k].rules.length) : (p.els[k].name, p.els[k].rules[j]) ∈ allOf p :=
  List.mem_flatMap.2 ⟨_, List.getElem_mem hk, List.mem_map.2 ⟨_, List.mem_append_left _ (List.getElem_mem hj), rfl⟩⟩
theorem mem_glob {p : PolD} {k j : Nat} (hk : k < p.els.length) (hj : j < p.glob.length) (hh : hasR p.els[k].rules p.glob[j].name = false) : (p.els[k].name, p.glob[j]) ∈ allOf p :=
  List.mem_flatMap.2 ⟨_, List.getElem_mem hk, List.mem_map.2 ⟨_, List.mem_append_right _ (List.mem_filter.2 ⟨List.getElem_mem hj, by rw [hh]; rfl⟩), rfl⟩⟩

/-- an element of a policy of one's own -/
theorem el_at {w : World} {B : Nat} {x : Vs} {p : PolD} {F : List Nat} (h : OwnP w B x p F) {k : Nat} (hk : k < p.els.length) : ∃ g cap u G, x.e = .slice (some ⟨g, 0, none⟩) p.els.length cap ∧ g < w.heap.size ∧ kdR.own w B u p.els[k].rules G ∧ ∀ q y, (fmE.enc p.els[k] u)[q]? = some y → w.cell? ⟨g, k * fmE.size + q, none⟩ = some y := by
  obtain ⟨F1, F2, F3, F4, h1, _⟩ := h
  obtain ⟨g, cap, u, G, hv, _, hgw, hsub, _, _, _, hc, _⟩ := fmE.own_at h1 hk
  exact ⟨g, cap, u, G, hv, hgw, hsub, hc⟩
/-- a rule for all of a policy of one's own -/
theorem gl_at {w : World} {B : Nat} {x : Vs} {p : PolD} {F : List Nat} (h : OwnP w B x p F) {k : Nat} (hk : k < p.glob.length) : ∃ g cap u G, x.g = .slice (some ⟨g, 0, none⟩) p.glob.length cap ∧ g < w.heap.size ∧ kdW.own w B u p.glob[k].words G ∧ ∀ q y, (fmR.enc p.glob[k] u)[q]? = some y → w.cell? ⟨g, k * fmR.size + q, none⟩ = some y := by
  obtain ⟨F1, F2, F3, F4, h1, h2, _⟩ := h
  obtain ⟨g, cap, u, G, hv, _, hgw, hsub, _, _, _, hc, _⟩ := fmR.own_at h2 hk
  exact ⟨g, cap, u, G, hv, hgw, hsub, hc⟩
set_option maxRecDepth 100000 in
theorem allPred (s : ByteArray) (B : Nat) (w : World) (hB : B < w.heap.size) (hcell : w.cell? ⟨B, 0, none⟩ = some (.string s)) :
    PredBelow Tryz.prog 92 #[.pointer (some ⟨B, 0, none⟩)] (fun x => .agg (encR x).toArray) (fun x => decide (x.n = s)) w := fun W x hb => by
  have hc : W.cell? ⟨B, 0, none⟩ = some (.string s) := (hb.cell (p := ⟨B, 0, none⟩) hB).trans hcell
  have hBW : B < W.heap.size := Nat.lt_of_lt_of_le hB hb.size
  have hne : B ≠ W.heap.size := by omega
  have hq : ∀ W', Below W.heap.size W W' → W'.cell? ⟨B, 0, none⟩ = some (.string s) := fun W' h => (h.cell (p := ⟨B, 0, none⟩) hBW).trans hc
  have hc2 := hq _ ((Below.refl _ W).alloc (Nat.le_refl _) (.cells #[.string x.n, .int .i64 x.k, .slice x.a x.l x.c] 50))
  have HQ := Lib.hid hq
  clear hq
  show Calls Tryz.prog 92 #[.agg #[.string x.n, .int .i64 x.k, .slice x.a x.l x.c], .pointer (some ⟨B, 0, none⟩)] W _
  go_enter Tryz.func92, Tryz.ntmps92
  go_wp2
  go_ret
  exact ⟨(by rw [eq_str]; rfl), hb.alloc hb.size _⟩

set_option maxRecDepth 100000 in
set_option maxHeartbeats 4000000 in
theorem all1 (n : Nat) (hn : 2 ≤ n) (lp Bs B : Nat) (p : PolD) (A1 A2 A3 A4 : Option Addr) (c1 c2 c3 c4 : Nat) (F : List Nat) (hf : FitP p) (J Jx : List (Yd p) → World → Prop)
    (W : World) (hown : OwnP W B ⟨.slice A1 p.els.length c1, .slice A2 p.glob.length c2, .slice A3 p.schemes.length c3, .slice A4 p.drop.length c4⟩ p F) (hBs : Bl W Bs 29 [.slice A1 p.els.length c1, .slice A2 p.glob.length c2, .slice A3 p.schemes.length c3, .bool p.rel, .slice A4 p.drop.length c4, .int .i64 p.depth, .int .i64 p.window])
    (hJ : AbidesFrom W.heap.size J) (hJx : AbidesFrom W.heap.size Jx)
    (hY : ∀ pre x W1, J pre W1 → pre.length < cntE p p.els.length → YieldAt Fence.wide (n - 1) Tryz.prog lp (encY x) W1 fun e W' =>
      (e = .returned (.bool true) ∧ J (pre ++ [x]) W' ∧ KpC W1 W') ∨ (e = .returned (.bool false) ∧ Jx (pre ++ [x]) W'))
    (h0 : J [] W) :
    CallsIn Fence.wide n Tryz.prog 90 #[.func (.yield lp) #[] #[], .pointer (some ⟨Bs, 0, none⟩)] W fun e W' => (∃ v, e = .returned v) ∧
      ((∃ ys : List (Yd p), True ∧ J ys W') ∨ (∃ pre : List (Yd p), True ∧ Jx pre W')) := by
  have hro : Fence.wide.round = none := rfl
  have hel : (p.els.length : Int) ≤ 9223372036854775807 := by have := hf.1.1; omega
  have hgl : (p.glob.length : Int) ≤ 9223372036854775807 := by have := hf.2.1.1; omega
  have HRU : Hid (∀ W r u, kdW.rd W 0 W.heap.size u r.words → r.words.length * 16 ≤ 140737488355328 → CallsIn Fence.wide (n - 1) Tryz.prog 85 #[ruV r u] W fun e w' => ∃ A c, e = .returned (.agg #[.string r.name, .int .i64 r.kind, .slice A r.words.length c]) ∧ Below W.heap.size W w') := Lib.hid fun W r u hu hb => (callsIn_wide (n := n - 1)).2 ((ruleC r u W hu hb).mono fun e w' ⟨u', G, he, ho, hb⟩ => by
    obtain ⟨A, c, rfl, _⟩ := own_slice ho.1
    exact ⟨A, c, he, hb⟩)
  have HJ := Lib.hid hJ
  have HY := Lib.hid hY
  have HF := Lib.hid hf
  have hst0 : Hid (OwnP W B ⟨.slice A1 p.els.length c1, .slice A2 p.glob.length c2, .slice A3 p.schemes.length c3, .slice A4 p.drop.length c4⟩ p F) := Lib.hid hown
  have HJ0 : Hid (∃ ys : List (Yd p), J ys W ∧ ys.length ≤ cntE p 0) := Lib.hid ⟨[], h0, Nat.zero_le _⟩
  have hc0 := hBs.cell 0 rfl
  clear hJ hJx hY hf hown h0
  refine callsIn_of_wp Tryz.func90 rfl trivial ?_ hro
  simp only [Tryz.ntmps90, List.size_toArray, List.length_cons, List.length_nil, Nat.reduceAdd, Nat.reduceSub, Array.replicate_succ, Array.replicate_zero, List.push_toArray, List.append_toArray, List.nil_append, List.cons_append]
  gi_wp2
  gi_loopw [12] (fun i wr => ∃ k : Nat, k ≤ p.els.length ∧ i = .int .i64 k ∧ Hid (OwnP wr B ⟨.slice A1 p.els.length c1, .slice A2 p.glob.length c2, .slice A3 p.schemes.length c3, .slice A4 p.drop.length c4⟩ p F) ∧ Bl wr Bs 29 [.slice A1 p.els.length c1, .slice A2 p.glob.length c2, .slice A3 p.schemes.length c3, .bool p.rel, .slice A4 p.drop.length c4, .int .i64 p.depth, .int .i64 p.window] ∧ Hid (∃ ys : List (Yd p), J ys wr ∧ ys.length ≤ cntE p k) ∧ W.heap.size ≤ wr.heap.size)
    (fun i _ => p.els.length - (intOf i).toNat)
  case atStart => exact ⟨0, Nat.zero_le _, rfl, hst0, hBs, HJ0, Nat.le_refl _⟩
  case round =>
    clear hst0 HJ0 hc0
    obtain ⟨k, hk, rfl, hst, hbs, hjs, hsz⟩ := hrel
    by_cases hlt : k < p.els.length
    · obtain ⟨g, cap, u, G, hv, hgw, hsub, hcells⟩ := el_at hst.out hlt
      injection hv with e1 e2 e3
      subst e1 e3
      clear e2
      have x0 := hcells 0 _ rfl
      have x1 := hcells 1 _ rfl
      rw [show k * fmE.size + 0 = k * 2 from rfl] at x0
      rw [show k * fmE.size + 1 = k * 2 + 1 from rfl] at x1
      obtain ⟨A5, c5, rfl, _⟩ := fmR.own_form hsub
      have hk0 : (0 : Int) ≤ (k : Int) := by omega
      have hk1 : (k : Int) < (p.els.length : Int) := by omega
      have hfr := HF.out.1.2 k hlt
      have hrl : (p.els[k].rules.length : Int) ≤ 9223372036854775807 := by have := hfr.1; omega
      have HMO : Hid (∀ j (hj : j < p.els[k].rules.length), (p.els[k].name, p.els[k].rules[j]) ∈ allOf p) := Lib.hid fun j hj => mem_own hlt hj
      have HMG : Hid (∀ j (hj : j < p.glob.length), hasR p.els[k].rules p.glob[j].name = false → (p.els[k].name, p.glob[j]) ∈ allOf p) := Lib.hid fun j hj hh => mem_glob hlt hj hh
      have HCS := Lib.hid (cntE_succ hlt)
      have HCL := Lib.hid (cntE_le p (k + 1))
      have HSUB : Hid (kdR.own wr B (.slice A5 p.els[k].rules.length c5) p.els[k].rules G) := Lib.hid hsub
      have HFR := Lib.hid hfr
      obtain ⟨en, hen⟩ : ∃ en, en = p.els[k].name := ⟨_, rfl⟩
      obtain ⟨er, her⟩ : ∃ er, er = p.els[k].rules := ⟨_, rfl⟩
      rw [← hen] at x0 HMO HMG
      rw [← her] at x1 hrl HMO HMG HSUB HFR HCS
      clear hcells hsub hen her hfr
      gi_upto_region 3 with fail
      obtain ⟨be, hbe⟩ : ∃ be, be = wr.heap.size := ⟨_, rfl⟩
      obtain ⟨W2, hW2⟩ : ∃ W, W = wr.alloc (.cells #[.string en, .slice A5 er.length c5] 45) := ⟨_, rfl⟩
      have hb2 : Below wr.heap.size wr W2 := hW2 ▸ (Below.refl _ _).alloc (Nat.le_refl _) _
      have k5 : Bl W2 be 45 [.string en, .slice A5 er.length c5] := by rw [hbe]; exact hW2 ▸ Bl.new wr _ _ rfl
      have hst2 : Hid (OwnP W2 B ⟨.slice (some ⟨g, 0, none⟩) p.els.length c1, .slice A2 p.glob.length c2, .slice A3 p.schemes.length c3, .slice A4 p.drop.length c4⟩ p F ∧ kdR.own W2 B (.slice A5 er.length c5) er G) := Lib.hid ⟨ownP_kp hst.out (kpC_below hb2), kdR.keep HSUB.out hb2.size fun q hq => hb2.block q (kdR.ge HSUB.out q hq).2⟩
      have hbs2 := hbs.below hb2
      have hjs2 : Hid (∃ ys : List (Yd p), J ys W2 ∧ ys.length ≤ cntE p k + 0) := Lib.hid (by
        obtain ⟨ys, h1, h2⟩ := hjs.out
        exact ⟨ys, HJ.out _ _ _ none h1 (grown_below hb2) (fun r e => by cases e), h2⟩)
      have hsz2 : W.heap.size ≤ W2.heap.size := Nat.le_trans hsz hb2.size
      have y1 := k5.cell 1 rfl
      rw [← hbe, ← hW2]
      have HW2 := Lib.hid hW2
      clear hW2 hbe x0 x1 HSUB hst hbs hjs hb2 hsz
      gi_wp2
      gi_loopw [19] (fun i wr => ∃ j : Nat, j ≤ er.length ∧ i = .int .i64 j ∧ Hid (OwnP wr B ⟨.slice (some ⟨g, 0, none⟩) p.els.length c1, .slice A2 p.glob.length c2, .slice A3 p.schemes.length c3, .slice A4 p.drop.length c4⟩ p F ∧ kdR.own wr B (.slice A5 er.length c5) er G) ∧ Bl wr Bs 29 [.slice (some ⟨g, 0, none⟩) p.els.length c1, .slice A2 p.glob.length c2, .slice A3 p.schemes.length c3, .bool p.rel, .slice A4 p.drop.length c4, .int .i64 p.depth, .int .i64 p.window] ∧ Bl wr be 45 [.string en, .slice A5 er.length c5] ∧ Hid (∃ ys : List (Yd p), J ys wr ∧ ys.length ≤ cntE p k + j) ∧ W.heap.size ≤ wr.heap.size)
        (fun i _ => er.length - (intOf i).toNat)
      case atStart => exact ⟨0, Nat.zero_le _, rfl, hst2, hbs2, k5, hjs2, hsz2⟩
      case round =>
        clear hst2 hbs2 k5 hjs2 hsz2 y1
        obtain ⟨j, hj, rfl, hst, hbs, hbe, hjs, hsz⟩ := hrel
        by_cases hltj : j < er.length
        · obtain ⟨g5, cap5, u5, G5, hv5, _, hgw5, hsub5, _, _, _, hcells5, _, _⟩ := fmR.own_at hst.out.2 (i := j) hltj
          injection hv5 with e1 e2 e3
          subst e1 e3
          clear e2
          have x0 := hcells5 0 _ rfl
          have x1 := hcells5 1 _ rfl
          have x2 := hcells5 2 _ rfl
          rw [show j * fmR.size + 0 = j * 3 from rfl] at x0
          rw [show j * fmR.size + 1 = j * 3 + 1 from rfl] at x1
          rw [show j * fmR.size + 2 = j * 3 + 2 from rfl] at x2
          have hsub5' : kdW.own wr B u5 er[j].words G5 := hsub5
          obtain ⟨A7, c7, rfl, _⟩ := own_slice hsub5'.1
          have hj0 : (0 : Int) ≤ (j : Int) := by omega
          have hj1 : (j : Int) < (er.length : Int) := by omega
          have HME := Lib.hid (HMO.out j hltj)
          have HWL : Hid (er[j].words.length * 16 ≤ 140737488355328) := Lib.hid (HFR.out.2 j hltj)
          obtain ⟨r, hr⟩ : ∃ r, r = er[j] := ⟨_, rfl⟩
          rw [← hr] at x0 x1 x2 hsub5' HME HWL
          clear hcells5 hsub5 hr
          obtain ⟨rn, rk, rws⟩ := r
          simp only at x0 x1 x2 hsub5' HWL
          gi_upto_region 6 with fail
          obtain ⟨W3, hW3⟩ : ∃ W, W = wr.alloc (.cells #[.string rn, .int .i64 rk, .slice A7 rws.length c7] 50) := ⟨_, rfl⟩
          have hb3 : Below wr.heap.size wr W3 := hW3 ▸ (Below.refl _ _).alloc (Nat.le_refl _) _
          have k6 : Bl W3 wr.heap.size 50 [.string rn, .int .i64 rk, .slice A7 rws.length c7] := hW3 ▸ Bl.new wr _ _ rfl
          have hbe3 := hbe.below hb3
          have y0 := hbe3.cell 0 rfl
          have z0 := k6.cell 0 rfl
          have z1 := k6.cell 1 rfl
          have z2 := k6.cell 2 rfl
          have hw3 : kdW.rd W3 0 W3.heap.size (.slice A7 rws.length c7) rws := (kdW.wide (rd_below (kdW.read (lo := 0) (hi := wr.heap.size) hsub5' (Nat.zero_le _) (Nat.le_refl _)) hb3 (Nat.le_refl _)) (Nat.le_refl _) hb3.size)
          have HR3 := Lib.hid (HRU.out W3.drew ⟨rn, rk, rws⟩ (.slice A7 rws.length c7) hw3 HWL.out)
          rw [← hW3]
          have HW3 := Lib.hid hW3
          clear hW3 x0 x1 x2 hsub5' hw3
          gi_region_with (first
            | (refine ⟨trivial, fun _ => by omega, ?_⟩; gi_at_call 85; refine HR3.out.mono ?_; rintro e w4 ⟨A9, c9, rfl, hb4⟩; have hb34 : Below W3.heap.size W3 w4 := (drw W3 1).trans hb4; have y4 := (hbe3.below hb34).cell 0 rfl; obtain ⟨ys, hJs, hJl⟩ := hjs.out; have hJ4 := HJ.out _ _ _ none hJs (grown_below (hb3.trans (hb34.mono hb3.size))) (fun r e => by cases e); obtain ⟨fn, tmps, assign, body, hy, hR⟩ := HY.out ys ⟨en, ⟨rn, rk, rws⟩, A9, c9, HME.out⟩ w4 hJ4 (by have h8 := HCS.out; have h9 := HCL.out; omega); dsimp only [encY] at hy)
            | (refine ⟨fun _ => by omega, hR.mono ?_⟩; rintro e W5 h5; obtain ⟨bb, rfl, hbb⟩ := either h5))
          all_goals (
            have hk4 : KpC wr w4 := kpC_below (hb3.trans (hb34.mono hb3.size))
            clear hy hR y0 y4 z0 z1 z2
            rcases hbb with ⟨rfl, hJ5, hk5⟩ | ⟨rfl, hJx5⟩
            · have hk6 := kpC_t hk4 hk5
              have hst5 : Hid (OwnP W5 B ⟨.slice (some ⟨g, 0, none⟩) p.els.length c1, .slice A2 p.glob.length c2, .slice A3 p.schemes.length c3, .slice A4 p.drop.length c4⟩ p F ∧ kdR.own W5 B (.slice (some ⟨g5, 0, none⟩) er.length c5) er G) := Lib.hid ⟨ownP_kp hst.out.1 hk6, kdR_kp hst.out.2 hk6⟩
              have hbs5 := bl_kp hbs hk6
              have hbe5 := bl_kp hbe hk6
              have hjs5 : Hid (∃ ys : List (Yd p), J ys W5 ∧ ys.length ≤ cntE p k + (j + 1)) := Lib.hid ⟨_, hJ5, by simp; omega⟩
              have hsz5 := Nat.le_trans hsz hk6.1
              gi_wp2
              go_roundw
              case rel => exact ⟨j + 1, by omega, by go_num, hst5, hbs5, hbe5, hjs5, hsz5⟩
              case measure => simp [intOf] <;> omega
            · gi_wp2
              refine bodyPost_ret (results_none rfl _ _ _) rfl ?_
              first | exact ⟨⟨_, rfl⟩, .inr ⟨_, trivial, hJx5⟩⟩ | exact ⟨⟨_, rfl⟩, .inr ⟨_, hJx5⟩⟩)
        · obtain rfl : j = er.length := by omega
          have y1 := hbs.cell 1 rfl
          have hst2 : Hid (OwnP wr B ⟨.slice (some ⟨g, 0, none⟩) p.els.length c1, .slice A2 p.glob.length c2, .slice A3 p.schemes.length c3, .slice A4 p.drop.length c4⟩ p F ∧ kdR.own wr B (.slice A5 er.length c5) er G) := hst
          have hjs2 : Hid (∃ ys : List (Yd p), J ys wr ∧ ys.length ≤ cntE p k + er.length + 0) := hjs
          gi_wp2
          gi_loopw [34] (fun i wr => ∃ j : Nat, j ≤ p.glob.length ∧ i = .int .i64 j ∧ Hid (OwnP wr B ⟨.slice (some ⟨g, 0, none⟩) p.els.length c1, .slice A2 p.glob.length c2, .slice A3 p.schemes.length c3, .slice A4 p.drop.length c4⟩ p F ∧ kdR.own wr B (.slice A5 er.length c5) er G) ∧ Bl wr Bs 29 [.slice (some ⟨g, 0, none⟩) p.els.length c1, .slice A2 p.glob.length c2, .slice A3 p.schemes.length c3, .bool p.rel, .slice A4 p.drop.length c4, .int .i64 p.depth, .int .i64 p.window] ∧ Bl wr be 45 [.string en, .slice A5 er.length c5] ∧ Hid (∃ ys : List (Yd p), J ys wr ∧ ys.length ≤ cntE p k + er.length + j) ∧ W.heap.size ≤ wr.heap.size)
            (fun i _ => p.glob.length - (intOf i).toNat)
          case atStart => exact ⟨0, Nat.zero_le _, rfl, hst2, hbs, hbe, hjs2, hsz⟩
          case round =>
            clear hst2 hbs hjs2 hsz y1 hst hbe hjs
            obtain ⟨j, hj, rfl, hst, hbs, hbe, hjs, hsz⟩ := hrel
            by_cases hltj : j < p.glob.length
            · obtain ⟨g5, cap5, u5, G5, hv5, hgw5, hsub5, hcells5⟩ := gl_at hst.out.1 hltj
              simp only at hv5
              injection hv5 with e1 e2 e3
              subst e1 e3
              clear e2
              have x0 := hcells5 0 _ rfl
              have x1 := hcells5 1 _ rfl
              have x2 := hcells5 2 _ rfl
              rw [show j * fmR.size + 0 = j * 3 from rfl] at x0
              rw [show j * fmR.size + 1 = j * 3 + 1 from rfl] at x1
              rw [show j * fmR.size + 2 = j * 3 + 2 from rfl] at x2
              obtain ⟨A7, c7, rfl, _⟩ := own_slice hsub5.1
              have hj0 : (0 : Int) ≤ (j : Int) := by omega
              have hj1 : (j : Int) < (p.glob.length : Int) := by omega
              have HME := Lib.hid (HMG.out j hltj)
              have HWL : Hid (p.glob[j].words.length * 16 ≤ 140737488355328) := Lib.hid (HF.out.2.1.2 j hltj)
              obtain ⟨r, hr⟩ : ∃ r, r = p.glob[j] := ⟨_, rfl⟩
              rw [← hr] at x0 x1 x2 hsub5 HME HWL
              clear hcells5 hr
              obtain ⟨rn, rk, rws⟩ := r
              simp only at x0 x1 x2 hsub5 HWL HME
              gi_upto_region 11 with fail
              obtain ⟨W3, hW3⟩ : ∃ W, W = wr.alloc (.cells #[.string rn, .int .i64 rk, .slice A7 rws.length c7] 50) := ⟨_, rfl⟩
              have hb3 : Below wr.heap.size wr W3 := hW3 ▸ (Below.refl _ _).alloc (Nat.le_refl _) _
              have k6 : Bl W3 wr.heap.size 50 [.string rn, .int .i64 rk, .slice A7 rws.length c7] := hW3 ▸ Bl.new wr _ _ rfl
              have hbe3 := hbe.below hb3
              have y1 := hbe3.cell 1 rfl
              have z0 := k6.cell 0 rfl
              have hw3 : kdW.rd W3 0 W3.heap.size (.slice A7 rws.length c7) rws := (kdW.wide (rd_below (kdW.read (lo := 0) (hi := wr.heap.size) hsub5 (Nat.zero_le _) (Nat.le_refl _)) hb3 (Nat.le_refl _)) (Nat.le_refl _) hb3.size)
              have hcf := containsRuC (g := 92) (enters_of Tryz.func92 (by kernel_rfl) rfl) allPred (kdR.wide (rd_below (kdR.read (lo := 0) (hi := wr.heap.size) hst.out.2 (Nat.zero_le _) (Nat.le_refl _)) hb3 (Nat.le_refl _)) (Nat.le_refl _) hb3.size) (by omega) rn wr.heap.size k6.lt z0
              have HCF := Lib.hid ((callsIn_wide (n := n - 1)).2 hcf)
              rw [← hW3]
              have HW3 := Lib.hid hW3
              have HK6 := Lib.hid k6
              clear hW3 x0 x1 x2 hsub5 hcf z0 k6
              cases hh : hasR er rn
              · rw [hh] at HCF
                have HME2 := Lib.hid (HME.out hh)
                clear hh
                have HW3R := Lib.hid hw3
                clear hw3
                gi_upto_region 12 with (refine ⟨trivial, fun _ => by omega, ?_⟩; gi_at_call 91; refine HCF.out.mono ?_; rintro e w4 ⟨rfl, hb4⟩)
                have hb34 : Below wr.heap.size wr w4 := hb3.trans (hb4.mono hb3.size)
                have k64 := HK6.out.below hb4
                have hbe4 := hbe3.below hb4
                have y0 := hbe4.cell 0 rfl
                have z0 := k64.cell 0 rfl
                have z1 := k64.cell 1 rfl
                have z2 := k64.cell 2 rfl
                have hw4 : kdW.rd w4 0 w4.heap.size (.slice A7 rws.length c7) rws := kdW.wide (rd_below HW3R.out hb4 (Nat.le_refl _)) (Nat.le_refl _) hb4.size
                have HR4 := Lib.hid (HRU.out w4.drew ⟨rn, rk, rws⟩ (.slice A7 rws.length c7) hw4 HWL.out)
                clear y1 hw4
                gi_region_with (first
                  | (refine ⟨trivial, fun _ => by omega, ?_⟩; gi_at_call 85; refine HR4.out.mono ?_; rintro e w6 ⟨A9, c9, rfl, hb6⟩; have hb46 : Below w4.heap.size w4 w6 := (drw w4 1).trans hb6; have y4 := (hbe4.below hb46).cell 0 rfl; obtain ⟨ys, hJs, hJl⟩ := hjs.out; have hJ4 := HJ.out _ _ _ none hJs (grown_below (hb34.trans (hb46.mono hb34.size))) (fun r e => by cases e); obtain ⟨fn, tmps, assign, body, hy, hR⟩ := HY.out ys ⟨en, ⟨rn, rk, rws⟩, A9, c9, HME2.out⟩ w6 hJ4 (by have h8 := HCS.out; have h9 := HCL.out; omega); dsimp only [encY] at hy)
                  | (refine ⟨fun _ => by omega, hR.mono ?_⟩; rintro e W5 h5; obtain ⟨bb, rfl, hbb⟩ := either h5))
                all_goals (
                  have hk4 : KpC wr w6 := kpC_below (hb34.trans (hb46.mono hb34.size))
                  clear hy hR y0 y4 z0 z1 z2
                  rcases hbb with ⟨rfl, hJ5, hk5⟩ | ⟨rfl, hJx5⟩
                  · have hk6 := kpC_t hk4 hk5
                    have hst5 : Hid (OwnP W5 B ⟨.slice (some ⟨g, 0, none⟩) p.els.length c1, .slice (some ⟨g5, 0, none⟩) p.glob.length c2, .slice A3 p.schemes.length c3, .slice A4 p.drop.length c4⟩ p F ∧ kdR.own W5 B (.slice A5 er.length c5) er G) := Lib.hid ⟨ownP_kp hst.out.1 hk6, kdR_kp hst.out.2 hk6⟩
                    have hbs5 := bl_kp hbs hk6
                    have hbe5 := bl_kp hbe hk6
                    have hjs5 : Hid (∃ ys : List (Yd p), J ys W5 ∧ ys.length ≤ cntE p k + er.length + (j + 1)) := Lib.hid ⟨_, hJ5, by simp; omega⟩
                    have hsz5 := Nat.le_trans hsz hk6.1
                    gi_wp2
                    go_roundw
                    case rel => exact ⟨j + 1, by omega, by go_num, hst5, hbs5, hbe5, hjs5, hsz5⟩
                    case measure => simp [intOf] <;> omega
                  · gi_wp2
                    refine bodyPost_ret (results_none rfl _ _ _) rfl ?_
                    first | exact ⟨⟨_, rfl⟩, .inr ⟨_, trivial, hJx5⟩⟩ | exact ⟨⟨_, rfl⟩, .inr ⟨_, hJx5⟩⟩)
              · rw [hh] at HCF
                clear hh
                gi_wp2_with (refine ⟨trivial, fun _ => by omega, ?_⟩; gi_at_call 91; refine HCF.out.mono ?_; rintro e w4 ⟨rfl, hb4⟩)
                have hb34 : Below wr.heap.size wr w4 := hb3.trans (hb4.mono hb3.size)
                have hk6 := kpC_below hb34
                have hst5 : Hid (OwnP w4 B ⟨.slice (some ⟨g, 0, none⟩) p.els.length c1, .slice (some ⟨g5, 0, none⟩) p.glob.length c2, .slice A3 p.schemes.length c3, .slice A4 p.drop.length c4⟩ p F ∧ kdR.own w4 B (.slice A5 er.length c5) er G) := Lib.hid ⟨ownP_kp hst.out.1 hk6, kdR_kp hst.out.2 hk6⟩
                have hbs5 := bl_kp hbs hk6
                have hbe5 := bl_kp hbe hk6
                have hjs5 : Hid (∃ ys : List (Yd p), J ys w4 ∧ ys.length ≤ cntE p k + er.length + (j + 1)) := Lib.hid (by
                  obtain ⟨ys, h1, h2⟩ := hjs.out
                  exact ⟨ys, HJ.out _ _ _ none h1 (grown_below hb34) (fun r e => by cases e), by omega⟩)
                have hsz5 := Nat.le_trans hsz hk6.1
                go_roundw
                case rel => exact ⟨j + 1, by omega, by go_num, hst5, hbs5, hbe5, hjs5, hsz5⟩
                case measure => simp [intOf] <;> omega
            · obtain rfl : j = p.glob.length := by omega
              have hjs5 : Hid (∃ ys : List (Yd p), J ys wr ∧ ys.length ≤ cntE p (k + 1)) := Lib.hid (by
                obtain ⟨ys, h1, h2⟩ := hjs.out
                have h8 := HCS.out
                exact ⟨ys, h1, by omega⟩)
              have hst5 := Lib.hid hst.out.1
              gi_wp2
              go_roundw
              case rel => exact ⟨k + 1, by omega, by go_num, hst5, hbs, hjs5, hsz⟩
              case measure => simp [intOf] <;> omega
    · obtain rfl : k = p.els.length := by omega
      gi_wp2
      go_end0
      obtain ⟨ys, h1, _⟩ := hjs.out
      first | exact ⟨⟨_, rfl⟩, .inl ⟨ys, trivial, h1⟩⟩ | exact ⟨⟨_, rfl⟩, .inl ⟨ys, h1⟩⟩
end Go.Proofs.YteikagdinecfoaaGreatDoor.Ai
