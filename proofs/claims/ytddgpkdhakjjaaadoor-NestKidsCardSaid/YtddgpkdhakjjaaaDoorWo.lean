/- nest: own, of a part that is met at a place. -/
import Derived.Deep.RegionLaw
import Derived.StillTailTactics
import Derived.Test.YtddgpkdhakjjaaaDoorWi
set_option linter.unusedVariables false
set_option linter.unusedSimpArgs false
namespace Go.Proofs.YtddgpkdhakjjaaaDoor.Wo
open Go.RowKit Lb Fl Is Tp Np Wk Wp Wi

/-- a function value that gives a list of texts for a name -/
def Pu (k : FuncId) (lb : Array Value) (f : ByteArray → List ByteArray) : Prop :=
  (∀ args w, (callFunc k args).run Tryd.prog w = .ok (.enter k args) w) ∧
  ∀ W s, Calls Tryd.prog k (#[.string s] ++ lb) W fun e W' => ∃ A c, e = .returned (.slice A (f s).length c) ∧ Fl.Own W' W.heap.size (.slice A (f s).length c) (f s) ∧ Below W.heap.size W W'

/-- append onto a row of the call's own, as a step of a region that draws -/
theorem step_src {P : Program} {ops : Array Oper} {o : Oper} {a : Act} {w : World} {K : Act → World → Prop} {Q : Exit → Act → World → Prop} {E : Prop} (hgd : o.guard = none) (s x : Operand) (t : TypeId)
    (ho : o.op = .call { callee := .builtin .append, args := #[s, x], argTypes := #[t, t] })
    (base : Nat) (e : TypeId) (i : TypeInfo) (z : Value) (size bytes : Nat) (ht : P.underlying t = some (.slice e)) (hi : P.info? e = some i) (hz : i.zero = some z)
    (hsize : i.size = size) (hby : i.bytes = bytes) (hzs : z.cells.size = size) (hsz : 0 < size) (v : Value) (n : Nat) (xs : List Value) (hs : a.eval s = v) (hown : w.ownsRow base e size v n xs)
    (A : Option Addr) (m c : Nat) (news : List Value) (hx : a.eval x = .slice A m c) (hl : news.length = m * size) (hcell : 0 < news.length → ∃ b off, A = some ⟨b, off, none⟩ ∧ ∀ j u, news[j]? = some u → w.cell? ⟨b, off + j, none⟩ = some u)
    (h1 : ∀ u ∈ news, u.oneCell' = true) (h63 : n + m ≤ maxLen) (hbytes : (n + m) * bytes ≤ 140737488355328) (hbase : base ≤ w.heap.size)
    (h : ∀ v' w', w'.ownsRow base e size v' (n + m) (xs ++ news) → w.grownBy w' v.ownBlock → (v'.ownBlock = v.ownBlock ∨ v'.ownBlock = some w.heap.size) → K (a.put o.dst v') w') :
    if Region.wanted o (yielded ops a.tmps) = true then Oper.wp P o a w K Q else E := by
  have hw : Region.wanted o (yielded ops a.tmps) = true := by simp [Region.wanted, hgd]
  rw [if_pos hw]
  obtain ⟨v', w', hr, h2, h3, h4⟩ := run_append_src (P := P) w base t o.type e i z size bytes ht hi hz hsize hby hzs hsz v n xs hown A m c news hl hcell h1 h63 hbytes hbase
  unfold Oper.wp execOp
  simp only [ho, resolve, invoke, builtin, Sem.run_bind, Sem.run_pure, Result.andThen_ok, List.map_toArray, List.map_cons, List.map_nil, hs, hx, hr]
  exact h v' w' h2 h3 h4

/-- what was put in, with some more behind it -/
theorem Bun.more {r : Option Nat} {w0 w w1 : World} {B g n c : Nat} {A : Option Addr} {s p l : List ByteArray} {pv v' : Value} (hg : B ≤ g) (h : Bun r w0 w B g A n c s pv p)
    (hown' : w1.ownsRow B 9 1 v' (p.length + l.length) (p.map Value.string ++ l.map Value.string)) (hgrow : w.grownBy w1 pv.ownBlock) (hrow : v'.ownBlock = pv.ownBlock ∨ v'.ownBlock = some w.heap.size) :
    Wrk w1 g (.slice A n c) pv ∧ Bun r w0 (w1.setCell ⟨g, 1, none⟩ v') B g A n c s v' (p ++ l) := by
  have h1 : Wrk w1 g (.slice A n c) pv := h.k.grown hgrow (fun e => h.k.apart h.o e.symm)
  have hb1 : Below B w w1 := (Below.refl _ w).grown hgrow h.z h.o.ge
  have ho : Fl.Own w1 B v' (p ++ l) := by
    unfold Fl.Own
    rw [List.length_append, List.map_append]
    exact hown'
  have hb2 : Below B w (w1.setCell ⟨g, 1, none⟩ v') := hb1.setCell (p := ⟨g, 1, none⟩) hg _
  refine ⟨h1, h1.set1 _, ho.other' (h1.apart ho), h.a.below hb2, by have := hb2.size; have := h.z; omega, h.b.trans hb2, (h.y.grow h.m hgrow h.q).cell 1 _, by have h3 := hgrow.size; have := h.m; simp at h3 ⊢; omega, ?_⟩
  rcases hrow with e | e
  · rw [e]; exact h.q
  · exact .inr ⟨_, e, h.m⟩
theorem Bun.go {r : Option Nat} {w0 w w1 : World} {B g n c : Nat} {A : Option Addr} {s p : List ByteArray} {pv : Value} (h : Bun r w0 w B g A n c s pv p) (hb : Below w.heap.size w w1) : Bun r w0 w1 B g A n c s pv p :=
  ⟨h.k.below hb, h.o.below hb, h.a.below (hb.mono h.z), Nat.le_trans h.z hb.size, h.b.trans (hb.mono h.z), h.y.go h.m hb, Nat.le_trans h.m hb.size, h.q⟩

def noB (_ : ByteArray) : Bool := false

set_option maxHeartbeats 4000000 in
set_option maxRecDepth 100000 in
theorem ownYes (w : World) (B g : Nat) (r : Option Nat) (s p : List ByteArray) (k1 k2 : FuncId) (lb1 lb2 : Array Value) (pr : ByteArray → Bool) (f : ByteArray → List ByteArray) (hB : B ≤ w.heap.size) (h : St w B g r s p) (hp : p.length ≤ 1000) (hf : ∀ s, (f s).length ≤ 10) (hP : Pd w k1 lb1 pr) (hU : Pu k2 lb2 f)
    (t : Nat) (ht : tm pr noB s = t) (y : ByteArray) (hy : s[t]? = some y) :
    Calls Tryd.prog 72 #[.pointer (some ⟨g, 0, none⟩), .agg #[.func (.func k1) #[] lb1, .func (.func k2) #[] lb2]] w (Wp.Ends w B g r (s.take (t + 1)) (p ++ f y)) := by
  have H0 := Lib.hid h
  obtain ⟨A, n, c, pv, hw, hc, hc2, hr, ho, hg, hrow⟩ := h
  obtain ⟨W, hW⟩ : ∃ W, W = w.alloc (.cells #[.func (.func k1) #[] lb1, .func (.func k2) #[] lb2] 88) := ⟨_, rfl⟩
  have hbW : Below w.heap.size w W := hW ▸ (Below.refl _ _).alloc (Nat.le_refl _) _
  have b0 : W.cell? ⟨w.heap.size, 0, none⟩ = some (.func (.func k1) #[] lb1) := by rw [hW, World.cell?_alloc_new]; rfl
  have b1 : W.cell? ⟨w.heap.size, 1, none⟩ = some (.func (.func k2) #[] lb2) := by rw [hW, World.cell?_alloc_at _ _ _ _ rfl]; rfl
  have bl : w.heap.size < W.heap.size := by rw [hW]; simp
  have e0 := (hw.below hbW).c0
  have hgx : g ≠ w.heap.size := by have := hw.lt; omega
  have en := hU.1
  have htl : t < s.length := (List.getElem?_eq_some_iff.1 hy).1
  obtain ⟨i0, hi, hz0, hz1, hz2⟩ := info_parts infoStr
  have hbd : Below W.heap.size W W.drew := ⟨rfl, rfl, rfl, Nat.le_refl _, fun _ _ => rfl⟩
  have hT := topmost (c := c) W.drew ((hr.rd hB).below (seq hbW hbd)) (by omega) (hP.below (seq hbW hbd)) (neverP _)
  rw [show tm pr (fun _ => false) s = tm pr noB s from rfl, ht] at hT
  have hTo := fun (w1 : World) (hb : Below w.heap.size w w1) => toC w1 B g r t s p (by have := hb.size; omega) (H0.out.below hb hB) (by omega) (by omega)
  have et : ((t : Int) + 1).toNat = t + 1 := by omega
  rw [et] at hTo
  have FIN : ∀ w' A n c pv, n ≤ c → c ≤ 9223372036854775807 → Bun r w w' B g A n c (s.take (t + 1)) pv (p ++ f y) → Wp.Ends w B g r (s.take (t + 1)) (p ++ f y) (.returned (.tuple #[])) w' :=
    fun w' A n c pv hc hc2 hb => hb.ends hg hc hc2
  have hy2 : ∃ h : t < (s.take (t + 1)).length, (s.take (t + 1))[t] = y := List.getElem?_eq_some_iff.1 (by rw [List.getElem?_take]; simp [hy])
  generalize Wp.Ends w B g r (s.take (t + 1)) (p ++ f y) = Q at FIN ⊢
  generalize s.take (t + 1) = s2 at *
  have HF := Lib.hid FIN
  have HTO := Lib.hid hTo
  have HT := Lib.hid hT
  have HY := Lib.hid hy2
  have HU := Lib.hid hU
  have HW := Lib.hid hW
  clear FIN hTo hT hy2 hy hw hr ho hP hU H0 et ht htl hc hW
  go_enter Tryd.func72, Tryd.ntmps72
  go_wp2_with fail
  rw [← HW.out]
  refine wp_region_still_tail 6 (by kernel_rfl) (by kernel_rfl) ?_
  simp only [List.take_succ_cons, List.take_zero, List.drop_succ_cons, List.drop_zero]
  change wpStill _ _ W.drew _ _ _
  repeat still_step
  refine wpStill_nil ?_
  change wpList _ _ _ _ _ W.drew
  go_wp2_with (first
    | (go_at_call 52; refine HT.out.mono ?_; rintro e w1 ⟨rfl, hb1⟩)
    | (go_at_call 68; refine (HTO.out _ (seq hbW (seq hbd hb1))).mono ?_; rintro e w2 ⟨rfl, ⟨A3, n3, c3, pv3, hw3, hc3, hc4, hr3, ho3, _, hrw⟩, hb2, hsz2, hk2⟩))
  obtain ⟨A5, m5, c5, rfl⟩ := slice_of ho3
  have hb02 := seq hbW (seq hbd hb1)
  have hz : w.heap.size < w1.heap.size := by have h1 := hb1.size; have h2 := hbd.size; omega
  have hu : Bun r w w2 B g A3 n3 c3 s2 (.slice A5 m5 c5) p := ⟨hw3, ho3, hr3, by omega, (hb02.mono hB).trans hb2, fun k hk h1 _ => (hk2 k h1).trans (hb02.block k hk), by omega, .inl hrw⟩
  have hbd2 : Below w2.heap.size w2 w2.drew := ⟨rfl, rfl, rfl, Nat.le_refl _, fun _ _ => rfl⟩
  have hud := Bun.go hu hbd2
  have hxx : w2.heap[w.heap.size]? = W.heap[w.heap.size]? := (hk2 _ hgx).trans (hb1.block _ (by have h2 := hbd.size; omega))
  have b2 : w2.cell? ⟨w.heap.size, 1, none⟩ = some (.func (.func k2) #[] lb2) := by
    have : w2.cell? ⟨w.heap.size, 1, none⟩ = W.cell? ⟨w.heap.size, 1, none⟩ := by unfold World.cell?; rw [hxx]
    rw [this, b1]
  obtain ⟨hts, hyy⟩ := HY.out
  obtain ⟨b, off, rfl, _, hcell⟩ := hr3.2 t hts
  have hcy := hcell w2 (Below.refl _ _)
  rw [hyy] at hcy
  have hn3 := hr3.1
  have htn : t < n3 := by omega
  have e2 := hw3.c0
  have f2 := hw3.c1
  have g2 := hw3.fz 1
  have HUU := Lib.hid hu
  have hfl := hf y
  clear hu hw3 ho3 hr3 hcell hxx hk2 hrw hn3 hyy b0 b1 e0
  go_region_law (first
    | ((refine step_src (by rfl) (.tmp 21) (.tmp 31) 25 (by rfl) B 9 i0 (.string ByteArray.empty) 1 16 Tryd.underlying25 hi hz0 hz1 hz2 rfl (by decide) _ _ _ (by rfl) hu3.o A6 (f y).length c6 ((f y).map Value.string) (by rfl) (by simp) ho6.rd.cells (by simp [Value.oneCell']) (len_max (by omega)) (len_by (by omega)) hu3.z ?_; intro v' w4 hown' hgrow hrow; obtain ⟨A', m', c', rfl⟩ := slice_of hown'; obtain ⟨hw4, hu4⟩ := Bun.more hg hu3 hown' hgrow hrow; have e4 := hw4.c1; have ef4 := hw4.fz 1))
    | ((go_simp; refine (HU.out.2 w2.drew y).mono ?_; rintro e w3 ⟨A6, c6, rfl, ho6, hb6⟩; have hu3 := Bun.go hud hb6; have f3 := hu3.k.c1; have g3 := hu3.k.fz 1)))
  all_goals (
    go_wp2
    go_end0
    exact HF.out _ _ _ _ _ hc3 hc4 hu4)
end Go.Proofs.YtddgpkdhakjjaaaDoor.Wo
