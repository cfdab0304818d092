/- nest: own, of a part that is met nowhere: a table is put in. -/
import Derived.Deep.RegionLaw
import Derived.StillTailTactics
import Derived.Test.YtddgpkdhakjjaaaDoorPt
set_option linter.unusedVariables false
set_option linter.unusedSimpArgs false
namespace Go.Proofs.YtddgpkdhakjjaaaDoor.Oc
open Go.RowKit Lb Fl Is Tp Np Wk Wp Wi Wo


/-- between the first append and the store: the row v, and a cell of another block -/
structure Mid (r : Option Nat) (w0 w : World) (B g : Nat) (A : Option Addr) (n c : Nat) (s : List ByteArray) (pv v : Value) (p : List ByteArray) (bx : Nat) (kf : Value) : Prop where
  k : Wrk w g (.slice A n c) pv
  o : Fl.Own w B v p
  a : RdB w B A n s
  z : B ≤ w.heap.size
  b : Below B w0 w
  y : Oth g r w0 w
  m : w0.heap.size ≤ w.heap.size
  q : v.ownBlock = r ∨ ∃ k, v.ownBlock = some k ∧ w0.heap.size ≤ k
  x : w.cell? ⟨bx, 1, none⟩ = some kf
  u : bx ≠ g ∧ v.ownBlock ≠ some bx

variable {r : Option Nat} {w0 w w1 : World} {B g n c bx : Nat} {A : Option Addr} {s p l : List ByteArray} {pv v v' kf : Value}
theorem Mid.go (h : Mid r w0 w B g A n c s pv v p bx kf) (hb : Below w.heap.size w w1) : Mid r w0 w1 B g A n c s pv v p bx kf :=
  ⟨h.k.below hb, h.o.below hb, h.a.below (hb.mono h.z), Nat.le_trans h.z hb.size, h.b.trans (hb.mono h.z), h.y.go h.m hb, Nat.le_trans h.m hb.size, h.q,
    (hb.cell (p := ⟨bx, 1, none⟩) (World.block_lt_of_cell? w _ h.x)).trans h.x, h.u⟩
theorem Mid.app (h : Mid r w0 w B g A n c s pv v p bx kf)
    (hown' : w1.ownsRow B 9 1 v' (p.length + l.length) (p.map Value.string ++ l.map Value.string)) (hgrow : w.grownBy w1 v.ownBlock) (hrow : v'.ownBlock = v.ownBlock ∨ v'.ownBlock = some w.heap.size) :
    Mid r w0 w1 B g A n c s pv v' (p ++ l) bx kf := by
  have hb1 : Below B w w1 := (Below.refl _ w).grown hgrow h.z h.o.ge
  have ho : Fl.Own w1 B v' (p ++ l) := by
    unfold Fl.Own
    rw [List.length_append, List.map_append]
    exact hown'
  have hxl := World.block_lt_of_cell? w _ h.x
  have hxb : w1.heap[bx]? = w.heap[bx]? := hgrow.block _ hxl (fun e => h.u.2 e.symm)
  have hs := hgrow.size
  refine ⟨h.k.grown hgrow (fun e => h.k.apart h.o e.symm), ho, h.a.below hb1, by have := h.z; omega, h.b.trans hb1, h.y.grow h.m hgrow h.q, by have := h.m; omega, ?_, ?_, h.u.1, ?_⟩
  · rcases hrow with e | e
    · rw [e]; exact h.q
    · exact .inr ⟨_, e, h.m⟩
  · have h0 := h.x
    unfold World.cell? at h0 ⊢
    rw [hxb]
    exact h0
  · rcases hrow with e | e
    · rw [e]; exact h.u.2
    · rw [e]
      intro e2
      injection e2 with e2
      have : bx < w.heap.size := hxl
      omega
theorem Mid.fin (hg : B ≤ g) (h : Mid r w0 w B g A n c s pv v p bx kf) : Bun r w0 (w.setCell ⟨g, 1, none⟩ v) B g A n c s v p := by
  have hb2 : Below B w (w.setCell ⟨g, 1, none⟩ v) := (Below.refl _ _).setCell (p := ⟨g, 1, none⟩) hg _
  exact ⟨h.k.set1 _, h.o.other' (h.k.apart h.o), h.a.below hb2, by simpa using h.z, h.b.trans hb2, h.y.cell 1 _, by simpa using h.m, h.q⟩
theorem own_lt {w : World} {B : Nat} {v : Value} {l : List ByteArray} (h : Fl.Own w B v l) : ∀ k, v.ownBlock = some k → k < w.heap.size := fun k hk => by
  rcases h.2 with ⟨rfl, _⟩ | ⟨g', cap, cur, rfl, _, hh, _⟩
  · simp [Value.ownBlock] at hk
  · have : g' = k := by simpa [Value.ownBlock] using hk
    subst this
    exact (Array.getElem?_eq_some_iff.1 hh).1

theorem mk_mid {w3 w4 w5 : World} {r' : Option Nat} (hB : B ≤ w.heap.size) (hgl : g < w.heap.size) (hrl : ∀ k, r = some k → k < w.heap.size) (hbA : Below w.heap.size w w3) (hx : w3.cell? ⟨w.heap.size, 1, none⟩ = some kf)
    (hb4 : Below B w3 w4) (hz4 : w4.heap.size = w3.heap.size) (hk4 : ∀ k, g ≠ k → w4.heap[k]? = w3.heap[k]?) (hw : Wrk w5 g (.slice A n c) pv) (ho : Fl.Own w5 B pv p) (hr : RdB w5 B A n s) (hrw : pv.ownBlock = r') (hq : r' = r ∨ ∃ k, r' = some k ∧ w4.heap.size ≤ k)
    (hb5 : Below B w4 w5) (hy : Oth g r w4 w5) (hm : w4.heap.size ≤ w5.heap.size) : Mid r w w5 B g A n c s pv pv p w.heap.size kf := by
  have hs := hbA.size
  have hxl := World.block_lt_of_cell? _ _ hx
  have hxl : w.heap.size < w3.heap.size := hxl
  refine ⟨hw, ho, hr, by omega, (hbA.mono hB).trans (hb4.trans hb5), fun k hk h1 h2 => (hy k (by omega) h1 h2).trans ((hk4 k h1).trans (hbA.block k hk)), by omega, ?_, ?_, by omega, ?_⟩
  · rw [hrw]
    rcases hq with e | ⟨k, e, hk⟩
    · exact .inl e
    · exact .inr ⟨k, e, by omega⟩
  · have h1 : w5.heap[w.heap.size]? = w3.heap[w.heap.size]? := (hy _ (by omega) (by omega) (fun e => by have := hrl _ e; omega)).trans (hk4 _ (by omega))
    unfold World.cell? at hx ⊢
    rw [h1]
    exact hx
  · rw [hrw]
    rcases hq with e | ⟨k, e, hk⟩
    · rw [e]; exact fun e2 => by have := hrl _ e2; omega
    · rw [e]; intro e2; injection e2 with e2; omega

def noS (s : List ByteArray) : List ByteArray := if 0 ≤ tm (namedB s_p) wallB s then s.take (tm (namedB s_p) wallB s).toNat else s

set_option maxHeartbeats 8000000 in
set_option maxRecDepth 100000 in
theorem ownNo (w : World) (B g : Nat) (r : Option Nat) (s p : List ByteArray) (k1 k2 : FuncId) (lb1 lb2 : Array Value) (pr : ByteArray → Bool) (f : ByteArray → List ByteArray) (hB : B ≤ w.heap.size) (h : St w B g r s p) (hp : p.length ≤ 1000) (hf : ∀ s, (f s).length ≤ 10) (hP : Pd w k1 lb1 pr) (hU : Pu k2 lb2 f)
    (ht : tm pr noB s = -1) :
    Calls Tryd.prog 72 #[.pointer (some ⟨g, 0, none⟩), .agg #[.func (.func k1) #[] lb1, .func (.func k2) #[] lb2]] w (Wp.Ends w B g r (inS2 (noS s) p) (inP2 (noS s) p ++ s_table :: f s_table)) := by
  have H0 := Lib.hid h
  obtain ⟨A, n, c, pv, hw, hc, hc2, hr, ho, hg, hrow⟩ := h
  have hrl : ∀ k, r = some k → k < w.heap.size := fun k hk => own_lt ho k (hrow.trans hk)
  obtain ⟨W, hW⟩ : ∃ W, W = w.alloc (.cells #[.func (.func k1) #[] lb1, .func (.func k2) #[] lb2] 88) := ⟨_, rfl⟩
  have hbW : Below w.heap.size w W := hW ▸ (Below.refl _ _).alloc (Nat.le_refl _) _
  have b0 : W.cell? ⟨w.heap.size, 0, none⟩ = some (.func (.func k1) #[] lb1) := by rw [hW, World.cell?_alloc_new]; rfl
  have b1 : W.cell? ⟨w.heap.size, 1, none⟩ = some (.func (.func k2) #[] lb2) := by rw [hW, World.cell?_alloc_at _ _ _ _ rfl]; rfl
  have bl : w.heap.size < W.heap.size := by rw [hW]; simp
  have e0 := (hw.below hbW).c0
  have hgl := hw.lt
  have hgx : g ≠ w.heap.size := by omega
  have en := hU.1
  obtain ⟨i0, hi, hz0, hz1, hz2⟩ := info_parts infoStr
  have hbd : Below W.heap.size W W.drew := ⟨rfl, rfl, rfl, Nat.le_refl _, fun _ _ => rfl⟩
  have hT := topmost (c := c) W.drew ((hr.rd hB).below (seq hbW hbd)) (by omega) (hP.below (seq hbW hbd)) (neverP _)
  rw [show tm pr (fun _ => false) s = tm pr noB s from rfl, ht] at hT
  have hT2 : ∀ (w1 : World) (b : Nat), Below w.heap.size w w1 → b < w1.heap.size → w1.cell? ⟨b, 0, none⟩ = some (.string s_p) → Calls Tryd.prog 52 #[.slice A n c, .func (.func 76) #[] #[.pointer (some ⟨b, 0, none⟩)], .func (.func 49) #[] #[]] w1 fun e w' => e = .returned (.int .i64 (tm (namedB s_p) wallB s)) ∧ Below w1.heap.size w1 w' :=
    fun w1 b hb hlt hcb => topmost w1 ((hr.rd hB).below hb) (by omega) (namedP _ _ _ hlt hcb) (wallP _)
  have hW2 := fun (w1 : World) (hb : Below w.heap.size w w1) => withC w1 B g r (tm (namedB s_p) wallB s) s p (by have := hb.size; omega) (H0.out.below hb hB) (tm_ge _ _ _) (tm_le _ _ _)
  rw [show (if 0 ≤ tm (namedB s_p) wallB s then s.take (tm (namedB s_p) wallB s).toNat else s) = noS s from rfl] at hW2
  have hIn := fun (w1 : World) (hz : B ≤ w1.heap.size) (hs : St w1 B g r (noS s) p) => innerC w1 B g r (noS s) p hz hs (by omega)
  have hlen : (inP2 (noS s) p).length ≤ 2000 := by
    unfold inP2
    have := addN_len (if p = [] then topS (inS2 (noS s) p) else topS p)
    simp only [List.length_append]
    omega
  have FIN : ∀ w' A n c pv, n ≤ c → c ≤ 9223372036854775807 → Bun r w w' B g A n c (inS2 (noS s) p) pv (inP2 (noS s) p ++ [s_table] ++ f s_table) → Wp.Ends w B g r (inS2 (noS s) p) (inP2 (noS s) p ++ s_table :: f s_table) (.returned (.tuple #[])) w' :=
    fun w' A n c pv hc hc2 hb => by
      have := hb.ends hg hc hc2
      rwa [List.append_assoc] at this
  have ecell : ∀ w1, Below w.heap.size w w1 → w1.cell? ⟨g, 0, none⟩ = some (.slice A n c) := fun w1 hb => (hw.below hb).c0
  generalize Wp.Ends w B g r (inS2 (noS s) p) (inP2 (noS s) p ++ s_table :: f s_table) = Q at FIN ⊢
  generalize (tm (namedB s_p) wallB s) = t2 at *
  generalize inS2 (noS s) p = s5 at *
  generalize inP2 (noS s) p = p5 at *
  generalize noS s = s4 at *
  have HF := Lib.hid FIN
  have HT := Lib.hid hT
  have HT2 := Lib.hid hT2
  have HW2 := Lib.hid hW2
  have HIN := Lib.hid hIn
  have HU := Lib.hid hU
  have HW := Lib.hid hW
  have HE := Lib.hid ecell
  clear FIN hT hT2 hW2 hIn hP hU H0 ht hW ecell hw hr ho
  go_enter Tryd.func72, Tryd.ntmps72
  go_wp2_with fail
  rw [← HW.out]
  refine wp_region_still_tail 6 (by kernel_rfl) (by kernel_rfl) ?_
  simp only [List.take_succ_cons, List.take_zero, List.drop_succ_cons, List.drop_zero]
  change wpStill _ _ W.drew _ _ _
  repeat still_step
  refine wpStill_nil ?_
  change wpList _ _ _ _ _ W.drew
  go_wp2_with (first
    | (go_at_call 52; refine HT.out.mono ?_; rintro e w1 ⟨rfl, hb1⟩))
  have hb01 := seq hbW (seq hbd hb1)
  have e1 := HE.out _ hb01
  have drw : ∀ W : World, Below W.heap.size W W.drew := fun W => ⟨rfl, rfl, rfl, Nat.le_refl _, fun _ _ => rfl⟩
  have hb02 := seq hb01 (drw _)
  have e2 := HE.out _ hb02
  have hb03 : Below w.heap.size w (w1.alloc (.cells #[.string s_p] 9)).drew := seq (hb01.alloc hb01.size _) (drw _)
  have e3 : (w1.alloc (.cells #[.string ⟨#[112]⟩] 9)).drew.cell? ⟨g, 0, none⟩ = some (.slice A n c) := HE.out _ hb03
  have c3 : w1.heap.size < (w1.alloc (.cells #[.string s_p] 9)).drew.heap.size := by show _ < (w1.alloc (.cells #[.string s_p] 9)).heap.size; simp
  have d3 : (w1.alloc (.cells #[.string s_p] 9)).drew.cell? ⟨w1.heap.size, 0, none⟩ = some (.string s_p) := by show (w1.alloc (.cells #[.string s_p] 9)).cell? ⟨w1.heap.size, 0, none⟩ = _; rw [World.cell?_alloc_new]; rfl
  have D3 := Lib.hid d3
  clear d3
  go_region_law (first
    | ((go_simp; refine (namedC _ _).mono ?_; rintro e w2 ⟨rfl, rfl⟩))
    | ((go_simp; refine (HT2.out _ _ hb03 c3 D3.out).mono ?_; rintro e w3 ⟨rfl, hb3⟩; have e4 := HE.out _ (seq hb03 hb3)))
    | ((go_simp; refine (HW2.out _ (seq hb03 hb3)).mono ?_; rintro e w4 ⟨rfl, hs4, hb4, hz4, hk4⟩)))
  all_goals (
    have hbWW : Below W.heap.size W w3 := seq (seq (seq (seq hbd hb1) ((Below.refl _ _).alloc (Nat.le_refl _) (.cells #[.string s_p] 9))) (drw _)) hb3
    have hx3 := (hbWW.cell (p := ⟨w.heap.size, 1, none⟩) bl).trans b1
    have hzz : B ≤ w4.heap.size := by have h1 := (seq hb03 hb3).size; omega
    go_wp2_with (go_at_call 56; refine (HIN.out _ hzz hs4).mono ?_; rintro e w5 ⟨rfl, ⟨r', ⟨A3, n3, c3, pv3, hw3, hc3, hc4, hr3, ho3, _, hrw⟩, hq⟩, hb5, hy5, hm5⟩)
    obtain ⟨A5, m5, c5, rfl⟩ := slice_of ho3
    have hmid := mk_mid hB hgl hrl (seq hb03 hb3) hx3 hb4 hz4 hk4 hw3 ho3 hr3 hrw hq hb5 hy5 hm5
    clear hx3 hbWW hzz hs4 hw3 ho3 hr3 hrw hq hb5 hy5 hm5 hk4 hb4 hz4 e0 e1 e2 e3 e4 b0 b1 D3
    have hm1 : Mid r w w5.drew B g A3 n3 c3 s5 _ _ p5 w.heap.size _ := hmid.go (drw _)
    have hm2 : Mid r w (w5.alloc (.cells #[.string s_table] 9)).drew B g A3 n3 c3 s5 _ _ p5 w.heap.size _ := (hmid.go ((Below.refl _ _).alloc (Nat.le_refl _) _)).go (drw _)
    have p1 := hm1.k.c1
    have p2 := hm1.x
    have p3 : (w5.alloc (.cells #[.string ⟨#[116, 97, 98, 108, 101]⟩] 9)).drew.cell? ⟨g, 1, none⟩ = _ := hm2.k.c1
    have p4 : (w5.alloc (.cells #[.string ⟨#[116, 97, 98, 108, 101]⟩] 9)).drew.cell? ⟨w.heap.size, 1, none⟩ = _ := hm2.x
    have hsrc : 0 < [Value.string s_table].length → ∃ b' off, some (⟨w5.heap.size, 0, none⟩ : Addr) = some ⟨b', off, none⟩ ∧ ∀ j u, [Value.string s_table][j]? = some u → (w5.alloc (.cells #[.string s_table] 9)).drew.cell? ⟨b', off + j, none⟩ = some u := one_src w5 (.string s_table) 9 _ rfl
    have hfl := hf s_table
    clear hm1 hmid
    go_region_law (first
      | ((refine step_src (by rfl) (.tmp 49) (.tmp 50) 25 (by rfl) B 9 i0 (.string ByteArray.empty) 1 16 Tryd.underlying25 hi hz0 hz1 hz2 rfl (by decide) _ _ _ (by rfl) hm2.o (some ⟨w5.heap.size, 0, none⟩) 1 1 [.string s_table] (by rfl) rfl hsrc (by simp [Value.oneCell']) (len_max (by omega)) (len_by (by omega)) hm2.z ?_; intro v' w6 hown' hgrow hrow; obtain ⟨A', m', c', rfl⟩ := slice_of hown'; have hm6 := Mid.app (l := [s_table]) hm2 hown' hgrow hrow; clear hown' hgrow hrow; have p6 := hm6.x))
      | ((refine step_src (by rfl) (.tmp 51) (.tmp 54) 25 (by rfl) B 9 i0 (.string ByteArray.empty) 1 16 Tryd.underlying25 hi hz0 hz1 hz2 rfl (by decide) _ _ _ (by rfl) hm7.o A7 (f s_table).length c7 ((f s_table).map Value.string) (by rfl) (by simp) ho7.rd.cells (by simp [Value.oneCell']) (len_max (by simp; omega)) (len_by (by simp; omega)) hm7.z ?_; intro v' w8 hown' hgrow hrow; obtain ⟨A', m', c', rfl⟩ := slice_of hown'; have hm8 := Mid.app hm7 hown' hgrow hrow; clear hown' hgrow hrow; have p8 := hm8.k.c1; have ef8 := hm8.k.fz 1))
      | ((go_simp; refine (HU.out.2 _ s_table).mono ?_; rintro e w7 ⟨A7, c7, rfl, ho7, hb7⟩; have hm7 := hm6.go hb7; have f7 := hm7.k.c1; have g7 := hm7.k.fz 1)))
    all_goals (
      go_wp2
      go_end0
      exact HF.out _ _ _ _ _ hc3 hc4 (Mid.fin hg hm8)))
end Go.Proofs.YtddgpkdhakjjaaaDoor.Oc
