/- The walk of PolicyNever: what no valid policy has. -/
import Derived.Maps.OwnIn
import Derived.Test.YteikagdinecfoaaGreatDoorWPolicyShut
import Derived.Test.YteikagdinecfoaaGreatDoorAi
set_option linter.unusedVariables false
set_option linter.unusedSimpArgs false
namespace Go.Proofs.YteikagdinecfoaaGreatDoor.Aj
open Go.RowKit Go.Shelf Lb Gr Pd Fl Go.Proofs.YteikagdinecfoaaGreatDoor.Pm Bk Ru Co Is Go.Proofs.YteikagdinecfoaaGreatDoor.Nv Go.Proofs.YteikagdinecfoaaGreatDoor.Ai
section
attribute [local go_sem ↓] Go.wp_at_zero Go.wp_at_succ
set_option maxHeartbeats 2000000 in
set_option maxRecDepth 100000 in
theorem allC (x : Vs) (p : PolD) (w : World) (h : RdP w 0 w.heap.size x p) (hf : FitP p) : Calls Tryz.prog 38 #[polV x p] w fun e w' =>
    ∃ D1 e1 D2 e2 D3 e3 D4 e4 F, e = .returned (.func (.func 90) #[] #[.pointer (some ⟨w.heap.size, 0, none⟩)]) ∧ OwnP w' (w.heap.size + 1) ⟨.slice D1 p.els.length e1, .slice D2 p.glob.length e2, .slice D3 p.schemes.length e3, .slice D4 p.drop.length e4⟩ p F ∧
      Bl w' w.heap.size 29 [.slice D1 p.els.length e1, .slice D2 p.glob.length e2, .slice D3 p.schemes.length e3, .bool p.rel, .slice D4 p.drop.length e4, .int .i64 p.depth, .int .i64 p.window] ∧ Below w.heap.size w w' := by
  have hrd : ∀ W, Below w.heap.size w W → RdP W 0 W.heap.size x p := fun W hW => (h.stay (stay_below hW (Nat.le_refl _))).wide (Nat.le_refl _) hW.size
  have HCP : Hid (∀ W, Below w.heap.size w W → Calls Tryz.prog 89 #[polV x p] W fun e w' => ∃ D1 e1 D2 e2 D3 e3 D4 e4 F, e = .returned (.agg #[.slice D1 p.els.length e1, .slice D2 p.glob.length e2, .slice D3 p.schemes.length e3, .bool p.rel, .slice D4 p.drop.length e4, .int .i64 p.depth, .int .i64 p.window]) ∧ OwnP w' W.heap.size ⟨.slice D1 p.els.length e1, .slice D2 p.glob.length e2, .slice D3 p.schemes.length e3, .slice D4 p.drop.length e4⟩ p F ∧ Below W.heap.size W w') := Lib.hid fun W hW => (copiedC x p W (hrd W hW) hf).mono fun e w' ⟨y, F, he, ho, hb⟩ => by
    obtain ⟨D1, e1, D2, e2, D3, e3, D4, e4, rfl, _⟩ := (ho.rd (lo := 0) (hi := w'.heap.size) (Nat.zero_le _) (Nat.le_refl _)).form
    exact ⟨D1, e1, D2, e2, D3, e3, D4, e4, F, he, ho, hb⟩
  obtain ⟨A1, c1, A2, c2, A3, c3, A4, c4, rfl, q1, q2, q3, q4, q5, q6, q7, q8⟩ := h.form
  clear h hrd q1 q2 q3 q4 q5 q6 q7 q8
  unfold polV at HCP ⊢
  simp only at HCP ⊢
  obtain ⟨W0, hW0⟩ : ∃ W, W = w.alloc (.cells #[.slice A1 p.els.length c1, .slice A2 p.glob.length c2, .slice A3 p.schemes.length c3, .bool p.rel, .slice A4 p.drop.length c4, .int .i64 p.depth, .int .i64 p.window] 29) := ⟨_, rfl⟩
  have hb0 : Below w.heap.size w W0 := hW0 ▸ (Below.refl _ _).alloc (Nat.le_refl _) _
  have hs0 : W0.heap.size = w.heap.size + 1 := by rw [hW0]; simp
  have k0 : Bl W0 w.heap.size 29 [.slice A1 p.els.length c1, .slice A2 p.glob.length c2, .slice A3 p.schemes.length c3, .bool p.rel, .slice A4 p.drop.length c4, .int .i64 p.depth, .int .i64 p.window] := hW0 ▸ Bl.new w _ _ rfl
  have g0 := k0.cell 0 rfl
  have g1 := k0.cell 1 rfl
  have g2 := k0.cell 2 rfl
  have g3 := k0.cell 3 rfl
  have g4 := k0.cell 4 rfl
  have g5 := k0.cell 5 rfl
  have g6 := k0.cell 6 rfl
  have HX0 := Lib.hid hW0
  clear hW0
  go_enter Tryz.func38, Tryz.ntmps38
  go_upto_region 1 with fail
  rw [← HX0.out]
  go_upto_region 2 with (go_at_call 89; refine (HCP.out _ hb0).mono ?_; rintro e w1 ⟨D1, e1, D2, e2, D3, e3, D4, e4, F, rfl, ho1, hb1⟩; have k1 := k0.below hb1; obtain ⟨s0, s1, s2, s3, s4, s5, s6, s7, s8, s9, s10, s11, s12, s13⟩ := k1.store7 (.slice D1 p.els.length e1) (.slice D2 p.glob.length e2) (.slice D3 p.schemes.length e3) (.bool p.rel) (.slice D4 p.drop.length e4) (.int .i64 p.depth) (.int .i64 p.window))
  have jz := k1.seven (.slice D1 p.els.length e1) (.slice D2 p.glob.length e2) (.slice D3 p.schemes.length e3) (.bool p.rel) (.slice D4 p.drop.length e4) (.int .i64 p.depth) (.int .i64 p.window)
  have hfz := Fr.set7 w1 w.heap.size (.slice D1 p.els.length e1) (.slice D2 p.glob.length e2) (.slice D3 p.schemes.length e3) (.bool p.rel) (.slice D4 p.drop.length e4) (.int .i64 p.depth) (.int .i64 p.window)
  have hz1 := hb1.size
  go_wp2
  go_ret
  exact ⟨D1, e1, D2, e2, D3, e3, D4, e4, F, rfl, (ho1.keep hfz.size fun k hk => hfz.block k (ho1.ge k hk).2 (by have := (ho1.ge k hk).1; simp; omega)).low (by omega), jz, (hb0.trans (hb1.mono hb0.size)).trans (hfz.below (by omega) (by simp))⟩
end
/-- THE ITERATOR's CONTRACT -/
theorem allStops (n : Nat) (hn : 2 ≤ n) (Bs B : Nat) (p : PolD) (A1 A2 A3 A4 : Option Addr) (c1 c2 c3 c4 : Nat) (F : List Nat) (hf : FitP p) (w : World) (hown : OwnP w B ⟨.slice A1 p.els.length c1, .slice A2 p.glob.length c2, .slice A3 p.schemes.length c3, .slice A4 p.drop.length c4⟩ p F)
    (hBs : Bl w Bs 29 [.slice A1 p.els.length c1, .slice A2 p.glob.length c2, .slice A3 p.schemes.length c3, .bool p.rel, .slice A4 p.drop.length c4, .int .i64 p.depth, .int .i64 p.window]) :
    SeqStopsK Fence.wide n Tryz.prog 90 #[.pointer (some ⟨Bs, 0, none⟩)] (encY (p := p)) KpC (fun _ => True) (fun _ => True) (cntE p p.els.length) w := fun lp J Jx W hW hJ hJx hY h0 =>
  all1 n hn lp Bs B p A1 A2 A3 A4 c1 c2 c3 c4 F hf J Jx W (ownP_kp hown (kpC_below hW)) (hBs.below hW) hJ hJx hY h0
end Go.Proofs.YteikagdinecfoaaGreatDoor.Aj

namespace Go.Proofs.YteikagdinecfoaaGreatDoor.policyNever
open Go.RowKit Go.Shelf Lb Gr Pd Fl Go.Proofs.YteikagdinecfoaaGreatDoor.Pm Bk Ru Co Is Go.Proofs.YteikagdinecfoaaGreatDoor.Nv Go.Proofs.YteikagdinecfoaaGreatDoor.Ai Go.Proofs.YteikagdinecfoaaGreatDoor.Aj Go.Proofs.YteikagdinecfoaaGreatDoor.Aw Pa Go.Proofs.YteikagdinecfoaaGreatDoor.Ea Fg Go.Proofs.YteikagdinecfoaaGreatDoor.Ck Go.Proofs.YteikagdinecfoaaGreatDoor.Ch Go.Proofs.YteikagdinecfoaaGreatDoor.Vd
attribute [local go_sem] Oper.semAt_some

theorem nilCmp (f : Fn) (cap : Array Value) (W : World) : (binOp .eql 59 (.func f #[] cap) .nilFunc).run Tryz.prog W = .ok (.bool false) W := by
  first | (kernel_rfl; done) | (unfold binOp; simp [go_sem]; done) | (simp [binOp, go_sem]; done) | rfl
theorem lit_no' {s : ByteArray} {l : List UInt8} (h : s ≠ str l) : (s.toList == l) = false := by
  have h1 := toList_ne_of h
  rw [Lib.toList_data (str l)] at h1
  exact h1
theorem lit_yes' {s : ByteArray} {l : List UInt8} (h : s = str l) : (s.toList == l) = true := by
  have h1 := toList_eq_of h
  rw [Lib.toList_data (str l)] at h1
  exact h1
theorem on_no {s : ByteArray} (h : Lib.hasPrefix (lowL s.data.toList) [111, 110] = false) : ((s.extract 0 2).toList == [111, 110]) = false := by
  apply lit_no'
  intro he
  have h1 : s.data.toList.take 2 = [111, 110] := by
    have h2 := congrArg (fun x : ByteArray => x.data.toList) he
    have h3 : s.data.toList.take 2 = (str [111, 110]).data.toList := by simpa [ByteArray.data_extract, Array.toList_extract] using h2
    exact h3
  have h3 : ∃ r, s.data.toList = 111 :: 110 :: r := by
    rw [← List.take_append_drop 2 s.data.toList, h1]
    exact ⟨_, rfl⟩
  obtain ⟨r, hr⟩ := h3
  rw [hr] at h
  have h4 : Lib.hasPrefix (lowL (111 :: 110 :: r)) [111, 110] = true := rfl
  rw [h4] at h
  cases h
theorem lim_of {p : PolD} (h : Valid p) : 1 ≤ p.depth ∧ p.depth ≤ 512 := by
  have h1 := h.lim
  unfold limOk at h1
  simp only [Bool.and_eq_true, decide_eq_true_eq] at h1
  exact ⟨h1.1.1.1.1, h1.1.1.1.2⟩
attribute [local go_sem] Go.Proofs.YteikagdinecfoaaGreatDoor.Ai.encY
theorem bl_own {α : Type} {g : Nat} {t : TypeId} {xs : List Value} (B : Nat) : OwnFrom B (fun (_ : List α) W => Bl W g t xs) := fun s W W' row hs hg hr => hs.of (hg.block g hs.lt (fun e => by
  obtain ⟨o, ho, hc⟩ := (hr g e.symm).2
  rw [show W.heap[g]? = _ from hs] at ho
  cases ho
  cases hc))

set_option maxHeartbeats 8000000 in
set_option maxRecDepth 100000 in
theorem walk (w : World) (hl : Laid w) (x : Vs) (p : PolD) (h : RdP w 0 w.heap.size x p) (hg : GdP p) : Calls Tryz.prog 7 #[polV x p] w fun e w' => e = .returned (.bool true) ∧ Below w.heap.size w w' := by
  have hro : Fence.wide.round = none := rfl
  have hf := fit_of hg
  have hok := ok_of hg
  have hrw : ∀ W, Below w.heap.size w W → RdP W 0 W.heap.size x p := fun W hW => (h.stay (stay_below hW (Nat.le_refl _))).wide (Nat.le_refl _) hW.size
  have HA : Hid (∀ W, Below w.heap.size w W → CallsIn Fence.wide 8 Tryz.prog 17 #[] W fun e w' => e = .returned (.bool true) ∧ Below W.heap.size W w') := Lib.hid fun W hW => (callsIn_wide (n := 8)).2 (awakeC W (hl.below hW))
  have HNM : Hid (∀ W (e : Int), CallsIn Fence.wide 8 Tryz.prog 16 #[.int .i64 e] W fun r w' => r = .returned (.int .i64 e) ∧ W = w') := Lib.hid fun W e => (callsIn_wide (n := 8)).2 (numC e W)
  have HCK : Hid (∀ W, Below w.heap.size w W → CallsIn Fence.wide 8 Tryz.prog 22 #[polV x p] W fun e w' => e = .returned (.int .i64 (checkI p)) ∧ Below W.heap.size W w') := Lib.hid fun W hW => (callsIn_wide (n := 8)).2 (CheckC x p W (hl.tab.below hW) (hl.nev.below hW) (hrw W hW) hok)
  have HEL : Hid (checkI p = 0 → ∀ W s, Below w.heap.size w W → s ∈ barredL → CallsIn Fence.wide 8 Tryz.prog 29 #[polV x p, .string s] W fun e w' => ∃ n A k c, e = .returned (.tuple #[.agg #[.string n, .slice A k c], .bool false]) ∧ Below W.heap.size W w') := Lib.hid fun hc W s hW hs => (callsIn_wide (n := 8)).2 ((elementC x p s W (hrw W hW) hf.1).mono fun e w' ⟨u, G, he, ho, hb⟩ => by
    have hn : fndE p.els s = none := no_barred (valid_of hc) hs
    obtain ⟨A, c, rfl, _⟩ := fmR.own_form ho
    rw [show (fndE p.els s).isSome = false by rw [hn]; rfl] at he
    exact ⟨_, A, _, c, he, hb⟩)
  have HAL : Hid (∀ W, Below w.heap.size w W → CallsIn Fence.wide 8 Tryz.prog 38 #[polV x p] W fun e w' =>
    ∃ D1 e1 D2 e2 D3 e3 D4 e4 F, e = .returned (.func (.func 90) #[] #[.pointer (some ⟨W.heap.size, 0, none⟩)]) ∧ OwnP w' (W.heap.size + 1) ⟨.slice D1 p.els.length e1, .slice D2 p.glob.length e2, .slice D3 p.schemes.length e3, .slice D4 p.drop.length e4⟩ p F ∧
      Bl w' W.heap.size 29 [.slice D1 p.els.length e1, .slice D2 p.glob.length e2, .slice D3 p.schemes.length e3, .bool p.rel, .slice D4 p.drop.length e4, .int .i64 p.depth, .int .i64 p.window] ∧ Below W.heap.size W w') := Lib.hid fun W hW => (callsIn_wide (n := 8)).2 (allC x p W (hrw W hW) hf)
  have HF := Lib.hid hf
  have HRD : Hid (∀ W, Below w.heap.size w W → kdW.rd W 0 W.heap.size x.s p.schemes) := Lib.hid fun W hW => (hrw W hW).2.2.1
  have HVA : Hid (checkI p = 0 → Valid p) := Lib.hid valid_of
  obtain ⟨A1, c1, A2, c2, A3, c3, A4, c4, rfl, q1, q2, q3, q4, q5, q6, q7, q8⟩ := h.form
  have hns : (p.schemes.length : Int) ≤ 9223372036854775807 := by have := hf.2.2.1; omega
  clear hrw hg h hl q1 q2 q3 q4 q5 q6 q7 q8 hf hok
  unfold polV at HCK HEL HAL ⊢
  simp only at HCK HEL HAL HRD ⊢
  obtain ⟨W0, hW0⟩ : ∃ W, W = (w.alloc (.cells #[.slice A1 p.els.length c1, .slice A2 p.glob.length c2, .slice A3 p.schemes.length c3, .bool p.rel, .slice A4 p.drop.length c4, .int .i64 p.depth, .int .i64 p.window] 29)).alloc (.cells #[.bool false] 4) := ⟨_, rfl⟩
  have hb0 : Below w.heap.size w W0 := hW0 ▸ ((Below.refl _ _).alloc (Nat.le_refl _) _).alloc (by simp) _
  have kP : Bl W0 w.heap.size 29 [.slice A1 p.els.length c1, .slice A2 p.glob.length c2, .slice A3 p.schemes.length c3, .bool p.rel, .slice A4 p.drop.length c4, .int .i64 p.depth, .int .i64 p.window] := hW0 ▸ (Bl.new w _ _ rfl).alloc _
  have kR : Bl W0 (w.heap.size + 1) 4 [.bool false] := hW0 ▸ Bl.new _ _ _ (by simp)
  have hs0 : W0.heap.size = w.heap.size + 2 := by rw [hW0]; simp
  have HK : Hid (∀ W, Below W0.heap.size W0 W → Below w.heap.size w W ∧ (W.cell? ⟨w.heap.size, 0, none⟩ = some (.slice A1 p.els.length c1) ∧ W.cell? ⟨w.heap.size, 1, none⟩ = some (.slice A2 p.glob.length c2) ∧ W.cell? ⟨w.heap.size, 2, none⟩ = some (.slice A3 p.schemes.length c3) ∧ W.cell? ⟨w.heap.size, 3, none⟩ = some (.bool p.rel) ∧ W.cell? ⟨w.heap.size, 4, none⟩ = some (.slice A4 p.drop.length c4) ∧ W.cell? ⟨w.heap.size, 5, none⟩ = some (.int .i64 p.depth) ∧ W.cell? ⟨w.heap.size, 6, none⟩ = some (.int .i64 p.window)) ∧ W.cell? ⟨w.heap.size + 1, 0, none⟩ = some (.bool false) ∧ W.frozen? ⟨w.heap.size + 1, 0, none⟩ = false ∧ Bl W w.heap.size 29 [.slice A1 p.els.length c1, .slice A2 p.glob.length c2, .slice A3 p.schemes.length c3, .bool p.rel, .slice A4 p.drop.length c4, .int .i64 p.depth, .int .i64 p.window] ∧ Bl W (w.heap.size + 1) 4 [.bool false]) := Lib.hid fun W hW => by
    have j0 := kP.below hW
    have j1 := kR.below hW
    exact ⟨hb0.trans (hW.mono hb0.size), ⟨j0.cell 0 rfl, j0.cell 1 rfl, j0.cell 2 rfl, j0.cell 3 rfl, j0.cell 4 rfl, j0.cell 5 rfl, j0.cell 6 rfl⟩, j1.cell 0 rfl, j1.fz 0, j0, j1⟩
  have HX0 := Lib.hid hW0
  obtain ⟨_, ⟨a0, a1, a2, a3, a4, a5, a6⟩, b0, b1, _⟩ := HK.out _ (Below.refl _ _)
  clear hW0
  refine (callsIn_wide (n := 9)).1 ?_
  refine callsIn_of_wp_marks Tryz.func7 rfl trivial ?_ hro
  simp only [Tryz.ntmps7, List.size_toArray, List.length_cons, List.length_nil, Nat.reduceAdd, Nat.reduceSub, Array.replicate_succ, Array.replicate_zero, List.push_toArray, List.append_toArray, List.nil_append, List.cons_append]
  gi_upto_region 1 with fail
  rw [← HX0.out]
  by_cases hc : checkI p = 0
  · have HEL2 := Lib.hid (HEL.out hc)
    have HV := Lib.hid (HVA.out hc)
    rw [hc] at HCK
    clear HEL HVA hc
    gi_upto_region 3 with (first
      | (refine ⟨trivial, ?_⟩; gi_at_call 22; refine (HCK.out _ hb0).mono ?_; rintro e w1 ⟨rfl, hb1⟩)
      | (refine ⟨trivial, ?_⟩; gi_at_call 16; refine (HNM.out _ 0).mono ?_; rintro e w2 ⟨rfl, rfl⟩))
    obtain ⟨hw1, ⟨a0, a1, a2, a3, a4, a5, a6⟩, b0, b1, _⟩ := HK.out _ hb1
    obtain ⟨W1, hW1⟩ : ∃ W, W = w1.alloc (.cells #[.string ⟨#[115, 99, 114, 105, 112, 116]⟩, .string ⟨#[115, 116, 121, 108, 101]⟩, .string ⟨#[120, 109, 112]⟩, .string ⟨#[105, 102, 114, 97, 109, 101]⟩, .string ⟨#[110, 111, 101, 109, 98, 101, 100]⟩, .string ⟨#[110, 111, 102, 114, 97, 109, 101, 115]⟩, .string ⟨#[110, 111, 115, 99, 114, 105, 112, 116]⟩, .string ⟨#[116, 105, 116, 108, 101]⟩, .string ⟨#[115, 118, 103]⟩, .string ⟨#[109, 97, 116, 104]⟩, .string ⟨#[116, 101, 109, 112, 108, 97, 116, 101]⟩, .string ⟨#[112, 108, 97, 105, 110, 116, 101, 120, 116]⟩, .string ⟨#[111, 98, 106, 101, 99, 116]⟩, .string ⟨#[101, 109, 98, 101, 100]⟩] 9) := ⟨_, rfl⟩
    have hb2 : Below w1.heap.size w1 W1 := hW1 ▸ (Below.refl _ _).alloc (Nat.le_refl _) _
    have kN : Bl W1 w1.heap.size 9 (barredL.map Value.string) := by rw [hW1]; exact Bl.new w1 9 [.string ⟨#[115, 99, 114, 105, 112, 116]⟩, .string ⟨#[115, 116, 121, 108, 101]⟩, .string ⟨#[120, 109, 112]⟩, .string ⟨#[105, 102, 114, 97, 109, 101]⟩, .string ⟨#[110, 111, 101, 109, 98, 101, 100]⟩, .string ⟨#[110, 111, 102, 114, 97, 109, 101, 115]⟩, .string ⟨#[110, 111, 115, 99, 114, 105, 112, 116]⟩, .string ⟨#[116, 105, 116, 108, 101]⟩, .string ⟨#[115, 118, 103]⟩, .string ⟨#[109, 97, 116, 104]⟩, .string ⟨#[116, 101, 109, 112, 108, 97, 116, 101]⟩, .string ⟨#[112, 108, 97, 105, 110, 116, 101, 120, 116]⟩, .string ⟨#[111, 98, 106, 101, 99, 116]⟩, .string ⟨#[101, 109, 98, 101, 100]⟩] rfl
    have HNM2 : Hid (∀ W, Below W1.heap.size W1 W → ∀ j (hj : j < barredL.length), W.cell? ⟨w1.heap.size, j, none⟩ = some (.string barredL[j])) := Lib.hid fun W hW j hj => (kN.below hW).cell j (by rw [List.getElem?_map, List.getElem?_eq_getElem hj]; rfl)
    have hbl : barredL.length = 14 := rfl
    have hn1 : Below W0.heap.size W0 W1 := hb1.trans (hb2.mono hb1.size)
    have hz1 := hn1.size
    have HW1 := Lib.hid hW1
    clear hW1 kN a0 a1 a2 a3 a4 a5 a6 b0 b1
    gi_wp2
    rw [← HW1.out]
    gi_loopw [19] (fun i wr => ∃ k : Nat, k ≤ 14 ∧ i = .int .i64 k ∧ Below W1.heap.size W1 wr) (fun i _ => 14 - (intOf i).toNat)
    case atStart => exact ⟨0, by omega, rfl, Below.refl _ _⟩
    case round =>
      obtain ⟨k, hk, rfl, hnx⟩ := hrel
      have hn2 : Below W0.heap.size W0 wr := hn1.trans (hnx.mono hz1)
      obtain ⟨hwr, ⟨a0, a1, a2, a3, a4, a5, a6⟩, b0, b1, kPr, kRr⟩ := HK.out _ hn2
      by_cases hlt : k < 14
      · obtain ⟨s, hsm, hx⟩ : ∃ s, s ∈ barredL ∧ wr.cell? ⟨w1.heap.size, k, none⟩ = some (.string s) := ⟨_, List.getElem_mem (show k < barredL.length from hlt), HNM2.out wr hnx k hlt⟩
        have hmem := Lib.hid (HEL2.out wr s hwr hsm)
        have hk0 : (0 : Int) ≤ (k : Int) := by omega
        have hk1 : (k : Int) < 14 := by omega
        clear hsm hbl
        gi_wp2_with (refine ⟨trivial, ?_⟩; gi_at_call 29; refine hmem.out.mono ?_; rintro e w8 ⟨en, A8, k8, c8, rfl, hb8⟩)
        have hz8 := hb8.size
        have hnxs := hnx.size
        go_roundw
        case rel => exact ⟨k + 1, by omega, by go_num, (hnx.trans (hb8.mono hnxs)).alloc (by omega) _⟩
        case measure => simp [intOf] <;> omega
      · obtain rfl : k = 14 := by omega
        gi_wp2_with (refine ⟨trivial, ?_⟩; gi_at_call 38; refine (HAL.out _ hwr).mono ?_; rintro e wA ⟨D1, e1, D2, e2, D3, e3, D4, e4, F, rfl, hoA, hBA, hbA⟩; have hnil := nilCmp (.func 90) #[.pointer (some ⟨wr.heap.size, 0, none⟩)] wA)
        have hzw := hwr.size
        have hzA := hbA.size
        have hwA : Below w.heap.size w wA := hwr.trans (hbA.mono hzw)
        have hw2 : w.heap.size + 2 ≤ wr.heap.size := by have := hn2.size; omega
        have kPA := kPr.below hbA
        have kRA := kRr.below hbA
        have HOKS : Hid (∀ x : Yd p, ROk x.r ∧ x.n ≠ ByteArray.empty) := Lib.hid fun x => allOf_ok HV.out x.mem
        clear hnil a0 a1 a2 a3 a4 a5 a6 b0 b1
        refine wpIn_rangeFunc_ownH hro (by omega) (gf := 90) (lb := #[.pointer (some ⟨wr.heap.size, 0, none⟩)]) rfl trivial (enters_of Tryz.func90 (by kernel_rfl) rfl)
          (allStops 8 (by omega) wr.heap.size (wr.heap.size + 1) p D1 D2 D3 D4 e1 e2 e3 e4 F HF.out wA hoA hBA) kpC_t kpC_b (Below.refl _ _) (fun _ => rfl)
          (fun pre W => Bl W w.heap.size 29 [.slice A1 p.els.length c1, .slice A2 p.glob.length c2, .slice A3 p.schemes.length c3, .bool p.rel, .slice A4 p.drop.length c4, .int .i64 p.depth, .int .i64 p.window] ∧ Bl W (w.heap.size + 1) 4 [.bool false] ∧ Below w.heap.size w W)
          (fun _ _ _ => False)
          (OwnFrom.and (bl_own _) (OwnFrom.and (bl_own _) (ownFrom_below (Nat.le_refl _) (by omega))))
          (fun _ _ _ _ _ hs _ _ => hs)
          ⟨kPA, kRA, hwA⟩
          (fun x a' W => ∃ bx, Bl W bx 50 [.string x.r.name, .int .i64 x.r.kind, .slice x.A x.r.words.length x.c] ∧ a' = { tmps := #[.agg #[.slice A1 p.els.length c1, .slice A2 p.glob.length c2, .slice A3 p.schemes.length c3, .bool p.rel, .slice A4 p.drop.length c4, .int .i64 p.depth, .int .i64 p.window], .pointer (some ⟨w.heap.size, 0, none⟩), .pointer (some ⟨w.heap.size + 1, 0, none⟩), undef, u4, u5, u6, .func (.func 90) #[] #[.pointer (some ⟨wr.heap.size, 0, none⟩)], .string x.n, .pointer (some ⟨bx, 0, none⟩), undef, undef, .agg #[.slice A1 p.els.length c1, .slice A2 p.glob.length c2, .slice A3 p.schemes.length c3, .bool p.rel, .slice A4 p.drop.length c4, .int .i64 p.depth, .int .i64 p.window], .int .i64 0, .int .i64 0, .bool false, undef, .slice (some ⟨w1.heap.size, 0, none⟩) 14 14, .int .i64 14, .int .i64 14, .bool false, u21, u22, u23, u24, u25, u26, u27, u28, u29, u30, .agg #[.slice A1 p.els.length c1, .slice A2 p.glob.length c2, .slice A3 p.schemes.length c3, .bool p.rel, .slice A4 p.drop.length c4, .int .i64 p.depth, .int .i64 p.window], .func (.func 90) #[] #[.pointer (some ⟨wr.heap.size, 0, none⟩)], .func (.func 90) #[] #[.pointer (some ⟨wr.heap.size, 0, none⟩)], .bool false, .func (.func 90) #[] #[.pointer (some ⟨wr.heap.size, 0, none⟩)], .string x.n, .agg #[.string x.r.name, .int .i64 x.r.kind, .slice x.A x.r.words.length x.c], undef, undef, undef, undef, undef, undef, undef, undef, undef, undef, undef, undef, undef, undef, undef, undef, undef, undef, undef, undef, undef, undef, undef, undef, undef, undef, undef, undef, undef, undef, undef, undef, undef, undef, undef, undef, undef, undef, undef, undef, undef, undef, undef, undef, undef, undef, undef, undef, undef, undef, undef, undef, undef, undef, undef, undef, undef, undef, undef, undef, undef, undef, undef, undef, undef, undef, undef, undef], defers := [] })
          (fun x a' _ X Y row hs hg hr => by obtain ⟨bx, h1, h2⟩ := hs; exact ⟨bx, bl_own (α := Unit) _ [] X Y row h1 hg hr, h2⟩)
          ?assign ?body ?done ?stop
        case assign =>
          rintro l pre x W K ⟨hP, hR, hB⟩ hK
          gi_wp2
          exact hK _ _ ((KeepsOthers.alloc _ _).from _) (kpC_below ((Below.refl _ _).alloc (Nat.le_refl _) _)) ⟨hP.alloc _, hR.alloc _, hB.alloc hB.size _⟩ ⟨W.heap.size, Bl.new W _ _ rfl, rfl⟩
        case body =>
          rintro l pre x a' W hl ⟨r, hr⟩ ⟨hP, hR, hB⟩ ⟨bx, hX, rfl⟩ hlt
          have z0 := hX.cell 0 rfl
          have z1 := hX.cell 1 rfl
          have z2 := hX.cell 2 rfl
          obtain ⟨hro2, hne⟩ := HOKS.out x
          obtain ⟨xn, ⟨rn, rk, rws⟩, xA, xc, xm⟩ := x
          simp only at z0 z1 z2 hro2 hne ⊢
          have i1 := lit_no' hro2.style
          have i2 := lit_no' hro2.srcdoc
          have i5 := lit_no' (l := []) hne
          have hfin : ∀ W, (Bl W w.heap.size 29 [.slice A1 p.els.length c1, .slice A2 p.glob.length c2, .slice A3 p.schemes.length c3, .bool p.rel, .slice A4 p.drop.length c4, .int .i64 p.depth, .int .i64 p.window] ∧ Bl W (w.heap.size + 1) 4 [.bool false] ∧ Below w.heap.size w W) → KeepsFrom wA.heap.size W W ∧ KpC W W ∧ (Bl W w.heap.size 29 [.slice A1 p.els.length c1, .slice A2 p.glob.length c2, .slice A3 p.schemes.length c3, .bool p.rel, .slice A4 p.drop.length c4, .int .i64 p.depth, .int .i64 p.window] ∧ Bl W (w.heap.size + 1) 4 [.bool false] ∧ Below w.heap.size w W) := fun W h => ⟨KeepsFrom.refl _ _, ⟨Nat.le_refl _, fun _ _ h _ => h⟩, h⟩
          have HFIN := Lib.hid (hfin W ⟨hP, hR, hB⟩)
          have hon := on_no hro2.on
          have hhref := hro2.href
          have hsrc := hro2.src
          clear hfin hne hlt hr hro2
          by_cases hsz : 2 ≤ rn.size
          · have hszI : ((2 : Int) ≤ (rn.size : Int)) := by omega
            by_cases q4 : rn = str [104, 114, 101, 102]
            · have i3 := lit_yes' q4
              have hk5 : rk = 5 := hhref q4
              subst hk5
              clear q4 hhref hsrc
              gi_wp2
              exact HFIN.out
            · have i3 := lit_no' q4
              by_cases q5 : rn = str [115, 114, 99]
              · have i4 := lit_yes' q5
                have hk5 : rk = 5 := hsrc q5
                subst hk5
                clear q4 q5 hhref hsrc
                gi_wp2
                exact HFIN.out
              · have i4 := lit_no' q5
                clear q4 q5 hhref hsrc
                gi_wp2
                exact HFIN.out
          · have hszI : ¬ ((2 : Int) ≤ (rn.size : Int)) := by omega
            by_cases q4 : rn = str [104, 114, 101, 102]
            · exact absurd (by rw [q4]; decide) hsz
            · have i3 := lit_no' q4
              by_cases q5 : rn = str [115, 114, 99]
              · exact absurd (by rw [q5]; decide) hsz
              · have i4 := lit_no' q5
                clear q4 q5 hhref hsrc
                gi_wp2
                exact HFIN.out
        case done =>
          rintro D xs W hD _ ⟨hP, hR, hB⟩ hK
          have hDl := (Array.getElem?_eq_some_iff.1 hK).1
          have z2 := hP.cell 2 rfl
          have hrs := HRD.out W hB
          obtain ⟨hlim1, hlim2⟩ := lim_of HV.out
          have HNV : Hid (∀ s ∈ p.schemes, Go.Proofs.YteikagdinecfoaaGreatDoor.Pd.hasT Go.Proofs.YteikagdinecfoaaGreatDoor.Lk.neverL s = false) := Lib.hid fun s hs => no_never HV.out hs
          have HKD := Lib.hid hK
          have hWs := hB.size
          have hDne : D ≠ w.heap.size + 1 := by omega
          clear hK
          gi_wp2
          gi_loopw [80] (fun i wr => ∃ j : Nat, j ≤ p.schemes.length ∧ i = .int .i64 j ∧ wr = W) (fun i _ => p.schemes.length - (intOf i).toNat)
          case atStart => first | exact ⟨0, by omega, rfl, rfl⟩ | exact ⟨0, by omega, rfl, trivial⟩
          case round =>
            obtain ⟨j, hj, rfl, rfl⟩ := hrel
            by_cases hltj : j < p.schemes.length
            · obtain ⟨b2, off2, rfl, _, _, hcx⟩ := rdW_at hrs hltj
              have hnv := HNV.out _ (List.getElem_mem hltj)
              obtain ⟨s, hs⟩ : ∃ s, s = p.schemes[j] := ⟨_, rfl⟩
              rw [← hs] at hcx hnv
              have hj0 : (0 : Int) ≤ (j : Int) := by omega
              have hj1 : (j : Int) < (p.schemes.length : Int) := by omega
              have hns2 : ∀ l, str l ∈ Go.Proofs.YteikagdinecfoaaGreatDoor.Lk.neverL → (s.toList == l) = false := fun l hl => lit_no' (fun e => by
                have h9 := Go.Proofs.YteikagdinecfoaaGreatDoor.Pd.hasT_iff.2 hl
                rw [← e, hnv] at h9
                cases h9)
              have i1 := hns2 [106, 97, 118, 97, 115, 99, 114, 105, 112, 116] (by unfold Go.Proofs.YteikagdinecfoaaGreatDoor.Lk.neverL; simp)
              have i2 := hns2 [100, 97, 116, 97] (by unfold Go.Proofs.YteikagdinecfoaaGreatDoor.Lk.neverL; simp)
              have i3 := hns2 [118, 98, 115, 99, 114, 105, 112, 116] (by unfold Go.Proofs.YteikagdinecfoaaGreatDoor.Lk.neverL; simp)
              clear hs hns2 hnv z2
              gi_wp2
              go_roundw
              case rel => first | exact ⟨j + 1, by omega, by go_num, rfl⟩ | exact ⟨j + 1, by omega, by go_num, trivial⟩
              case measure => simp [intOf] <;> omega
            · obtain rfl : j = p.schemes.length := by omega
              have z5 := hP.cell 5 rfl
              gi_wp2_with (refine ⟨trivial, ?_⟩; gi_at_call 17; refine (HA.out _ hB).mono ?_; rintro e w9 ⟨rfl, hb9⟩; have hR9 := hR.below hb9; have y0 := hR9.cell 0 rfl; have y1 := hR9.fz 0)
              have hKD9 : (w9.setCell ⟨w.heap.size + 1, 0, none⟩ (.bool true)).heap[D]? = some (.deferred (some [])) := by
                rw [Below.heap_setCell _ ⟨w.heap.size + 1, 0, none⟩ _ D hDne, hb9.block D hDl]
                exact HKD.out
              have hfr : Fr [w.heap.size + 1] w9 (w9.setCell ⟨w.heap.size + 1, 0, none⟩ (.bool true)) := Fr.setCell _ _ _ (.inl (by simp))
              have hB9 : Below w.heap.size w (w9.setCell ⟨w.heap.size + 1, 0, none⟩ (.bool true)) := (hB.trans (hb9.mono hWs)).trans (hfr.below (Nat.le_trans hWs hb9.size) (by simp))
              have hz := (bl_own (α := Unit) 0 [] _ _ _ (hR9.set 0 (.bool true)) (grownBy_putObj' (w9.setCell ⟨w.heap.size + 1, 0, none⟩ (.bool true)) D (.deferred none)) (fun r e => by cases e; exact ⟨Nat.zero_le _, _, hKD9, rfl⟩)).cell 0 rfl
              refine ⟨by simp, .inl ⟨_, _, rfl, run_takeDeferred hKD9, ?_⟩⟩
              exact ⟨.bool true, by simp [results, Tryz.f7, go_sem, hz], rfl, hB9.trans (belowK_b (w := w) (Nat.le_refl _) _ D _ _ (by omega) hKD9 rfl rfl)⟩
        case stop =>
          rintro D cd pre W hD _ hf hK
          exact hf.elim
  · have hcb : (checkI p != 0) = true := by simpa using hc
    generalize checkI p = ck at *
    clear HEL HVA hc
    gi_wp2_with (first
      | (refine ⟨trivial, ?_⟩; gi_at_call 22; refine (HCK.out _ hb0).mono ?_; rintro e w1 ⟨rfl, hb1⟩; obtain ⟨hw1, _, d0, d1, _⟩ := HK.out _ hb1)
      | (refine ⟨trivial, ?_⟩; gi_at_call 16; refine (HNM.out _ ck).mono ?_; rintro e w2 ⟨rfl, rfl⟩)
      | (refine ⟨trivial, ?_⟩; gi_at_call 17; refine (HA.out _ hw1).mono ?_; rintro e w3 ⟨rfl, hb3⟩; obtain ⟨hw3, _, f0, f1, _, fB⟩ := HK.out _ (hb1.trans (hb3.mono hb1.size))))
    have hz := (fB.set 0 (.bool true)).cell 0 rfl
    have hfr : Fr [w.heap.size + 1] w3 (w3.setCell ⟨w.heap.size + 1, 0, none⟩ (.bool true)) := Fr.setCell _ _ _ (.inl (by simp))
    exact ⟨.bool true, by simp [results, Tryz.f7, go_sem, hz], rfl, hw3.trans (hfr.below hw3.size (by simp))⟩
end Go.Proofs.YteikagdinecfoaaGreatDoor.policyNever
