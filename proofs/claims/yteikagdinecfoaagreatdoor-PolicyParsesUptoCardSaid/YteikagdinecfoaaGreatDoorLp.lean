/- A line of a policy's text: the program's line. -/
import Derived.Test.YteikagdinecfoaaGreatDoorRx
set_option linter.unusedVariables false
set_option linter.unusedSimpArgs false
namespace Go.Proofs.YteikagdinecfoaaGreatDoor.Lp
open Go.RowKit Lb Gr Pd Fl Go.Proofs.YteikagdinecfoaaGreatDoor.Pm Bk Is Go.Proofs.YteikagdinecfoaaGreatDoor.Sl Go.Proofs.YteikagdinecfoaaGreatDoor.Ck Go.Proofs.YteikagdinecfoaaGreatDoor.Th Go.Proofs.YteikagdinecfoaaGreatDoor.Ow Pt Pn Po Rw Go.Proofs.YteikagdinecfoaaGreatDoor.Rx
attribute [local go_sem ↓] Go.wp_at_zero Go.wp_at_succ
/-- the program's reader in memory -/
structure Sp (w : World) (B g : Nat) (x : Vs) (st : RS) (F : List Nat) : Prop where
  own : OwnP w B x st.p F
  bg : Bl w g 125 [x.e, x.g, x.s, .bool st.p.rel, x.d, .int .i64 st.p.depth, .int .i64 st.p.window, .bool st.sd, .bool st.sw, .bool st.sr]
  gB : g < B
  size : B ≤ w.heap.size
/-- what a line leaves -/
def LineP (w : World) (B g : Nat) (st : RS) (ws : List ByteArray) (e : Ending) (w' : World) : Prop :=
  Kpt w B g g w' ∧ match lineO st ws with
    | none => e = .returned (.bool false)
    | some st' => e = .returned (.bool true) ∧ ∃ x' F', Sp w' B g x' st' F'
theorem LineP.no {w w' : World} {B g : Nat} {st : RS} {ws : List ByteArray} (hb : Kpt w B g g w') (hn : lineO st ws = none) : LineP w B g st ws (.returned (.bool false)) w' :=
  ⟨hb, by rw [hn]⟩
theorem LineP.yes {w w' : World} {B g : Nat} {st st' : RS} {ws : List ByteArray} {x' : Vs} {F' : List Nat} (hb : Kpt w B g g w') (hn : lineO st ws = some st') (hs : Sp w' B g x' st' F') : LineP w B g st ws (.returned (.bool true)) w' :=
  ⟨hb, by rw [hn]; exact ⟨rfl, x', F', hs⟩⟩
theorem Sp.kpt {w : World} {B g : Nat} {x : Vs} {st : RS} {F : List Nat} (hs : Sp w B g x st F) {w' : World} (hb : Below w.heap.size w w') : Kpt w B g g w' :=
  Kpt.of (Nat.le_of_lt hs.gB) hs.size hb
theorem Sp.below {w : World} {B g : Nat} {x : Vs} {st : RS} {F : List Nat} (hs : Sp w B g x st F) {w' : World} (hb : Below w.heap.size w w') : Sp w' B g x st F :=
  ⟨hs.own.keep hb.size fun k hk => hb.block k (hs.own.ge k hk).2, hs.bg.below hb, hs.gB, Nat.le_trans hs.size hb.size⟩
/-- two stores into the reader's block -/
theorem Sp.two {w : World} {B g : Nat} {x : Vs} {st : RS} {F : List Nat} (hs : Sp w B g x st F) (i j : Nat) (u z : Value) :
    Kpt w B g g ((w.setCell ⟨g, i, none⟩ u).setCell ⟨g, j, none⟩ z) ∧ OwnP ((w.setCell ⟨g, i, none⟩ u).setCell ⟨g, j, none⟩ z) B x st.p F ∧ B ≤ ((w.setCell ⟨g, i, none⟩ u).setCell ⟨g, j, none⟩ z).heap.size ∧
    Bl ((w.setCell ⟨g, i, none⟩ u).setCell ⟨g, j, none⟩ z) g 125 (([x.e, x.g, x.s, .bool st.p.rel, x.d, .int .i64 st.p.depth, .int .i64 st.p.window, .bool st.sd, .bool st.sw, .bool st.sr].set i u).set j z) := by
  have h1 := hs.gB
  have h3 := hs.size
  have hf : Fr [g, g] w ((w.setCell ⟨g, i, none⟩ u).setCell ⟨g, j, none⟩ z) := (Fr.setCell w ⟨g, i, none⟩ u (.inl (by simp))).trans (Fr.setCell _ ⟨g, j, none⟩ z (.inl (by simp)))
  refine ⟨Kpt.fr (by omega) (Nat.le_refl _) h3 hf, hs.own.keep hf.size fun k hk => ?_, Nat.le_trans h3 hf.size, (hs.bg.set i u).set j z⟩
  have h4 := hs.own.ge k hk
  exact hf.block k h4.2 (by simp; omega)
/-- a line's words -/
theorem wordsC (s : ByteArray) (c : UInt8) (w : World) (hm : Mx w) (hs : s.size < 4294967281) (ws : List ByteArray) (n : Nat) (hws : cutS s c = ws) (hn : ws.length = n) : Calls Tryz.prog 113 #[.string s, .string ⟨#[c]⟩] w fun e w' =>
    ∃ b off cp, e = .returned (.slice (some ⟨b, off, none⟩) n cp) ∧ w.heap.size ≤ b ∧ b < w'.heap.size ∧ n ≤ cp ∧ cp ≤ maxLen ∧ kdW.rd w' 0 w'.heap.size (.slice (some ⟨b, off, none⟩) n cp) ws ∧
      (∀ i (h : i < ws.length), w'.cell? ⟨b, off + i, none⟩ = some (.string ws[i])) ∧ Below w.heap.size w w' := by
  subst hws
  subst hn
  refine (splitC s c w hm hs).mono ?_
  rintro e w' ⟨A, cp, F, rfl, ho, hb⟩
  have hr := kdW.read ho (Nat.le_refl _) (Nat.le_refl _)
  have hp : 0 < (cutS s c).length := by unfold cutS; rw [List.length_map]; exact cut_len_pos c _
  obtain ⟨b, off, rfl, h1, h2, _⟩ := rdW_at hr (i := 0) hp
  obtain ⟨A', c', hv, h3, h4⟩ := rdW_form hr
  injection hv with e1 e2 e3
  subst e1 e3
  refine ⟨b, off, cp, rfl, h1, h2, h3, h4, kdW.wide hr (Nat.zero_le _) (Nat.le_refl _), fun i hi => ?_, hb⟩
  obtain ⟨b', off', hA, _, _, h5⟩ := rdW_at hr (i := i) hi
  injection hA with hA
  injection hA with e1 e2
  subst e1 e2
  exact h5
set_option maxHeartbeats 4000000 in
set_option maxRecDepth 100000 in
/-- a line with an empty word in it -/
theorem pLineE (w : World) (B g : Nat) (x : Vs) (st : RS) (F : List Nat) (s : ByteArray) (hs : Sp w B g x st F) (hm : Mx w) (hz : s.size < 4294967281) (he : hasT (cutS s 32) ByteArray.empty = true) :
    Calls Tryz.prog 114 #[.pointer (some ⟨g, 0, none⟩), .string s] w (LineP w B g st (cutS s 32)) := by
  obtain ⟨ws, hws⟩ : ∃ ws, cutS s 32 = ws := ⟨_, rfl⟩
  obtain ⟨n, hn⟩ : ∃ n, ws.length = n := ⟨_, rfl⟩
  have HSP := Lib.hid (wordsC s 32 w hm hz ws n hws hn)
  rw [hws] at he ⊢
  have HHS : Hid (∀ W b off n cp, kdW.rd W 0 W.heap.size (.slice (some ⟨b, off, none⟩) n cp) ws → n ≤ cp → cp ≤ maxLen → Calls Tryz.prog 87 #[.slice (some ⟨b, off, none⟩) n cp, .string ⟨#[]⟩] W fun e w' => e = .returned (.bool true) ∧ W = w') := Lib.hid fun W b off n cp h h1 h2 => by
    have h3 := libContains h (by unfold maxLen at h2; omega) ByteArray.empty
    rw [he] at h3
    exact h3
  have hno := Lib.hid (line_empty (st := st) he)
  have HS := Lib.hid hs
  clear hs he hm hz hws hn
  go_enter Tryz.func114, Tryz.ntmps114
  go_wp2_with (first
    | (go_at_call 113; refine HSP.out.mono ?_; rintro e w1 ⟨b, off, cp, rfl, _, hb1, hn1, hn2, hr1, _, hw1⟩; have HR := Lib.hid hr1; have HW1 := Lib.hid hw1; clear hr1 hw1)
    | (go_at_call 87; refine (HHS.out _ _ _ _ _ HR.out hn1 hn2).mono ?_; rintro e w2 ⟨rfl, rfl⟩))
  go_ret
  exact LineP.no (HS.out.kpt HW1.out) hno.out
theorem Kpt.grown {w1 w9 : World} {B g : Nat} {v : Value} {o : Obj} (hgB : g < B) (hB : B ≤ w1.heap.size) (hg : (w1.alloc o).grownBy w9 v.ownBlock) (hv : ∀ j, v.ownBlock = some j → B ≤ j) : Kpt w1 B g g w9 :=
  ⟨((Below.refl g w1).alloc (by omega) o).grown hg (by simp; omega) (fun j hj => by have := hv j hj; omega),
    fun k hk _ _ => (hg.block k (by simp; omega) (fun e => by have := hv k e.symm; omega)).trans (Below.heap_alloc _ _ _ (by omega))⟩
theorem Kpt.set {w : World} {B g : Nat} (hgB : g < B) (hB : B ≤ w.heap.size) (i : Nat) (u : Value) : Kpt w B g g (w.setCell ⟨g, i, none⟩ u) :=
  Kpt.fr (by omega) (Nat.le_refl _) hB (Fr.setCell w ⟨g, i, none⟩ u (.inl (by simp)))
theorem own_set {w : World} {B g : Nat} {x : Vs} {p : PolD} {F : List Nat} (h : OwnP w B x p F) (hgB : g < B) (i : Nat) (u : Value) : OwnP (w.setCell ⟨g, i, none⟩ u) B x p F :=
  h.keep (by simp [World.setCell]) fun k hk => Below.heap_setCell _ _ _ _ (by have := (h.ge k hk).1; show k ≠ g; omega)
theorem lastR_set {l : List ElD} {i : Nat} (h : l.length = i + 1) (r : RuleD) : lastR l r = l.set i ⟨(l[i]'(by omega)).name, (l[i]'(by omega)).rules ++ [r]⟩ := by
  unfold lastR
  have e : l.length - 1 = i := by omega
  rw [e]
  refine List.ext_getElem (by simp) fun j h1 h2 => ?_
  rw [List.getElem_modify, List.getElem_set]
  by_cases hj : i = j
  · subst hj; simp
  · rw [if_neg hj, if_neg hj]
/-- an element's rules, in its row -/
theorem closeE {w5 : World} {B g n c k : Nat} {xs : List Value} {e : ElD} (hk : k < n) (hxs : w5.ownsRow B fmE.e fmE.size (.slice (some ⟨g, 0, none⟩) n c) n xs) (hxl : xs.length = n * fmE.size)
    (h0 : w5.cell? ⟨g, k * 2, none⟩ = some (.string e.name)) (rs : List RuleD) (u5 : Value) :
    (w5.setCell ⟨g, k * 2 + 1, none⟩ u5).ownsRow B fmE.e fmE.size (.slice (some ⟨g, 0, none⟩) n c) n (xs.take (k * fmE.size) ++ fmE.enc ⟨e.name, rs⟩ u5 ++ xs.drop ((k + 1) * fmE.size)) := by
  have hs : fmE.size = 2 := rfl
  rw [hs] at hxl
  have g0 := hxs.cellAt (k * 2) (by rw [hs]; omega)
  rw [h0] at g0
  have g2 := (hxs.stored (k * 2 + 1) u5).1
  have h1 := Go.Proofs.YteikagdinecfoaaGreatDoor.Sr.set2 (xs := xs.set (k * 2 + 1) u5) (n := n) (a := .string e.name) (b := u5) (by rw [List.length_set]; exact hxl) hk (by rw [List.getElem?_set_ne (by omega)]; exact g0.symm) (by rw [List.getElem?_set_self (by omega)])
  rw [List.take_set_of_le (by omega), List.drop_set_of_lt (by omega)] at h1
  have h2 : xs.take (k * fmE.size) ++ fmE.enc ⟨e.name, rs⟩ u5 ++ xs.drop ((k + 1) * fmE.size) = xs.set (k * 2 + 1) u5 := h1
  rw [h2]
  exact g2
theorem grown_undrew {w w' : World} {b : Option Nat} (h : w.drew.grownBy w' b) : w.grownBy w' b := ⟨h.os, h.tape, h.output, h.size, h.block⟩
theorem lit_no {s : ByteArray} {l : List UInt8} (h : s ≠ str l) : (s.toList == l) = false := by
  have h1 := toList_ne_of h
  rw [Lib.toList_data (str l)] at h1
  exact h1
set_option maxHeartbeats 4000000 in
set_option maxRecDepth 100000 in
/-- 'relative', alone, new -/
theorem pLineRel (w : World) (B g : Nat) (x : Vs) (st : RS) (F : List Nat) (s : ByteArray) (hr : st.sr = false) (hs : Sp w B g x st F) (hm : Mx w) (hz : s.size < 4294967281) (hws : cutS s 32 = [wRel]) (he : hasT [wRel] ByteArray.empty = false) :
    Calls Tryz.prog 114 #[.pointer (some ⟨g, 0, none⟩), .string s] w (LineP w B g st [wRel]) := by
  have HSP := Lib.hid (wordsC s 32 w hm hz _ 1 hws rfl)
  have HHS : Hid (∀ W b off cp, kdW.rd W 0 W.heap.size (.slice (some ⟨b, off, none⟩) 1 cp) [wRel] → 1 ≤ cp → cp ≤ maxLen → Calls Tryz.prog 87 #[.slice (some ⟨b, off, none⟩) 1 cp, .string ⟨#[]⟩] W fun e w2 => e = .returned (.bool false) ∧ W = w2) := Lib.hid fun W b off cp h h1 h2 => by
    have h3 := libContains h (by decide) ByteArray.empty
    rw [he] at h3
    exact h3
  have hno : Hid (lineO st [wRel] = some { st with p := { st.p with rel := true }, sr := true }) := Lib.hid (by
    unfold lineO; rw [if_neg (by rw [he]; decide)]; simp [hr])
  have HS := Lib.hid hs
  have HSB : Hid (∀ W, Below w.heap.size w W → Sp W B g x st F) := Lib.hid fun W hW => hs.below hW
  have hgw : g < w.heap.size := Nat.lt_of_lt_of_le hs.gB hs.size
  have HON : Hid (∀ W u, Bl W g 125 ([x.e, x.g, x.s, .bool st.p.rel, x.d, .int .i64 st.p.depth, .int .i64 st.p.window, .bool st.sd, .bool st.sw, .bool st.sr].set 3 u) → Calls Tryz.prog 164 #[.pointer (some ⟨g, 9, none⟩)] W fun e w2 => e = .returned (.bool true) ∧ w2 = W.setCell ⟨g, 9, none⟩ (.bool true)) := Lib.hid fun W u h1 => onceC g 9 false W (h1.cell 9 (by rw [hr]; rfl)) (h1.fz 9)
  clear hr
  clear hs he hm hz hws
  go_enter Tryz.func114, Tryz.ntmps114
  go_upto_region 5 with (first
    | (go_at_call 113; refine HSP.out.mono ?_; rintro e w1 ⟨b, off, cp, rfl, hb0, hb1, hn1, hn2, hr1, hc1, hw1⟩; have y0 : w1.cell? ⟨b, off, none⟩ = some (.string ⟨#[114, 101, 108, 97, 116, 105, 118, 101]⟩) := (by have h9 := hc1 0 (by simp); exact h9); have HR := Lib.hid hr1; have HW1 := Lib.hid hw1; clear hr1 hc1 hw1)
    | (go_at_call 87; refine (HHS.out _ _ _ _ HR.out hn1 hn2).mono ?_; rintro e w2 ⟨rfl, rfl⟩))
  have q1 : (1 : Int) ≤ (cp : Int) := by omega
  have q2 : (cp : Int) ≤ 9223372036854775807 := by unfold maxLen at hn2; omega
  go_quiet (fail)
  obtain ⟨A5, hA5⟩ : ∃ A, A = (if cp = 1 then some (⟨b, off, none⟩ : Addr) else some ⟨b, off + 1, none⟩) := ⟨_, rfl⟩
  rw [← hA5]
  clear hA5
  obtain ⟨w1, hw1e⟩ : ∃ W, W = w1.drewN nq := ⟨_, rfl⟩
  have HW1 : Hid (Below w.heap.size w w1) := Lib.hid (by rw [hw1e]; exact HW1.out.trans ((drw _ _).mono HW1.out.size))
  rw [← hw1e]
  clear hw1e y0
  have HS1 := Lib.hid (HSB.out _ HW1.out)
  have c3 := HS1.out.bg.cell 3 rfl
  have f3 := HS1.out.bg.fz 3
  go_wp2_with (go_at_call 164; refine (HON.out _ _ (HS1.out.bg.set 3 _)).mono ?_; rintro e w2 ⟨rfl, rfl⟩)
  go_ret
  obtain ⟨a0, a1, a2, a3⟩ := HS1.out.two 3 9 (.bool true) (.bool true)
  exact LineP.yes (x' := x) (F' := F) ((HS.out.kpt HW1.out).trans a0) hno.out ⟨a1, a3, HS.out.gB, a2⟩
set_option maxHeartbeats 4000000 in
set_option maxRecDepth 100000 in
/-- 'relative', alone, seen before -/
theorem pLineRel2 (w : World) (B g : Nat) (x : Vs) (st : RS) (F : List Nat) (s : ByteArray) (hr : st.sr = true) (hs : Sp w B g x st F) (hm : Mx w) (hz : s.size < 4294967281) (hws : cutS s 32 = [wRel]) (he : hasT [wRel] ByteArray.empty = false) :
    Calls Tryz.prog 114 #[.pointer (some ⟨g, 0, none⟩), .string s] w (LineP w B g st [wRel]) := by
  have HSP := Lib.hid (wordsC s 32 w hm hz _ 1 hws rfl)
  have HHS : Hid (∀ W b off cp, kdW.rd W 0 W.heap.size (.slice (some ⟨b, off, none⟩) 1 cp) [wRel] → 1 ≤ cp → cp ≤ maxLen → Calls Tryz.prog 87 #[.slice (some ⟨b, off, none⟩) 1 cp, .string ⟨#[]⟩] W fun e w2 => e = .returned (.bool false) ∧ W = w2) := Lib.hid fun W b off cp h h1 h2 => by
    have h3 := libContains h (by decide) ByteArray.empty
    rw [he] at h3
    exact h3
  have hno : Hid (lineO st [wRel] = none) := Lib.hid (by
    unfold lineO; rw [if_neg (by rw [he]; decide)]; simp [hr])
  have HS := Lib.hid hs
  have HSB : Hid (∀ W, Below w.heap.size w W → Sp W B g x st F) := Lib.hid fun W hW => hs.below hW
  have hgw : g < w.heap.size := Nat.lt_of_lt_of_le hs.gB hs.size
  have HON : Hid (∀ W u, Bl W g 125 ([x.e, x.g, x.s, .bool st.p.rel, x.d, .int .i64 st.p.depth, .int .i64 st.p.window, .bool st.sd, .bool st.sw, .bool st.sr].set 3 u) → Calls Tryz.prog 164 #[.pointer (some ⟨g, 9, none⟩)] W fun e w2 => e = .returned (.bool false) ∧ w2 = W.setCell ⟨g, 9, none⟩ (.bool true)) := Lib.hid fun W u h1 => onceC g 9 true W (h1.cell 9 (by rw [hr]; rfl)) (h1.fz 9)
  clear hr
  clear hs he hm hz hws
  go_enter Tryz.func114, Tryz.ntmps114
  go_upto_region 5 with (first
    | (go_at_call 113; refine HSP.out.mono ?_; rintro e w1 ⟨b, off, cp, rfl, hb0, hb1, hn1, hn2, hr1, hc1, hw1⟩; have y0 : w1.cell? ⟨b, off, none⟩ = some (.string ⟨#[114, 101, 108, 97, 116, 105, 118, 101]⟩) := (by have h9 := hc1 0 (by simp); exact h9); have HR := Lib.hid hr1; have HW1 := Lib.hid hw1; clear hr1 hc1 hw1)
    | (go_at_call 87; refine (HHS.out _ _ _ _ HR.out hn1 hn2).mono ?_; rintro e w2 ⟨rfl, rfl⟩))
  have q1 : (1 : Int) ≤ (cp : Int) := by omega
  have q2 : (cp : Int) ≤ 9223372036854775807 := by unfold maxLen at hn2; omega
  go_quiet (fail)
  obtain ⟨A5, hA5⟩ : ∃ A, A = (if cp = 1 then some (⟨b, off, none⟩ : Addr) else some ⟨b, off + 1, none⟩) := ⟨_, rfl⟩
  rw [← hA5]
  clear hA5
  obtain ⟨w1, hw1e⟩ : ∃ W, W = w1.drewN nq := ⟨_, rfl⟩
  have HW1 : Hid (Below w.heap.size w w1) := Lib.hid (by rw [hw1e]; exact HW1.out.trans ((drw _ _).mono HW1.out.size))
  rw [← hw1e]
  clear hw1e y0
  have HS1 := Lib.hid (HSB.out _ HW1.out)
  have c3 := HS1.out.bg.cell 3 rfl
  have f3 := HS1.out.bg.fz 3
  go_wp2_with (go_at_call 164; refine (HON.out _ _ (HS1.out.bg.set 3 _)).mono ?_; rintro e w2 ⟨rfl, rfl⟩)
  go_ret
  exact LineP.no ((HS.out.kpt HW1.out).trans (HS1.out.two 3 9 (.bool true) (.bool true)).1) hno.out
set_option maxHeartbeats 4000000 in
set_option maxRecDepth 100000 in
/-- 'depth' -/
theorem pLineDepth (w : World) (B g : Nat) (x : Vs) (st : RS) (F : List Nat) (s : ByteArray) (x1 : ByteArray) (hd : st.sd = false) (hn : numB x1 = true) (hs : Sp w B g x st F) (hm : Mx w) (hz : s.size < 4294967281) (hws : cutS s 32 = [wDepth, x1]) (he : hasT [wDepth, x1] ByteArray.empty = false) :
    Calls Tryz.prog 114 #[.pointer (some ⟨g, 0, none⟩), .string s] w (LineP w B g st [wDepth, x1]) := by
  have HSP := Lib.hid (wordsC s 32 w hm hz _ 2 hws rfl)
  have HHS : Hid (∀ W b off cp, kdW.rd W 0 W.heap.size (.slice (some ⟨b, off, none⟩) 2 cp) [wDepth, x1] → 2 ≤ cp → cp ≤ maxLen → Calls Tryz.prog 87 #[.slice (some ⟨b, off, none⟩) 2 cp, .string ⟨#[]⟩] W fun e w2 => e = .returned (.bool false) ∧ W = w2) := Lib.hid fun W b off cp h h1 h2 => by
    have h3 := libContains h (by decide) ByteArray.empty
    rw [he] at h3
    exact h3
  have hno : Hid (lineO st [wDepth, x1] = some { st with p := { st.p with depth := numV x1.data.toList }, sd := true }) := Lib.hid (by
    unfold lineO; rw [if_neg (by rw [he]; decide)]
    show (if numB x1 = true ∧ st.sd = false then _ else none) = _
    rw [if_pos ⟨hn, hd⟩])
  have HS := Lib.hid hs
  have HSB : Hid (∀ W, Below w.heap.size w W → Sp W B g x st F) := Lib.hid fun W hW => hs.below hW
  have hgw : g < w.heap.size := Nat.lt_of_lt_of_le hs.gB hs.size
  have HON : Hid (∀ W u, Bl W g 125 ([x.e, x.g, x.s, .bool st.p.rel, x.d, .int .i64 st.p.depth, .int .i64 st.p.window, .bool st.sd, .bool st.sw, .bool st.sr].set 5 u) → Calls Tryz.prog 164 #[.pointer (some ⟨g, 7, none⟩)] W fun e w2 => e = .returned (.bool true) ∧ w2 = W.setCell ⟨g, 7, none⟩ (.bool true)) := Lib.hid fun W u h1 => onceC g 7 false W (h1.cell 7 (by rw [hd]; rfl)) (h1.fz 7)
  have HNM : Hid (∀ W, Calls Tryz.prog 165 #[.string x1] W fun e w2 => e = .returned (.tuple #[.int .i64 (numR x1), .bool true]) ∧ W = w2) := Lib.hid fun W => by
    have h9 := numC x1 W
    rw [hn] at h9
    exact h9
  have HNR : Hid (numR x1 = numV x1.data.toList) := Lib.hid (numR_yes hn)
  clear hd hn
  clear hs he hm hz hws
  go_enter Tryz.func114, Tryz.ntmps114
  go_upto_region 5 with (first
    | (go_at_call 113; refine HSP.out.mono ?_; rintro e w1 ⟨b, off, cp, rfl, hb0, hb1, hn1, hn2, hr1, hc1, hw1⟩; have y0 : w1.cell? ⟨b, off, none⟩ = some (.string ⟨#[100, 101, 112, 116, 104]⟩) := (by have h9 := hc1 0 (by simp); exact h9); have y1 : w1.cell? ⟨b, off + 1, none⟩ = some (.string x1) := (by have h9 := hc1 1 (by simp); exact h9); have HR := Lib.hid hr1; have HW1 := Lib.hid hw1; clear hr1 hc1 hw1)
    | (go_at_call 87; refine (HHS.out _ _ _ _ HR.out hn1 hn2).mono ?_; rintro e w2 ⟨rfl, rfl⟩))
  have q1 : (1 : Int) ≤ (cp : Int) := by omega
  have q2 : (cp : Int) ≤ 9223372036854775807 := by unfold maxLen at hn2; omega
  go_quiet (fail)
  obtain ⟨w1, hw1e⟩ : ∃ W, W = w1.drewN nq := ⟨_, rfl⟩
  have HW1 : Hid (Below w.heap.size w w1) := Lib.hid (by rw [hw1e]; exact HW1.out.trans ((drw _ _).mono HW1.out.size))
  have y1 : w1.cell? ⟨b, off + 1, none⟩ = some (.string x1) := by rw [hw1e]; exact y1
  rw [← hw1e]
  clear hw1e y0
  have HS1 := Lib.hid (HSB.out _ HW1.out)
  have c5 := HS1.out.bg.cell 5 rfl
  have f5 := HS1.out.bg.fz 5
  go_wp2_with (first
    | (go_at_call 165; refine (HNM.out _).mono ?_; rintro e w2 ⟨rfl, rfl⟩)
    | (go_at_call 164; refine (HON.out _ _ (HS1.out.bg.set 5 _)).mono ?_; rintro e w3 ⟨rfl, rfl⟩))
  go_ret
  obtain ⟨a0, a1, a2, a3⟩ := HS1.out.two 5 7 (.int .i64 (numR x1)) (.bool true)
  rw [HNR.out] at a0 a1 a2 a3 ⊢
  exact LineP.yes (x' := x) (F' := F) ((HS.out.kpt HW1.out).trans a0) hno.out ⟨a1, a3, HS.out.gB, a2⟩
set_option maxHeartbeats 4000000 in
set_option maxRecDepth 100000 in
/-- 'depth' -/
theorem pLineDepth2 (w : World) (B g : Nat) (x : Vs) (st : RS) (F : List Nat) (s : ByteArray) (x1 : ByteArray) (hd : st.sd = false) (hn : numB x1 = false) (hs : Sp w B g x st F) (hm : Mx w) (hz : s.size < 4294967281) (hws : cutS s 32 = [wDepth, x1]) (he : hasT [wDepth, x1] ByteArray.empty = false) :
    Calls Tryz.prog 114 #[.pointer (some ⟨g, 0, none⟩), .string s] w (LineP w B g st [wDepth, x1]) := by
  have HSP := Lib.hid (wordsC s 32 w hm hz _ 2 hws rfl)
  have HHS : Hid (∀ W b off cp, kdW.rd W 0 W.heap.size (.slice (some ⟨b, off, none⟩) 2 cp) [wDepth, x1] → 2 ≤ cp → cp ≤ maxLen → Calls Tryz.prog 87 #[.slice (some ⟨b, off, none⟩) 2 cp, .string ⟨#[]⟩] W fun e w2 => e = .returned (.bool false) ∧ W = w2) := Lib.hid fun W b off cp h h1 h2 => by
    have h3 := libContains h (by decide) ByteArray.empty
    rw [he] at h3
    exact h3
  have hno : Hid (lineO st [wDepth, x1] = none) := Lib.hid (by
    unfold lineO; rw [if_neg (by rw [he]; decide)]
    show (if numB x1 = true ∧ st.sd = false then _ else none) = _
    rw [if_neg (by rw [hn]; simp)])
  have HS := Lib.hid hs
  have HSB : Hid (∀ W, Below w.heap.size w W → Sp W B g x st F) := Lib.hid fun W hW => hs.below hW
  have hgw : g < w.heap.size := Nat.lt_of_lt_of_le hs.gB hs.size
  have HON : Hid (∀ W u, Bl W g 125 ([x.e, x.g, x.s, .bool st.p.rel, x.d, .int .i64 st.p.depth, .int .i64 st.p.window, .bool st.sd, .bool st.sw, .bool st.sr].set 5 u) → Calls Tryz.prog 164 #[.pointer (some ⟨g, 7, none⟩)] W fun e w2 => e = .returned (.bool true) ∧ w2 = W.setCell ⟨g, 7, none⟩ (.bool true)) := Lib.hid fun W u h1 => onceC g 7 false W (h1.cell 7 (by rw [hd]; rfl)) (h1.fz 7)
  have HNM : Hid (∀ W, Calls Tryz.prog 165 #[.string x1] W fun e w2 => e = .returned (.tuple #[.int .i64 (numR x1), .bool false]) ∧ W = w2) := Lib.hid fun W => by
    have h9 := numC x1 W
    rw [hn] at h9
    exact h9
  clear hd hn
  clear hs he hm hz hws
  go_enter Tryz.func114, Tryz.ntmps114
  go_upto_region 5 with (first
    | (go_at_call 113; refine HSP.out.mono ?_; rintro e w1 ⟨b, off, cp, rfl, hb0, hb1, hn1, hn2, hr1, hc1, hw1⟩; have y0 : w1.cell? ⟨b, off, none⟩ = some (.string ⟨#[100, 101, 112, 116, 104]⟩) := (by have h9 := hc1 0 (by simp); exact h9); have y1 : w1.cell? ⟨b, off + 1, none⟩ = some (.string x1) := (by have h9 := hc1 1 (by simp); exact h9); have HR := Lib.hid hr1; have HW1 := Lib.hid hw1; clear hr1 hc1 hw1)
    | (go_at_call 87; refine (HHS.out _ _ _ _ HR.out hn1 hn2).mono ?_; rintro e w2 ⟨rfl, rfl⟩))
  have q1 : (1 : Int) ≤ (cp : Int) := by omega
  have q2 : (cp : Int) ≤ 9223372036854775807 := by unfold maxLen at hn2; omega
  go_quiet (fail)
  obtain ⟨w1, hw1e⟩ : ∃ W, W = w1.drewN nq := ⟨_, rfl⟩
  have HW1 : Hid (Below w.heap.size w w1) := Lib.hid (by rw [hw1e]; exact HW1.out.trans ((drw _ _).mono HW1.out.size))
  have y1 : w1.cell? ⟨b, off + 1, none⟩ = some (.string x1) := by rw [hw1e]; exact y1
  rw [← hw1e]
  clear hw1e y0
  have HS1 := Lib.hid (HSB.out _ HW1.out)
  have c5 := HS1.out.bg.cell 5 rfl
  have f5 := HS1.out.bg.fz 5
  go_wp2_with (first
    | (go_at_call 165; refine (HNM.out _).mono ?_; rintro e w2 ⟨rfl, rfl⟩)
    | (go_at_call 164; refine (HON.out _ _ (HS1.out.bg.set 5 _)).mono ?_; rintro e w3 ⟨rfl, rfl⟩))
  go_ret
  exact LineP.no ((HS.out.kpt HW1.out).trans (HS1.out.two 5 7 (.int .i64 (numR x1)) (.bool true)).1) hno.out
set_option maxHeartbeats 4000000 in
set_option maxRecDepth 100000 in
/-- 'depth' -/
theorem pLineDepth3 (w : World) (B g : Nat) (x : Vs) (st : RS) (F : List Nat) (s : ByteArray) (x1 : ByteArray) (hd : st.sd = true) (hs : Sp w B g x st F) (hm : Mx w) (hz : s.size < 4294967281) (hws : cutS s 32 = [wDepth, x1]) (he : hasT [wDepth, x1] ByteArray.empty = false) :
    Calls Tryz.prog 114 #[.pointer (some ⟨g, 0, none⟩), .string s] w (LineP w B g st [wDepth, x1]) := by
  have HSP := Lib.hid (wordsC s 32 w hm hz _ 2 hws rfl)
  have HHS : Hid (∀ W b off cp, kdW.rd W 0 W.heap.size (.slice (some ⟨b, off, none⟩) 2 cp) [wDepth, x1] → 2 ≤ cp → cp ≤ maxLen → Calls Tryz.prog 87 #[.slice (some ⟨b, off, none⟩) 2 cp, .string ⟨#[]⟩] W fun e w2 => e = .returned (.bool false) ∧ W = w2) := Lib.hid fun W b off cp h h1 h2 => by
    have h3 := libContains h (by decide) ByteArray.empty
    rw [he] at h3
    exact h3
  have hno : Hid (lineO st [wDepth, x1] = none) := Lib.hid (by
    unfold lineO; rw [if_neg (by rw [he]; decide)]
    show (if numB x1 = true ∧ st.sd = false then _ else none) = _
    rw [if_neg (by rw [hd]; simp)])
  have HS := Lib.hid hs
  have HSB : Hid (∀ W, Below w.heap.size w W → Sp W B g x st F) := Lib.hid fun W hW => hs.below hW
  have hgw : g < w.heap.size := Nat.lt_of_lt_of_le hs.gB hs.size
  have HON : Hid (∀ W u, Bl W g 125 ([x.e, x.g, x.s, .bool st.p.rel, x.d, .int .i64 st.p.depth, .int .i64 st.p.window, .bool st.sd, .bool st.sw, .bool st.sr].set 5 u) → Calls Tryz.prog 164 #[.pointer (some ⟨g, 7, none⟩)] W fun e w2 => e = .returned (.bool false) ∧ w2 = W.setCell ⟨g, 7, none⟩ (.bool true)) := Lib.hid fun W u h1 => onceC g 7 true W (h1.cell 7 (by rw [hd]; rfl)) (h1.fz 7)
  obtain ⟨nb, hnb⟩ : ∃ nb, nb = numB x1 := ⟨_, rfl⟩
  have HNM : Hid (∀ W, Calls Tryz.prog 165 #[.string x1] W fun e w2 => e = .returned (.tuple #[.int .i64 (numR x1), .bool nb]) ∧ W = w2) := Lib.hid fun W => by
    have h9 := numC x1 W
    rw [← hnb] at h9
    exact h9
  clear hd hnb
  clear hs he hm hz hws
  go_enter Tryz.func114, Tryz.ntmps114
  go_upto_region 5 with (first
    | (go_at_call 113; refine HSP.out.mono ?_; rintro e w1 ⟨b, off, cp, rfl, hb0, hb1, hn1, hn2, hr1, hc1, hw1⟩; have y0 : w1.cell? ⟨b, off, none⟩ = some (.string ⟨#[100, 101, 112, 116, 104]⟩) := (by have h9 := hc1 0 (by simp); exact h9); have y1 : w1.cell? ⟨b, off + 1, none⟩ = some (.string x1) := (by have h9 := hc1 1 (by simp); exact h9); have HR := Lib.hid hr1; have HW1 := Lib.hid hw1; clear hr1 hc1 hw1)
    | (go_at_call 87; refine (HHS.out _ _ _ _ HR.out hn1 hn2).mono ?_; rintro e w2 ⟨rfl, rfl⟩))
  have q1 : (1 : Int) ≤ (cp : Int) := by omega
  have q2 : (cp : Int) ≤ 9223372036854775807 := by unfold maxLen at hn2; omega
  go_quiet (fail)
  obtain ⟨w1, hw1e⟩ : ∃ W, W = w1.drewN nq := ⟨_, rfl⟩
  have HW1 : Hid (Below w.heap.size w w1) := Lib.hid (by rw [hw1e]; exact HW1.out.trans ((drw _ _).mono HW1.out.size))
  have y1 : w1.cell? ⟨b, off + 1, none⟩ = some (.string x1) := by rw [hw1e]; exact y1
  rw [← hw1e]
  clear hw1e y0
  have HS1 := Lib.hid (HSB.out _ HW1.out)
  have c5 := HS1.out.bg.cell 5 rfl
  have f5 := HS1.out.bg.fz 5
  cases nb
  all_goals (
    go_wp2_with (first
      | (go_at_call 165; refine (HNM.out _).mono ?_; rintro e w2 ⟨rfl, rfl⟩)
      | (go_at_call 164; refine (HON.out _ _ (HS1.out.bg.set 5 _)).mono ?_; rintro e w3 ⟨rfl, rfl⟩))
    go_ret
    exact LineP.no ((HS.out.kpt HW1.out).trans (HS1.out.two 5 7 (.int .i64 (numR x1)) (.bool true)).1) hno.out)
set_option maxHeartbeats 4000000 in
set_option maxRecDepth 100000 in
/-- 'window' -/
theorem pLineWindow (w : World) (B g : Nat) (x : Vs) (st : RS) (F : List Nat) (s : ByteArray) (x1 : ByteArray) (hd : st.sw = false) (hn : numB x1 = true) (hs : Sp w B g x st F) (hm : Mx w) (hz : s.size < 4294967281) (hws : cutS s 32 = [wWindow, x1]) (he : hasT [wWindow, x1] ByteArray.empty = false) :
    Calls Tryz.prog 114 #[.pointer (some ⟨g, 0, none⟩), .string s] w (LineP w B g st [wWindow, x1]) := by
  have HSP := Lib.hid (wordsC s 32 w hm hz _ 2 hws rfl)
  have HHS : Hid (∀ W b off cp, kdW.rd W 0 W.heap.size (.slice (some ⟨b, off, none⟩) 2 cp) [wWindow, x1] → 2 ≤ cp → cp ≤ maxLen → Calls Tryz.prog 87 #[.slice (some ⟨b, off, none⟩) 2 cp, .string ⟨#[]⟩] W fun e w2 => e = .returned (.bool false) ∧ W = w2) := Lib.hid fun W b off cp h h1 h2 => by
    have h3 := libContains h (by decide) ByteArray.empty
    rw [he] at h3
    exact h3
  have hno : Hid (lineO st [wWindow, x1] = some { st with p := { st.p with window := numV x1.data.toList }, sw := true }) := Lib.hid (by
    unfold lineO; rw [if_neg (by rw [he]; decide)]
    show (if numB x1 = true ∧ st.sw = false then _ else none) = _
    rw [if_pos ⟨hn, hd⟩])
  have HS := Lib.hid hs
  have HSB : Hid (∀ W, Below w.heap.size w W → Sp W B g x st F) := Lib.hid fun W hW => hs.below hW
  have hgw : g < w.heap.size := Nat.lt_of_lt_of_le hs.gB hs.size
  have HON : Hid (∀ W u, Bl W g 125 ([x.e, x.g, x.s, .bool st.p.rel, x.d, .int .i64 st.p.depth, .int .i64 st.p.window, .bool st.sd, .bool st.sw, .bool st.sr].set 6 u) → Calls Tryz.prog 164 #[.pointer (some ⟨g, 8, none⟩)] W fun e w2 => e = .returned (.bool true) ∧ w2 = W.setCell ⟨g, 8, none⟩ (.bool true)) := Lib.hid fun W u h1 => onceC g 8 false W (h1.cell 8 (by rw [hd]; rfl)) (h1.fz 8)
  have HNM : Hid (∀ W, Calls Tryz.prog 165 #[.string x1] W fun e w2 => e = .returned (.tuple #[.int .i64 (numR x1), .bool true]) ∧ W = w2) := Lib.hid fun W => by
    have h9 := numC x1 W
    rw [hn] at h9
    exact h9
  have HNR : Hid (numR x1 = numV x1.data.toList) := Lib.hid (numR_yes hn)
  clear hd hn
  clear hs he hm hz hws
  go_enter Tryz.func114, Tryz.ntmps114
  go_upto_region 5 with (first
    | (go_at_call 113; refine HSP.out.mono ?_; rintro e w1 ⟨b, off, cp, rfl, hb0, hb1, hn1, hn2, hr1, hc1, hw1⟩; have y0 : w1.cell? ⟨b, off, none⟩ = some (.string ⟨#[119, 105, 110, 100, 111, 119]⟩) := (by have h9 := hc1 0 (by simp); exact h9); have y1 : w1.cell? ⟨b, off + 1, none⟩ = some (.string x1) := (by have h9 := hc1 1 (by simp); exact h9); have HR := Lib.hid hr1; have HW1 := Lib.hid hw1; clear hr1 hc1 hw1)
    | (go_at_call 87; refine (HHS.out _ _ _ _ HR.out hn1 hn2).mono ?_; rintro e w2 ⟨rfl, rfl⟩))
  have q1 : (1 : Int) ≤ (cp : Int) := by omega
  have q2 : (cp : Int) ≤ 9223372036854775807 := by unfold maxLen at hn2; omega
  go_quiet (fail)
  obtain ⟨w1, hw1e⟩ : ∃ W, W = w1.drewN nq := ⟨_, rfl⟩
  have HW1 : Hid (Below w.heap.size w w1) := Lib.hid (by rw [hw1e]; exact HW1.out.trans ((drw _ _).mono HW1.out.size))
  have y1 : w1.cell? ⟨b, off + 1, none⟩ = some (.string x1) := by rw [hw1e]; exact y1
  rw [← hw1e]
  clear hw1e y0
  have HS1 := Lib.hid (HSB.out _ HW1.out)
  have c6 := HS1.out.bg.cell 6 rfl
  have f6 := HS1.out.bg.fz 6
  go_wp2_with (first
    | (go_at_call 165; refine (HNM.out _).mono ?_; rintro e w2 ⟨rfl, rfl⟩)
    | (go_at_call 164; refine (HON.out _ _ (HS1.out.bg.set 6 _)).mono ?_; rintro e w3 ⟨rfl, rfl⟩))
  go_ret
  obtain ⟨a0, a1, a2, a3⟩ := HS1.out.two 6 8 (.int .i64 (numR x1)) (.bool true)
  rw [HNR.out] at a0 a1 a2 a3 ⊢
  exact LineP.yes (x' := x) (F' := F) ((HS.out.kpt HW1.out).trans a0) hno.out ⟨a1, a3, HS.out.gB, a2⟩
set_option maxHeartbeats 4000000 in
set_option maxRecDepth 100000 in
/-- 'window' -/
theorem pLineWindow2 (w : World) (B g : Nat) (x : Vs) (st : RS) (F : List Nat) (s : ByteArray) (x1 : ByteArray) (hd : st.sw = false) (hn : numB x1 = false) (hs : Sp w B g x st F) (hm : Mx w) (hz : s.size < 4294967281) (hws : cutS s 32 = [wWindow, x1]) (he : hasT [wWindow, x1] ByteArray.empty = false) :
    Calls Tryz.prog 114 #[.pointer (some ⟨g, 0, none⟩), .string s] w (LineP w B g st [wWindow, x1]) := by
  have HSP := Lib.hid (wordsC s 32 w hm hz _ 2 hws rfl)
  have HHS : Hid (∀ W b off cp, kdW.rd W 0 W.heap.size (.slice (some ⟨b, off, none⟩) 2 cp) [wWindow, x1] → 2 ≤ cp → cp ≤ maxLen → Calls Tryz.prog 87 #[.slice (some ⟨b, off, none⟩) 2 cp, .string ⟨#[]⟩] W fun e w2 => e = .returned (.bool false) ∧ W = w2) := Lib.hid fun W b off cp h h1 h2 => by
    have h3 := libContains h (by decide) ByteArray.empty
    rw [he] at h3
    exact h3
  have hno : Hid (lineO st [wWindow, x1] = none) := Lib.hid (by
    unfold lineO; rw [if_neg (by rw [he]; decide)]
    show (if numB x1 = true ∧ st.sw = false then _ else none) = _
    rw [if_neg (by rw [hn]; simp)])
  have HS := Lib.hid hs
  have HSB : Hid (∀ W, Below w.heap.size w W → Sp W B g x st F) := Lib.hid fun W hW => hs.below hW
  have hgw : g < w.heap.size := Nat.lt_of_lt_of_le hs.gB hs.size
  have HON : Hid (∀ W u, Bl W g 125 ([x.e, x.g, x.s, .bool st.p.rel, x.d, .int .i64 st.p.depth, .int .i64 st.p.window, .bool st.sd, .bool st.sw, .bool st.sr].set 6 u) → Calls Tryz.prog 164 #[.pointer (some ⟨g, 8, none⟩)] W fun e w2 => e = .returned (.bool true) ∧ w2 = W.setCell ⟨g, 8, none⟩ (.bool true)) := Lib.hid fun W u h1 => onceC g 8 false W (h1.cell 8 (by rw [hd]; rfl)) (h1.fz 8)
  have HNM : Hid (∀ W, Calls Tryz.prog 165 #[.string x1] W fun e w2 => e = .returned (.tuple #[.int .i64 (numR x1), .bool false]) ∧ W = w2) := Lib.hid fun W => by
    have h9 := numC x1 W
    rw [hn] at h9
    exact h9
  clear hd hn
  clear hs he hm hz hws
  go_enter Tryz.func114, Tryz.ntmps114
  go_upto_region 5 with (first
    | (go_at_call 113; refine HSP.out.mono ?_; rintro e w1 ⟨b, off, cp, rfl, hb0, hb1, hn1, hn2, hr1, hc1, hw1⟩; have y0 : w1.cell? ⟨b, off, none⟩ = some (.string ⟨#[119, 105, 110, 100, 111, 119]⟩) := (by have h9 := hc1 0 (by simp); exact h9); have y1 : w1.cell? ⟨b, off + 1, none⟩ = some (.string x1) := (by have h9 := hc1 1 (by simp); exact h9); have HR := Lib.hid hr1; have HW1 := Lib.hid hw1; clear hr1 hc1 hw1)
    | (go_at_call 87; refine (HHS.out _ _ _ _ HR.out hn1 hn2).mono ?_; rintro e w2 ⟨rfl, rfl⟩))
  have q1 : (1 : Int) ≤ (cp : Int) := by omega
  have q2 : (cp : Int) ≤ 9223372036854775807 := by unfold maxLen at hn2; omega
  go_quiet (fail)
  obtain ⟨w1, hw1e⟩ : ∃ W, W = w1.drewN nq := ⟨_, rfl⟩
  have HW1 : Hid (Below w.heap.size w w1) := Lib.hid (by rw [hw1e]; exact HW1.out.trans ((drw _ _).mono HW1.out.size))
  have y1 : w1.cell? ⟨b, off + 1, none⟩ = some (.string x1) := by rw [hw1e]; exact y1
  rw [← hw1e]
  clear hw1e y0
  have HS1 := Lib.hid (HSB.out _ HW1.out)
  have c6 := HS1.out.bg.cell 6 rfl
  have f6 := HS1.out.bg.fz 6
  go_wp2_with (first
    | (go_at_call 165; refine (HNM.out _).mono ?_; rintro e w2 ⟨rfl, rfl⟩)
    | (go_at_call 164; refine (HON.out _ _ (HS1.out.bg.set 6 _)).mono ?_; rintro e w3 ⟨rfl, rfl⟩))
  go_ret
  exact LineP.no ((HS.out.kpt HW1.out).trans (HS1.out.two 6 8 (.int .i64 (numR x1)) (.bool true)).1) hno.out
set_option maxHeartbeats 4000000 in
set_option maxRecDepth 100000 in
/-- 'window' -/
theorem pLineWindow3 (w : World) (B g : Nat) (x : Vs) (st : RS) (F : List Nat) (s : ByteArray) (x1 : ByteArray) (hd : st.sw = true) (hs : Sp w B g x st F) (hm : Mx w) (hz : s.size < 4294967281) (hws : cutS s 32 = [wWindow, x1]) (he : hasT [wWindow, x1] ByteArray.empty = false) :
    Calls Tryz.prog 114 #[.pointer (some ⟨g, 0, none⟩), .string s] w (LineP w B g st [wWindow, x1]) := by
  have HSP := Lib.hid (wordsC s 32 w hm hz _ 2 hws rfl)
  have HHS : Hid (∀ W b off cp, kdW.rd W 0 W.heap.size (.slice (some ⟨b, off, none⟩) 2 cp) [wWindow, x1] → 2 ≤ cp → cp ≤ maxLen → Calls Tryz.prog 87 #[.slice (some ⟨b, off, none⟩) 2 cp, .string ⟨#[]⟩] W fun e w2 => e = .returned (.bool false) ∧ W = w2) := Lib.hid fun W b off cp h h1 h2 => by
    have h3 := libContains h (by decide) ByteArray.empty
    rw [he] at h3
    exact h3
  have hno : Hid (lineO st [wWindow, x1] = none) := Lib.hid (by
    unfold lineO; rw [if_neg (by rw [he]; decide)]
    show (if numB x1 = true ∧ st.sw = false then _ else none) = _
    rw [if_neg (by rw [hd]; simp)])
  have HS := Lib.hid hs
  have HSB : Hid (∀ W, Below w.heap.size w W → Sp W B g x st F) := Lib.hid fun W hW => hs.below hW
  have hgw : g < w.heap.size := Nat.lt_of_lt_of_le hs.gB hs.size
  have HON : Hid (∀ W u, Bl W g 125 ([x.e, x.g, x.s, .bool st.p.rel, x.d, .int .i64 st.p.depth, .int .i64 st.p.window, .bool st.sd, .bool st.sw, .bool st.sr].set 6 u) → Calls Tryz.prog 164 #[.pointer (some ⟨g, 8, none⟩)] W fun e w2 => e = .returned (.bool false) ∧ w2 = W.setCell ⟨g, 8, none⟩ (.bool true)) := Lib.hid fun W u h1 => onceC g 8 true W (h1.cell 8 (by rw [hd]; rfl)) (h1.fz 8)
  obtain ⟨nb, hnb⟩ : ∃ nb, nb = numB x1 := ⟨_, rfl⟩
  have HNM : Hid (∀ W, Calls Tryz.prog 165 #[.string x1] W fun e w2 => e = .returned (.tuple #[.int .i64 (numR x1), .bool nb]) ∧ W = w2) := Lib.hid fun W => by
    have h9 := numC x1 W
    rw [← hnb] at h9
    exact h9
  clear hd hnb
  clear hs he hm hz hws
  go_enter Tryz.func114, Tryz.ntmps114
  go_upto_region 5 with (first
    | (go_at_call 113; refine HSP.out.mono ?_; rintro e w1 ⟨b, off, cp, rfl, hb0, hb1, hn1, hn2, hr1, hc1, hw1⟩; have y0 : w1.cell? ⟨b, off, none⟩ = some (.string ⟨#[119, 105, 110, 100, 111, 119]⟩) := (by have h9 := hc1 0 (by simp); exact h9); have y1 : w1.cell? ⟨b, off + 1, none⟩ = some (.string x1) := (by have h9 := hc1 1 (by simp); exact h9); have HR := Lib.hid hr1; have HW1 := Lib.hid hw1; clear hr1 hc1 hw1)
    | (go_at_call 87; refine (HHS.out _ _ _ _ HR.out hn1 hn2).mono ?_; rintro e w2 ⟨rfl, rfl⟩))
  have q1 : (1 : Int) ≤ (cp : Int) := by omega
  have q2 : (cp : Int) ≤ 9223372036854775807 := by unfold maxLen at hn2; omega
  go_quiet (fail)
  obtain ⟨w1, hw1e⟩ : ∃ W, W = w1.drewN nq := ⟨_, rfl⟩
  have HW1 : Hid (Below w.heap.size w w1) := Lib.hid (by rw [hw1e]; exact HW1.out.trans ((drw _ _).mono HW1.out.size))
  have y1 : w1.cell? ⟨b, off + 1, none⟩ = some (.string x1) := by rw [hw1e]; exact y1
  rw [← hw1e]
  clear hw1e y0
  have HS1 := Lib.hid (HSB.out _ HW1.out)
  have c6 := HS1.out.bg.cell 6 rfl
  have f6 := HS1.out.bg.fz 6
  cases nb
  all_goals (
    go_wp2_with (first
      | (go_at_call 165; refine (HNM.out _).mono ?_; rintro e w2 ⟨rfl, rfl⟩)
      | (go_at_call 164; refine (HON.out _ _ (HS1.out.bg.set 6 _)).mono ?_; rintro e w3 ⟨rfl, rfl⟩))
    go_ret
    exact LineP.no ((HS.out.kpt HW1.out).trans (HS1.out.two 6 8 (.int .i64 (numR x1)) (.bool true)).1) hno.out)
set_option maxHeartbeats 4000000 in
set_option maxRecDepth 100000 in
/-- 'schemes' -/
theorem pLineScheme (w : World) (B g : Nat) (x : Vs) (st : RS) (F : List Nat) (s : ByteArray) (x1 : ByteArray) (hl : (st.p.schemes.length + 1) * 16 ≤ 140737488355328) (hs : Sp w B g x st F) (hm : Mx w) (hz : s.size < 4294967281) (hws : cutS s 32 = [wScheme, x1]) (he : hasT [wScheme, x1] ByteArray.empty = false) :
    Calls Tryz.prog 114 #[.pointer (some ⟨g, 0, none⟩), .string s] w (LineP w B g st [wScheme, x1]) := by
  have HSP := Lib.hid (wordsC s 32 w hm hz _ 2 hws rfl)
  have HHS : Hid (∀ W b off cp, kdW.rd W 0 W.heap.size (.slice (some ⟨b, off, none⟩) 2 cp) [wScheme, x1] → 2 ≤ cp → cp ≤ maxLen → Calls Tryz.prog 87 #[.slice (some ⟨b, off, none⟩) 2 cp, .string ⟨#[]⟩] W fun e w2 => e = .returned (.bool false) ∧ W = w2) := Lib.hid fun W b off cp h h1 h2 => by
    have h3 := libContains h (by decide) ByteArray.empty
    rw [he] at h3
    exact h3
  have hno : Hid (lineO st [wScheme, x1] = some { st with p := { st.p with schemes := st.p.schemes ++ [x1] } }) := Lib.hid (by
    unfold lineO; rw [if_neg (by rw [he]; decide)]
    rfl)
  have HS := Lib.hid hs
  have HSB : Hid (∀ W, Below w.heap.size w W → Sp W B g x st F) := Lib.hid fun W hW => hs.below hW
  have hgw : g < w.heap.size := Nat.lt_of_lt_of_le hs.gB hs.size
  obtain ⟨i0, hi, hz0, hz1, hz2⟩ := info_parts infoStr
  have HL := Lib.hid hl
  clear hl
  clear hs he hm hz hws
  go_enter Tryz.func114, Tryz.ntmps114
  go_upto_region 5 with (first
    | (go_at_call 113; refine HSP.out.mono ?_; rintro e w1 ⟨b, off, cp, rfl, hb0, hb1, hn1, hn2, hr1, hc1, hw1⟩; have y0 : w1.cell? ⟨b, off, none⟩ = some (.string ⟨#[115, 99, 104, 101, 109, 101]⟩) := (by have h9 := hc1 0 (by simp); exact h9); have y1 : w1.cell? ⟨b, off + 1, none⟩ = some (.string x1) := (by have h9 := hc1 1 (by simp); exact h9); have HR := Lib.hid hr1; have HW1 := Lib.hid hw1; clear hr1 hc1 hw1)
    | (go_at_call 87; refine (HHS.out _ _ _ _ HR.out hn1 hn2).mono ?_; rintro e w2 ⟨rfl, rfl⟩))
  have q1 : (1 : Int) ≤ (cp : Int) := by omega
  have q2 : (cp : Int) ≤ 9223372036854775807 := by unfold maxLen at hn2; omega
  go_quiet (fail)
  obtain ⟨w1, hw1e⟩ : ∃ W, W = w1.drewN nq := ⟨_, rfl⟩
  have HW1 : Hid (Below w.heap.size w w1) := Lib.hid (by rw [hw1e]; exact HW1.out.trans ((drw _ _).mono HW1.out.size))
  have y1 : w1.cell? ⟨b, off + 1, none⟩ = some (.string x1) := by rw [hw1e]; exact y1
  rw [← hw1e]
  clear hw1e y0
  have HS1 := Lib.hid (HSB.out _ HW1.out)
  have c2 := HS1.out.bg.cell 2 rfl
  have f2 := HS1.out.bg.fz 2
  obtain ⟨F1, F2, F3, F4, h1, h2, h3, h4, hF, hn⟩ := HS1.out.own
  have how := h3.1
  have hge : ∀ j, x.s.ownBlock = some j → B ≤ j := fun j hj => (how.lt j hj).1
  have hgB := HS.out.gB
  have hBz := HS1.out.size
  have g2 := HL.out
  have g1 : st.p.schemes.length + 1 ≤ maxLen := by unfold maxLen; omega
  have hbg := HS1.out.bg
  have c9 := (hbg.alloc (.cells #[.string x1] 9)).cell 2 rfl
  go_upto_region 16 with fail
  go_region_law (refine step_append_lies _ (by rfl) (.tmp 104) (.tmp 108) 27 (by rfl) B 9 i0 _ 1 16 Tryz.underlying27 hi hz0 hz1 hz2 rfl (by decide) x.s st.p.schemes.length (st.p.schemes.map Value.string) (by rfl) (by exact how.alloc _) ⟨w1.heap.size, 0, none⟩ 1 1 [.string x1] (by rfl) (by rfl) (by exact World.news_of_block (heap_alloc_new w1 _)) (by simp [Value.oneCell']) (by decide) g1 g2 (by simp; omega) _ rfl ?_; intro g9 cap9 w9 hown9 hgrow9 hat9 hlt9; have n9 := (hbg.alloc (.cells #[.string x1] 9)).of (hgrow9.block _ (by simp; omega) (fun e => by have := hge _ e.symm; omega)); have z1 := n9.cell 2 rfl; have z2 := n9.fz 2)
  all_goals (
    have HN9 := Lib.hid n9
    have HO9 := Lib.hid hown9
    have HG9 := Lib.hid (grown_undrew hgrow9)
    have HGE := Lib.hid hge
    have HT := Lib.hid hat9
    clear n9 hown9 hgrow9 hge hat9
    go_wp2
    go_ret
    obtain ⟨hm1, hm2⟩ := word_more (v9 := (Value.slice (some ⟨g9, 0, none⟩) (st.p.schemes.length + 1) cap9)) h3 HO9.out HG9.out (HT.out.elim (fun h => .inl h.symm) (fun h => .inr (congrArg some h)))
    have hb9 := HG9.out.size
    simp at hb9
    have ht := own_set (turnS h1 h2 h4 (hF ▸ hn) hm1 hm2) hgB 2 (Value.slice (some ⟨g9, 0, none⟩) (st.p.schemes.length + 1) cap9)
    exact LineP.yes (x' := ⟨x.e, x.g, .slice (some ⟨g9, 0, none⟩) (st.p.schemes.length + 1) cap9, x.d⟩) (F' := _) (((HS.out.kpt HW1.out).trans (Kpt.grown hgB hBz HG9.out HGE.out)).trans (Kpt.set hgB (by omega) 2 _)) hno.out ⟨ht, HN9.out.set 2 (Value.slice (some ⟨g9, 0, none⟩) (st.p.schemes.length + 1) cap9), hgB, by simp [World.setCell]; omega⟩)
set_option maxHeartbeats 4000000 in
set_option maxRecDepth 100000 in
/-- 'drop' -/
theorem pLineDrop (w : World) (B g : Nat) (x : Vs) (st : RS) (F : List Nat) (s : ByteArray) (x1 : ByteArray) (hl : (st.p.drop.length + 1) * 16 ≤ 140737488355328) (hs : Sp w B g x st F) (hm : Mx w) (hz : s.size < 4294967281) (hws : cutS s 32 = [wDrop, x1]) (he : hasT [wDrop, x1] ByteArray.empty = false) :
    Calls Tryz.prog 114 #[.pointer (some ⟨g, 0, none⟩), .string s] w (LineP w B g st [wDrop, x1]) := by
  have HSP := Lib.hid (wordsC s 32 w hm hz _ 2 hws rfl)
  have HHS : Hid (∀ W b off cp, kdW.rd W 0 W.heap.size (.slice (some ⟨b, off, none⟩) 2 cp) [wDrop, x1] → 2 ≤ cp → cp ≤ maxLen → Calls Tryz.prog 87 #[.slice (some ⟨b, off, none⟩) 2 cp, .string ⟨#[]⟩] W fun e w2 => e = .returned (.bool false) ∧ W = w2) := Lib.hid fun W b off cp h h1 h2 => by
    have h3 := libContains h (by decide) ByteArray.empty
    rw [he] at h3
    exact h3
  have hno : Hid (lineO st [wDrop, x1] = some { st with p := { st.p with drop := st.p.drop ++ [x1] } }) := Lib.hid (by
    unfold lineO; rw [if_neg (by rw [he]; decide)]
    rfl)
  have HS := Lib.hid hs
  have HSB : Hid (∀ W, Below w.heap.size w W → Sp W B g x st F) := Lib.hid fun W hW => hs.below hW
  have hgw : g < w.heap.size := Nat.lt_of_lt_of_le hs.gB hs.size
  obtain ⟨i0, hi, hz0, hz1, hz2⟩ := info_parts infoStr
  have HL := Lib.hid hl
  clear hl
  clear hs he hm hz hws
  go_enter Tryz.func114, Tryz.ntmps114
  go_upto_region 5 with (first
    | (go_at_call 113; refine HSP.out.mono ?_; rintro e w1 ⟨b, off, cp, rfl, hb0, hb1, hn1, hn2, hr1, hc1, hw1⟩; have y0 : w1.cell? ⟨b, off, none⟩ = some (.string ⟨#[100, 114, 111, 112]⟩) := (by have h9 := hc1 0 (by simp); exact h9); have y1 : w1.cell? ⟨b, off + 1, none⟩ = some (.string x1) := (by have h9 := hc1 1 (by simp); exact h9); have HR := Lib.hid hr1; have HW1 := Lib.hid hw1; clear hr1 hc1 hw1)
    | (go_at_call 87; refine (HHS.out _ _ _ _ HR.out hn1 hn2).mono ?_; rintro e w2 ⟨rfl, rfl⟩))
  have q1 : (1 : Int) ≤ (cp : Int) := by omega
  have q2 : (cp : Int) ≤ 9223372036854775807 := by unfold maxLen at hn2; omega
  go_quiet (fail)
  obtain ⟨w1, hw1e⟩ : ∃ W, W = w1.drewN nq := ⟨_, rfl⟩
  have HW1 : Hid (Below w.heap.size w w1) := Lib.hid (by rw [hw1e]; exact HW1.out.trans ((drw _ _).mono HW1.out.size))
  have y1 : w1.cell? ⟨b, off + 1, none⟩ = some (.string x1) := by rw [hw1e]; exact y1
  rw [← hw1e]
  clear hw1e y0
  have HS1 := Lib.hid (HSB.out _ HW1.out)
  have c4 := HS1.out.bg.cell 4 rfl
  have f4 := HS1.out.bg.fz 4
  obtain ⟨F1, F2, F3, F4, h1, h2, h3, h4, hF, hn⟩ := HS1.out.own
  have how := h4.1
  have hge : ∀ j, x.d.ownBlock = some j → B ≤ j := fun j hj => (how.lt j hj).1
  have hgB := HS.out.gB
  have hBz := HS1.out.size
  have g2 := HL.out
  have g1 : st.p.drop.length + 1 ≤ maxLen := by unfold maxLen; omega
  have hbg := HS1.out.bg
  have c9 := (hbg.alloc (.cells #[.string x1] 9)).cell 4 rfl
  go_upto_region 19 with fail
  go_region_law (refine step_append_lies _ (by rfl) (.tmp 126) (.tmp 130) 27 (by rfl) B 9 i0 _ 1 16 Tryz.underlying27 hi hz0 hz1 hz2 rfl (by decide) x.d st.p.drop.length (st.p.drop.map Value.string) (by rfl) (by exact how.alloc _) ⟨w1.heap.size, 0, none⟩ 1 1 [.string x1] (by rfl) (by rfl) (by exact World.news_of_block (heap_alloc_new w1 _)) (by simp [Value.oneCell']) (by decide) g1 g2 (by simp; omega) _ rfl ?_; intro g9 cap9 w9 hown9 hgrow9 hat9 hlt9; have n9 := (hbg.alloc (.cells #[.string x1] 9)).of (hgrow9.block _ (by simp; omega) (fun e => by have := hge _ e.symm; omega)); have z1 := n9.cell 4 rfl; have z2 := n9.fz 4)
  all_goals (
    have HN9 := Lib.hid n9
    have HO9 := Lib.hid hown9
    have HG9 := Lib.hid (grown_undrew hgrow9)
    have HGE := Lib.hid hge
    have HT := Lib.hid hat9
    clear n9 hown9 hgrow9 hge hat9
    go_wp2
    go_ret
    obtain ⟨hm1, hm2⟩ := word_more (v9 := (Value.slice (some ⟨g9, 0, none⟩) (st.p.drop.length + 1) cap9)) h4 HO9.out HG9.out (HT.out.elim (fun h => .inl h.symm) (fun h => .inr (congrArg some h)))
    have hb9 := HG9.out.size
    simp at hb9
    have ht := own_set (turnD h1 h2 h3 (hF ▸ hn) hm1 hm2) hgB 4 (Value.slice (some ⟨g9, 0, none⟩) (st.p.drop.length + 1) cap9)
    exact LineP.yes (x' := ⟨x.e, x.g, x.s, .slice (some ⟨g9, 0, none⟩) (st.p.drop.length + 1) cap9⟩) (F' := _) (((HS.out.kpt HW1.out).trans (Kpt.grown hgB hBz HG9.out HGE.out)).trans (Kpt.set hgB (by omega) 4 _)) hno.out ⟨ht, HN9.out.set 4 (Value.slice (some ⟨g9, 0, none⟩) (st.p.drop.length + 1) cap9), hgB, by simp [World.setCell]; omega⟩)
set_option maxHeartbeats 4000000 in
set_option maxRecDepth 100000 in
/-- 'element' -/
theorem pLineElement (w : World) (B g : Nat) (x : Vs) (st : RS) (F : List Nat) (s : ByteArray) (x1 : ByteArray) (hl : (st.p.els.length + 1) * 40 ≤ 140737488355328) (hs : Sp w B g x st F) (hm : Mx w) (hz : s.size < 4294967281) (hws : cutS s 32 = [wElement, x1]) (he : hasT [wElement, x1] ByteArray.empty = false) :
    Calls Tryz.prog 114 #[.pointer (some ⟨g, 0, none⟩), .string s] w (LineP w B g st [wElement, x1]) := by
  have HSP := Lib.hid (wordsC s 32 w hm hz _ 2 hws rfl)
  have HHS : Hid (∀ W b off cp, kdW.rd W 0 W.heap.size (.slice (some ⟨b, off, none⟩) 2 cp) [wElement, x1] → 2 ≤ cp → cp ≤ maxLen → Calls Tryz.prog 87 #[.slice (some ⟨b, off, none⟩) 2 cp, .string ⟨#[]⟩] W fun e w2 => e = .returned (.bool false) ∧ W = w2) := Lib.hid fun W b off cp h h1 h2 => by
    have h3 := libContains h (by decide) ByteArray.empty
    rw [he] at h3
    exact h3
  have hno : Hid (lineO st [wElement, x1] = some { st with p := { st.p with els := st.p.els ++ [⟨x1, []⟩] } }) := Lib.hid (by
    unfold lineO; rw [if_neg (by rw [he]; decide)]
    rfl)
  have HS := Lib.hid hs
  have HSB : Hid (∀ W, Below w.heap.size w W → Sp W B g x st F) := Lib.hid fun W hW => hs.below hW
  have hgw : g < w.heap.size := Nat.lt_of_lt_of_le hs.gB hs.size
  obtain ⟨i0, hi, hz0, hz1, hz2⟩ := info_parts infoEl
  have HL := Lib.hid hl
  clear hl
  clear hs he hm hz hws
  go_enter Tryz.func114, Tryz.ntmps114
  go_upto_region 5 with (first
    | (go_at_call 113; refine HSP.out.mono ?_; rintro e w1 ⟨b, off, cp, rfl, hb0, hb1, hn1, hn2, hr1, hc1, hw1⟩; have y0 : w1.cell? ⟨b, off, none⟩ = some (.string ⟨#[101, 108, 101, 109, 101, 110, 116]⟩) := (by have h9 := hc1 0 (by simp); exact h9); have y1 : w1.cell? ⟨b, off + 1, none⟩ = some (.string x1) := (by have h9 := hc1 1 (by simp); exact h9); have HR := Lib.hid hr1; have HW1 := Lib.hid hw1; clear hr1 hc1 hw1)
    | (go_at_call 87; refine (HHS.out _ _ _ _ HR.out hn1 hn2).mono ?_; rintro e w2 ⟨rfl, rfl⟩))
  have q1 : (1 : Int) ≤ (cp : Int) := by omega
  have q2 : (cp : Int) ≤ 9223372036854775807 := by unfold maxLen at hn2; omega
  go_quiet (fail)
  obtain ⟨w1, hw1e⟩ : ∃ W, W = w1.drewN nq := ⟨_, rfl⟩
  have HW1 : Hid (Below w.heap.size w w1) := Lib.hid (by rw [hw1e]; exact HW1.out.trans ((drw _ _).mono HW1.out.size))
  have y1 : w1.cell? ⟨b, off + 1, none⟩ = some (.string x1) := by rw [hw1e]; exact y1
  rw [← hw1e]
  clear hw1e y0
  have HS1 := Lib.hid (HSB.out _ HW1.out)
  have c0 := HS1.out.bg.cell 0 rfl
  have f0 := HS1.out.bg.fz 0
  obtain ⟨F1, F2, F3, F4, h1, h2, h3, h4, hF, hn⟩ := HS1.out.own
  obtain ⟨T, hT, how, hsT, hFT, hnT⟩ := h1
  have hTl : T.length = st.p.els.length := by have := congrArg List.length hT; simpa using this
  have hge : ∀ j, x.e.ownBlock = some j → B ≤ j := fun j hj => (how.lt j hj).1
  have hgB := HS.out.gB
  have hBz := HS1.out.size
  have g2 : (T.length + 1) * 40 ≤ 140737488355328 := by rw [hTl]; exact HL.out
  have g1 : T.length + 1 ≤ maxLen := by unfold maxLen; omega
  have hbg := HS1.out.bg
  have c9 := (hbg.alloc (.cells #[.string x1, .slice none 0 0] 45)).cell 0 rfl
  have HTL := Lib.hid hTl
  clear hTl
  go_upto_region 22 with fail
  go_region_law (refine step_append_lies _ (by rfl) (.tmp 148) (.tmp 153) 25 (by rfl) B 45 i0 _ 2 40 Tryz.underlying25 hi hz0 hz1 hz2 rfl (by decide) x.e T.length (fmE.cells T) (by rfl) (by exact how.alloc _) ⟨w1.heap.size, 0, none⟩ 1 1 [.string x1, .slice none 0 0] (by rfl) (by rfl) (by exact World.news_of_block (heap_alloc_new w1 _)) (by simp [Value.oneCell']) (by decide) g1 g2 (by simp; omega) _ rfl ?_; intro g9 cap9 w9 hown9 hgrow9 hat9 hlt9; have n9 := (hbg.alloc (.cells #[.string x1, .slice none 0 0] 45)).of (hgrow9.block _ (by simp; omega) (fun e => by have := hge _ e.symm; omega)); have z1 := n9.cell 0 rfl; have z2 := n9.fz 0)
  all_goals (
    have HN9 := Lib.hid n9
    have HO9 := Lib.hid hown9
    have HG9 := Lib.hid (grown_undrew hgrow9)
    have HGE := Lib.hid hge
    have HA := Lib.hid hat9
    clear n9 hown9 hgrow9 hge hat9
    go_wp2
    go_ret
    obtain ⟨hm1, hm2⟩ := item_more (M := fmE) (t := ⟨⟨x1, []⟩, .slice none 0 0, []⟩) (v' := .slice (some ⟨g9, 0, none⟩) (T.length + 1) cap9) how hsT (hFT ▸ hnT) (Below.refl _ _) hBz (fmR.own_nil _ _) HO9.out HG9.out (HA.out.elim (fun h => .inl h.symm) (fun h => .inr (congrArg some h)))
    have hb9 := HG9.out.size
    simp at hb9
    rw [hT] at hm1
    rw [← hFT] at hm2
    have ht := own_set (turnE h2 h3 h4 (hF ▸ hn) hm1 hm2) hgB 0 (.slice (some ⟨g9, 0, none⟩) (T.length + 1) cap9)
    exact LineP.yes (x' := ⟨.slice (some ⟨g9, 0, none⟩) (T.length + 1) cap9, x.g, x.s, x.d⟩) (F' := _) (((HS.out.kpt HW1.out).trans (Kpt.grown hgB hBz HG9.out HGE.out)).trans (Kpt.set hgB (by omega) 0 _)) hno.out ⟨ht, HN9.out.set 0 (.slice (some ⟨g9, 0, none⟩) (T.length + 1) cap9), hgB, by simp [World.setCell]; omega⟩)
set_option maxHeartbeats 4000000 in
set_option maxRecDepth 100000 in
/-- 'rel', of another length -/
theorem pLineNRel (w : World) (B g : Nat) (x : Vs) (st : RS) (F : List Nat) (s : ByteArray) (l : List ByteArray) (hs : Sp w B g x st F) (hm : Mx w) (hz : s.size < 4294967281) (hws : cutS s 32 = wRel :: l) (he : hasT (wRel :: l) ByteArray.empty = false) (hl : l ≠ []) (hlz : (l.length + 1) * 48 ≤ 140737488355328) :
    Calls Tryz.prog 114 #[.pointer (some ⟨g, 0, none⟩), .string s] w (LineP w B g st (wRel :: l)) := by
  obtain ⟨m, hml⟩ : ∃ m, m = l.length := ⟨_, rfl⟩
  obtain ⟨N, hN⟩ : ∃ N, N = m + 1 := ⟨_, rfl⟩
  have HSP := Lib.hid (wordsC s 32 w hm hz _ N hws (by rw [hN, hml]; rfl))
  have HHS : Hid (∀ W b off cp, kdW.rd W 0 W.heap.size (.slice (some ⟨b, off, none⟩) N cp) (wRel :: l) → N ≤ cp → cp ≤ maxLen → Calls Tryz.prog 87 #[.slice (some ⟨b, off, none⟩) N cp, .string ⟨#[]⟩] W fun e w2 => e = .returned (.bool false) ∧ W = w2) := Lib.hid fun W b off cp h h1 h2 => by
    have h3 := libContains h (by omega) ByteArray.empty
    rw [he] at h3
    exact h3
  have hno : Hid (lineO st (wRel :: l) = none) := Lib.hid (by
    unfold lineO; rw [if_neg (by rw [he]; decide)]
    show (if l = [] ∧ st.sr = false then _ else none) = none
    rw [if_neg (fun h => hl h.1)])
  have HS := Lib.hid hs
  have HSB : Hid (∀ W, Below w.heap.size w W → Sp W B g x st F) := Lib.hid fun W hW => hs.below hW
  have hgw : g < w.heap.size := Nat.lt_of_lt_of_le hs.gB hs.size
  have HML := Lib.hid hml
  have HNM := Lib.hid hN
  have HDR : Hid (∀ W b off cp, kdW.rd W 0 W.heap.size (.slice (some ⟨b, off, none⟩) N cp) (wRel :: l) → kdW.rd W 0 W.heap.size (.slice (some ⟨b, off + 1, none⟩) m (cp - 1)) l) := Lib.hid fun W b off cp h => by
    have h3 := rdW_drop h (k := 1) (by simp)
    rw [hN, Nat.add_sub_cancel] at h3
    exact h3
  have n1 : (1 : Int) ≤ (N : Int) := by omega
  have n2 : (0 : Int) < (N : Int) := by omega
  have n0 : 0 < N := by omega
  have n3 : ((N : Int) - 1).toNat = m := by omega
  have n4 : N - 1 = m := by omega
  have hlz2 : (m + 1) * 48 ≤ 140737488355328 := by rw [hml]; exact hlz
  have b1 : ((m : Int) == 0) = false := by
    have : m ≠ 0 := fun e => hl (List.eq_nil_of_length_eq_zero (by rw [← hml]; exact e))
    simp; omega
  clear hl
  clear hs he hm hz hws hml hN hlz
  go_enter Tryz.func114, Tryz.ntmps114
  go_upto_region 5 with (first
    | (go_at_call 113; refine HSP.out.mono ?_; rintro e w1 ⟨b, off, cp, rfl, hb0, hb1, hn1, hn2, hr1, hc1, hw1⟩; have y0 : w1.cell? ⟨b, off, none⟩ = some (.string ⟨#[114, 101, 108, 97, 116, 105, 118, 101]⟩) := (by have h9 := hc1 0 (by simp); exact h9); have HR := Lib.hid hr1; have HW1 := Lib.hid hw1; clear hr1 hc1 hw1)
    | (go_at_call 87; refine (HHS.out _ _ _ _ HR.out hn1 hn2).mono ?_; rintro e w2 ⟨rfl, rfl⟩))
  obtain ⟨c2, hc2⟩ : ∃ c2, c2 = cp - 1 := ⟨_, rfl⟩
  have q0 : (N : Int) ≤ (cp : Int) := by omega
  have q1 : (1 : Int) ≤ (cp : Int) := by omega
  have q2 : (cp : Int) ≤ 9223372036854775807 := by unfold maxLen at hn2; omega
  have q3 : ((cp : Int) - 1).toNat = c2 := by omega
  have q4 : cp - 1 = c2 := hc2.symm
  have hcN : N ≤ cp := hn1
  have HC2 := Lib.hid hc2
  clear hc2
  go_quiet (fail)
  obtain ⟨A5, hA5⟩ : ∃ A, A = (if cp = 1 then some (⟨b, off, none⟩ : Addr) else some ⟨b, off + 1, none⟩) := ⟨_, rfl⟩
  rw [← hA5]
  have HDR0 : Hid (kdW.rd w1 0 w1.heap.size (.slice A5 m c2) l) := Lib.hid (by
    have h9 := HDR.out _ _ _ _ HR.out
    rw [← HC2.out] at h9
    rw [hA5]
    by_cases h0 : cp = 1
    · have hm0 : m = 0 := by have := HNM.out; omega
      have hl0 : l = [] := List.eq_nil_of_length_eq_zero (by rw [← HML.out]; exact hm0)
      subst hl0
      rw [if_pos h0, hm0]
      exact ⟨_, _, rfl, Nat.zero_le _, by unfold maxLen; omega, fun h => by simp at h⟩
    · rw [if_neg h0]; exact h9)
  clear hA5
  obtain ⟨w1, hw1e⟩ : ∃ W, W = w1.drewN nq := ⟨_, rfl⟩
  have HW1 : Hid (Below w.heap.size w w1) := Lib.hid (by rw [hw1e]; exact HW1.out.trans ((drw _ _).mono HW1.out.size))
  have HDR1 : Hid (kdW.rd w1 0 w1.heap.size (.slice A5 m c2) l) := Lib.hid (by rw [hw1e]; exact HDR0.out)
  rw [← hw1e]
  clear hw1e y0
  have HS1 := Lib.hid (HSB.out _ HW1.out)
  go_wp2
  go_ret
  exact LineP.no (HS.out.kpt HW1.out) hno.out
set_option maxHeartbeats 4000000 in
set_option maxRecDepth 100000 in
/-- 'depth', of another length -/
theorem pLineNDepth (w : World) (B g : Nat) (x : Vs) (st : RS) (F : List Nat) (s : ByteArray) (l : List ByteArray) (hs : Sp w B g x st F) (hm : Mx w) (hz : s.size < 4294967281) (hws : cutS s 32 = wDepth :: l) (he : hasT (wDepth :: l) ByteArray.empty = false) (hl : l.length ≠ 1) (hlz : (l.length + 1) * 48 ≤ 140737488355328) :
    Calls Tryz.prog 114 #[.pointer (some ⟨g, 0, none⟩), .string s] w (LineP w B g st (wDepth :: l)) := by
  obtain ⟨m, hml⟩ : ∃ m, m = l.length := ⟨_, rfl⟩
  obtain ⟨N, hN⟩ : ∃ N, N = m + 1 := ⟨_, rfl⟩
  have HSP := Lib.hid (wordsC s 32 w hm hz _ N hws (by rw [hN, hml]; rfl))
  have HHS : Hid (∀ W b off cp, kdW.rd W 0 W.heap.size (.slice (some ⟨b, off, none⟩) N cp) (wDepth :: l) → N ≤ cp → cp ≤ maxLen → Calls Tryz.prog 87 #[.slice (some ⟨b, off, none⟩) N cp, .string ⟨#[]⟩] W fun e w2 => e = .returned (.bool false) ∧ W = w2) := Lib.hid fun W b off cp h h1 h2 => by
    have h3 := libContains h (by omega) ByteArray.empty
    rw [he] at h3
    exact h3
  have hno : Hid (lineO st (wDepth :: l) = none) := Lib.hid (by
    unfold lineO; rw [if_neg (by rw [he]; decide)]
    match l, hl with
    | [], _ => rfl
    | [a], h => exact absurd rfl h
    | a :: b :: t, _ => rfl)
  have HS := Lib.hid hs
  have HSB : Hid (∀ W, Below w.heap.size w W → Sp W B g x st F) := Lib.hid fun W hW => hs.below hW
  have hgw : g < w.heap.size := Nat.lt_of_lt_of_le hs.gB hs.size
  have HML := Lib.hid hml
  have HNM := Lib.hid hN
  have HDR : Hid (∀ W b off cp, kdW.rd W 0 W.heap.size (.slice (some ⟨b, off, none⟩) N cp) (wDepth :: l) → kdW.rd W 0 W.heap.size (.slice (some ⟨b, off + 1, none⟩) m (cp - 1)) l) := Lib.hid fun W b off cp h => by
    have h3 := rdW_drop h (k := 1) (by simp)
    rw [hN, Nat.add_sub_cancel] at h3
    exact h3
  have n1 : (1 : Int) ≤ (N : Int) := by omega
  have n2 : (0 : Int) < (N : Int) := by omega
  have n0 : 0 < N := by omega
  have n3 : ((N : Int) - 1).toNat = m := by omega
  have n4 : N - 1 = m := by omega
  have hlz2 : (m + 1) * 48 ≤ 140737488355328 := by rw [hml]; exact hlz
  have b1 : ((m : Int) == 1) = false := by
    have : m ≠ 1 := fun e => hl (by rw [← hml]; exact e)
    simp; omega
  clear hl
  clear hs he hm hz hws hml hN hlz
  go_enter Tryz.func114, Tryz.ntmps114
  go_upto_region 5 with (first
    | (go_at_call 113; refine HSP.out.mono ?_; rintro e w1 ⟨b, off, cp, rfl, hb0, hb1, hn1, hn2, hr1, hc1, hw1⟩; have y0 : w1.cell? ⟨b, off, none⟩ = some (.string ⟨#[100, 101, 112, 116, 104]⟩) := (by have h9 := hc1 0 (by simp); exact h9); have HR := Lib.hid hr1; have HW1 := Lib.hid hw1; clear hr1 hc1 hw1)
    | (go_at_call 87; refine (HHS.out _ _ _ _ HR.out hn1 hn2).mono ?_; rintro e w2 ⟨rfl, rfl⟩))
  obtain ⟨c2, hc2⟩ : ∃ c2, c2 = cp - 1 := ⟨_, rfl⟩
  have q0 : (N : Int) ≤ (cp : Int) := by omega
  have q1 : (1 : Int) ≤ (cp : Int) := by omega
  have q2 : (cp : Int) ≤ 9223372036854775807 := by unfold maxLen at hn2; omega
  have q3 : ((cp : Int) - 1).toNat = c2 := by omega
  have q4 : cp - 1 = c2 := hc2.symm
  have hcN : N ≤ cp := hn1
  have HC2 := Lib.hid hc2
  clear hc2
  go_quiet (fail)
  obtain ⟨A5, hA5⟩ : ∃ A, A = (if cp = 1 then some (⟨b, off, none⟩ : Addr) else some ⟨b, off + 1, none⟩) := ⟨_, rfl⟩
  rw [← hA5]
  have HDR0 : Hid (kdW.rd w1 0 w1.heap.size (.slice A5 m c2) l) := Lib.hid (by
    have h9 := HDR.out _ _ _ _ HR.out
    rw [← HC2.out] at h9
    rw [hA5]
    by_cases h0 : cp = 1
    · have hm0 : m = 0 := by have := HNM.out; omega
      have hl0 : l = [] := List.eq_nil_of_length_eq_zero (by rw [← HML.out]; exact hm0)
      subst hl0
      rw [if_pos h0, hm0]
      exact ⟨_, _, rfl, Nat.zero_le _, by unfold maxLen; omega, fun h => by simp at h⟩
    · rw [if_neg h0]; exact h9)
  clear hA5
  obtain ⟨w1, hw1e⟩ : ∃ W, W = w1.drewN nq := ⟨_, rfl⟩
  have HW1 : Hid (Below w.heap.size w w1) := Lib.hid (by rw [hw1e]; exact HW1.out.trans ((drw _ _).mono HW1.out.size))
  have HDR1 : Hid (kdW.rd w1 0 w1.heap.size (.slice A5 m c2) l) := Lib.hid (by rw [hw1e]; exact HDR0.out)
  rw [← hw1e]
  clear hw1e y0
  have HS1 := Lib.hid (HSB.out _ HW1.out)
  go_wp2
  go_ret
  exact LineP.no (HS.out.kpt HW1.out) hno.out
set_option maxHeartbeats 4000000 in
set_option maxRecDepth 100000 in
/-- 'window', of another length -/
theorem pLineNWindow (w : World) (B g : Nat) (x : Vs) (st : RS) (F : List Nat) (s : ByteArray) (l : List ByteArray) (hs : Sp w B g x st F) (hm : Mx w) (hz : s.size < 4294967281) (hws : cutS s 32 = wWindow :: l) (he : hasT (wWindow :: l) ByteArray.empty = false) (hl : l.length ≠ 1) (hlz : (l.length + 1) * 48 ≤ 140737488355328) :
    Calls Tryz.prog 114 #[.pointer (some ⟨g, 0, none⟩), .string s] w (LineP w B g st (wWindow :: l)) := by
  obtain ⟨m, hml⟩ : ∃ m, m = l.length := ⟨_, rfl⟩
  obtain ⟨N, hN⟩ : ∃ N, N = m + 1 := ⟨_, rfl⟩
  have HSP := Lib.hid (wordsC s 32 w hm hz _ N hws (by rw [hN, hml]; rfl))
  have HHS : Hid (∀ W b off cp, kdW.rd W 0 W.heap.size (.slice (some ⟨b, off, none⟩) N cp) (wWindow :: l) → N ≤ cp → cp ≤ maxLen → Calls Tryz.prog 87 #[.slice (some ⟨b, off, none⟩) N cp, .string ⟨#[]⟩] W fun e w2 => e = .returned (.bool false) ∧ W = w2) := Lib.hid fun W b off cp h h1 h2 => by
    have h3 := libContains h (by omega) ByteArray.empty
    rw [he] at h3
    exact h3
  have hno : Hid (lineO st (wWindow :: l) = none) := Lib.hid (by
    unfold lineO; rw [if_neg (by rw [he]; decide)]
    match l, hl with
    | [], _ => rfl
    | [a], h => exact absurd rfl h
    | a :: b :: t, _ => rfl)
  have HS := Lib.hid hs
  have HSB : Hid (∀ W, Below w.heap.size w W → Sp W B g x st F) := Lib.hid fun W hW => hs.below hW
  have hgw : g < w.heap.size := Nat.lt_of_lt_of_le hs.gB hs.size
  have HML := Lib.hid hml
  have HNM := Lib.hid hN
  have HDR : Hid (∀ W b off cp, kdW.rd W 0 W.heap.size (.slice (some ⟨b, off, none⟩) N cp) (wWindow :: l) → kdW.rd W 0 W.heap.size (.slice (some ⟨b, off + 1, none⟩) m (cp - 1)) l) := Lib.hid fun W b off cp h => by
    have h3 := rdW_drop h (k := 1) (by simp)
    rw [hN, Nat.add_sub_cancel] at h3
    exact h3
  have n1 : (1 : Int) ≤ (N : Int) := by omega
  have n2 : (0 : Int) < (N : Int) := by omega
  have n0 : 0 < N := by omega
  have n3 : ((N : Int) - 1).toNat = m := by omega
  have n4 : N - 1 = m := by omega
  have hlz2 : (m + 1) * 48 ≤ 140737488355328 := by rw [hml]; exact hlz
  have b1 : ((m : Int) == 1) = false := by
    have : m ≠ 1 := fun e => hl (by rw [← hml]; exact e)
    simp; omega
  clear hl
  clear hs he hm hz hws hml hN hlz
  go_enter Tryz.func114, Tryz.ntmps114
  go_upto_region 5 with (first
    | (go_at_call 113; refine HSP.out.mono ?_; rintro e w1 ⟨b, off, cp, rfl, hb0, hb1, hn1, hn2, hr1, hc1, hw1⟩; have y0 : w1.cell? ⟨b, off, none⟩ = some (.string ⟨#[119, 105, 110, 100, 111, 119]⟩) := (by have h9 := hc1 0 (by simp); exact h9); have HR := Lib.hid hr1; have HW1 := Lib.hid hw1; clear hr1 hc1 hw1)
    | (go_at_call 87; refine (HHS.out _ _ _ _ HR.out hn1 hn2).mono ?_; rintro e w2 ⟨rfl, rfl⟩))
  obtain ⟨c2, hc2⟩ : ∃ c2, c2 = cp - 1 := ⟨_, rfl⟩
  have q0 : (N : Int) ≤ (cp : Int) := by omega
  have q1 : (1 : Int) ≤ (cp : Int) := by omega
  have q2 : (cp : Int) ≤ 9223372036854775807 := by unfold maxLen at hn2; omega
  have q3 : ((cp : Int) - 1).toNat = c2 := by omega
  have q4 : cp - 1 = c2 := hc2.symm
  have hcN : N ≤ cp := hn1
  have HC2 := Lib.hid hc2
  clear hc2
  go_quiet (fail)
  obtain ⟨A5, hA5⟩ : ∃ A, A = (if cp = 1 then some (⟨b, off, none⟩ : Addr) else some ⟨b, off + 1, none⟩) := ⟨_, rfl⟩
  rw [← hA5]
  have HDR0 : Hid (kdW.rd w1 0 w1.heap.size (.slice A5 m c2) l) := Lib.hid (by
    have h9 := HDR.out _ _ _ _ HR.out
    rw [← HC2.out] at h9
    rw [hA5]
    by_cases h0 : cp = 1
    · have hm0 : m = 0 := by have := HNM.out; omega
      have hl0 : l = [] := List.eq_nil_of_length_eq_zero (by rw [← HML.out]; exact hm0)
      subst hl0
      rw [if_pos h0, hm0]
      exact ⟨_, _, rfl, Nat.zero_le _, by unfold maxLen; omega, fun h => by simp at h⟩
    · rw [if_neg h0]; exact h9)
  clear hA5
  obtain ⟨w1, hw1e⟩ : ∃ W, W = w1.drewN nq := ⟨_, rfl⟩
  have HW1 : Hid (Below w.heap.size w w1) := Lib.hid (by rw [hw1e]; exact HW1.out.trans ((drw _ _).mono HW1.out.size))
  have HDR1 : Hid (kdW.rd w1 0 w1.heap.size (.slice A5 m c2) l) := Lib.hid (by rw [hw1e]; exact HDR0.out)
  rw [← hw1e]
  clear hw1e y0
  have HS1 := Lib.hid (HSB.out _ HW1.out)
  go_wp2
  go_ret
  exact LineP.no (HS.out.kpt HW1.out) hno.out
set_option maxHeartbeats 4000000 in
set_option maxRecDepth 100000 in
/-- 'scheme', of another length -/
theorem pLineNScheme (w : World) (B g : Nat) (x : Vs) (st : RS) (F : List Nat) (s : ByteArray) (l : List ByteArray) (hs : Sp w B g x st F) (hm : Mx w) (hz : s.size < 4294967281) (hws : cutS s 32 = wScheme :: l) (he : hasT (wScheme :: l) ByteArray.empty = false) (hl : l.length ≠ 1) (hlz : (l.length + 1) * 48 ≤ 140737488355328) :
    Calls Tryz.prog 114 #[.pointer (some ⟨g, 0, none⟩), .string s] w (LineP w B g st (wScheme :: l)) := by
  obtain ⟨m, hml⟩ : ∃ m, m = l.length := ⟨_, rfl⟩
  obtain ⟨N, hN⟩ : ∃ N, N = m + 1 := ⟨_, rfl⟩
  have HSP := Lib.hid (wordsC s 32 w hm hz _ N hws (by rw [hN, hml]; rfl))
  have HHS : Hid (∀ W b off cp, kdW.rd W 0 W.heap.size (.slice (some ⟨b, off, none⟩) N cp) (wScheme :: l) → N ≤ cp → cp ≤ maxLen → Calls Tryz.prog 87 #[.slice (some ⟨b, off, none⟩) N cp, .string ⟨#[]⟩] W fun e w2 => e = .returned (.bool false) ∧ W = w2) := Lib.hid fun W b off cp h h1 h2 => by
    have h3 := libContains h (by omega) ByteArray.empty
    rw [he] at h3
    exact h3
  have hno : Hid (lineO st (wScheme :: l) = none) := Lib.hid (by
    unfold lineO; rw [if_neg (by rw [he]; decide)]
    match l, hl with
    | [], _ => rfl
    | [a], h => exact absurd rfl h
    | a :: b :: t, _ => rfl)
  have HS := Lib.hid hs
  have HSB : Hid (∀ W, Below w.heap.size w W → Sp W B g x st F) := Lib.hid fun W hW => hs.below hW
  have hgw : g < w.heap.size := Nat.lt_of_lt_of_le hs.gB hs.size
  have HML := Lib.hid hml
  have HNM := Lib.hid hN
  have HDR : Hid (∀ W b off cp, kdW.rd W 0 W.heap.size (.slice (some ⟨b, off, none⟩) N cp) (wScheme :: l) → kdW.rd W 0 W.heap.size (.slice (some ⟨b, off + 1, none⟩) m (cp - 1)) l) := Lib.hid fun W b off cp h => by
    have h3 := rdW_drop h (k := 1) (by simp)
    rw [hN, Nat.add_sub_cancel] at h3
    exact h3
  have n1 : (1 : Int) ≤ (N : Int) := by omega
  have n2 : (0 : Int) < (N : Int) := by omega
  have n0 : 0 < N := by omega
  have n3 : ((N : Int) - 1).toNat = m := by omega
  have n4 : N - 1 = m := by omega
  have hlz2 : (m + 1) * 48 ≤ 140737488355328 := by rw [hml]; exact hlz
  have b1 : ((m : Int) == 1) = false := by
    have : m ≠ 1 := fun e => hl (by rw [← hml]; exact e)
    simp; omega
  clear hl
  clear hs he hm hz hws hml hN hlz
  go_enter Tryz.func114, Tryz.ntmps114
  go_upto_region 5 with (first
    | (go_at_call 113; refine HSP.out.mono ?_; rintro e w1 ⟨b, off, cp, rfl, hb0, hb1, hn1, hn2, hr1, hc1, hw1⟩; have y0 : w1.cell? ⟨b, off, none⟩ = some (.string ⟨#[115, 99, 104, 101, 109, 101]⟩) := (by have h9 := hc1 0 (by simp); exact h9); have HR := Lib.hid hr1; have HW1 := Lib.hid hw1; clear hr1 hc1 hw1)
    | (go_at_call 87; refine (HHS.out _ _ _ _ HR.out hn1 hn2).mono ?_; rintro e w2 ⟨rfl, rfl⟩))
  obtain ⟨c2, hc2⟩ : ∃ c2, c2 = cp - 1 := ⟨_, rfl⟩
  have q0 : (N : Int) ≤ (cp : Int) := by omega
  have q1 : (1 : Int) ≤ (cp : Int) := by omega
  have q2 : (cp : Int) ≤ 9223372036854775807 := by unfold maxLen at hn2; omega
  have q3 : ((cp : Int) - 1).toNat = c2 := by omega
  have q4 : cp - 1 = c2 := hc2.symm
  have hcN : N ≤ cp := hn1
  have HC2 := Lib.hid hc2
  clear hc2
  go_quiet (fail)
  obtain ⟨A5, hA5⟩ : ∃ A, A = (if cp = 1 then some (⟨b, off, none⟩ : Addr) else some ⟨b, off + 1, none⟩) := ⟨_, rfl⟩
  rw [← hA5]
  have HDR0 : Hid (kdW.rd w1 0 w1.heap.size (.slice A5 m c2) l) := Lib.hid (by
    have h9 := HDR.out _ _ _ _ HR.out
    rw [← HC2.out] at h9
    rw [hA5]
    by_cases h0 : cp = 1
    · have hm0 : m = 0 := by have := HNM.out; omega
      have hl0 : l = [] := List.eq_nil_of_length_eq_zero (by rw [← HML.out]; exact hm0)
      subst hl0
      rw [if_pos h0, hm0]
      exact ⟨_, _, rfl, Nat.zero_le _, by unfold maxLen; omega, fun h => by simp at h⟩
    · rw [if_neg h0]; exact h9)
  clear hA5
  obtain ⟨w1, hw1e⟩ : ∃ W, W = w1.drewN nq := ⟨_, rfl⟩
  have HW1 : Hid (Below w.heap.size w w1) := Lib.hid (by rw [hw1e]; exact HW1.out.trans ((drw _ _).mono HW1.out.size))
  have HDR1 : Hid (kdW.rd w1 0 w1.heap.size (.slice A5 m c2) l) := Lib.hid (by rw [hw1e]; exact HDR0.out)
  rw [← hw1e]
  clear hw1e y0
  have HS1 := Lib.hid (HSB.out _ HW1.out)
  go_wp2
  go_ret
  exact LineP.no (HS.out.kpt HW1.out) hno.out
set_option maxHeartbeats 4000000 in
set_option maxRecDepth 100000 in
/-- 'drop', of another length -/
theorem pLineNDrop (w : World) (B g : Nat) (x : Vs) (st : RS) (F : List Nat) (s : ByteArray) (l : List ByteArray) (hs : Sp w B g x st F) (hm : Mx w) (hz : s.size < 4294967281) (hws : cutS s 32 = wDrop :: l) (he : hasT (wDrop :: l) ByteArray.empty = false) (hl : l.length ≠ 1) (hlz : (l.length + 1) * 48 ≤ 140737488355328) :
    Calls Tryz.prog 114 #[.pointer (some ⟨g, 0, none⟩), .string s] w (LineP w B g st (wDrop :: l)) := by
  obtain ⟨m, hml⟩ : ∃ m, m = l.length := ⟨_, rfl⟩
  obtain ⟨N, hN⟩ : ∃ N, N = m + 1 := ⟨_, rfl⟩
  have HSP := Lib.hid (wordsC s 32 w hm hz _ N hws (by rw [hN, hml]; rfl))
  have HHS : Hid (∀ W b off cp, kdW.rd W 0 W.heap.size (.slice (some ⟨b, off, none⟩) N cp) (wDrop :: l) → N ≤ cp → cp ≤ maxLen → Calls Tryz.prog 87 #[.slice (some ⟨b, off, none⟩) N cp, .string ⟨#[]⟩] W fun e w2 => e = .returned (.bool false) ∧ W = w2) := Lib.hid fun W b off cp h h1 h2 => by
    have h3 := libContains h (by omega) ByteArray.empty
    rw [he] at h3
    exact h3
  have hno : Hid (lineO st (wDrop :: l) = none) := Lib.hid (by
    unfold lineO; rw [if_neg (by rw [he]; decide)]
    match l, hl with
    | [], _ => rfl
    | [a], h => exact absurd rfl h
    | a :: b :: t, _ => rfl)
  have HS := Lib.hid hs
  have HSB : Hid (∀ W, Below w.heap.size w W → Sp W B g x st F) := Lib.hid fun W hW => hs.below hW
  have hgw : g < w.heap.size := Nat.lt_of_lt_of_le hs.gB hs.size
  have HML := Lib.hid hml
  have HNM := Lib.hid hN
  have HDR : Hid (∀ W b off cp, kdW.rd W 0 W.heap.size (.slice (some ⟨b, off, none⟩) N cp) (wDrop :: l) → kdW.rd W 0 W.heap.size (.slice (some ⟨b, off + 1, none⟩) m (cp - 1)) l) := Lib.hid fun W b off cp h => by
    have h3 := rdW_drop h (k := 1) (by simp)
    rw [hN, Nat.add_sub_cancel] at h3
    exact h3
  have n1 : (1 : Int) ≤ (N : Int) := by omega
  have n2 : (0 : Int) < (N : Int) := by omega
  have n0 : 0 < N := by omega
  have n3 : ((N : Int) - 1).toNat = m := by omega
  have n4 : N - 1 = m := by omega
  have hlz2 : (m + 1) * 48 ≤ 140737488355328 := by rw [hml]; exact hlz
  have b1 : ((m : Int) == 1) = false := by
    have : m ≠ 1 := fun e => hl (by rw [← hml]; exact e)
    simp; omega
  clear hl
  clear hs he hm hz hws hml hN hlz
  go_enter Tryz.func114, Tryz.ntmps114
  go_upto_region 5 with (first
    | (go_at_call 113; refine HSP.out.mono ?_; rintro e w1 ⟨b, off, cp, rfl, hb0, hb1, hn1, hn2, hr1, hc1, hw1⟩; have y0 : w1.cell? ⟨b, off, none⟩ = some (.string ⟨#[100, 114, 111, 112]⟩) := (by have h9 := hc1 0 (by simp); exact h9); have HR := Lib.hid hr1; have HW1 := Lib.hid hw1; clear hr1 hc1 hw1)
    | (go_at_call 87; refine (HHS.out _ _ _ _ HR.out hn1 hn2).mono ?_; rintro e w2 ⟨rfl, rfl⟩))
  obtain ⟨c2, hc2⟩ : ∃ c2, c2 = cp - 1 := ⟨_, rfl⟩
  have q0 : (N : Int) ≤ (cp : Int) := by omega
  have q1 : (1 : Int) ≤ (cp : Int) := by omega
  have q2 : (cp : Int) ≤ 9223372036854775807 := by unfold maxLen at hn2; omega
  have q3 : ((cp : Int) - 1).toNat = c2 := by omega
  have q4 : cp - 1 = c2 := hc2.symm
  have hcN : N ≤ cp := hn1
  have HC2 := Lib.hid hc2
  clear hc2
  go_quiet (fail)
  obtain ⟨A5, hA5⟩ : ∃ A, A = (if cp = 1 then some (⟨b, off, none⟩ : Addr) else some ⟨b, off + 1, none⟩) := ⟨_, rfl⟩
  rw [← hA5]
  have HDR0 : Hid (kdW.rd w1 0 w1.heap.size (.slice A5 m c2) l) := Lib.hid (by
    have h9 := HDR.out _ _ _ _ HR.out
    rw [← HC2.out] at h9
    rw [hA5]
    by_cases h0 : cp = 1
    · have hm0 : m = 0 := by have := HNM.out; omega
      have hl0 : l = [] := List.eq_nil_of_length_eq_zero (by rw [← HML.out]; exact hm0)
      subst hl0
      rw [if_pos h0, hm0]
      exact ⟨_, _, rfl, Nat.zero_le _, by unfold maxLen; omega, fun h => by simp at h⟩
    · rw [if_neg h0]; exact h9)
  clear hA5
  obtain ⟨w1, hw1e⟩ : ∃ W, W = w1.drewN nq := ⟨_, rfl⟩
  have HW1 : Hid (Below w.heap.size w w1) := Lib.hid (by rw [hw1e]; exact HW1.out.trans ((drw _ _).mono HW1.out.size))
  have HDR1 : Hid (kdW.rd w1 0 w1.heap.size (.slice A5 m c2) l) := Lib.hid (by rw [hw1e]; exact HDR0.out)
  rw [← hw1e]
  clear hw1e y0
  have HS1 := Lib.hid (HSB.out _ HW1.out)
  go_wp2
  go_ret
  exact LineP.no (HS.out.kpt HW1.out) hno.out
set_option maxHeartbeats 4000000 in
set_option maxRecDepth 100000 in
/-- 'element', of another length -/
theorem pLineNElement (w : World) (B g : Nat) (x : Vs) (st : RS) (F : List Nat) (s : ByteArray) (l : List ByteArray) (hs : Sp w B g x st F) (hm : Mx w) (hz : s.size < 4294967281) (hws : cutS s 32 = wElement :: l) (he : hasT (wElement :: l) ByteArray.empty = false) (hl : l.length ≠ 1) (hlz : (l.length + 1) * 48 ≤ 140737488355328) :
    Calls Tryz.prog 114 #[.pointer (some ⟨g, 0, none⟩), .string s] w (LineP w B g st (wElement :: l)) := by
  obtain ⟨m, hml⟩ : ∃ m, m = l.length := ⟨_, rfl⟩
  obtain ⟨N, hN⟩ : ∃ N, N = m + 1 := ⟨_, rfl⟩
  have HSP := Lib.hid (wordsC s 32 w hm hz _ N hws (by rw [hN, hml]; rfl))
  have HHS : Hid (∀ W b off cp, kdW.rd W 0 W.heap.size (.slice (some ⟨b, off, none⟩) N cp) (wElement :: l) → N ≤ cp → cp ≤ maxLen → Calls Tryz.prog 87 #[.slice (some ⟨b, off, none⟩) N cp, .string ⟨#[]⟩] W fun e w2 => e = .returned (.bool false) ∧ W = w2) := Lib.hid fun W b off cp h h1 h2 => by
    have h3 := libContains h (by omega) ByteArray.empty
    rw [he] at h3
    exact h3
  have hno : Hid (lineO st (wElement :: l) = none) := Lib.hid (by
    unfold lineO; rw [if_neg (by rw [he]; decide)]
    match l, hl with
    | [], _ => rfl
    | [a], h => exact absurd rfl h
    | a :: b :: t, _ => rfl)
  have HS := Lib.hid hs
  have HSB : Hid (∀ W, Below w.heap.size w W → Sp W B g x st F) := Lib.hid fun W hW => hs.below hW
  have hgw : g < w.heap.size := Nat.lt_of_lt_of_le hs.gB hs.size
  have HML := Lib.hid hml
  have HNM := Lib.hid hN
  have HDR : Hid (∀ W b off cp, kdW.rd W 0 W.heap.size (.slice (some ⟨b, off, none⟩) N cp) (wElement :: l) → kdW.rd W 0 W.heap.size (.slice (some ⟨b, off + 1, none⟩) m (cp - 1)) l) := Lib.hid fun W b off cp h => by
    have h3 := rdW_drop h (k := 1) (by simp)
    rw [hN, Nat.add_sub_cancel] at h3
    exact h3
  have n1 : (1 : Int) ≤ (N : Int) := by omega
  have n2 : (0 : Int) < (N : Int) := by omega
  have n0 : 0 < N := by omega
  have n3 : ((N : Int) - 1).toNat = m := by omega
  have n4 : N - 1 = m := by omega
  have hlz2 : (m + 1) * 48 ≤ 140737488355328 := by rw [hml]; exact hlz
  have b1 : ((m : Int) == 1) = false := by
    have : m ≠ 1 := fun e => hl (by rw [← hml]; exact e)
    simp; omega
  clear hl
  clear hs he hm hz hws hml hN hlz
  go_enter Tryz.func114, Tryz.ntmps114
  go_upto_region 5 with (first
    | (go_at_call 113; refine HSP.out.mono ?_; rintro e w1 ⟨b, off, cp, rfl, hb0, hb1, hn1, hn2, hr1, hc1, hw1⟩; have y0 : w1.cell? ⟨b, off, none⟩ = some (.string ⟨#[101, 108, 101, 109, 101, 110, 116]⟩) := (by have h9 := hc1 0 (by simp); exact h9); have HR := Lib.hid hr1; have HW1 := Lib.hid hw1; clear hr1 hc1 hw1)
    | (go_at_call 87; refine (HHS.out _ _ _ _ HR.out hn1 hn2).mono ?_; rintro e w2 ⟨rfl, rfl⟩))
  obtain ⟨c2, hc2⟩ : ∃ c2, c2 = cp - 1 := ⟨_, rfl⟩
  have q0 : (N : Int) ≤ (cp : Int) := by omega
  have q1 : (1 : Int) ≤ (cp : Int) := by omega
  have q2 : (cp : Int) ≤ 9223372036854775807 := by unfold maxLen at hn2; omega
  have q3 : ((cp : Int) - 1).toNat = c2 := by omega
  have q4 : cp - 1 = c2 := hc2.symm
  have hcN : N ≤ cp := hn1
  have HC2 := Lib.hid hc2
  clear hc2
  go_quiet (fail)
  obtain ⟨A5, hA5⟩ : ∃ A, A = (if cp = 1 then some (⟨b, off, none⟩ : Addr) else some ⟨b, off + 1, none⟩) := ⟨_, rfl⟩
  rw [← hA5]
  have HDR0 : Hid (kdW.rd w1 0 w1.heap.size (.slice A5 m c2) l) := Lib.hid (by
    have h9 := HDR.out _ _ _ _ HR.out
    rw [← HC2.out] at h9
    rw [hA5]
    by_cases h0 : cp = 1
    · have hm0 : m = 0 := by have := HNM.out; omega
      have hl0 : l = [] := List.eq_nil_of_length_eq_zero (by rw [← HML.out]; exact hm0)
      subst hl0
      rw [if_pos h0, hm0]
      exact ⟨_, _, rfl, Nat.zero_le _, by unfold maxLen; omega, fun h => by simp at h⟩
    · rw [if_neg h0]; exact h9)
  clear hA5
  obtain ⟨w1, hw1e⟩ : ∃ W, W = w1.drewN nq := ⟨_, rfl⟩
  have HW1 : Hid (Below w.heap.size w w1) := Lib.hid (by rw [hw1e]; exact HW1.out.trans ((drw _ _).mono HW1.out.size))
  have HDR1 : Hid (kdW.rd w1 0 w1.heap.size (.slice A5 m c2) l) := Lib.hid (by rw [hw1e]; exact HDR0.out)
  rw [← hw1e]
  clear hw1e y0
  have HS1 := Lib.hid (HSB.out _ HW1.out)
  go_wp2
  go_ret
  exact LineP.no (HS.out.kpt HW1.out) hno.out
set_option maxHeartbeats 4000000 in
set_option maxRecDepth 100000 in
/-- an unknown word -/
theorem pLineX (w : World) (B g : Nat) (x : Vs) (st : RS) (F : List Nat) (s : ByteArray) (w0 : ByteArray) (hu0 : w0 ≠ wRel) (hu1 : w0 ≠ wDepth) (hu2 : w0 ≠ wWindow) (hu3 : w0 ≠ wScheme) (hu4 : w0 ≠ wDrop) (hu5 : w0 ≠ wElement) (hu6 : w0 ≠ wGlobal) (hu7 : w0 ≠ wAttr) (l : List ByteArray) (hs : Sp w B g x st F) (hm : Mx w) (hz : s.size < 4294967281) (hws : cutS s 32 = w0 :: l) (he : hasT (w0 :: l) ByteArray.empty = false) (hlz : (l.length + 1) * 48 ≤ 140737488355328) :
    Calls Tryz.prog 114 #[.pointer (some ⟨g, 0, none⟩), .string s] w (LineP w B g st (w0 :: l)) := by
  obtain ⟨m, hml⟩ : ∃ m, m = l.length := ⟨_, rfl⟩
  obtain ⟨N, hN⟩ : ∃ N, N = m + 1 := ⟨_, rfl⟩
  have HSP := Lib.hid (wordsC s 32 w hm hz _ N hws (by rw [hN, hml]; rfl))
  have HHS : Hid (∀ W b off cp, kdW.rd W 0 W.heap.size (.slice (some ⟨b, off, none⟩) N cp) (w0 :: l) → N ≤ cp → cp ≤ maxLen → Calls Tryz.prog 87 #[.slice (some ⟨b, off, none⟩) N cp, .string ⟨#[]⟩] W fun e w2 => e = .returned (.bool false) ∧ W = w2) := Lib.hid fun W b off cp h h1 h2 => by
    have h3 := libContains h (by omega) ByteArray.empty
    rw [he] at h3
    exact h3
  have hno : Hid (lineO st (w0 :: l) = none) := Lib.hid (by
    unfold lineO; rw [if_neg (by rw [he]; decide)]
    simp only [hu0, hu1, hu2, hu3, hu4, hu5, hu6, hu7, if_false])
  have HS := Lib.hid hs
  have HSB : Hid (∀ W, Below w.heap.size w W → Sp W B g x st F) := Lib.hid fun W hW => hs.below hW
  have hgw : g < w.heap.size := Nat.lt_of_lt_of_le hs.gB hs.size
  have HML := Lib.hid hml
  have HNM := Lib.hid hN
  have HDR : Hid (∀ W b off cp, kdW.rd W 0 W.heap.size (.slice (some ⟨b, off, none⟩) N cp) (w0 :: l) → kdW.rd W 0 W.heap.size (.slice (some ⟨b, off + 1, none⟩) m (cp - 1)) l) := Lib.hid fun W b off cp h => by
    have h3 := rdW_drop h (k := 1) (by simp)
    rw [hN, Nat.add_sub_cancel] at h3
    exact h3
  have n1 : (1 : Int) ≤ (N : Int) := by omega
  have n2 : (0 : Int) < (N : Int) := by omega
  have n0 : 0 < N := by omega
  have n3 : ((N : Int) - 1).toNat = m := by omega
  have n4 : N - 1 = m := by omega
  have hlz2 : (m + 1) * 48 ≤ 140737488355328 := by rw [hml]; exact hlz
  have u0 : (w0.toList == [114, 101, 108, 97, 116, 105, 118, 101]) = false := lit_no hu0
  have u1 : (w0.toList == [100, 101, 112, 116, 104]) = false := lit_no hu1
  have u2 : (w0.toList == [119, 105, 110, 100, 111, 119]) = false := lit_no hu2
  have u3 : (w0.toList == [115, 99, 104, 101, 109, 101]) = false := lit_no hu3
  have u4 : (w0.toList == [100, 114, 111, 112]) = false := lit_no hu4
  have u5 : (w0.toList == [101, 108, 101, 109, 101, 110, 116]) = false := lit_no hu5
  have u6 : (w0.toList == [103, 108, 111, 98, 97, 108]) = false := lit_no hu6
  have u7 : (w0.toList == [97, 116, 116, 114]) = false := lit_no hu7
  clear hu0 hu1 hu2 hu3 hu4 hu5 hu6 hu7
  clear hs he hm hz hws hml hN hlz
  go_enter Tryz.func114, Tryz.ntmps114
  go_upto_region 5 with (first
    | (go_at_call 113; refine HSP.out.mono ?_; rintro e w1 ⟨b, off, cp, rfl, hb0, hb1, hn1, hn2, hr1, hc1, hw1⟩; have y0 : w1.cell? ⟨b, off, none⟩ = some (.string w0) := (by have h9 := hc1 0 (by simp); exact h9); have HR := Lib.hid hr1; have HW1 := Lib.hid hw1; clear hr1 hc1 hw1)
    | (go_at_call 87; refine (HHS.out _ _ _ _ HR.out hn1 hn2).mono ?_; rintro e w2 ⟨rfl, rfl⟩))
  obtain ⟨c2, hc2⟩ : ∃ c2, c2 = cp - 1 := ⟨_, rfl⟩
  have q0 : (N : Int) ≤ (cp : Int) := by omega
  have q1 : (1 : Int) ≤ (cp : Int) := by omega
  have q2 : (cp : Int) ≤ 9223372036854775807 := by unfold maxLen at hn2; omega
  have q3 : ((cp : Int) - 1).toNat = c2 := by omega
  have q4 : cp - 1 = c2 := hc2.symm
  have hcN : N ≤ cp := hn1
  have HC2 := Lib.hid hc2
  clear hc2
  go_quiet (fail)
  obtain ⟨A5, hA5⟩ : ∃ A, A = (if cp = 1 then some (⟨b, off, none⟩ : Addr) else some ⟨b, off + 1, none⟩) := ⟨_, rfl⟩
  rw [← hA5]
  have HDR0 : Hid (kdW.rd w1 0 w1.heap.size (.slice A5 m c2) l) := Lib.hid (by
    have h9 := HDR.out _ _ _ _ HR.out
    rw [← HC2.out] at h9
    rw [hA5]
    by_cases h0 : cp = 1
    · have hm0 : m = 0 := by have := HNM.out; omega
      have hl0 : l = [] := List.eq_nil_of_length_eq_zero (by rw [← HML.out]; exact hm0)
      subst hl0
      rw [if_pos h0, hm0]
      exact ⟨_, _, rfl, Nat.zero_le _, by unfold maxLen; omega, fun h => by simp at h⟩
    · rw [if_neg h0]; exact h9)
  clear hA5
  obtain ⟨w1, hw1e⟩ : ∃ W, W = w1.drewN nq := ⟨_, rfl⟩
  have HW1 : Hid (Below w.heap.size w w1) := Lib.hid (by rw [hw1e]; exact HW1.out.trans ((drw _ _).mono HW1.out.size))
  have HDR1 : Hid (kdW.rd w1 0 w1.heap.size (.slice A5 m c2) l) := Lib.hid (by rw [hw1e]; exact HDR0.out)
  rw [← hw1e]
  clear hw1e y0
  have HS1 := Lib.hid (HSB.out _ HW1.out)
  go_wp2
  go_ret
  exact LineP.no (HS.out.kpt HW1.out) hno.out
set_option maxHeartbeats 4000000 in
set_option maxRecDepth 100000 in
/-- 'attr' with no element ahead -/
theorem pLineAttr0 (w : World) (B g : Nat) (x : Vs) (st : RS) (F : List Nat) (s : ByteArray) (hel : st.p.els = []) (l : List ByteArray) (hs : Sp w B g x st F) (hm : Mx w) (hz : s.size < 4294967281) (hws : cutS s 32 = wAttr :: l) (he : hasT (wAttr :: l) ByteArray.empty = false) (hlz : (l.length + 1) * 48 ≤ 140737488355328) :
    Calls Tryz.prog 114 #[.pointer (some ⟨g, 0, none⟩), .string s] w (LineP w B g st (wAttr :: l)) := by
  obtain ⟨m, hml⟩ : ∃ m, m = l.length := ⟨_, rfl⟩
  obtain ⟨N, hN⟩ : ∃ N, N = m + 1 := ⟨_, rfl⟩
  have HSP := Lib.hid (wordsC s 32 w hm hz _ N hws (by rw [hN, hml]; rfl))
  have HHS : Hid (∀ W b off cp, kdW.rd W 0 W.heap.size (.slice (some ⟨b, off, none⟩) N cp) (wAttr :: l) → N ≤ cp → cp ≤ maxLen → Calls Tryz.prog 87 #[.slice (some ⟨b, off, none⟩) N cp, .string ⟨#[]⟩] W fun e w2 => e = .returned (.bool false) ∧ W = w2) := Lib.hid fun W b off cp h h1 h2 => by
    have h3 := libContains h (by omega) ByteArray.empty
    rw [he] at h3
    exact h3
  have hno : Hid (lineO st (wAttr :: l) = none) := Lib.hid (by
    unfold lineO; rw [if_neg (by rw [he]; decide)]
    show (if st.p.els = [] then none else _) = none
    rw [if_pos hel])
  have HS := Lib.hid hs
  have HSB : Hid (∀ W, Below w.heap.size w W → Sp W B g x st F) := Lib.hid fun W hW => hs.below hW
  have hgw : g < w.heap.size := Nat.lt_of_lt_of_le hs.gB hs.size
  have HML := Lib.hid hml
  have HNM := Lib.hid hN
  have HDR : Hid (∀ W b off cp, kdW.rd W 0 W.heap.size (.slice (some ⟨b, off, none⟩) N cp) (wAttr :: l) → kdW.rd W 0 W.heap.size (.slice (some ⟨b, off + 1, none⟩) m (cp - 1)) l) := Lib.hid fun W b off cp h => by
    have h3 := rdW_drop h (k := 1) (by simp)
    rw [hN, Nat.add_sub_cancel] at h3
    exact h3
  have n1 : (1 : Int) ≤ (N : Int) := by omega
  have n2 : (0 : Int) < (N : Int) := by omega
  have n0 : 0 < N := by omega
  have n3 : ((N : Int) - 1).toNat = m := by omega
  have n4 : N - 1 = m := by omega
  have hlz2 : (m + 1) * 48 ≤ 140737488355328 := by rw [hml]; exact hlz
  have HEL := Lib.hid hel
  clear hel
  clear hs he hm hz hws hml hN hlz
  go_enter Tryz.func114, Tryz.ntmps114
  go_upto_region 5 with (first
    | (go_at_call 113; refine HSP.out.mono ?_; rintro e w1 ⟨b, off, cp, rfl, hb0, hb1, hn1, hn2, hr1, hc1, hw1⟩; have y0 : w1.cell? ⟨b, off, none⟩ = some (.string ⟨#[97, 116, 116, 114]⟩) := (by have h9 := hc1 0 (by simp); exact h9); have HR := Lib.hid hr1; have HW1 := Lib.hid hw1; clear hr1 hc1 hw1)
    | (go_at_call 87; refine (HHS.out _ _ _ _ HR.out hn1 hn2).mono ?_; rintro e w2 ⟨rfl, rfl⟩))
  obtain ⟨c2, hc2⟩ : ∃ c2, c2 = cp - 1 := ⟨_, rfl⟩
  have q0 : (N : Int) ≤ (cp : Int) := by omega
  have q1 : (1 : Int) ≤ (cp : Int) := by omega
  have q2 : (cp : Int) ≤ 9223372036854775807 := by unfold maxLen at hn2; omega
  have q3 : ((cp : Int) - 1).toNat = c2 := by omega
  have q4 : cp - 1 = c2 := hc2.symm
  have hcN : N ≤ cp := hn1
  have HC2 := Lib.hid hc2
  clear hc2
  go_quiet (fail)
  obtain ⟨A5, hA5⟩ : ∃ A, A = (if cp = 1 then some (⟨b, off, none⟩ : Addr) else some ⟨b, off + 1, none⟩) := ⟨_, rfl⟩
  rw [← hA5]
  have HDR0 : Hid (kdW.rd w1 0 w1.heap.size (.slice A5 m c2) l) := Lib.hid (by
    have h9 := HDR.out _ _ _ _ HR.out
    rw [← HC2.out] at h9
    rw [hA5]
    by_cases h0 : cp = 1
    · have hm0 : m = 0 := by have := HNM.out; omega
      have hl0 : l = [] := List.eq_nil_of_length_eq_zero (by rw [← HML.out]; exact hm0)
      subst hl0
      rw [if_pos h0, hm0]
      exact ⟨_, _, rfl, Nat.zero_le _, by unfold maxLen; omega, fun h => by simp at h⟩
    · rw [if_neg h0]; exact h9)
  clear hA5
  obtain ⟨w1, hw1e⟩ : ∃ W, W = w1.drewN nq := ⟨_, rfl⟩
  have HW1 : Hid (Below w.heap.size w w1) := Lib.hid (by rw [hw1e]; exact HW1.out.trans ((drw _ _).mono HW1.out.size))
  have HDR1 : Hid (kdW.rd w1 0 w1.heap.size (.slice A5 m c2) l) := Lib.hid (by rw [hw1e]; exact HDR0.out)
  rw [← hw1e]
  clear hw1e y0
  have HS1 := Lib.hid (HSB.out _ HW1.out)
  have c0 := HS1.out.bg.cell 0 rfl
  have f0 := HS1.out.bg.fz 0
  have hxe : ∃ A c, x.e = .slice A 0 c := by
    obtain ⟨F1, F2, F3, F4, h1, _⟩ := HS1.out.own
    obtain ⟨A, c, hv, _⟩ := fmE.own_form h1
    rw [HEL.out] at hv
    exact ⟨A, c, hv⟩
  obtain ⟨Ae, ce, hxe⟩ := hxe
  rw [hxe] at c0
  go_wp2
  go_ret
  exact LineP.no (HS.out.kpt HW1.out) hno.out
set_option maxHeartbeats 4000000 in
set_option maxRecDepth 100000 in
/-- 'global' -/
theorem pLineGlobal (w : World) (B g : Nat) (x : Vs) (st : RS) (F : List Nat) (s : ByteArray) (hl : (st.p.glob.length + 1) * 48 ≤ 140737488355328) (l : List ByteArray) (hs : Sp w B g x st F) (hm : Mx w) (hz : s.size < 4294967281) (hws : cutS s 32 = wGlobal :: l) (he : hasT (wGlobal :: l) ByteArray.empty = false) (hlz : (l.length + 1) * 48 ≤ 140737488355328) :
    Calls Tryz.prog 114 #[.pointer (some ⟨g, 0, none⟩), .string s] w (LineP w B g st (wGlobal :: l)) := by
  obtain ⟨m, hml⟩ : ∃ m, m = l.length := ⟨_, rfl⟩
  obtain ⟨N, hN⟩ : ∃ N, N = m + 1 := ⟨_, rfl⟩
  have HSP := Lib.hid (wordsC s 32 w hm hz _ N hws (by rw [hN, hml]; rfl))
  have HHS : Hid (∀ W b off cp, kdW.rd W 0 W.heap.size (.slice (some ⟨b, off, none⟩) N cp) (wGlobal :: l) → N ≤ cp → cp ≤ maxLen → Calls Tryz.prog 87 #[.slice (some ⟨b, off, none⟩) N cp, .string ⟨#[]⟩] W fun e w2 => e = .returned (.bool false) ∧ W = w2) := Lib.hid fun W b off cp h h1 h2 => by
    have h3 := libContains h (by omega) ByteArray.empty
    rw [he] at h3
    exact h3
  have HLO : Hid (lineO st (wGlobal :: l) = match ruleO l with | some r => some { st with p := { st.p with glob := st.p.glob ++ [r] } } | none => none) := Lib.hid (by
    unfold lineO; rw [if_neg (by rw [he]; decide)]
    rfl)
  have HS := Lib.hid hs
  have HSB : Hid (∀ W, Below w.heap.size w W → Sp W B g x st F) := Lib.hid fun W hW => hs.below hW
  have hgw : g < w.heap.size := Nat.lt_of_lt_of_le hs.gB hs.size
  have HML := Lib.hid hml
  have HNM := Lib.hid hN
  have HDR : Hid (∀ W b off cp, kdW.rd W 0 W.heap.size (.slice (some ⟨b, off, none⟩) N cp) (wGlobal :: l) → kdW.rd W 0 W.heap.size (.slice (some ⟨b, off + 1, none⟩) m (cp - 1)) l) := Lib.hid fun W b off cp h => by
    have h3 := rdW_drop h (k := 1) (by simp)
    rw [hN, Nat.add_sub_cancel] at h3
    exact h3
  have n1 : (1 : Int) ≤ (N : Int) := by omega
  have n2 : (0 : Int) < (N : Int) := by omega
  have n0 : 0 < N := by omega
  have n3 : ((N : Int) - 1).toNat = m := by omega
  have n4 : N - 1 = m := by omega
  have hlz2 : (m + 1) * 48 ≤ 140737488355328 := by rw [hml]; exact hlz
  obtain ⟨i0, hi, hz0, hz1, hz2⟩ := info_parts infoRule
  have HL := Lib.hid hl
  clear hl
  have HRU : Hid (∀ W v, kdW.rd W 0 W.heap.size v l → Calls Tryz.prog 138 #[v] W (RuOf l W)) := Lib.hid fun W v h => ruleOfC l v W h (by omega)
  clear hs he hm hz hws hml hN hlz
  go_enter Tryz.func114, Tryz.ntmps114
  go_upto_region 5 with (first
    | (go_at_call 113; refine HSP.out.mono ?_; rintro e w1 ⟨b, off, cp, rfl, hb0, hb1, hn1, hn2, hr1, hc1, hw1⟩; have y0 : w1.cell? ⟨b, off, none⟩ = some (.string ⟨#[103, 108, 111, 98, 97, 108]⟩) := (by have h9 := hc1 0 (by simp); exact h9); have HR := Lib.hid hr1; have HW1 := Lib.hid hw1; clear hr1 hc1 hw1)
    | (go_at_call 87; refine (HHS.out _ _ _ _ HR.out hn1 hn2).mono ?_; rintro e w2 ⟨rfl, rfl⟩))
  obtain ⟨c2, hc2⟩ : ∃ c2, c2 = cp - 1 := ⟨_, rfl⟩
  have q0 : (N : Int) ≤ (cp : Int) := by omega
  have q1 : (1 : Int) ≤ (cp : Int) := by omega
  have q2 : (cp : Int) ≤ 9223372036854775807 := by unfold maxLen at hn2; omega
  have q3 : ((cp : Int) - 1).toNat = c2 := by omega
  have q4 : cp - 1 = c2 := hc2.symm
  have hcN : N ≤ cp := hn1
  have HC2 := Lib.hid hc2
  clear hc2
  go_quiet (fail)
  obtain ⟨A5, hA5⟩ : ∃ A, A = (if cp = 1 then some (⟨b, off, none⟩ : Addr) else some ⟨b, off + 1, none⟩) := ⟨_, rfl⟩
  rw [← hA5]
  have HDR0 : Hid (kdW.rd w1 0 w1.heap.size (.slice A5 m c2) l) := Lib.hid (by
    have h9 := HDR.out _ _ _ _ HR.out
    rw [← HC2.out] at h9
    rw [hA5]
    by_cases h0 : cp = 1
    · have hm0 : m = 0 := by have := HNM.out; omega
      have hl0 : l = [] := List.eq_nil_of_length_eq_zero (by rw [← HML.out]; exact hm0)
      subst hl0
      rw [if_pos h0, hm0]
      exact ⟨_, _, rfl, Nat.zero_le _, by unfold maxLen; omega, fun h => by simp at h⟩
    · rw [if_neg h0]; exact h9)
  clear hA5
  obtain ⟨w1, hw1e⟩ : ∃ W, W = w1.drewN nq := ⟨_, rfl⟩
  have HW1 : Hid (Below w.heap.size w w1) := Lib.hid (by rw [hw1e]; exact HW1.out.trans ((drw _ _).mono HW1.out.size))
  have HDR1 : Hid (kdW.rd w1 0 w1.heap.size (.slice A5 m c2) l) := Lib.hid (by rw [hw1e]; exact HDR0.out)
  rw [← hw1e]
  clear hw1e y0
  have HS1 := Lib.hid (HSB.out _ HW1.out)
  obtain ⟨F1, F2, F3, F4, h1, h2, h3, h4, hF, hn⟩ := HS1.out.own
  obtain ⟨T, hT, how, hsT, hFT, hnT⟩ := h2
  have hTl : T.length = st.p.glob.length := by have := congrArg List.length hT; simpa using this
  have hge : ∀ j, x.g.ownBlock = some j → B ≤ j := fun j hj => (how.lt j hj).1
  have hgB := HS.out.gB
  have hBz := HS1.out.size
  have g2 : (T.length + 1) * 48 ≤ 140737488355328 := by rw [hTl]; exact HL.out
  have g1 : T.length + 1 ≤ maxLen := by unfold maxLen; omega
  have hbg := HS1.out.bg
  have HTL := Lib.hid hTl
  clear hTl
  go_upto_region 25 with fail
  go_upto_region 26 with (go_at_call 138; refine (HRU.out _ _ HDR1.out).mono ?_; rintro e w2 ⟨r, u, G, rfl, ho2, hrr, hb2⟩; obtain ⟨A6, c6, rfl, _⟩ := own_slice ho2.1)
  obtain ⟨W3, hW3⟩ : ∃ W, W = w2.alloc (.cells #[.string r.name, .int .i64 r.kind, .slice A6 r.words.length c6] 50) := ⟨_, rfl⟩
  have hb3 : Below w1.heap.size w1 W3 := hW3 ▸ hb2.alloc hb2.size _
  have hz3 := hb3.size
  have hz2' := hb2.size
  have hsz3 : W3.heap.size = w2.heap.size + 1 := by rw [hW3]; simp
  have kx : Bl W3 w2.heap.size 50 [.string r.name, .int .i64 r.kind, .slice A6 r.words.length c6] := hW3 ▸ Bl.new w2 _ _ rfl
  have x0 := kx.cell 0 rfl
  have x1 := kx.cell 1 rfl
  have x2 := kx.cell 2 rfl
  have hbg3 := hbg.below hb3
  have d1 := hbg3.cell 1 rfl
  have d2 := (hbg3.alloc (.cells #[.string r.name, .int .i64 r.kind, .slice A6 r.words.length c6] 50)).cell 1 rfl
  have ho3 : kdW.own W3 w1.heap.size (.slice A6 r.words.length c6) r.words G := kdW.keep ho2 (by omega) (fun k hk => by rw [hW3]; exact Below.heap_alloc _ _ _ (kdW.ge ho2 k hk).2)
  have how3 := own_stay how (w' := W3) (fun k hk => hb3.block k (own_ge2 how k hk).2)
  have HW3 := Lib.hid hW3
  have HSZ3 := Lib.hid hsz3
  have HO3 := Lib.hid ho3
  have HRR := Lib.hid hrr
  rw [← hW3]
  clear hW3 ho3 hrr ho2 hb2 hsz3
  go_region_law (refine step_append_lies _ (by rfl) (.tmp 171) (.tmp 173) 26 (by rfl) B 50 i0 _ 3 48 Tryz.underlying26 hi hz0 hz1 hz2 rfl (by decide) x.g T.length (fmR.cells T) (by rfl) (by exact how3.alloc _) ⟨W3.heap.size, 0, none⟩ 1 1 [.string r.name, .int .i64 r.kind, .slice A6 r.words.length c6] (by rfl) (by rfl) (by exact World.news_of_block (heap_alloc_new W3 _)) (by simp [Value.oneCell']) (by decide) g1 g2 (by simp; omega) _ rfl ?_; intro g9 cap9 w9 hown9 hgrow9 hat9 hlt9; have n9 := (hbg3.alloc (.cells #[.string r.name, .int .i64 r.kind, .slice A6 r.words.length c6] 50)).of (hgrow9.block _ (by simp; omega) (fun e => by have := hge _ e.symm; omega)); have z1 := n9.cell 1 rfl; have z2 := n9.fz 1)
  all_goals (
    have HN9 := Lib.hid n9
    have HO9 := Lib.hid hown9
    have HG9 := Lib.hid (grown_undrew hgrow9)
    have HGE := Lib.hid hge
    have HA := Lib.hid hat9
    clear n9 hown9 hgrow9 hge hat9
    go_wp2
    go_ret
    obtain ⟨hm1, hm2⟩ := item_more (M := fmR) (t := ⟨r, .slice A6 r.words.length c6, G⟩) (v' := .slice (some ⟨g9, 0, none⟩) (T.length + 1) cap9) how hsT (hFT ▸ hnT) hb3 hBz HO3.out HO9.out HG9.out (HA.out.elim (fun h => .inl h.symm) (fun h => .inr (congrArg some h)))
    have hb9 := HG9.out.size
    simp at hb9
    rw [hT] at hm1
    rw [← hFT] at hm2
    have ht := own_set (turnG h1 h3 h4 (hF ▸ hn) hm1 hm2) hgB 1 (.slice (some ⟨g9, 0, none⟩) (T.length + 1) cap9)
    have hkp := ((HS.out.kpt HW1.out).trans ((HS1.out.kpt hb3).trans (Kpt.grown hgB (by omega) HG9.out HGE.out))).trans (Kpt.set hgB (by omega) 1 (.slice (some ⟨g9, 0, none⟩) (T.length + 1) cap9))
    cases hro : ruleO l with
    | none => exact LineP.no hkp (by rw [HLO.out, hro])
    | some r' =>
      have e := HRR.out r' hro
      subst e
      exact LineP.yes (x' := ⟨x.e, .slice (some ⟨g9, 0, none⟩) (T.length + 1) cap9, x.s, x.d⟩) (st' := { st with p := { st.p with glob := st.p.glob ++ [r] } }) (F' := _) hkp (by rw [HLO.out, hro] <;> rfl) ⟨ht, HN9.out.set 1 (.slice (some ⟨g9, 0, none⟩) (T.length + 1) cap9), hgB, by simp [World.setCell]; omega⟩)
set_option maxHeartbeats 4000000 in
set_option maxRecDepth 100000 in
/-- 'attr' -/
theorem pLineAttr (w : World) (B g : Nat) (x : Vs) (st : RS) (F : List Nat) (s : ByteArray) (i : Nat) (hel : st.p.els.length = i + 1) (hl : ∀ e ∈ st.p.els, (e.rules.length + 1) * 48 ≤ 140737488355328) (l : List ByteArray) (hs : Sp w B g x st F) (hm : Mx w) (hz : s.size < 4294967281) (hws : cutS s 32 = wAttr :: l) (he : hasT (wAttr :: l) ByteArray.empty = false) (hlz : (l.length + 1) * 48 ≤ 140737488355328) :
    Calls Tryz.prog 114 #[.pointer (some ⟨g, 0, none⟩), .string s] w (LineP w B g st (wAttr :: l)) := by
  obtain ⟨m, hml⟩ : ∃ m, m = l.length := ⟨_, rfl⟩
  obtain ⟨N, hN⟩ : ∃ N, N = m + 1 := ⟨_, rfl⟩
  have HSP := Lib.hid (wordsC s 32 w hm hz _ N hws (by rw [hN, hml]; rfl))
  have HHS : Hid (∀ W b off cp, kdW.rd W 0 W.heap.size (.slice (some ⟨b, off, none⟩) N cp) (wAttr :: l) → N ≤ cp → cp ≤ maxLen → Calls Tryz.prog 87 #[.slice (some ⟨b, off, none⟩) N cp, .string ⟨#[]⟩] W fun e w2 => e = .returned (.bool false) ∧ W = w2) := Lib.hid fun W b off cp h h1 h2 => by
    have h3 := libContains h (by omega) ByteArray.empty
    rw [he] at h3
    exact h3
  have HLO : Hid (lineO st (wAttr :: l) = match ruleO l with | some r => some { st with p := { st.p with els := lastR st.p.els r } } | none => none) := Lib.hid (by
    unfold lineO; rw [if_neg (by rw [he]; decide)]
    show (if st.p.els = [] then none else _) = _
    rw [if_neg (fun h => by rw [h] at hel; simp at hel)]
    rfl)
  have HS := Lib.hid hs
  have HSB : Hid (∀ W, Below w.heap.size w W → Sp W B g x st F) := Lib.hid fun W hW => hs.below hW
  have hgw : g < w.heap.size := Nat.lt_of_lt_of_le hs.gB hs.size
  have HML := Lib.hid hml
  have HNM := Lib.hid hN
  have HDR : Hid (∀ W b off cp, kdW.rd W 0 W.heap.size (.slice (some ⟨b, off, none⟩) N cp) (wAttr :: l) → kdW.rd W 0 W.heap.size (.slice (some ⟨b, off + 1, none⟩) m (cp - 1)) l) := Lib.hid fun W b off cp h => by
    have h3 := rdW_drop h (k := 1) (by simp)
    rw [hN, Nat.add_sub_cancel] at h3
    exact h3
  have n1 : (1 : Int) ≤ (N : Int) := by omega
  have n2 : (0 : Int) < (N : Int) := by omega
  have n0 : 0 < N := by omega
  have n3 : ((N : Int) - 1).toNat = m := by omega
  have n4 : N - 1 = m := by omega
  have hlz2 : (m + 1) * 48 ≤ 140737488355328 := by rw [hml]; exact hlz
  obtain ⟨i0, hi, hz0, hz1, hz2⟩ := info_parts infoRule
  have HL := Lib.hid hl
  have HEL := Lib.hid hel
  clear hl hel
  have HRU : Hid (∀ W v, kdW.rd W 0 W.heap.size v l → Calls Tryz.prog 138 #[v] W (RuOf l W)) := Lib.hid fun W v h => ruleOfC l v W h (by omega)
  clear hs he hm hz hws hml hN hlz
  go_enter Tryz.func114, Tryz.ntmps114
  go_upto_region 5 with (first
    | (go_at_call 113; refine HSP.out.mono ?_; rintro e w1 ⟨b, off, cp, rfl, hb0, hb1, hn1, hn2, hr1, hc1, hw1⟩; have y0 : w1.cell? ⟨b, off, none⟩ = some (.string ⟨#[97, 116, 116, 114]⟩) := (by have h9 := hc1 0 (by simp); exact h9); have HR := Lib.hid hr1; have HW1 := Lib.hid hw1; clear hr1 hc1 hw1)
    | (go_at_call 87; refine (HHS.out _ _ _ _ HR.out hn1 hn2).mono ?_; rintro e w2 ⟨rfl, rfl⟩))
  obtain ⟨c2, hc2⟩ : ∃ c2, c2 = cp - 1 := ⟨_, rfl⟩
  have q0 : (N : Int) ≤ (cp : Int) := by omega
  have q1 : (1 : Int) ≤ (cp : Int) := by omega
  have q2 : (cp : Int) ≤ 9223372036854775807 := by unfold maxLen at hn2; omega
  have q3 : ((cp : Int) - 1).toNat = c2 := by omega
  have q4 : cp - 1 = c2 := hc2.symm
  have hcN : N ≤ cp := hn1
  have HC2 := Lib.hid hc2
  clear hc2
  go_quiet (fail)
  obtain ⟨A5, hA5⟩ : ∃ A, A = (if cp = 1 then some (⟨b, off, none⟩ : Addr) else some ⟨b, off + 1, none⟩) := ⟨_, rfl⟩
  rw [← hA5]
  have HDR0 : Hid (kdW.rd w1 0 w1.heap.size (.slice A5 m c2) l) := Lib.hid (by
    have h9 := HDR.out _ _ _ _ HR.out
    rw [← HC2.out] at h9
    rw [hA5]
    by_cases h0 : cp = 1
    · have hm0 : m = 0 := by have := HNM.out; omega
      have hl0 : l = [] := List.eq_nil_of_length_eq_zero (by rw [← HML.out]; exact hm0)
      subst hl0
      rw [if_pos h0, hm0]
      exact ⟨_, _, rfl, Nat.zero_le _, by unfold maxLen; omega, fun h => by simp at h⟩
    · rw [if_neg h0]; exact h9)
  clear hA5
  obtain ⟨w1, hw1e⟩ : ∃ W, W = w1.drewN nq := ⟨_, rfl⟩
  have HW1 : Hid (Below w.heap.size w w1) := Lib.hid (by rw [hw1e]; exact HW1.out.trans ((drw _ _).mono HW1.out.size))
  have HDR1 : Hid (kdW.rd w1 0 w1.heap.size (.slice A5 m c2) l) := Lib.hid (by rw [hw1e]; exact HDR0.out)
  rw [← hw1e]
  clear hw1e y0
  have HS1 := Lib.hid (HSB.out _ HW1.out)
  have hil : i < st.p.els.length := by have := HEL.out; omega
  obtain ⟨F1, F2, F3, F4, h1, h2, h3, h4, hF, hn⟩ := HS1.out.own
  obtain ⟨ge, ecap, u0, G0, hv, hBg, hgz, hsub, hgF, hgG, hGF, hcells, hfz, hclose⟩ := fmE.own_at h1 hil
  have HV2 := Lib.hid hv
  have HV : Hid (x.e = .slice (some ⟨ge, 0, none⟩) (i + 1) ecap) := Lib.hid (by rw [hv, HEL.out])
  obtain ⟨T, hT, how, hsT, hFT, hnT⟩ := hsub
  have hTl : T.length = st.p.els[i].rules.length := by have := congrArg List.length hT; rw [List.length_map] at this; exact this
  have hge : ∀ j, u0.ownBlock = some j → B ≤ j := fun j hj => (how.lt j hj).1
  have hgo : ∀ j, u0.ownBlock = some j → j ∈ G0 := fun j hj => by rw [hFT, hj]; simp
  have hgB := HS.out.gB
  have hBz := HS1.out.size
  have g2 : (T.length + 1) * 48 ≤ 140737488355328 := by rw [hTl]; exact HL.out _ (List.getElem_mem hil)
  have g1 : T.length + 1 ≤ maxLen := by unfold maxLen; omega
  have hie : (i : Int) ≤ 9223372036854775807 := by
    obtain ⟨A', c', hv', h5, h6⟩ := fmE.own_form h1
    unfold maxLen at h6
    omega
  have hkk : IntKind.i64.wrap (((i + 1 : Nat) : Int) - 1) = (i : Int) := by rw [IntKind.wrap_i64]; omega
  have hkk2 : IntKind.i64.wrap (i : Int) = (i : Int) := by rw [IntKind.wrap_i64]; omega
  have hkk3 : (0 : Int) ≤ (i : Int) := by omega
  have hkk4 : (i : Int) < (i : Int) + 1 := by omega
  have e0 : w1.cell? ⟨ge, i * 2, none⟩ = some (.string st.p.els[i].name) := hcells 0 _ rfl
  have e1 : w1.cell? ⟨ge, i * 2 + 1, none⟩ = some u0 := hcells 1 _ rfl
  have hbg := HS1.out.bg
  rw [HV.out] at hbg
  have c0 := hbg.cell 0 rfl
  have HCL := Lib.hid hclose
  have HTL := Lib.hid hTl
  clear hTl hv hcells hclose
  have n5 : (0 : Int) < ((i + 1 : Nat) : Int) := by omega
  go_upto_region 29 with fail
  go_upto_region 30 with (go_at_call 138; refine (HRU.out _ _ HDR1.out).mono ?_; rintro e w2 ⟨r, u, G, rfl, ho2, hrr, hb2⟩; obtain ⟨A6, c6, rfl, _⟩ := own_slice ho2.1)
  obtain ⟨W3, hW3⟩ : ∃ W, W = w2.alloc (.cells #[.string r.name, .int .i64 r.kind, .slice A6 r.words.length c6] 50) := ⟨_, rfl⟩
  have hb3 : Below w1.heap.size w1 W3 := hW3 ▸ hb2.alloc hb2.size _
  have hz3 := hb3.size
  have hz2' := hb2.size
  have hsz3 : W3.heap.size = w2.heap.size + 1 := by rw [hW3]; simp
  have kx : Bl W3 w2.heap.size 50 [.string r.name, .int .i64 r.kind, .slice A6 r.words.length c6] := hW3 ▸ Bl.new w2 _ _ rfl
  have x0 := kx.cell 0 rfl
  have x1 := kx.cell 1 rfl
  have x2 := kx.cell 2 rfl
  have hbg3 := hbg.below hb3
  have d0 := hbg3.cell 0 rfl
  have d1 : W3.cell? ⟨ge, i * 2 + 1, none⟩ = some u0 := (hb3.cell (p := ⟨ge, i * 2 + 1, none⟩) hgz).trans e1
  have hfz3 : W3.frozen? ⟨ge, i * 2 + 1, none⟩ = false := (hb3.frozen (p := ⟨ge, i * 2 + 1, none⟩) hgz).trans (hfz _)
  have ho3 : kdW.own W3 w1.heap.size (.slice A6 r.words.length c6) r.words G := kdW.keep ho2 (by omega) (fun k hk => by rw [hW3]; exact Below.heap_alloc _ _ _ (kdW.ge ho2 k hk).2)
  have how3 := own_stay how (w' := W3) (fun k hk => hb3.block k (own_ge2 how k hk).2)
  have HW3 := Lib.hid hW3
  have HSZ3 := Lib.hid hsz3
  have HO3 := Lib.hid ho3
  have HRR := Lib.hid hrr
  rw [← hW3]
  clear hW3 ho3 hrr ho2 hb2 hsz3
  have hngo : u0.ownBlock ≠ some ge := fun e => hgG (hgo _ e)
  go_quiet (fail)
  obtain ⟨W3, hW4⟩ : ∃ W, W = W3.drewN nq := ⟨_, rfl⟩
  rw [← hW4]
  have HW4 := Lib.hid hW4
  have hb3 : Below w1.heap.size w1 W3 := by rw [hW4]; exact hb3.trans ((drw _ _).mono hb3.size)
  have hz3 := hb3.size
  have kx : Bl W3 w2.heap.size 50 [.string r.name, .int .i64 r.kind, .slice A6 r.words.length c6] := by rw [hW4]; exact kx
  have x0 := kx.cell 0 rfl
  have x1 := kx.cell 1 rfl
  have x2 := kx.cell 2 rfl
  have d1 : W3.cell? ⟨ge, i * 2 + 1, none⟩ = some u0 := by rw [hW4]; exact d1
  have hfz3 : W3.frozen? ⟨ge, i * 2 + 1, none⟩ = false := by rw [hW4]; exact hfz3
  have HO3 : Hid (kdW.own W3 w1.heap.size (.slice A6 r.words.length c6) r.words G) := Lib.hid (by rw [hW4]; exact HO3.out)
  have how3 : W3.ownsRow B fmR.e fmR.size u0 T.length (fmR.cells T) := by rw [hW4]; exact how3
  clear hW4
  have d2 : (W3.alloc (.cells #[.string r.name, .int .i64 r.kind, .slice A6 r.words.length c6] 50)).cell? ⟨ge, i * 2 + 1, none⟩ = some u0 := (World.cell?_of_block (a := ⟨ge, i * 2 + 1, none⟩) (Below.heap_alloc _ _ _ (by show ge < _; omega))).trans d1
  go_upto_region 31 with fail
  go_region_law (refine step_append_lies _ (by rfl) (.tmp 213) (.tmp 215) 26 (by rfl) B 50 i0 _ 3 48 Tryz.underlying26 hi hz0 hz1 hz2 rfl (by decide) u0 T.length (fmR.cells T) (by rfl) (by exact how3.alloc _) ⟨W3.heap.size, 0, none⟩ 1 1 [.string r.name, .int .i64 r.kind, .slice A6 r.words.length c6] (by rfl) (by rfl) (by exact World.news_of_block (heap_alloc_new W3 _)) (by simp [Value.oneCell']) (by decide) g1 g2 (by simp; omega) _ rfl ?_; intro g9 cap9 w9 hown9 hgrow9 hat9 hlt9; have n8 : w9.heap[ge]? = W3.heap[ge]? := (hgrow9.block _ (by simp; omega) (fun e => hngo e.symm)).trans (Below.heap_alloc _ _ _ (by omega)); have z1 : w9.cell? ⟨ge, i * 2 + 1, none⟩ = some u0 := (World.cell?_of_block (a := ⟨ge, i * 2 + 1, none⟩) n8).trans d1; have z2 : w9.frozen? ⟨ge, i * 2 + 1, none⟩ = false := (World.frozen?_of_block (a := ⟨ge, i * 2 + 1, none⟩) n8).trans hfz3)
  all_goals (
    have HO9 := Lib.hid hown9
    have HG9 := Lib.hid (grown_undrew hgrow9)
    have HGE := Lib.hid hge
    have HA := Lib.hid hat9
    have HN8 := Lib.hid n8
    clear hown9 hgrow9 hge hat9 n8
    go_wp2
    go_ret
    obtain ⟨hm1, hm2⟩ := item_more (M := fmR) (t := ⟨r, .slice A6 r.words.length c6, G⟩) (v' := .slice (some ⟨g9, 0, none⟩) (T.length + 1) cap9) how hsT (hFT ▸ hnT) hb3 hBz HO3.out HO9.out HG9.out (HA.out.elim (fun h => .inl h.symm) (fun h => .inr (congrArg some h)))
    have hb9 := HG9.out.size
    simp at hb9
    rw [← hFT] at hm2
    rw [hT] at hm1
    obtain ⟨W9, hW9⟩ : ∃ W, W = w9.setCell ⟨ge, i * 2 + 1, none⟩ (.slice (some ⟨g9, 0, none⟩) (T.length + 1) cap9) := ⟨_, rfl⟩
    have hs9 : W9.heap.size = w9.heap.size := by rw [hW9]; simp [World.setCell]
    have hk9 : ∀ k, k ≠ ge → W9.heap[k]? = w9.heap[k]? := fun k hk => by rw [hW9]; exact Below.heap_setCell w9 ⟨ge, i * 2 + 1, none⟩ _ k hk
    have hold : ∀ k, k < w1.heap.size → u0.ownBlock ≠ some k → w9.heap[k]? = w1.heap[k]? := fun k hk hne => ((HG9.out.block k (by simp; omega) (fun e => hne e.symm)).trans (Below.heap_alloc _ _ _ (by omega))).trans (hb3.block k hk)
    obtain ⟨F', hE, hF'⟩ := HCL.out w9 ⟨st.p.els[i].name, st.p.els[i].rules ++ [r]⟩ _ _ (hold ge hgz hngo) (by omega) (fun k hk hkG => hold k (kdE.ge h1 k hk).2 fun e => hkG (hgo _ e)) hm1 (fun k hk => hm2.new k hk) W9 hs9 hk9 (fun xs hxs hxl => by
      rw [HV2.out] at hxs ⊢
      rw [hW9]
      exact closeE hil hxs hxl ((World.cell?_of_block (a := ⟨ge, i * 2, none⟩) (hold ge hgz hngo)).trans e0) _ _)
    have htn : Tn w1 W9 F1 F' := ⟨by omega, fun k hk hlt => by
      have hkg : k ≠ ge := fun e => hk (e ▸ hgF)
      rw [hk9 k hkg]
      exact hold k hlt fun e => hk (hGF k (hgo _ e)), fun k hk => (hF' k hk).elim .inl fun h => (hm2.new k h).elim (fun h => .inl (hGF k h)) .inr⟩
    have ht := turnE h2 h3 h4 (hF ▸ hn) hE htn
    have hkp : Kpt w B g g W9 := (HS.out.kpt HW1.out).trans (((HS1.out.kpt hb3).trans (Kpt.grown hgB (by omega) HG9.out HGE.out)).trans ⟨by rw [hW9]; exact (Below.refl g w9).setCell (p := ⟨ge, i * 2 + 1, none⟩) (by show g ≤ ge; omega) _, fun k hk _ _ => hk9 k (by omega)⟩)
    have hbz : Bl W9 g 125 [x.e, x.g, x.s, .bool st.p.rel, x.d, .int .i64 st.p.depth, .int .i64 st.p.window, .bool st.sd, .bool st.sw, .bool st.sr] := HS1.out.bg.of ((hk9 g (by omega)).trans (hold g (by omega) (fun e => by have := HGE.out _ e; omega)))
    rw [← hW9]
    cases hro : ruleO l with
    | none => exact LineP.no hkp (by rw [HLO.out, hro])
    | some r' =>
      have e := HRR.out r' hro
      subst e
      exact LineP.yes (x' := x) (st' := { st with p := { st.p with els := lastR st.p.els r } }) (F' := _) hkp (by rw [HLO.out, hro] <;> rfl) ⟨by rw [lastR_set HEL.out]; exact ht, hbz, hgB, by omega⟩)
end Go.Proofs.YteikagdinecfoaaGreatDoor.Lp
