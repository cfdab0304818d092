/- The reference's Tidy: a policy in order. -/
import Derived.Test.YteikagdinecfoaaGreatDoorTr
import Derived.Test.YteikagdinecfoaaGreatDoorRa
set_option linter.unusedVariables false
set_option linter.unusedSimpArgs false
namespace Go.Proofs.YteikagdinecfoaaGreatDoor.Tt
open Go.RowKit Lb Gr Pd Fl Go.Proofs.YteikagdinecfoaaGreatDoor.Pm Bk Ru Co Lc Is Ea Go.Proofs.YteikagdinecfoaaGreatDoor.So Go.Proofs.YteikagdinecfoaaGreatDoor.Rs Go.Proofs.YteikagdinecfoaaGreatDoor.Or Go.Proofs.YteikagdinecfoaaGreatDoor.Sr Go.Proofs.YteikagdinecfoaaGreatDoor.Rd Go.Proofs.YteikagdinecfoaaGreatDoor.Cl Go.Proofs.YteikagdinecfoaaGreatDoor.Cn Go.Proofs.YteikagdinecfoaaGreatDoor.Ty Go.Proofs.YteikagdinecfoaaGreatDoor.Fd Go.Proofs.YteikagdinecfoaaGreatDoor.Tr
attribute [local go_sem ↓] Go.wp_at_zero Go.wp_at_succ

/-- the element of a name, tidy -/
def tidyN (p : PolD) (n : ByteArray) : ElD := ⟨n, tidyRs ((fndE p.els n).getD el0).rules⟩
theorem fnd_of {l : List ElD} (hn : (l.map ElD.name).Nodup) {e : ElD} (he : e ∈ l) : fndE l e.name = some e := by
  induction l with
  | nil => cases he
  | cons a t ih =>
    unfold fndE
    rw [List.map_cons, List.nodup_cons] at hn
    rcases List.mem_cons.1 he with rfl | ht
    · rw [List.find?_cons_of_pos (by simp)]
    · have hne : a.name ≠ e.name := fun h => hn.1 (List.mem_map.2 ⟨e, ht, h.symm⟩)
      rw [List.find?_cons_of_neg (by simpa using hne)]
      exact ih hn.2 ht
theorem tidy_els {p : PolD} (hn : (p.els.map ElD.name).Nodup) : (srt (nms p)).map (tidyN p) = (tidyP p).els := by
  show _ = ordBy ElD.name (p.els.map tidyE)
  rw [← els_tidy hn]
  unfold nms
  rw [← map_ordBy, List.map_map]
  refine List.map_congr_left fun e he => ?_
  have hm : e ∈ p.els := (ordBy_perm ElD.name p.els).mem_iff.1 he
  show tidyN p e.name = tidyE e
  unfold tidyN
  rw [fnd_of hn hm]
  rfl

theorem Bl.oth7 {W : World} {a g : Nat} {t : TypeId} {xs : List Value} (h : Bl W a t xs) (hne : a ≠ g) (u0 u1 u2 u3 u4 u5 u6 : Value) : Bl (((((((W.setCell ⟨g, 0, none⟩ u0).setCell ⟨g, 1, none⟩ u1).setCell ⟨g, 2, none⟩ u2).setCell ⟨g, 3, none⟩ u3).setCell ⟨g, 4, none⟩ u4).setCell ⟨g, 5, none⟩ u5).setCell ⟨g, 6, none⟩ u6) a t xs :=
  ((((((h.other (p := ⟨g, 0, none⟩) hne u0).other (p := ⟨g, 1, none⟩) hne u1).other (p := ⟨g, 2, none⟩) hne u2).other (p := ⟨g, 3, none⟩) hne u3).other (p := ⟨g, 4, none⟩) hne u4).other (p := ⟨g, 5, none⟩) hne u5).other (p := ⟨g, 6, none⟩) hne u6
theorem Fr.then_below {F : List Nat} {a b c : World} (h : Fr F a b) (k : Below a.heap.size b c) : Fr F a c :=
  ⟨k.os.trans h.os, k.tape.trans h.tape, k.output.trans h.output, Nat.le_trans h.size k.size, fun i hi hn => (k.block i hi).trans (h.block i hi hn)⟩
/-- an empty policy's block; one that is filled -/
def zeroC : List Value := [.slice none 0 0, .slice none 0 0, .slice none 0 0, .bool false, .slice none 0 0, .int .i64 0, .int .i64 0]
/-- the new policy in block g, all but its elements -/
structure Gt (W0 wx : World) (g : Nat) (v1 v2 v3 : Value) (L1 : List RuleD) (L2 L3 : List ByteArray) (b : Bool) (d q : Int) : Prop where
  bl : Bl wx g 29 [.slice none 0 0, v1, v2, .bool b, v3, .int .i64 d, .int .i64 q]
  below : Below W0.heap.size W0 wx
  ge : W0.heap.size ≤ g
  o1 : ∃ F, kdR.own wx W0.heap.size v1 L1 F ∧ g ∉ F
  o2 : Own wx W0.heap.size v2 L2 ∧ v2.ownBlock ≠ some g
  o3 : Own wx W0.heap.size v3 L3 ∧ v3.ownBlock ≠ some g
theorem own_fr {w w' : World} {B g : Nat} {v : Value} {l : List ByteArray} (h : Own w B v l) (hf : Fr [g] w w') (hg : v.ownBlock ≠ some g) : Own w' B v l :=
  own_stay h fun k hk => hf.block k (own_ge2 h k hk).2 (by simp; intro e; subst e; exact hg (by simpa using hk))
theorem own_ne {w X : World} {B g : Nat} {v : Value} {l : List ByteArray} (h : Own w B v l) (hg : g < B ∨ w.heap.size ≤ g) : v.ownBlock ≠ some g := fun e => by
  have := own_ge2 h g (by rw [e]; simp)
  omega
section
variable {W0 X1 X2 X3 w1 w2 w3 : World} {g : Nat} {v1 v2 v3 : Value} {L1 : List RuleD} {L2 L3 : List ByteArray} {F1 : List Nat}
theorem Gt.early (a1 : Below W0.heap.size W0 X1) (hb1 : Below X1.heap.size X1 w1) (o1 : kdR.own w1 X1.heap.size v1 L1 F1) (a2 : Below w1.heap.size w1 X2) (hb2 : Below X2.heap.size X2 w2) (o2 : Own w2 X2.heap.size v2 L2)
    (a3 : Below w2.heap.size w2 X3) (hb3 : Below X3.heap.size X3 w3) (o3 : Own w3 X3.heap.size v3 L3) (hg : Bl w3 g 29 zeroC) (hge : W0.heap.size ≤ g)
    (n1 : g < X1.heap.size ∨ w1.heap.size ≤ g) (n2 : g < X2.heap.size ∨ w2.heap.size ≤ g) (n3 : g < X3.heap.size ∨ w3.heap.size ≤ g) (b : Bool) (d q : Int) :
    Gt W0 (((((((w3.setCell ⟨g, 0, none⟩ (.slice none 0 0)).setCell ⟨g, 1, none⟩ v1).setCell ⟨g, 2, none⟩ v2).setCell ⟨g, 3, none⟩ (.bool b)).setCell ⟨g, 4, none⟩ v3).setCell ⟨g, 5, none⟩ (.int .i64 d)).setCell ⟨g, 6, none⟩ (.int .i64 q)) g v1 v2 v3 L1 L2 L3 b d q := by
  have hfz := Fr.set7 w3 g (.slice none 0 0) v1 v2 (.bool b) v3 (.int .i64 d) (.int .i64 q)
  have b12 : Below w1.heap.size w1 w2 := a2.trans (hb2.mono a2.size)
  have b23 : Below w2.heap.size w2 w3 := a3.trans (hb3.mono a3.size)
  have b13 : Below w1.heap.size w1 w3 := b12.trans (b23.mono b12.size)
  have b01 : Below W0.heap.size W0 w1 := a1.trans (hb1.mono a1.size)
  have b03 : Below W0.heap.size W0 w3 := b01.trans (b13.mono b01.size)
  have s1 := a1.size
  have s2 := b01.size
  have s3 := a2.size
  have s4 := b12.size
  have s5 := a3.size
  refine ⟨hg.seven _ _ _ _ _ _ _, b03.trans (hfz.below b03.size (by simp; exact hge)), hge, ⟨F1, ?_, fun h => by have := kdR.ge o1 g h; omega⟩, ⟨?_, own_ne (X := w1) o2 n2⟩, own_fr (own_low o3 (by omega)) hfz (own_ne (X := w1) o3 n3), own_ne (X := w1) o3 n3⟩
  · refine kdR.low (kdR.keep o1 (Nat.le_trans b13.size hfz.size) fun k hk => ?_) s1
    have h9 := kdR.ge o1 k hk
    rw [hfz.block k (by have := b13.size; omega) (by simp; omega)]
    exact b13.block k h9.2
  · exact own_fr (Own.below (own_low o2 (by omega)) b23) hfz (own_ne (X := w1) o2 n2)
theorem Gt.late (a1 : Below W0.heap.size W0 X1) (hb1 : Below X1.heap.size X1 w1) (o1 : kdR.own w1 X1.heap.size v1 L1 F1) (a2 : Below w1.heap.size w1 X2) (hb2 : Below X2.heap.size X2 w2) (o2 : Own w2 X2.heap.size v2 L2)
    (a3 : Below w2.heap.size w2 X3) (hb3 : Below X3.heap.size X3 w3) (o3 : Own w3 X3.heap.size v3 L3) (b : Bool) (d q : Int) :
    Gt W0 (w3.alloc (.cells #[.slice none 0 0, v1, v2, .bool b, v3, .int .i64 d, .int .i64 q] 29)) w3.heap.size v1 v2 v3 L1 L2 L3 b d q := by
  have b12 : Below w1.heap.size w1 w2 := a2.trans (hb2.mono a2.size)
  have b23 : Below w2.heap.size w2 w3 := a3.trans (hb3.mono a3.size)
  have b13 : Below w1.heap.size w1 w3 := b12.trans (b23.mono b12.size)
  have b01 : Below W0.heap.size W0 w1 := a1.trans (hb1.mono a1.size)
  have b03 : Below W0.heap.size W0 w3 := b01.trans (b13.mono b01.size)
  have s1 := a1.size
  have s2 := b01.size
  have s3 := a2.size
  have s4 := b12.size
  have s5 := a3.size
  have s6 := hb3.size
  have s7 := b13.size
  have s8 := b23.size
  refine ⟨Bl.new w3 _ _ rfl, b03.alloc b03.size _, b03.size, ⟨F1, ?_, fun h => by have := kdR.ge o1 _ h; omega⟩, ⟨?_, own_ne (X := w1) o2 (.inr s8)⟩, Own.below (own_low o3 (by omega)) ((Below.refl _ _).alloc (Nat.le_refl _) _), own_ne (X := w1) o3 (.inr (Nat.le_refl _))⟩
  · refine kdR.low (kdR.keep o1 (by simp; omega) fun k hk => ?_) s1
    have h9 := kdR.ge o1 k hk
    rw [Below.heap_alloc _ _ _ (by omega)]
    exact b13.block k h9.2
  · exact Own.below (own_low o2 (by omega)) (b23.alloc b23.size _)
end

set_option maxHeartbeats 8000000 in
set_option maxRecDepth 100000 in
theorem rTidyC (x : Vs) (p : PolD) (w : World) (h : RdP w 0 w.heap.size x p) (hf : FitP p) (hd : Dif p) (hok : OkV p) : Calls Tryz.prog 24 #[polV x p] w fun e w' =>
    ∃ y, e = .returned (polV y (tidyP p)) ∧ RdP w' w.heap.size w'.heap.size y (tidyP p) ∧ Below w.heap.size w w' := by
  obtain ⟨i0, hi, iz0, iz1, iz2⟩ := info_parts infoEl
  obtain ⟨A1, c1, A2, c2, A3, c3, A4, c4, rfl, q1, q2, q3, q4, q5, q6, q7, q8⟩ := h.form
  have hrw : ∀ W, Below w.heap.size w W → RdP W 0 W.heap.size ⟨.slice A1 p.els.length c1, .slice A2 p.glob.length c2, .slice A3 p.schemes.length c3, .slice A4 p.drop.length c4⟩ p := fun W hW => (h.stay (stay_below hW (Nat.le_refl _))).wide (Nat.le_refl _) hW.size
  obtain ⟨⟨hf1, hf2⟩, hf3, hf4, hf5⟩ := hf
  have HTG : Hid (∀ W, Below w.heap.size w W → Calls Tryz.prog 75 #[.slice A2 p.glob.length c2] W fun e w' => ∃ A c F, e = .returned (.slice A (tidyRs p.glob).length c) ∧ kdR.own w' W.heap.size (.slice A (tidyRs p.glob).length c) (tidyRs p.glob) F ∧ Below W.heap.size W w') := Lib.hid fun W hW => (rTidyRC p.glob _ W (hrw W hW).2.1 hf3 hok.glob hd.glob).mono fun e w' ⟨v, F, he, ho, hb⟩ => by
    obtain ⟨A, c, rfl, _⟩ := fmR.own_form ho
    exact ⟨A, c, F, he, ho, hb⟩
  have HRS : Hid (∀ W, Below w.heap.size w W → Calls Tryz.prog 76 #[.slice A3 p.schemes.length c3] W fun e w' => ∃ A c, e = .returned (.slice A (srt p.schemes).length c) ∧ Own w' W.heap.size (.slice A (srt p.schemes).length c) (srt p.schemes) ∧ Below W.heap.size W w') := Lib.hid fun W hW => risingC _ p.schemes W (hrw W hW).2.2.1 hf4
  have HRW : Hid (∀ W, Below w.heap.size w W → Calls Tryz.prog 76 #[.slice A4 p.drop.length c4] W fun e w' => ∃ A c, e = .returned (.slice A (srt p.drop).length c) ∧ Own w' W.heap.size (.slice A (srt p.drop).length c) (srt p.drop) ∧ Below W.heap.size W w') := Lib.hid fun W hW => risingC _ p.drop W (hrw W hW).2.2.2 hf5
  obtain ⟨LG, hLG⟩ : ∃ L, L = (tidyRs p.glob).length := ⟨_, rfl⟩
  obtain ⟨LS, hLS⟩ : ∃ L, L = (srt p.schemes).length := ⟨_, rfl⟩
  obtain ⟨LD, hLD⟩ : ∃ L, L = (srt p.drop).length := ⟨_, rfl⟩
  rw [← hLG] at HTG
  rw [← hLS] at HRS
  rw [← hLD] at HRW
  have HLL := Lib.hid (And.intro hLG (And.intro hLS hLD))
  unfold polV
  obtain ⟨W0, hW0⟩ : ∃ W, W = (w.alloc (.cells #[.slice A1 p.els.length c1, .slice A2 p.glob.length c2, .slice A3 p.schemes.length c3, .bool p.rel, .slice A4 p.drop.length c4, .int .i64 p.depth, .int .i64 p.window] 29)).alloc (.cells #[.slice none 0 0, .slice none 0 0, .slice none 0 0, .bool false, .slice none 0 0, .int .i64 0, .int .i64 0] 29) := ⟨_, rfl⟩
  have hb0 : Below w.heap.size w W0 := hW0 ▸ ((Below.refl _ _).alloc (Nat.le_refl _) _).alloc (by simp) _
  have hsz0 : W0.heap.size = w.heap.size + 2 := by rw [hW0]; simp
  have k0 : Bl W0 w.heap.size 29 [.slice A1 p.els.length c1, .slice A2 p.glob.length c2, .slice A3 p.schemes.length c3, .bool p.rel, .slice A4 p.drop.length c4, .int .i64 p.depth, .int .i64 p.window] := hW0 ▸ (Bl.new w _ _ rfl).alloc _
  have k1 : Bl W0 (w.heap.size + 1) 29 [.slice none 0 0, .slice none 0 0, .slice none 0 0, .bool false, .slice none 0 0, .int .i64 0, .int .i64 0] := hW0 ▸ Bl.new _ _ _ (by simp)
  have HP : Hid (∀ W, Below W0.heap.size W0 W → W.cell? ⟨w.heap.size, 1, none⟩ = some (.slice A2 p.glob.length c2) ∧ W.cell? ⟨w.heap.size, 2, none⟩ = some (.slice A3 p.schemes.length c3) ∧ W.cell? ⟨w.heap.size, 3, none⟩ = some (.bool p.rel) ∧ W.cell? ⟨w.heap.size, 4, none⟩ = some (.slice A4 p.drop.length c4) ∧ W.cell? ⟨w.heap.size, 5, none⟩ = some (.int .i64 p.depth) ∧ W.cell? ⟨w.heap.size, 6, none⟩ = some (.int .i64 p.window)) := Lib.hid fun W hW => by
    have j := k0.below hW
    exact ⟨j.cell 1 rfl, j.cell 2 rfl, j.cell 3 rfl, j.cell 4 rfl, j.cell 5 rfl, j.cell 6 rfl⟩
  have hk0 := k0.lt
  have HQ : Hid (∀ (W : World) (g : Nat) (u0 u1 u2 u3 u4 u5 u6 : Value), Below W0.heap.size W0 W → Bl W g 29 zeroC → W0.heap.size ≤ g → (((((((W.setCell ⟨g, 0, none⟩ u0).setCell ⟨g, 1, none⟩ u1).setCell ⟨g, 2, none⟩ u2).setCell ⟨g, 3, none⟩ u3).setCell ⟨g, 4, none⟩ u4).setCell ⟨g, 5, none⟩ u5).setCell ⟨g, 6, none⟩ u6).cell? ⟨w.heap.size, 1, none⟩ = some (.slice A2 p.glob.length c2) ∧ (((((((W.setCell ⟨g, 0, none⟩ u0).setCell ⟨g, 1, none⟩ u1).setCell ⟨g, 2, none⟩ u2).setCell ⟨g, 3, none⟩ u3).setCell ⟨g, 4, none⟩ u4).setCell ⟨g, 5, none⟩ u5).setCell ⟨g, 6, none⟩ u6).cell? ⟨w.heap.size, 2, none⟩ = some (.slice A3 p.schemes.length c3) ∧ (((((((W.setCell ⟨g, 0, none⟩ u0).setCell ⟨g, 1, none⟩ u1).setCell ⟨g, 2, none⟩ u2).setCell ⟨g, 3, none⟩ u3).setCell ⟨g, 4, none⟩ u4).setCell ⟨g, 5, none⟩ u5).setCell ⟨g, 6, none⟩ u6).cell? ⟨w.heap.size, 3, none⟩ = some (.bool p.rel) ∧ (((((((W.setCell ⟨g, 0, none⟩ u0).setCell ⟨g, 1, none⟩ u1).setCell ⟨g, 2, none⟩ u2).setCell ⟨g, 3, none⟩ u3).setCell ⟨g, 4, none⟩ u4).setCell ⟨g, 5, none⟩ u5).setCell ⟨g, 6, none⟩ u6).cell? ⟨w.heap.size, 4, none⟩ = some (.slice A4 p.drop.length c4) ∧ (((((((W.setCell ⟨g, 0, none⟩ u0).setCell ⟨g, 1, none⟩ u1).setCell ⟨g, 2, none⟩ u2).setCell ⟨g, 3, none⟩ u3).setCell ⟨g, 4, none⟩ u4).setCell ⟨g, 5, none⟩ u5).setCell ⟨g, 6, none⟩ u6).cell? ⟨w.heap.size, 5, none⟩ = some (.int .i64 p.depth) ∧ (((((((W.setCell ⟨g, 0, none⟩ u0).setCell ⟨g, 1, none⟩ u1).setCell ⟨g, 2, none⟩ u2).setCell ⟨g, 3, none⟩ u3).setCell ⟨g, 4, none⟩ u4).setCell ⟨g, 5, none⟩ u5).setCell ⟨g, 6, none⟩ u6).cell? ⟨w.heap.size, 6, none⟩ = some (.int .i64 p.window)) := Lib.hid fun W g u0 u1 u2 u3 u4 u5 u6 hW _ hg => by
    have j := Bl.oth7 (k0.below hW) (g := g) (by omega) u0 u1 u2 u3 u4 u5 u6
    exact ⟨j.cell 1 rfl, j.cell 2 rfl, j.cell 3 rfl, j.cell 4 rfl, j.cell 5 rfl, j.cell 6 rfl⟩
  have HRWD := Lib.hid hrw
  have HF2 := Lib.hid hf2
  have HD := Lib.hid hd
  have HOK := Lib.hid hok
  have HX := Lib.hid hW0
  have HS0 := Lib.hid hsz0
  have hz0 := hb0.size
  have hd0 : Below W0.heap.size W0 W0.drew := drw W0 1
  obtain ⟨a1, a2, a3, a4, a5, a6⟩ := HP.out _ (Below.refl _ _)
  clear h hrw hf2 hf3 hd hok hW0 hsz0 hLG hLS hLD
  go_enter Tryz.func24, Tryz.ntmps24
  go_upto_region 1 with fail
  rw [← HX.out]
  go_cut [3] from 8 (fun s3 wx => ∃ (g : Nat) (B1 B2 B3 : Option Addr) (d1 d2 d3 : Nat), s3 = .pointer (some ⟨g, 0, none⟩) ∧ Gt W0 wx g (.slice B1 LG d1) (.slice B2 LS d2) (.slice B3 LD d3) (tidyRs p.glob) (srt p.schemes) (srt p.drop) p.rel p.depth p.window)
  case first =>
    have hd1 : Below W0.heap.size W0 ((W0.alloc (.cells #[.slice none 0 0, .slice none 0 0, .slice none 0 0, .bool false, .slice none 0 0, .int .i64 0, .int .i64 0] 29)).drew) := ((Below.refl _ _).alloc (Nat.le_refl _) _).drew
    go_region_held3 (fun W' => W'.cell? ⟨w.heap.size, 1, none⟩ = some (.slice A2 p.glob.length c2) ∧ W'.cell? ⟨w.heap.size, 2, none⟩ = some (.slice A3 p.schemes.length c3) ∧ W'.cell? ⟨w.heap.size, 3, none⟩ = some (.bool p.rel) ∧ W'.cell? ⟨w.heap.size, 4, none⟩ = some (.slice A4 p.drop.length c4) ∧ W'.cell? ⟨w.heap.size, 5, none⟩ = some (.int .i64 p.depth) ∧ W'.cell? ⟨w.heap.size, 6, none⟩ = some (.int .i64 p.window))
      (first | with_reducible exact ⟨a1, a2, a3, a4, a5, a6⟩ | with_reducible exact HP.out _ h1 | with_reducible exact HP.out _ h2 | with_reducible exact HP.out _ h3 | with_reducible exact sf.out | with_reducible exact HP.out _ (h1.alloc h1.size _) | with_reducible exact HP.out _ (h2.alloc h2.size _) | with_reducible exact HP.out _ (h3.alloc h3.size _) | with_reducible exact HP.out _ hd0 | with_reducible exact HP.out _ hd1 | go_keep)
      (first
        | (go_at_call 75; refine (HTG.out _ (by first | exact hb0.drew | exact hb0.trans (hd1.mono hz0))).mono ?_; rintro e w1 ⟨B1, d1, F1, rfl, ho1, hb1⟩; have h1 : Below W0.heap.size W0 w1 := (by first | exact hd0.trans hb1 | exact hd1.trans (hb1.mono hd1.size)); have n1 := (by first | exact (Bl.drew (Bl.new W0 _ _ rfl) 1).below hb1 | exact True.intro))
        | (go_at_call 76; have _z := h2; refine (HRW.out _ (by first | exact hb0.trans (h2.mono hz0) | exact hb0.trans ((h2.alloc h2.size _).mono hz0))).mono ?_; rintro e w3 ⟨B3, d3, rfl, ho3, hb3⟩; have h3 : Below W0.heap.size W0 w3 := (by first | exact h2.trans (hb3.mono h2.size) | exact (h2.alloc h2.size _).trans (hb3.mono (h2.alloc h2.size _).size)); have n3 := (by first | exact n2.below hb3 | exact (Bl.new w2 _ _ rfl).below hb3 | exact True.intro); have y1 := h1.size; have y2 := h2.size; have st := (by first | exact n3.store7 (.slice none 0 0) (.slice B1 LG d1) (.slice B2 LS d2) (.bool p.rel) (.slice B3 LD d3) (.int .i64 p.depth) (.int .i64 p.window) | exact True.intro); have sf := (by first | exact Lib.hid (HQ.out _ _ (.slice none 0 0) (.slice B1 LG d1) (.slice B2 LS d2) (.bool p.rel) (.slice B3 LD d3) (.int .i64 p.depth) (.int .i64 p.window) h3 n3 (by omega)) | exact Lib.hid True.intro))
        | (go_at_call 76; refine (HRS.out _ (by first | exact hb0.trans (h1.mono hz0) | exact hb0.trans ((h1.alloc h1.size _).mono hz0))).mono ?_; rintro e w2 ⟨B2, d2, rfl, ho2, hb2⟩; have h2 : Below W0.heap.size W0 w2 := (by first | exact h1.trans (hb2.mono h1.size) | exact (h1.alloc h1.size _).trans (hb2.mono (h1.alloc h1.size _).size)); have n2 := (by first | exact n1.below hb2 | exact (Bl.new w1 _ _ rfl).below hb2 | exact True.intro)))
    all_goals (
      go_wp2_with fail
      go_meet
      have s1 := hb1.size
      have s2 := hb2.size
      have s3 := hb3.size
      try simp at s1
      try simp at s2
      try simp at s3
      have y3 := h3.size
      first
      | exact ⟨_, B1, B2, B3, d1, d2, d3, rfl, Gt.late (X1 := W0.drew) (X2 := w1) (X3 := w2) hd0 hb1 ho1 (Below.refl _ _) hb2 ho2 (Below.refl _ _) hb3 ho3 p.rel p.depth p.window⟩
      | exact ⟨_, B1, B2, B3, d1, d2, d3, rfl, Gt.early (X1 := W0.drew) (X2 := w1) (X3 := w2.alloc (.cells #[.slice none 0 0, .slice none 0 0, .slice none 0 0, .bool false, .slice none 0 0, .int .i64 0, .int .i64 0] 29)) hd0 hb1 ho1 (Below.refl _ _) hb2 ho2 ((Below.refl _ _).alloc (Nat.le_refl _) _) hb3 ho3 n3 (by omega) (.inr (by omega)) (.inr (by omega)) (.inl (by simp)) p.rel p.depth p.window⟩
      | exact ⟨_, B1, B2, B3, d1, d2, d3, rfl, Gt.early (X1 := W0.drew) (X2 := w1.alloc (.cells #[.slice none 0 0, .slice none 0 0, .slice none 0 0, .bool false, .slice none 0 0, .int .i64 0, .int .i64 0] 29)) (X3 := w2) hd0 hb1 ho1 ((Below.refl _ _).alloc (Nat.le_refl _) _) hb2 ho2 (Below.refl _ _) hb3 ho3 n3 (by omega) (.inr (by omega)) (.inl (by simp)) (.inl (by omega)) p.rel p.depth p.window⟩
      | exact ⟨_, B1, B2, B3, d1, d2, d3, rfl, Gt.early (X1 := (W0.alloc (.cells #[.slice none 0 0, .slice none 0 0, .slice none 0 0, .bool false, .slice none 0 0, .int .i64 0, .int .i64 0] 29)).drew) (X2 := w1) (X3 := w2) hd1 hb1 ho1 (Below.refl _ _) hb2 ho2 (Below.refl _ _) hb3 ho3 n3 (by omega) (.inl (by show W0.heap.size < (W0.alloc _).heap.size; simp)) (.inl (by omega)) (.inl (by omega)) p.rel p.depth p.window⟩)
  case rest =>
    obtain ⟨g, B1, B2, B3, d1, d2, d3, rfl, hG⟩ := hcut
    have HG := Lib.hid hG
    have hbc := hG.below
    have hge := hG.ge
    have a0 := (k0.below hbc).cell 0 rfl
    obtain ⟨a1, a2, a3, a4, a5, a6⟩ := HP.out _ hbc
    clear hG
    have hwc : Below w.heap.size w wc := hb0.trans (hbc.mono hz0)
    have hzc := hwc.size
    have HNA := Lib.hid (rNamesC ⟨.slice A1 p.els.length c1, .slice A2 p.glob.length c2, .slice A3 p.schemes.length c3, .slice A4 p.drop.length c4⟩ p wc (HRWD.out wc hwc) (by omega))
    have HRI : Hid (∀ W v, kdW.rd W 0 W.heap.size v (nms p) → Calls Tryz.prog 76 #[v] W fun e w' => ∃ A c, e = .returned (.slice A (srt (nms p)).length c) ∧ Own w' W.heap.size (.slice A (srt (nms p)).length c) (srt (nms p)) ∧ Below W.heap.size W w') := Lib.hid fun W v hv => risingC v (nms p) W hv (by unfold nms; rw [List.length_map]; omega)
    have hnl : (srt (nms p)).length = p.els.length := by rw [srt_len]; unfold nms; rw [List.length_map]
    have HNE : Hid ((srt (nms p)).map (tidyN p) = (tidyP p).els) := Lib.hid (tidy_els HD.out.els)
    obtain ⟨ns, hns⟩ : ∃ ns, ns = srt (nms p) := ⟨_, rfl⟩
    rw [← hns] at HRI hnl HNE
    have HTE : Hid (∀ (n : ByteArray) W v, kdR.rd W 0 W.heap.size v ((fndE p.els n).getD el0).rules → Calls Tryz.prog 75 #[v] W fun e w' => ∃ A c F, e = .returned (.slice A (tidyN p n).rules.length c) ∧ kdR.own w' W.heap.size (.slice A (tidyN p n).rules.length c) (tidyN p n).rules F ∧ Below W.heap.size W w') := Lib.hid fun n W v hv => by
      have h9 : FitR ((fndE p.els n).getD el0).rules ∧ OkW ((fndE p.els n).getD el0).rules ∧ (((fndE p.els n).getD el0).rules.map RuleD.name).Nodup := by
        cases he : fndE p.els n with
        | none => exact ⟨⟨by simp [el0], fun i hi => by simp [el0] at hi⟩, ⟨by simp [el0], fun i hi => by simp [el0] at hi⟩, by simp [el0]⟩
        | some e =>
          obtain ⟨i, hi, rfl⟩ := List.getElem_of_mem (List.mem_of_find?_eq_some he)
          exact ⟨HF2.out i hi, HOK.out.rules i hi, HD.out.rules i hi⟩
      refine (rTidyRC _ v W hv h9.1 h9.2.1 h9.2.2).mono fun e w' ⟨v, F, he, ho, hb⟩ => ?_
      obtain ⟨A, c, rfl, _⟩ := fmR.own_form ho
      exact ⟨A, c, F, he, ho, hb⟩
    have HFD : Hid (∀ (n : ByteArray) W, w.heap.size ≤ W.heap.size → RdP W 0 w.heap.size ⟨.slice A1 p.els.length c1, .slice A2 p.glob.length c2, .slice A3 p.schemes.length c3, .slice A4 p.drop.length c4⟩ p → Calls Tryz.prog 30 #[polV ⟨.slice A1 p.els.length c1, .slice A2 p.glob.length c2, .slice A3 p.schemes.length c3, .slice A4 p.drop.length c4⟩ p, .string n] W fun e w' => ∃ A c, e = .returned (.tuple #[.agg #[.string ((fndE p.els n).getD el0).name, .slice A ((fndE p.els n).getD el0).rules.length c], .bool (fndE p.els n).isSome]) ∧ kdR.rd w' 0 w.heap.size (.slice A ((fndE p.els n).getD el0).rules.length c) ((fndE p.els n).getD el0).rules ∧ Below W.heap.size W w') := Lib.hid fun n W hW h => (findC _ p n W w.heap.size hW h).mono fun e w' ⟨u, he, ho, hb⟩ => by obtain ⟨A, c, rfl, _⟩ := fmR.rd_form ho; exact ⟨A, c, he, ho, hb⟩
    have HRP : Hid (RdP w 0 w.heap.size ⟨.slice A1 p.els.length c1, .slice A2 p.glob.length c2, .slice A3 p.schemes.length c3, .slice A4 p.drop.length c4⟩ p) := Lib.hid (HRWD.out w (Below.refl _ _))
    unfold polV at HNA HFD
    simp only at HNA HFD
    clear hns HQ HTG HRS HRW
    go_wp2_with (first
      | (go_at_call 54; refine HNA.out.mono ?_; rintro e w4 ⟨D4, e4, rfl, ho4, hb4⟩)
      | (go_at_call 76; refine (HRI.out w4 _ (rd_own ho4)).mono ?_; rintro e w5 ⟨D5, e5, rfl, ho5, hb5⟩))
    have hz4 := hb4.size
    have hc5 : Below wc.heap.size wc w5 := hb4.trans (hb5.mono hz4)
    have hw5 : Below w.heap.size w w5 := hwc.trans (hc5.mono hzc)
    have hz5 := hc5.size
    obtain ⟨B0, hB0⟩ : ∃ B, B = w5.heap.size := ⟨_, rfl⟩
    have hg1 : w.heap.size + 2 ≤ g := by have := HS0.out; omega
    have hg2 : g < wc.heap.size := HG.out.bl.lt
    have HROW : Hid (∀ W, Fr [g] w5 W → kdW.rd W wc.heap.size w5.heap.size (.slice D5 ns.length e5) ns) := Lib.hid fun W hW => kdW.stay (kdW.read (own_F ho5) (by omega) (Nat.le_refl _)) fun k h1 h2 => hW.block k h2 (by simp; omega)
    have HSRC : Hid (∀ W, Fr [g] w5 W → RdP W 0 w.heap.size ⟨.slice A1 p.els.length c1, .slice A2 p.glob.length c2, .slice A3 p.schemes.length c3, .slice A4 p.drop.length c4⟩ p ∧ Bl W w.heap.size 29 [.slice A1 p.els.length c1, .slice A2 p.glob.length c2, .slice A3 p.schemes.length c3, .bool p.rel, .slice A4 p.drop.length c4, .int .i64 p.depth, .int .i64 p.window] ∧ Bl W (w.heap.size + 1) 29 [.slice none 0 0, .slice none 0 0, .slice none 0 0, .bool false, .slice none 0 0, .int .i64 0, .int .i64 0]) := Lib.hid fun W hW => by
      have k05 := ((k0.below hbc).below hc5)
      have k15 := ((k1.below hbc).below hc5)
      exact ⟨HRP.out.stay fun k _ hk => (hW.block k (by omega) (by simp; omega)).trans (hw5.block k hk), k05.of (hW.block _ k05.lt (by simp; omega)), k15.of (hW.block _ k15.lt (by simp; omega))⟩
    have m3 := HG.out.bl.below hc5
    have hst0 : Hid ([].map (fun t : It ElD => t.a) = (ns.take 0).map (tidyN p) ∧ w5.ownsRow B0 45 2 (.slice none 0 0) ([] : List (It ElD)).length (fmE.cells []) ∧ (∀ t ∈ ([] : List (It ElD)), kdR.own w5 B0 t.v t.a.rules t.G) ∧ ((Value.slice none 0 0).ownBlock.toList ++ outG ([] : List (It ElD))).Nodup) := Lib.hid ⟨by simp, World.ownsRow_nil _ _ _ _, by simp, by simp [Value.ownBlock, outG]⟩
    have hfr0 : Hid (Fr [g] w5 w5) := Lib.hid (Fr.refl _ _)
    clear ho4 ho5 a0 a1 a2 a3 a4 a5 a6
    have hnm : (ns.length : Int) ≤ 9223372036854775807 := by omega
    go_loopw [28] (fun i wr => ∃ (k : Nat) (v0 : Value) (T : List (It ElD)), k ≤ ns.length ∧ i = .int .i64 k ∧ Hid (T.map (·.a) = (ns.take k).map (tidyN p) ∧ wr.ownsRow B0 45 2 v0 T.length (fmE.cells T) ∧ (∀ t ∈ T, kdR.own wr B0 t.v t.a.rules t.G) ∧ (v0.ownBlock.toList ++ outG T).Nodup) ∧
      Bl wr g 29 [v0, .slice B1 LG d1, .slice B2 LS d2, .bool p.rel, .slice B3 LD d3, .int .i64 p.depth, .int .i64 p.window] ∧ Hid (Fr [g] w5 wr)) (fun i _ => ns.length - (intOf i).toNat)
    case atStart => exact ⟨0, _, [], by omega, rfl, hst0, m3, hfr0⟩
    case round =>
      clear m3 hst0 hfr0
      obtain ⟨k, v0, T, hk, rfl, hown, m3, hfr⟩ := hrel
      have hzr := hfr.out.size
      by_cases hlt : k < ns.length
      · obtain ⟨b6, off6, rfl, _, _, hc6⟩ := rdW_at (HROW.out _ hfr.out) hlt
        obtain ⟨n, hn⟩ : ∃ n, n = ns[k] := ⟨_, rfl⟩
        rw [← hn] at hc6
        obtain ⟨hsr, k0r, _⟩ := HSRC.out _ hfr.out
        have HFN := Lib.hid (HFD.out n wr (by omega) hsr)
        have a0 := k0r.cell 0 rfl
        have a1 := k0r.cell 1 rfl
        have a2 := k0r.cell 2 rfl
        have a3 := k0r.cell 3 rfl
        have a4 := k0r.cell 4 rfl
        have a5 := k0r.cell 5 rfl
        have a6 := k0r.cell 6 rfl
        have hTl : T.length = k := by have := congrArg List.length hown.out.1; simp at this; omega
        have g1 : T.length + 1 ≤ maxLen := by unfold maxLen; omega
        have g2 : (T.length + 1) * 40 ≤ 140737488355328 := by omega
        have HTL := Lib.hid hTl
        have HNS := Lib.hid hn
        have HTN := Lib.hid (HTE.out n)
        have hk0' : (0 : Int) ≤ (k : Int) := by omega
        have hk1' : (k : Int) < (ns.length : Int) := by omega
        clear hTl hn hsr
        have hname : (tidyN p n).name = n := rfl
        obtain ⟨E, hE⟩ : ∃ E, E = (fndE p.els n).getD el0 := ⟨_, rfl⟩
        rw [← hE] at HFN HTN
        have hes : fmE.sub E = E.rules := rfl
        obtain ⟨TE, hTE⟩ : ∃ E, E = tidyN p n := ⟨_, rfl⟩
        rw [← hTE] at HTN
        have HTE2 := Lib.hid hTE
        clear hE hTE hname hes
        go_upto_region 6 with (go_at_call 30; refine HFN.out.mono ?_; rintro e w6 ⟨A5, c5, rfl, ho6, hb6⟩)
        obtain ⟨W6, hW6⟩ : ∃ W, W = w6.alloc (.cells #[.string E.name, .slice A5 E.rules.length c5] 45) := ⟨_, rfl⟩
        have hb66 : Below w6.heap.size w6 W6 := hW6 ▸ (Below.refl _ _).alloc (Nat.le_refl _) _
        have hb0' : Below wr.heap.size wr W6 := hb6.trans (hb66.mono hb6.size)
        have k5 : Bl W6 w6.heap.size 45 [.string E.name, .slice A5 E.rules.length c5] := hW6 ▸ Bl.new w6 _ _ rfl
        have n3 := m3.below hb0'
        have x0 := n3.cell 0 rfl
        have y1 := k5.cell 1 rfl
        have hm3 := m3.lt
        have hz6 := hb0'.size
        have hrd6 : kdR.rd W6.drew 0 W6.drew.heap.size (.slice A5 E.rules.length c5) E.rules := kdR.wide (kdR.stay ho6 fun j _ hj => hb66.block j (by have := hb6.size; omega)) (Nat.le_refl _) (by show w.heap.size ≤ W6.heap.size; omega)
        have HT6 := Lib.hid (HTN.out W6.drew _ hrd6)
        rw [← hW6]
        have HX6 := Lib.hid hW6
        have how := hown.out.2.1
        clear hW6 ho6 hrd6 a0 a1 a2 a3 a4 a5 a6 hc6
        go_region_law (first
          | (go_simp; go_at_call 75; refine HT6.out.mono ?_; rintro e w2 ⟨A6, c6, G, rfl, ho2, hb2'⟩; have hb3 : Below wr.heap.size wr w2 := hb0'.drew.trans (hb2'.mono hb0'.size); have hzy := hb3.size; have n6 := (n3.below (w' := W6.drew) (drw W6 1)).below hb2'; have x1 := n6.cell 0 rfl; have n7 := n6.alloc (.cells #[.string n, .slice A6 TE.rules.length c6] 45); have x2 := n7.cell 0 rfl; have how2 := own_stay how (w' := w2) (fun k hk => hb3.block k (own_ge2 how k hk).2))
          | (refine step_append_lies _ (by rfl) (.tmp 39) (.tmp 45) 25 (by rfl) B0 45 i0 _ 2 40 Tryz.underlying25 hi iz0 iz1 iz2 rfl (by decide) v0 T.length (fmE.cells T) (by rfl) (by exact how2.alloc _) ⟨w2.heap.size, 0, none⟩ 1 1 [.string n, .slice A6 TE.rules.length c6] (by rfl) (by rfl) (by exact World.news_of_block (heap_alloc_new w2 _)) (by simp [Value.oneCell']) (by decide) g1 g2 (by simp; omega) _ rfl ?_; intro g9 cap9 w9 hown9 hgrow9 hat9 hlt9; have n9 := n7.of (hgrow9.block _ (by simp; omega) (fun e => by have := (how.lt _ e.symm).1; omega)); have x3 := n9.cell 0 rfl; have x4 := n9.fz 0))
        all_goals (
          have hp := fmE.push (t := ⟨⟨n, TE.rules⟩, .slice A6 TE.rules.length c6, G⟩) how hown.out.2.2.1 hown.out.2.2.2 hb3 (by omega) (kdR.low ho2 hz6) hown9 hgrow9 (hat9.elim (fun h => .inl h.symm) (fun h => .inr (congrArg some h)))
          obtain ⟨F9, hF9⟩ : ∃ F, F = (Value.slice (some ⟨g9, 0, none⟩) (T.length + 1) cap9).ownBlock.toList ++ outG (T ++ [⟨⟨n, TE.rules⟩, .slice A6 TE.rules.length c6, G⟩]) := ⟨_, rfl⟩
          rw [← hF9] at hp
          have m3' := n9.set 0 (.slice (some ⟨g9, 0, none⟩) (T.length + 1) cap9)
          have hp' := kdE.keep (w' := w9.setCell ⟨g, 0, none⟩ (.slice (some ⟨g9, 0, none⟩) (T.length + 1) cap9)) hp (by simp [World.setCell]) (fun j hj => Below.heap_setCell _ _ _ _ (by have := (kdE.ge hp j hj).1; show j ≠ g; omega))
          obtain ⟨T2, hT2, ho9, hs9, hF9', hn9⟩ := hp'
          have hb9 : Below w5.heap.size wr w9 := (((hb3.mono (by omega : w5.heap.size ≤ wr.heap.size)).alloc (by omega) _).grown hgrow9 (by simp; omega) (fun j hj => by have := (how.lt j hj).1; omega))
          have hfr9 : Hid (Fr [g] w5 (w9.setCell ⟨g, 0, none⟩ (.slice (some ⟨g9, 0, none⟩) (T.length + 1) cap9))) := Lib.hid ((Fr.then_below hfr.out hb9).trans (Fr.setCell _ ⟨g, 0, none⟩ _ (.inl (by simp))))
          have hrel : Hid (T2.map (·.a) = (ns.take (k + 1)).map (tidyN p) ∧ (w9.setCell ⟨g, 0, none⟩ (.slice (some ⟨g9, 0, none⟩) (T.length + 1) cap9)).ownsRow B0 45 2 (.slice (some ⟨g9, 0, none⟩) (T.length + 1) cap9) T2.length (fmE.cells T2) ∧ (∀ t ∈ T2, kdR.own (w9.setCell ⟨g, 0, none⟩ (.slice (some ⟨g9, 0, none⟩) (T.length + 1) cap9)) B0 t.v t.a.rules t.G) ∧ ((Value.slice (some ⟨g9, 0, none⟩) (T.length + 1) cap9).ownBlock.toList ++ outG T2).Nodup) :=
            Lib.hid ⟨by rw [hT2, hown.out.1, List.take_succ_eq_append_getElem hlt, List.map_append, ← HNS.out]; show _ = _ ++ [tidyN p n]; rw [← HTE2.out]; congr 1; rw [HTE2.out]; rfl, ho9, hs9, hF9' ▸ hn9⟩
          clear hp hF9 ho9 hs9 hF9' hn9 hT2 hown9 hgrow9 hat9 how how2 ho2 n9 n7 n6 x0 x1 x2 x3 x4 y1
          go_wp2
          go_roundw
          case rel => exact ⟨k + 1, _, T2, by omega, by go_num, hrel, m3', hfr9⟩
          case measure => simp [intOf] <;> omega)
      · obtain rfl : k = ns.length := by omega
        obtain ⟨A9, c9, rfl, _⟩ := own_slice hown.out.2.1
        obtain ⟨_, k0r, k1r⟩ := HSRC.out _ hfr.out
        have v0 := m3.cell 0 rfl
        have v1 := m3.cell 1 rfl
        have v2 := m3.cell 2 rfl
        have v3 := m3.cell 3 rfl
        have v4 := m3.cell 4 rfl
        have v5 := m3.cell 5 rfl
        have v6 := m3.cell 6 rfl
        obtain ⟨s0, s1, s2, s3, s4, s5, s6, s7, s8, s9, s10, s11, s12, s13⟩ := k1r.store7 (.slice A9 T.length c9) (.slice B1 LG d1) (.slice B2 LS d2) (.bool p.rel) (.slice B3 LD d3) (.int .i64 p.depth) (.int .i64 p.window)
        have jz := k1r.seven (.slice A9 T.length c9) (.slice B1 LG d1) (.slice B2 LS d2) (.bool p.rel) (.slice B3 LD d3) (.int .i64 p.depth) (.int .i64 p.window)
        have hfz := Fr.set7 wr (w.heap.size + 1) (.slice A9 T.length c9) (.slice B1 LG d1) (.slice B2 LS d2) (.bool p.rel) (.slice B3 LD d3) (.int .i64 p.depth) (.int .i64 p.window)
        have HFZ := Lib.hid hfz
        clear hfz k0r
        go_wp2
        refine bodyPost_ret (res_cell Tryz.results24 rfl jz Tryz.underlying29 rfl (by kernel_rfl)) rfl ?_
        have hfz := HFZ.out
        have hs0 := HS0.out
        have hT9 : T.map (·.a) = (tidyP p).els := by rw [hown.out.1, List.take_length, HNE.out]
        obtain ⟨l1, l2, l3⟩ := HLL.out
        have hwr : Below w.heap.size w wr := hw5.trans (hfr.out.below hw5.size (by simp; omega))
        have hge1 := fun k hk => own_ge2 hown.out.2.1 k hk
        obtain ⟨F1, o1, f1⟩ := HG.out.o1
        obtain ⟨o2, f2⟩ := HG.out.o2
        obtain ⟨o3, f3⟩ := HG.out.o3
        have st1 : ∀ k, k < wc.heap.size → k ≠ g → k ≠ w.heap.size + 1 → wr.heap[k]? = wc.heap[k]? := fun k h1 h2 _ => (hfr.out.block k (by omega) (by simpa using h2)).trans (hc5.block k h1)
        refine ⟨⟨.slice A9 T.length c9, .slice B1 LG d1, .slice B2 LS d2, .slice B3 LD d3⟩, rfl, ⟨?_, ?_, ?_, ?_⟩, hwr.trans (hfz.below hwr.size (by simp))⟩
        · have h8 : kdE.own wr B0 (.slice A9 T.length c9) (tidyP p).els ((Value.slice A9 T.length c9).ownBlock.toList ++ outG T) := ⟨T, hT9, hown.out.2.1, hown.out.2.2.1, rfl, hown.out.2.2.2⟩
          have h9 := kdE.keep h8 hfz.size fun k hk => hfz.block k (kdE.ge h8 k hk).2 (by have := (kdE.ge h8 k hk).1; simp; omega)
          exact kdE.read h9 (by omega) (Nat.le_refl _)
        · have h8 := kdR.keep o1 (Nat.le_trans (Nat.le_trans hz5 hzr) hfz.size) fun k hk => by
            have h7 := kdR.ge o1 k hk
            rw [hfz.block k (by omega) (by simp; omega), st1 k h7.2 (fun e => f1 (e ▸ hk)) (by omega)]
          exact kdR.read h8 (by omega) (Nat.le_refl _)
        · have h8 := own_stay o2 fun k hk => by
            have h7 := own_ge2 o2 k hk
            rw [hfz.block k (by omega) (by simp; omega), st1 k h7.2 (fun e => f2 (by rw [← e]; simpa using hk)) (by omega)]
          exact kdW.read (own_F h8) (by omega) (Nat.le_refl _)
        · have h8 := own_stay o3 fun k hk => by
            have h7 := own_ge2 o3 k hk
            rw [hfz.block k (by omega) (by simp; omega), st1 k h7.2 (fun e => f3 (by rw [← e]; simpa using hk)) (by omega)]
          exact kdW.read (own_F h8) (by omega) (Nat.le_refl _)
end Go.Proofs.YteikagdinecfoaaGreatDoor.Tt
