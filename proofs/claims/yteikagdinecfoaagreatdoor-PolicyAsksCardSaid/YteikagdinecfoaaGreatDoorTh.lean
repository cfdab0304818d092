/- How many things a policy has: the program's things, limitsRight. -/
import Derived.Test.YteikagdinecfoaaGreatDoorPm
import Derived.Test.YteikagdinecfoaaGreatDoorBk
set_option linter.unusedVariables false
set_option linter.unusedSimpArgs false
namespace Go.Proofs.YteikagdinecfoaaGreatDoor.Th
open Go.RowKit Lb Gr Pd Fl Go.Proofs.YteikagdinecfoaaGreatDoor.Pm Bk

theorem words_app (a b : List RuleD) : wordsN (a ++ b) = wordsN a + wordsN b := by unfold wordsN; simp
theorem words_take_succ {l : List RuleD} {k : Nat} (h : k < l.length) : wordsN (l.take (k + 1)) = wordsN (l.take k) + l[k].words.length := by
  rw [List.take_succ_eq_append_getElem h, words_app]; simp [wordsN]
theorem words_take_le (l : List RuleD) (k : Nat) : wordsN (l.take k) ≤ wordsN l := by
  have := words_app (l.take k) (l.drop k)
  rw [List.take_append_drop] at this
  omega
theorem els_app (a b : List ElD) : elsN (a ++ b) = elsN a + elsN b := by unfold elsN; simp
theorem els_take_succ {l : List ElD} {k : Nat} (h : k < l.length) : elsN (l.take (k + 1)) = elsN (l.take k) + (l[k].rules.length + wordsN l[k].rules) := by
  rw [List.take_succ_eq_append_getElem h, els_app]; simp [elsN]
theorem els_take_le (l : List ElD) (k : Nat) : elsN (l.take k) ≤ elsN l := by
  have := els_app (l.take k) (l.drop k)
  rw [List.take_append_drop] at this
  omega

/-- an int's number -/
def w64 (n : Nat) : Int := RowKit.wrap64 (n : Int)
theorem w64_add (a b : Nat) : RowKit.wrap64 (w64 a + (b : Int)) = w64 (a + b) := by unfold w64 RowKit.wrap64; omega
theorem w64_add' (a b : Nat) : IntKind.i64.wrap (w64 a + (b : Int)) = w64 (a + b) := by rw [IntKind.wrap_i64]; unfold w64 RowKit.wrap64; omega
theorem w64_in {n : Nat} (h : n ≤ 9223372036854775807) : w64 n = (n : Int) := by unfold w64 RowKit.wrap64; omega
theorem w64_two (a b : Nat) : RowKit.wrap64 ((a : Int) + (b : Int)) = w64 (a + b) := by unfold w64 RowKit.wrap64; omega
theorem w64_two' (a b : Nat) : IntKind.i64.wrap ((a : Int) + (b : Int)) = w64 (a + b) := by rw [IntKind.wrap_i64]; unfold w64 RowKit.wrap64; omega

/-- the number in the caller's variable -/
def Nv (w : World) (g : Nat) (a : Nat) : Prop := Bl w g 3 [.int .i64 (w64 a)]
set_option maxHeartbeats 2000000 in
set_option maxRecDepth 100000 in
theorem wordsC (l : List RuleD) (A : Option Addr) (n c g a lo hi : Nat) (w : World) (h : kdR.rd w lo hi (.slice A n c) l) (hh : hi ≤ g) (hg : Nv w g a) (hl : n ≤ 9223372036854775807) :
    Calls Tryz.prog 152 #[.slice A n c, .pointer (some ⟨g, 0, none⟩)] w fun e w' => e = .returned (.tuple #[]) ∧ Nv w' g (a + wordsN l) ∧ Fr [g] w w' := by
  have hn : n = l.length := by obtain ⟨_, _, hv, _⟩ := fmR.rd_form h; injection hv
  subst hn
  have hlt0 := hg.lt
  have HRD : Hid (∀ W, Fr [g] w W → kdR.rd W lo hi (.slice A l.length c) l) := Lib.hid fun W hW => kdR.stay h fun k _ hk => hW.block k (by omega) (by simp; omega)
  have hfr0 := Fr.refl [g] w
  have HW0 : Hid (wordsN (l.take 0) = 0) := Lib.hid (by simp [wordsN])
  clear h
  go_enter Tryz.func152, Tryz.ntmps152
  go_wp2
  go_loopw [7] (fun i wr => ∃ k : Nat, k ≤ l.length ∧ i = .int .i64 k ∧ Hid (Nv wr g (a + wordsN (l.take k)) ∧ Fr [g] w wr)) (fun i _ => l.length - (intOf i).toNat)
  case atStart => exact ⟨0, by omega, rfl, Lib.hid ⟨by rw [HW0.out]; exact hg, hfr0⟩⟩
  case round =>
    obtain ⟨k, hk, rfl, hst⟩ := hrel
    by_cases hlt : k < l.length
    · obtain ⟨b, off, u, rfl, hb1, hb2, hu, hcell⟩ := fmR.rd_at (HRD.out _ hst.out.2) hlt
      have c0 := hcell 0 _ rfl
      have c1 := hcell 1 _ rfl
      have c2 := hcell 2 _ rfl
      rw [show off + (k * fmR.size + 0) = off + k * 3 from rfl] at c0
      rw [show off + (k * fmR.size + 1) = off + k * 3 + 1 from by show off + (k * 3 + 1) = _; omega] at c1
      rw [show off + (k * fmR.size + 2) = off + k * 3 + 2 from by show off + (k * 3 + 2) = _; omega] at c2
      have hu' : kdW.rd wr lo hi u l[k].words := hu
      clear hu
      obtain ⟨A1, cc1, rfl, _⟩ := rdW_form hu'
      have hts := words_take_succ hlt
      have hsz := hst.out.2.size
      have hgn : g < wr.heap.size := by omega
      have n1 := (hst.out.1.alloc (.cells #[.string l[k].name, .int .i64 l[k].kind, .slice A1 l[k].words.length cc1] 50))
      have e0 := n1.cell 0 rfl
      have e1 := n1.fz 0
      have e2 := hst.out.1.cell 0 rfl
      have k5 : Bl (wr.alloc (.cells #[.string l[k].name, .int .i64 l[k].kind, .slice A1 l[k].words.length cc1] 50)) wr.heap.size 50 [.string l[k].name, .int .i64 l[k].kind, .slice A1 l[k].words.length cc1] := Bl.new wr _ _ rfl
      have y2 := k5.cell 2 rfl
      have hwr : IntKind.i64.wrap (w64 (a + wordsN (l.take k)) + (l[k].words.length : Int)) = w64 (a + wordsN (l.take (k + 1))) := by rw [w64_add', hts, Nat.add_assoc]
      have hwr2 : RowKit.wrap64 (w64 (a + wordsN (l.take k)) + (l[k].words.length : Int)) = w64 (a + wordsN (l.take (k + 1))) := by rw [w64_add, hts, Nat.add_assoc]
      have n2 := (hst.out.1.alloc (.cells #[.string l[k].name, .int .i64 l[k].kind, .slice A1 l[k].words.length cc1] 50)).set 0 (.int .i64 (w64 (a + wordsN (l.take (k + 1)))))
      have hf2 : Fr [g] w ((wr.alloc (.cells #[.string l[k].name, .int .i64 l[k].kind, .slice A1 l[k].words.length cc1] 50)).setCell ⟨g, 0, none⟩ (.int .i64 (w64 (a + wordsN (l.take (k + 1)))))) := (hst.out.2.trans (Fr.alloc _ _ _)).trans (Fr.setCell _ ⟨g, 0, none⟩ _ (.inl (by simp)))
      have n2' := (hst.out.1.set 0 (.int .i64 (w64 (a + wordsN (l.take (k + 1)))))).alloc (.cells #[.string l[k].name, .int .i64 l[k].kind, .slice A1 l[k].words.length cc1] 50)
      have hf2' : Fr [g] w ((wr.setCell ⟨g, 0, none⟩ (.int .i64 (w64 (a + wordsN (l.take (k + 1)))))).alloc (.cells #[.string l[k].name, .int .i64 l[k].kind, .slice A1 l[k].words.length cc1] 50)) := (hst.out.2.trans (Fr.setCell _ ⟨g, 0, none⟩ _ (.inl (by simp)))).trans (Fr.alloc _ _ _)
      generalize hX : w64 (a + wordsN (l.take k)) = X at *
      generalize hY : w64 (a + wordsN (l.take (k + 1))) = Y at *
      have hXY := Lib.hid hX
      have hYY := Lib.hid hY
      have hrel1 : Hid (Nv ((wr.alloc (.cells #[.string l[k].name, .int .i64 l[k].kind, .slice A1 l[k].words.length cc1] 50)).setCell ⟨g, 0, none⟩ (.int .i64 Y)) g (a + wordsN (l.take (k + 1))) ∧ Fr [g] w ((wr.alloc (.cells #[.string l[k].name, .int .i64 l[k].kind, .slice A1 l[k].words.length cc1] 50)).setCell ⟨g, 0, none⟩ (.int .i64 Y))) := Lib.hid ⟨by unfold Nv; rw [hY]; exact n2, hf2⟩
      have hrel2 : Hid (Nv ((wr.setCell ⟨g, 0, none⟩ (.int .i64 Y)).alloc (.cells #[.string l[k].name, .int .i64 l[k].kind, .slice A1 l[k].words.length cc1] 50)) g (a + wordsN (l.take (k + 1))) ∧ Fr [g] w ((wr.setCell ⟨g, 0, none⟩ (.int .i64 Y)).alloc (.cells #[.string l[k].name, .int .i64 l[k].kind, .slice A1 l[k].words.length cc1] 50))) := Lib.hid ⟨by unfold Nv; rw [hY]; exact n2', hf2'⟩
      clear n1 n2 hf2 n2' hf2' hcell hu' hts hst hX hY
      go_wp2
      go_roundw
      case rel => exact ⟨k + 1, by omega, by go_num, by first | exact hrel2 | exact hrel1⟩
      case measure => simp [intOf] <;> omega
    · obtain rfl : k = l.length := by omega
      go_wp2
      go_end0
      have := hst.out
      rw [List.take_length] at this
      exact ⟨rfl, this.1, this.2⟩

set_option maxHeartbeats 4000000 in
set_option maxRecDepth 100000 in
theorem thingsC (x : Vs) (p : PolD) (w : World) (h : RdP w 0 w.heap.size x p) (hm : p.els.length ≤ 9223372036854775807 ∧ p.glob.length ≤ 9223372036854775807 ∧ ∀ e ∈ p.els, e.rules.length ≤ 9223372036854775807) : Calls Tryz.prog 101 #[polV x p] w fun e w' => e = .returned (.int .i64 (w64 (thingsN p))) ∧ Below w.heap.size w w' := by
  obtain ⟨A1, c1, A2, c2, A3, c3, A4, c4, rfl, q1, q2, q3, q4, q5, q6, q7, q8⟩ := h.form
  have HRD : Hid (∀ W, Below w.heap.size w W → RdP W 0 w.heap.size ⟨.slice A1 p.els.length c1, .slice A2 p.glob.length c2, .slice A3 p.schemes.length c3, .slice A4 p.drop.length c4⟩ p) := Lib.hid fun W hW => h.stay (stay_below hW (Nat.le_refl _))
  clear h
  obtain ⟨hm1, hm2, hm3⟩ := hm
  have HM3 := Lib.hid hm3
  have hT : Hid (thingsN p = p.els.length + p.glob.length + p.schemes.length + p.drop.length + wordsN p.glob + elsN p.els) := Lib.hid rfl
  have hw1 := w64_two p.els.length p.glob.length
  have hv1 := w64_two' p.els.length p.glob.length
  have hw2 := w64_add (p.els.length + p.glob.length) p.schemes.length
  have hv2 := w64_add' (p.els.length + p.glob.length) p.schemes.length
  have hw3 := w64_add (p.els.length + p.glob.length + p.schemes.length) p.drop.length
  have hv3 := w64_add' (p.els.length + p.glob.length + p.schemes.length) p.drop.length
  obtain ⟨a0, ha0⟩ : ∃ a0, a0 = p.els.length + p.glob.length + p.schemes.length + p.drop.length := ⟨_, rfl⟩
  rw [← ha0] at hw3 hv3 hT
  generalize w64 (p.els.length + p.glob.length + p.schemes.length) = X1 at *
  generalize w64 (p.els.length + p.glob.length) = X2 at *
  obtain ⟨X0, hX0⟩ : ∃ X0, X0 = w64 a0 := ⟨_, rfl⟩
  rw [← hX0] at hw3 hv3
  have HX0 := Lib.hid hX0
  clear ha0 hm3 hX0
  have HWC : Hid (∀ W lo hi, kdR.rd W lo hi (.slice A2 p.glob.length c2) p.glob → hi ≤ w.heap.size + 1 → Nv W (w.heap.size + 1) a0 → Calls Tryz.prog 152 #[.slice A2 p.glob.length c2, .pointer (some ⟨w.heap.size + 1, 0, none⟩)] W fun e w' => e = .returned (.tuple #[]) ∧ Nv w' (w.heap.size + 1) (a0 + wordsN p.glob) ∧ Fr [w.heap.size + 1] W w') :=
    Lib.hid fun W lo hi h1 h2 h3 => wordsC p.glob A2 p.glob.length c2 (w.heap.size + 1) a0 lo hi W h1 h2 h3 (by omega)
  unfold polV
  go_enter Tryz.func101, Tryz.ntmps101
  go_upto_region 3 with fail
  obtain ⟨X, hX⟩ : ∃ X, X = (w.alloc (.cells #[.slice A1 p.els.length c1, .slice A2 p.glob.length c2, .slice A3 p.schemes.length c3, .bool p.rel, .slice A4 p.drop.length c4, .int .i64 p.depth, .int .i64 p.window] 29)).alloc (.cells #[.int .i64 X0] 3) := ⟨_, rfl⟩
  have hbX : Below w.heap.size w X := hX ▸ ((Below.refl _ _).alloc (Nat.le_refl _) _).alloc (by simp) _
  have m1 : Bl X w.heap.size 29 [.slice A1 p.els.length c1, .slice A2 p.glob.length c2, .slice A3 p.schemes.length c3, .bool p.rel, .slice A4 p.drop.length c4, .int .i64 p.depth, .int .i64 p.window] := hX ▸ (Bl.new w _ _ rfl).alloc _
  have n1 : Nv X (w.heap.size + 1) a0 := by unfold Nv; rw [← HX0.out]; exact hX ▸ Bl.new _ _ _ (by simp)
  rw [← hX]
  have HX := Lib.hid hX
  clear hX hw1 hv1 hw2 hv2 hw3 hv3
  have g1 := m1.cell 1 rfl
  have hz := hbX.size
  have hn1 := n1.lt
  go_upto_region 4 with (go_at_call 152; refine (HWC.out X 0 w.heap.size (HRD.out _ hbX).2.1 (by omega) n1).mono ?_; rintro e w1 ⟨rfl, n2, hf2⟩)
  have hb1 : Below w.heap.size w w1 := hbX.trans (hf2.below hz (by simp))
  have m2 := m1.of (hf2.block _ m1.lt (by simp))
  have g2 := m2.cell 0 rfl
  have he0 : Hid (elsN (p.els.take 0) = 0) := Lib.hid (by simp [elsN])
  obtain ⟨V0, hV0⟩ : ∃ V, V = a0 + wordsN p.glob := ⟨_, rfl⟩
  rw [← hV0] at n2
  have HTV : Hid (thingsN p = V0 + elsN p.els) := Lib.hid (by rw [hV0, hT.out])
  clear hV0 g1
  have hz1 := hf2.size
  go_wp2
  go_loopw [30] (fun i wr => ∃ k : Nat, k ≤ p.els.length ∧ i = .int .i64 k ∧ Hid (Nv wr (w.heap.size + 1) (V0 + elsN (p.els.take k)) ∧ Below w.heap.size w wr ∧ w1.heap.size ≤ wr.heap.size)) (fun i _ => p.els.length - (intOf i).toNat)
  case atStart => exact ⟨0, by omega, rfl, Lib.hid ⟨by rw [he0.out]; exact n2, hb1, Nat.le_refl _⟩⟩
  case round =>
    obtain ⟨k, hk, rfl, hst⟩ := hrel
    by_cases hlt : k < p.els.length
    · obtain ⟨b, off, u, rfl, hbb1, hbb2, hu, hcell⟩ := fmE.rd_at (HRD.out _ hst.out.2.1).1 hlt
      have hu' : kdR.rd wr 0 w.heap.size u p.els[k].rules := hu
      clear hu
      have e0 := hcell 0 _ rfl
      have e1 := hcell 1 _ rfl
      rw [show off + (k * fmE.size + 0) = off + k * 2 from rfl] at e0
      rw [show off + (k * fmE.size + 1) = off + k * 2 + 1 from by show off + (k * 2 + 1) = _; omega] at e1
      obtain ⟨A5, c5, rfl, _⟩ := fmR.rd_form hu'
      have hts := els_take_succ hlt
      have hsz := hst.out.2.2
      have e2 := hst.out.1.cell 0 rfl
      have hrl := HM3.out _ (List.getElem_mem hlt)
      generalize hq : V0 + elsN (p.els.take k) = V at *
      have HQ := Lib.hid hq
      have hwr := w64_add V p.els[k].rules.length
      have hwr' := w64_add' V p.els[k].rules.length
      obtain ⟨Y, hY⟩ : ∃ Y, Y = w64 V := ⟨_, rfl⟩
      obtain ⟨Y2, hY2⟩ : ∃ Y, Y = w64 (V + p.els[k].rules.length) := ⟨_, rfl⟩
      rw [← hY, ← hY2] at hwr hwr'
      rw [← hY] at e2
      have n3 := hst.out.1.alloc (.cells #[.string p.els[k].name, .slice A5 p.els[k].rules.length c5] 45)
      have e3 := n3.cell 0 rfl
      rw [← hY] at e3
      have e4 := n3.fz 0
      obtain ⟨W0, hW0⟩ : ∃ W, W = (wr.alloc (.cells #[.string p.els[k].name, .slice A5 p.els[k].rules.length c5] 45)).setCell ⟨w.heap.size + 1, 0, none⟩ (.int .i64 Y2) := ⟨_, rfl⟩
      have n4 : Nv W0 (w.heap.size + 1) (V + p.els[k].rules.length) := by unfold Nv; rw [← hY2]; exact hW0 ▸ (hst.out.1.alloc _).set 0 _
      have k5 : Bl W0 wr.heap.size 45 [.string p.els[k].name, .slice A5 p.els[k].rules.length c5] := hW0 ▸ (Bl.new wr _ _ rfl).other (p := ⟨w.heap.size + 1, 0, none⟩) (by show wr.heap.size ≠ w.heap.size + 1; omega) _
      have hf5 : Fr [w.heap.size + 1] wr W0 := hW0 ▸ (Fr.alloc _ _ _).trans (Fr.setCell _ ⟨w.heap.size + 1, 0, none⟩ _ (.inl (by simp)))
      have y1 := k5.cell 1 rfl
      have hu0 : kdR.rd W0 0 w.heap.size (.slice A5 p.els[k].rules.length c5) p.els[k].rules := kdR.stay hu' fun j _ hj => hf5.block j (by omega) (by simp; omega)
      have HC := Lib.hid (wordsC p.els[k].rules A5 p.els[k].rules.length c5 (w.heap.size + 1) (V + p.els[k].rules.length) 0 w.heap.size W0 hu0 (by omega) n4 hrl)
      have HTS := Lib.hid hts
      have HX2 := Lib.hid hW0
      clear hW0 hu0 n4 k5 hts hu' hcell n3 hq hY hY2
      go_wp2_with (go_at_call 152; rw [← HX2.out]; refine HC.out.mono ?_; rintro e w3 ⟨rfl, n5, hf6⟩)
      have hbe : Below w.heap.size w w3 := (hst.out.2.1.trans (hf5.below (by omega) (by simp))).trans (hf6.below (by have := hf5.size; omega) (by simp))
      go_roundw
      case rel => exact ⟨k + 1, by omega, by go_num, Lib.hid ⟨by rw [HTS.out, ← Nat.add_assoc, HQ.out, ← Nat.add_assoc]; exact n5, hbe, by have := hf5.size; have := hf6.size; omega⟩⟩
      case measure => simp [intOf] <;> omega
    · obtain rfl : k = p.els.length := by omega
      have hfin := hst.out
      rw [List.take_length, ← HTV.out] at hfin
      have e2 := hfin.1.cell 0 rfl
      go_wp2
      go_ret
      exact ⟨rfl, hfin.2.1⟩
end Go.Proofs.YteikagdinecfoaaGreatDoor.Th
