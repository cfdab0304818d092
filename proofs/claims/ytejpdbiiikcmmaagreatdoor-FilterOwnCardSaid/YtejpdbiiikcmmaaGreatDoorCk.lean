/- How many things a policy has: the program's things, limitsRight. -/
import Derived.Test.YtejpdbiiikcmmaaGreatDoorBk
import Derived.Test.YtejpdbiiikcmmaaGreatDoorCi
import Derived.Deep.RegionHeld3
import Derived.Deep.DrawnRows
import Derived.Shelf.SlicesE.IndexFunc
import Derived.Test.YtejpdbiiikcmmaaGreatDoorSr
import Derived.Test.YtejpdbiiikcmmaaGreatDoorLk
set_option linter.unusedVariables false
set_option linter.unusedSimpArgs false
namespace Go.Proofs.YtejpdbiiikcmmaaGreatDoor.Th
open Go.RowKit Lb Gr Pd Fl Go.Proofs.YtejpdbiiikcmmaaGreatDoor.Pm Bk

theorem words_app (a b : List RuleD) : wordsN (a ++ b) = wordsN a + wordsN b := by unfold wordsN; simp
theorem words_take_succ {l : List RuleD} {k : Nat} (h : k < l.length) : wordsN (l.take (k + 1)) = wordsN (l.take k) + l[k].words.length := by
  rw [List.take_succ_eq_append_getElem h, words_app]; simp [wordsN]
theorem words_take_le (l : List RuleD) (k : Nat) : wordsN (l.take k) ≤ wordsN l := by
  have := words_app (l.take k) (l.drop k)
  rw [List.take_append_drop] at this
  omega
theorem els_app (a b : List ElD) : elsN (a ++ b) = elsN a + elsN b := by unfold elsN; simp
theorem els_take_succ {l : List ElD} {k : Nat} (h : k < l.length) : elsN (l.take (k + 1)) = elsN (l.take k) + (l[k].rules.length + wordsN l[k].rules) := by
  rw [List.take_succ_eq_append_getElem h, els_app]; simp [elsN]
theorem els_take_le (l : List ElD) (k : Nat) : elsN (l.take k) ≤ elsN l := by
  have := els_app (l.take k) (l.drop k)
  rw [List.take_append_drop] at this
  omega

/-- an int's number -/
def w64 (n : Nat) : Int := RowKit.wrap64 (n : Int)
theorem w64_add (a b : Nat) : RowKit.wrap64 (w64 a + (b : Int)) = w64 (a + b) := by unfold w64 RowKit.wrap64; omega
theorem w64_add' (a b : Nat) : IntKind.i64.wrap (w64 a + (b : Int)) = w64 (a + b) := by rw [IntKind.wrap_i64]; unfold w64 RowKit.wrap64; omega
theorem w64_in {n : Nat} (h : n ≤ 9223372036854775807) : w64 n = (n : Int) := by unfold w64 RowKit.wrap64; omega
theorem w64_two (a b : Nat) : RowKit.wrap64 ((a : Int) + (b : Int)) = w64 (a + b) := by unfold w64 RowKit.wrap64; omega
theorem w64_two' (a b : Nat) : IntKind.i64.wrap ((a : Int) + (b : Int)) = w64 (a + b) := by rw [IntKind.wrap_i64]; unfold w64 RowKit.wrap64; omega

/-- the number in the caller's variable -/
def Nv (w : World) (g : Nat) (a : Nat) : Prop := Bl w g 3 [.int .i64 (w64 a)]
set_option maxHeartbeats 2000000 in
set_option maxRecDepth 100000 in
theorem wordsC (l : List RuleD) (A : Option Addr) (n c g a lo hi : Nat) (w : World) (h : kdR.rd w lo hi (.slice A n c) l) (hh : hi ≤ g) (hg : Nv w g a) (hl : n ≤ 9223372036854775807) :
    Calls Tryz.prog 137 #[.slice A n c, .pointer (some ⟨g, 0, none⟩)] w fun e w' => e = .returned (.tuple #[]) ∧ Nv w' g (a + wordsN l) ∧ Fr [g] w w' := by
  have hn : n = l.length := by obtain ⟨_, _, hv, _⟩ := fmR.rd_form h; injection hv
  subst hn
  have hlt0 := hg.lt
  have HRD : Hid (∀ W, Fr [g] w W → kdR.rd W lo hi (.slice A l.length c) l) := Lib.hid fun W hW => kdR.stay h fun k _ hk => hW.block k (by omega) (by simp; omega)
  have hfr0 := Fr.refl [g] w
  have HW0 : Hid (wordsN (l.take 0) = 0) := Lib.hid (by simp [wordsN])
  clear h
  go_enter Tryz.func137, Tryz.ntmps137
  go_wp2
  go_loopw [7] (fun i wr => ∃ k : Nat, k ≤ l.length ∧ i = .int .i64 k ∧ Hid (Nv wr g (a + wordsN (l.take k)) ∧ Fr [g] w wr)) (fun i _ => l.length - (intOf i).toNat)
  case atStart => exact ⟨0, by omega, rfl, Lib.hid ⟨by rw [HW0.out]; exact hg, hfr0⟩⟩
  case round =>
    obtain ⟨k, hk, rfl, hst⟩ := hrel
    by_cases hlt : k < l.length
    · obtain ⟨b, off, u, rfl, hb1, hb2, hu, hcell⟩ := fmR.rd_at (HRD.out _ hst.out.2) hlt
      have c0 := hcell 0 _ rfl
      have c1 := hcell 1 _ rfl
      have c2 := hcell 2 _ rfl
      rw [show off + (k * fmR.size + 0) = off + k * 3 from rfl] at c0
      rw [show off + (k * fmR.size + 1) = off + k * 3 + 1 from by show off + (k * 3 + 1) = _; omega] at c1
      rw [show off + (k * fmR.size + 2) = off + k * 3 + 2 from by show off + (k * 3 + 2) = _; omega] at c2
      have hu' : kdW.rd wr lo hi u l[k].words := hu
      clear hu
      obtain ⟨A1, cc1, rfl, _⟩ := rdW_form hu'
      have hts := words_take_succ hlt
      have hsz := hst.out.2.size
      have hgn : g < wr.heap.size := by omega
      have n1 := (hst.out.1.alloc (.cells #[.string l[k].name, .int .i64 l[k].kind, .slice A1 l[k].words.length cc1] 51))
      have e0 := n1.cell 0 rfl
      have e1 := n1.fz 0
      have e2 := hst.out.1.cell 0 rfl
      have k5 : Bl (wr.alloc (.cells #[.string l[k].name, .int .i64 l[k].kind, .slice A1 l[k].words.length cc1] 51)) wr.heap.size 51 [.string l[k].name, .int .i64 l[k].kind, .slice A1 l[k].words.length cc1] := Bl.new wr _ _ rfl
      have y2 := k5.cell 2 rfl
      have hwr : IntKind.i64.wrap (w64 (a + wordsN (l.take k)) + (l[k].words.length : Int)) = w64 (a + wordsN (l.take (k + 1))) := by rw [w64_add', hts, Nat.add_assoc]
      have hwr2 : RowKit.wrap64 (w64 (a + wordsN (l.take k)) + (l[k].words.length : Int)) = w64 (a + wordsN (l.take (k + 1))) := by rw [w64_add, hts, Nat.add_assoc]
      have n2 := (hst.out.1.alloc (.cells #[.string l[k].name, .int .i64 l[k].kind, .slice A1 l[k].words.length cc1] 51)).set 0 (.int .i64 (w64 (a + wordsN (l.take (k + 1)))))
      have hf2 : Fr [g] w ((wr.alloc (.cells #[.string l[k].name, .int .i64 l[k].kind, .slice A1 l[k].words.length cc1] 51)).setCell ⟨g, 0, none⟩ (.int .i64 (w64 (a + wordsN (l.take (k + 1)))))) := (hst.out.2.trans (Fr.alloc _ _ _)).trans (Fr.setCell _ ⟨g, 0, none⟩ _ (.inl (by simp)))
      have n2' := (hst.out.1.set 0 (.int .i64 (w64 (a + wordsN (l.take (k + 1)))))).alloc (.cells #[.string l[k].name, .int .i64 l[k].kind, .slice A1 l[k].words.length cc1] 51)
      have hf2' : Fr [g] w ((wr.setCell ⟨g, 0, none⟩ (.int .i64 (w64 (a + wordsN (l.take (k + 1)))))).alloc (.cells #[.string l[k].name, .int .i64 l[k].kind, .slice A1 l[k].words.length cc1] 51)) := (hst.out.2.trans (Fr.setCell _ ⟨g, 0, none⟩ _ (.inl (by simp)))).trans (Fr.alloc _ _ _)
      generalize hX : w64 (a + wordsN (l.take k)) = X at *
      generalize hY : w64 (a + wordsN (l.take (k + 1))) = Y at *
      have hXY := Lib.hid hX
      have hYY := Lib.hid hY
      have hrel1 : Hid (Nv ((wr.alloc (.cells #[.string l[k].name, .int .i64 l[k].kind, .slice A1 l[k].words.length cc1] 51)).setCell ⟨g, 0, none⟩ (.int .i64 Y)) g (a + wordsN (l.take (k + 1))) ∧ Fr [g] w ((wr.alloc (.cells #[.string l[k].name, .int .i64 l[k].kind, .slice A1 l[k].words.length cc1] 51)).setCell ⟨g, 0, none⟩ (.int .i64 Y))) := Lib.hid ⟨by unfold Nv; rw [hY]; exact n2, hf2⟩
      have hrel2 : Hid (Nv ((wr.setCell ⟨g, 0, none⟩ (.int .i64 Y)).alloc (.cells #[.string l[k].name, .int .i64 l[k].kind, .slice A1 l[k].words.length cc1] 51)) g (a + wordsN (l.take (k + 1))) ∧ Fr [g] w ((wr.setCell ⟨g, 0, none⟩ (.int .i64 Y)).alloc (.cells #[.string l[k].name, .int .i64 l[k].kind, .slice A1 l[k].words.length cc1] 51))) := Lib.hid ⟨by unfold Nv; rw [hY]; exact n2', hf2'⟩
      clear n1 n2 hf2 n2' hf2' hcell hu' hts hst hX hY
      go_wp2
      go_roundw
      case rel => exact ⟨k + 1, by omega, by go_num, by first | exact hrel2 | exact hrel1⟩
      case measure => simp [intOf] <;> omega
    · obtain rfl : k = l.length := by omega
      go_wp2
      go_end0
      have := hst.out
      rw [List.take_length] at this
      exact ⟨rfl, this.1, this.2⟩

set_option maxHeartbeats 4000000 in
set_option maxRecDepth 100000 in
theorem thingsC (x : Vs) (p : PolD) (w : World) (h : RdP w 0 w.heap.size x p) (hm : p.els.length ≤ 9223372036854775807 ∧ p.glob.length ≤ 9223372036854775807 ∧ ∀ e ∈ p.els, e.rules.length ≤ 9223372036854775807) : Calls Tryz.prog 72 #[polV x p] w fun e w' => e = .returned (.int .i64 (w64 (thingsN p))) ∧ Below w.heap.size w w' := by
  obtain ⟨A1, c1, A2, c2, A3, c3, A4, c4, rfl, q1, q2, q3, q4, q5, q6, q7, q8⟩ := h.form
  have HRD : Hid (∀ W, Below w.heap.size w W → RdP W 0 w.heap.size ⟨.slice A1 p.els.length c1, .slice A2 p.glob.length c2, .slice A3 p.schemes.length c3, .slice A4 p.drop.length c4⟩ p) := Lib.hid fun W hW => h.stay (stay_below hW (Nat.le_refl _))
  clear h
  obtain ⟨hm1, hm2, hm3⟩ := hm
  have HM3 := Lib.hid hm3
  have hT : Hid (thingsN p = p.els.length + p.glob.length + p.schemes.length + p.drop.length + wordsN p.glob + elsN p.els) := Lib.hid rfl
  have hw1 := w64_two p.els.length p.glob.length
  have hv1 := w64_two' p.els.length p.glob.length
  have hw2 := w64_add (p.els.length + p.glob.length) p.schemes.length
  have hv2 := w64_add' (p.els.length + p.glob.length) p.schemes.length
  have hw3 := w64_add (p.els.length + p.glob.length + p.schemes.length) p.drop.length
  have hv3 := w64_add' (p.els.length + p.glob.length + p.schemes.length) p.drop.length
  obtain ⟨a0, ha0⟩ : ∃ a0, a0 = p.els.length + p.glob.length + p.schemes.length + p.drop.length := ⟨_, rfl⟩
  rw [← ha0] at hw3 hv3 hT
  generalize w64 (p.els.length + p.glob.length + p.schemes.length) = X1 at *
  generalize w64 (p.els.length + p.glob.length) = X2 at *
  obtain ⟨X0, hX0⟩ : ∃ X0, X0 = w64 a0 := ⟨_, rfl⟩
  rw [← hX0] at hw3 hv3
  have HX0 := Lib.hid hX0
  clear ha0 hm3 hX0
  have HWC : Hid (∀ W lo hi, kdR.rd W lo hi (.slice A2 p.glob.length c2) p.glob → hi ≤ w.heap.size + 1 → Nv W (w.heap.size + 1) a0 → Calls Tryz.prog 137 #[.slice A2 p.glob.length c2, .pointer (some ⟨w.heap.size + 1, 0, none⟩)] W fun e w' => e = .returned (.tuple #[]) ∧ Nv w' (w.heap.size + 1) (a0 + wordsN p.glob) ∧ Fr [w.heap.size + 1] W w') :=
    Lib.hid fun W lo hi h1 h2 h3 => wordsC p.glob A2 p.glob.length c2 (w.heap.size + 1) a0 lo hi W h1 h2 h3 (by omega)
  unfold polV
  go_enter Tryz.func72, Tryz.ntmps72
  go_upto_region 3 with fail
  obtain ⟨X, hX⟩ : ∃ X, X = (w.alloc (.cells #[.slice A1 p.els.length c1, .slice A2 p.glob.length c2, .slice A3 p.schemes.length c3, .bool p.rel, .slice A4 p.drop.length c4, .int .i64 p.depth, .int .i64 p.window] 27)).alloc (.cells #[.int .i64 X0] 3) := ⟨_, rfl⟩
  have hbX : Below w.heap.size w X := hX ▸ ((Below.refl _ _).alloc (Nat.le_refl _) _).alloc (by simp) _
  have m1 : Bl X w.heap.size 27 [.slice A1 p.els.length c1, .slice A2 p.glob.length c2, .slice A3 p.schemes.length c3, .bool p.rel, .slice A4 p.drop.length c4, .int .i64 p.depth, .int .i64 p.window] := hX ▸ (Bl.new w _ _ rfl).alloc _
  have n1 : Nv X (w.heap.size + 1) a0 := by unfold Nv; rw [← HX0.out]; exact hX ▸ Bl.new _ _ _ (by simp)
  rw [← hX]
  have HX := Lib.hid hX
  clear hX hw1 hv1 hw2 hv2 hw3 hv3
  have g1 := m1.cell 1 rfl
  have hz := hbX.size
  have hn1 := n1.lt
  go_upto_region 4 with (go_at_call 137; refine (HWC.out X 0 w.heap.size (HRD.out _ hbX).2.1 (by omega) n1).mono ?_; rintro e w1 ⟨rfl, n2, hf2⟩)
  have hb1 : Below w.heap.size w w1 := hbX.trans (hf2.below hz (by simp))
  have m2 := m1.of (hf2.block _ m1.lt (by simp))
  have g2 := m2.cell 0 rfl
  have he0 : Hid (elsN (p.els.take 0) = 0) := Lib.hid (by simp [elsN])
  obtain ⟨V0, hV0⟩ : ∃ V, V = a0 + wordsN p.glob := ⟨_, rfl⟩
  rw [← hV0] at n2
  have HTV : Hid (thingsN p = V0 + elsN p.els) := Lib.hid (by rw [hV0, hT.out])
  clear hV0 g1
  have hz1 := hf2.size
  go_wp2
  go_loopw [30] (fun i wr => ∃ k : Nat, k ≤ p.els.length ∧ i = .int .i64 k ∧ Hid (Nv wr (w.heap.size + 1) (V0 + elsN (p.els.take k)) ∧ Below w.heap.size w wr ∧ w1.heap.size ≤ wr.heap.size)) (fun i _ => p.els.length - (intOf i).toNat)
  case atStart => exact ⟨0, by omega, rfl, Lib.hid ⟨by rw [he0.out]; exact n2, hb1, Nat.le_refl _⟩⟩
  case round =>
    obtain ⟨k, hk, rfl, hst⟩ := hrel
    by_cases hlt : k < p.els.length
    · obtain ⟨b, off, u, rfl, hbb1, hbb2, hu, hcell⟩ := fmE.rd_at (HRD.out _ hst.out.2.1).1 hlt
      have hu' : kdR.rd wr 0 w.heap.size u p.els[k].rules := hu
      clear hu
      have e0 := hcell 0 _ rfl
      have e1 := hcell 1 _ rfl
      rw [show off + (k * fmE.size + 0) = off + k * 2 from rfl] at e0
      rw [show off + (k * fmE.size + 1) = off + k * 2 + 1 from by show off + (k * 2 + 1) = _; omega] at e1
      obtain ⟨A5, c5, rfl, _⟩ := fmR.rd_form hu'
      have hts := els_take_succ hlt
      have hsz := hst.out.2.2
      have e2 := hst.out.1.cell 0 rfl
      have hrl := HM3.out _ (List.getElem_mem hlt)
      generalize hq : V0 + elsN (p.els.take k) = V at *
      have HQ := Lib.hid hq
      have hwr := w64_add V p.els[k].rules.length
      have hwr' := w64_add' V p.els[k].rules.length
      obtain ⟨Y, hY⟩ : ∃ Y, Y = w64 V := ⟨_, rfl⟩
      obtain ⟨Y2, hY2⟩ : ∃ Y, Y = w64 (V + p.els[k].rules.length) := ⟨_, rfl⟩
      rw [← hY, ← hY2] at hwr hwr'
      rw [← hY] at e2
      have n3 := hst.out.1.alloc (.cells #[.string p.els[k].name, .slice A5 p.els[k].rules.length c5] 59)
      have e3 := n3.cell 0 rfl
      rw [← hY] at e3
      have e4 := n3.fz 0
      obtain ⟨W0, hW0⟩ : ∃ W, W = (wr.alloc (.cells #[.string p.els[k].name, .slice A5 p.els[k].rules.length c5] 59)).setCell ⟨w.heap.size + 1, 0, none⟩ (.int .i64 Y2) := ⟨_, rfl⟩
      have n4 : Nv W0 (w.heap.size + 1) (V + p.els[k].rules.length) := by unfold Nv; rw [← hY2]; exact hW0 ▸ (hst.out.1.alloc _).set 0 _
      have k5 : Bl W0 wr.heap.size 59 [.string p.els[k].name, .slice A5 p.els[k].rules.length c5] := hW0 ▸ (Bl.new wr _ _ rfl).other (p := ⟨w.heap.size + 1, 0, none⟩) (by show wr.heap.size ≠ w.heap.size + 1; omega) _
      have hf5 : Fr [w.heap.size + 1] wr W0 := hW0 ▸ (Fr.alloc _ _ _).trans (Fr.setCell _ ⟨w.heap.size + 1, 0, none⟩ _ (.inl (by simp)))
      have y1 := k5.cell 1 rfl
      have hu0 : kdR.rd W0 0 w.heap.size (.slice A5 p.els[k].rules.length c5) p.els[k].rules := kdR.stay hu' fun j _ hj => hf5.block j (by omega) (by simp; omega)
      have HC := Lib.hid (wordsC p.els[k].rules A5 p.els[k].rules.length c5 (w.heap.size + 1) (V + p.els[k].rules.length) 0 w.heap.size W0 hu0 (by omega) n4 hrl)
      have HTS := Lib.hid hts
      have HX2 := Lib.hid hW0
      clear hW0 hu0 n4 k5 hts hu' hcell n3 hq hY hY2
      go_wp2_with (go_at_call 137; rw [← HX2.out]; refine HC.out.mono ?_; rintro e w3 ⟨rfl, n5, hf6⟩)
      have hbe : Below w.heap.size w w3 := (hst.out.2.1.trans (hf5.below (by omega) (by simp))).trans (hf6.below (by have := hf5.size; omega) (by simp))
      go_roundw
      case rel => exact ⟨k + 1, by omega, by go_num, Lib.hid ⟨by rw [HTS.out, ← Nat.add_assoc, HQ.out, ← Nat.add_assoc]; exact n5, hbe, by have := hf5.size; have := hf6.size; omega⟩⟩
      case measure => simp [intOf] <;> omega
    · obtain rfl : k = p.els.length := by omega
      have hfin := hst.out
      rw [List.take_length, ← HTV.out] at hfin
      have e2 := hfin.1.cell 0 rfl
      go_wp2
      go_ret
      exact ⟨rfl, hfin.2.1⟩
end Go.Proofs.YtejpdbiiikcmmaaGreatDoor.Th

/- The library's Contains and Fields at texts; the program's among, kinds, word. -/
set_option linter.unusedVariables false
set_option linter.unusedSimpArgs false
namespace Go.Proofs.YtejpdbiiikcmmaaGreatDoor.Sl
open Go.RowKit Lb Gr Pd Fl Go.Proofs.YtejpdbiiikcmmaaGreatDoor.Pm Bk Is

theorem rd0 {w : World} {lo hi n c : Nat} {A : Option Addr} {l : List ByteArray} (h : kdW.rd w lo hi (.slice A n c) l) : n = l.length := by
  obtain ⟨_, _, hv, _⟩ := h; injection hv
theorem containsS_hasT (l : List ByteArray) (s : ByteArray) : Lib.containsS l s = hasT l s := by
  rw [Bool.eq_iff_iff, Lib.containsS_iff, hasT_iff]
/-- slices.Contains at texts -/
theorem libContains {w : World} {lo hi n c : Nat} {A : Option Addr} {l : List ByteArray} (h : kdW.rd w lo hi (.slice A n c) l) (hn : n ≤ 9223372036854775807) (s : ByteArray) : Calls Tryz.prog 71 #[.slice A n c, .string s] w fun e w' => e = .returned (.bool (hasT l s)) ∧ w = w' := by
  have h0 := rd0 h
  subst h0
  rcases Nat.eq_zero_or_pos l.length with h1 | h1
  · have hl0 := List.eq_nil_of_length_eq_zero h1
    subst hl0
    refine (Tryz.slices_Contains_string_empty A c s w).mono ?_
    rintro e w' ⟨rfl, rfl⟩
    exact ⟨rfl, rfl⟩
  · obtain ⟨b, off, rfl, _, _, hc⟩ := rdW_cells h h1
    refine (Tryz.slices_Contains_string b off l.length c l s w (Nat.le_refl _) hn hc).mono ?_
    rintro e w' ⟨rfl, rfl⟩
    exact ⟨by rw [List.take_length, containsS_hasT], rfl⟩
/-- strings.Fields of a plain text -/
theorem libFieldsC (t : ByteArray) (w : World) (ht : Tab w) (hs : t.size < 4294967281) (ha : t.data.toList.all (fun b => decide (b.toNat < 128)) = true) (hf : Lib.fields t.data.toList = fieldsL t.data.toList) : Calls Tryz.prog 147 #[.string t] w fun e w' =>
    ∃ A c G, e = .returned (.slice A (fieldsS t).length c) ∧ kdW.own w' w.heap.size (.slice A (fieldsS t).length c) (fieldsS t) G ∧ Below w.heap.size w w' := by
  refine (Tryz.strings_Fields t w hs ?_ ht).mono ?_
  · intro j b hb
    rw [List.all_eq_true] at ha
    simpa using ha b (List.mem_of_getElem? hb)
  · rintro e w' ⟨rfl, rfl⟩
    rw [hf]
    have hle : (fieldsL t.data.toList).length ≤ maxLen := by
      have h1 := flds_length t.data.toList []
      have h3 : (fieldsL t.data.toList).length = (flds [] t.data.toList).length := rfl
      rw [size_len] at h1
      unfold maxLen; omega
    have hl : (fieldsS t).length = (fieldsL t.data.toList).length := by unfold fieldsS; rw [List.length_map]
    rw [hl]
    refine ⟨_, _, _, rfl, ⟨?_, rfl⟩, (Below.refl _ _).alloc (Nat.le_refl _) _⟩
    have := World.ownsRow_lit (base := w.heap.size) (e := 9) (size := 1) w ((fieldsL t.data.toList).map fun l => Value.string ⟨l.toArray⟩).toArray (fieldsL t.data.toList).length (Nat.le_refl _) hle (by simp)
    simp at this
    rw [hl]
    unfold fieldsS
    rw [List.map_map]
    exact this

set_option maxHeartbeats 1000000 in
set_option maxRecDepth 100000 in
theorem amongC (s t : ByteArray) (w : World) (ht : Tab w) (hs : t.size < 4294967281) (ha : t.data.toList.all (fun b => decide (b.toNat < 128)) = true) (hf : Lib.fields t.data.toList = fieldsL t.data.toList) :
    Calls Tryz.prog 262 #[.string s, .string t] w fun e w' => e = .returned (.bool (hasT (fieldsS t) s)) ∧ Below w.heap.size w w' := by
  have hlen : (fieldsS t).length ≤ 9223372036854775807 := by
    have h1 := flds_length t.data.toList []
    rw [size_len] at h1
    unfold fieldsS fieldsL
    rw [List.length_map]
    omega
  have HF := Lib.hid (libFieldsC t w ht hs ha hf)
  clear ha hf ht
  generalize fieldsS t = l at *
  go_enter Tryz.func262, Tryz.ntmps262
  go_wp2_with (first
    | (go_at_call 147; refine HF.out.mono ?_; rintro e w1 ⟨A, c, G, rfl, ho, hb⟩)
    | (go_at_call 71; refine (libContains (kdW.read ho (Nat.le_refl _) (Nat.le_refl _)) hlen s).mono ?_; rintro e w2 ⟨rfl, rfl⟩))
  go_ret
  exact ⟨rfl, hb⟩

/-- the kinds' names -/
def kindsL : List ByteArray := [str [97, 110, 121], str [116, 111, 107, 101, 110, 115], str [110, 97, 109, 101], str [110, 117, 109, 98, 101, 114], str [108, 101, 110, 103, 116, 104], str [108, 105, 110, 107], str [108, 97, 110, 103], str [111, 110, 101, 111, 102], str [102, 108, 97, 103]]
set_option maxHeartbeats 1000000 in
set_option maxRecDepth 100000 in
theorem kindsC (w : World) : Calls Tryz.prog 155 #[] w fun e w' =>
    ∃ A G, e = .returned (.slice A 9 9) ∧ kdW.own w' w.heap.size (.slice A 9 9) kindsL G ∧ Below w.heap.size w w' := by
  go_enter Tryz.func155, Tryz.ntmps155
  go_wp2
  go_ret
  refine ⟨_, _, rfl, ⟨?_, rfl⟩, (Below.refl _ _).alloc (Nat.le_refl _) _⟩
  exact World.ownsRow_lit (base := w.heap.size) (e := 9) (size := 1) w _ 9 (Nat.le_refl _) (by simp [maxLen]) rfl

theorem okW_no {c : UInt8} (h : (c.toNat : Int) < 33 ∨ (126 : Int) < c.toNat) : okW c = false := by
  unfold okW; rcases h with h | h
  · have : ¬ 33 ≤ c.toNat := by omega
    simp [this]
  · have : ¬ c.toNat ≤ 126 := by omega
    simp [this]
theorem okW_yes {c : UInt8} (h1 : ¬ (c.toNat : Int) < 33) (h2 : ¬ (126 : Int) < c.toNat) : okW c = true := by
  unfold okW
  have h3 : 33 ≤ c.toNat := by omega
  have h4 : c.toNat ≤ 126 := by omega
  simp [h3, h4]
set_option maxHeartbeats 1000000 in
set_option maxRecDepth 100000 in
theorem wordC (s : ByteArray) (w : World) : Calls Tryz.prog 265 #[.string s] w fun e w' => e = .returned (.bool (wordB s)) ∧ w = w' := by
  have hsl := size_len s
  by_cases h0 : s.size = 0
  · have hw : Hid (wordB s = false) := Lib.hid (by unfold wordB; rw [h0]; rfl)
    have e0 := toList_nil h0
    go_enter Tryz.func265, Tryz.ntmps265
    go_wp2
    go_ret
    exact ⟨rb hw.out, rfl⟩
  · by_cases h1 : 100 < s.size
    · have hw : Hid (wordB s = false) := Lib.hid (by unfold wordB; have : ¬ s.size ≤ 100 := by omega
                                                     simp [this])
      have e0 := toList_ne (s := s) (by omega)
      have e1 := isEmpty_ne (s := s) (by omega)
      go_enter Tryz.func265, Tryz.ntmps265
      go_wp2
      go_ret
      exact ⟨rb hw.out, rfl⟩
    · have HW : Hid (wordB s = s.data.toList.all okW) := Lib.hid (by
        unfold wordB
        have h2 : 1 ≤ s.size := by omega
        have h3 : s.size ≤ 100 := by omega
        simp [h2, h3])
      have e0 := toList_ne (s := s) (by omega)
      have e1 := isEmpty_ne (s := s) (by omega)
      go_enter Tryz.func265, Tryz.ntmps265
      go_wp2
      go_loopw [13] (fun i wr => ∃ k : Nat, k ≤ s.size ∧ i = .int .i64 k ∧ wr = w ∧ Hid (∀ j (hj : j < k) (h : j < s.size), okW s[j] = true)) (fun i _ => s.size - (intOf i).toNat)
      case atStart => exact ⟨0, by omega, rfl, rfl, Lib.hid (fun j hj => by omega)⟩
      case round =>
        obtain ⟨k, hk, rfl, rfl, hall⟩ := hrel
        by_cases hlt : k < s.size
        · by_cases hb : okW s[k] = true
          · have HB := Lib.hid hb
            have b1 : ¬ ((s[k].toNat : Int) < 33) := fun h => by rw [okW_no (.inl h)] at hb; cases hb
            have b2 : ¬ ((126 : Int) < s[k].toNat) := fun h => by rw [okW_no (.inr h)] at hb; cases hb
            clear hb
            go_wp2
            go_roundw
            case rel => exact ⟨k + 1, by omega, by go_num, (by first | rfl | trivial), Lib.hid (fun j hj h => by
              by_cases e : j = k
              · subst e; exact HB.out
              · exact hall.out j (by omega) h)⟩
            case measure => simp [intOf] <;> omega
          · have hf : Hid (wordB s = false) := Lib.hid (by
              rw [HW.out, List.all_eq_false]
              exact ⟨s[k], by rw [at_list]; exact List.getElem_mem _, hb⟩)
            by_cases b1 : (s[k].toNat : Int) < 33
            · go_wp2
              go_ret
              exact ⟨rb hf.out, rfl⟩
            · by_cases b2 : (126 : Int) < s[k].toNat
              · go_wp2
                go_ret
                exact ⟨rb hf.out, rfl⟩
              · exact absurd (okW_yes b1 b2) hb
        · have ht : Hid (wordB s = true) := Lib.hid (by
            rw [HW.out, List.all_eq_true]
            intro c hc
            obtain ⟨j, hj, rfl⟩ := List.getElem_of_mem hc
            have hj' : j < s.size := by rw [← size_len]; exact hj
            have := hall.out j (by omega) hj'
            rw [at_list] at this
            exact this)
          go_wp2
          go_ret
          exact ⟨rb ht.out, rfl⟩
end Go.Proofs.YtejpdbiiikcmmaaGreatDoor.Sl

/- May a rule be, may a list of rules be: the program's ruleMay and rulesMay. -/
set_option linter.unusedVariables false
set_option linter.unusedSimpArgs false
namespace Go.Proofs.YtejpdbiiikcmmaaGreatDoor.Rm
open Go.RowKit Lb Gr Pd Fl Go.Proofs.YtejpdbiiikcmmaaGreatDoor.Pm Bk Is Sl Ha
attribute [local go_sem ↓] Go.wp_at_zero Go.wp_at_succ

theorem bar_lib : Lib.fields barT.data.toList = fieldsL barT.data.toList := by decide +kernel
theorem link_lib : Lib.fields linkT.data.toList = fieldsL linkT.data.toList := by decide +kernel
theorem bar_asc : barT.data.toList.all (fun b => decide (b.toNat < 128)) = true := by decide +kernel
theorem link_asc : linkT.data.toList.all (fun b => decide (b.toNat < 128)) = true := by decide +kernel

/-! ### is there a rule of that name already -/
set_option maxRecDepth 100000 in
theorem rulePred (s : ByteArray) (B : Nat) (w : World) (hB : B < w.heap.size) (hcell : w.cell? ⟨B, 0, none⟩ = some (.string s)) :
    PredBelow Tryz.prog 263 #[.pointer (some ⟨B, 0, none⟩)] (fun x => .agg (encR x).toArray) (fun x => decide (x.n = s)) w := fun W x hb => by
  have hc : W.cell? ⟨B, 0, none⟩ = some (.string s) := (hb.cell (p := ⟨B, 0, none⟩) hB).trans hcell
  have hBW : B < W.heap.size := Nat.lt_of_lt_of_le hB hb.size
  have hne : B ≠ W.heap.size := by omega
  have hq : ∀ W', Below W.heap.size W W' → W'.cell? ⟨B, 0, none⟩ = some (.string s) := fun W' h => (h.cell (p := ⟨B, 0, none⟩) hBW).trans hc
  have hc2 := hq _ ((Below.refl _ W).alloc (Nat.le_refl _) (.cells #[.string x.n, .int .i64 x.k, .slice x.a x.l x.c] 51))
  have HQ := Lib.hid hq
  clear hq
  show Calls Tryz.prog 263 #[.agg #[.string x.n, .int .i64 x.k, .slice x.a x.l x.c], .pointer (some ⟨B, 0, none⟩)] W _
  go_enter Tryz.func263, Tryz.ntmps263
  go_wp2
  go_ret
  exact ⟨(by rw [eq_str]; rfl), hb.alloc hb.size _⟩
/-- the library's ContainsFunc at rules, for a closure that asks for a name -/
theorem containsRuC {g : Nat} (eg : ∀ args w, (callFunc g args).run Tryz.prog w = .ok (.enter g args) w) (hg : ∀ (s : ByteArray) (B : Nat) (w : World), B < w.heap.size → w.cell? ⟨B, 0, none⟩ = some (.string s) → PredBelow Tryz.prog g #[.pointer (some ⟨B, 0, none⟩)] (fun x => .agg (encR x).toArray) (fun x => decide (x.n = s)) w)
    {A : Option Addr} {n c lo : Nat} {l : List RuleD} {w : World} (h : kdR.rd w lo w.heap.size (.slice A n c) l) (hl : n ≤ 9223372036854775807) (s : ByteArray) (B : Nat) (hB : B < w.heap.size) (hcell : w.cell? ⟨B, 0, none⟩ = some (.string s)) :
    Calls Tryz.prog 131 #[.slice A n c, .func (.func g) #[] #[.pointer (some ⟨B, 0, none⟩)]] w fun e w' => e = .returned (.bool (hasR l s)) ∧ Below w.heap.size w w' := by
  have hn : n = l.length := by obtain ⟨_, _, hv, _⟩ := fmR.rd_form h; injection hv
  subst hn
  rcases Nat.eq_zero_or_pos l.length with h0 | h0
  · have hl0 := List.eq_nil_of_length_eq_zero h0
    subst hl0
    refine (containsRu0 A c _ w).mono ?_
    rintro e w' ⟨rfl, rfl⟩
    exact ⟨rfl, Below.refl _ _⟩
  · obtain ⟨b, off, zs, rfl, _, hbw, hz, hzn, hc⟩ := rdR_cells h h0
    have hcon := AnyQ.slices_ContainsFunc Tryz.containsRu 3 Tryz.isAgg51 Tryz.sizeOf51 encR (fun _ => rfl) (fun x => decide (x.n = s)) g #[.pointer (some ⟨B, 0, none⟩)] eg b off l.length c zs w (hg s B w hB hcell) (by omega) hl hbw hc
    refine hcon.mono ?_
    rintro e w' ⟨rfl, hb⟩
    refine ⟨?_, hb⟩
    rw [List.take_of_length_le (by omega)]
    have e1 : zs.any (fun x => decide (x.n = s)) = (zs.map RC.n).any (fun x => decide (x = s)) := by rw [List.any_map]; rfl
    rw [e1, hzn, List.any_map]
    rfl

/-! ### a word that may not be -/
set_option maxRecDepth 100000 in
theorem wordGives (x : ByteArray) (W : World) : FnGives Tryz.prog 264 #[] #[.string x] (.bool (!wordB x)) W := by
  show Calls Tryz.prog 264 #[.string x] W _
  have HW : Hid (∀ W, Calls Tryz.prog 265 #[.string x] W fun e w' => e = .returned (.bool (wordB x)) ∧ W = w') := Lib.hid fun W => wordC x W
  generalize wordB x = y at *
  cases y
  all_goals
    go_enter Tryz.func264, Tryz.ntmps264
    go_wp2_with (go_at_call 265; refine (HW.out _).mono ?_; rintro e w' ⟨rfl, rfl⟩)
    go_ret
    exact ⟨rfl, 0, rfl⟩
theorem badWord {A : Option Addr} {n c lo : Nat} {l : List ByteArray} {w : World} (h : kdW.rd w lo w.heap.size (.slice A n c) l) (hl : n ≤ 9223372036854775807) :
    Calls Tryz.prog 140 #[.slice A n c, .func (.func 264) #[] #[]] w fun e w' => e = .returned (.bool (!l.all wordB)) ∧ Below w.heap.size w w' := by
  have h0 := rd0 h
  subst h0
  rcases Nat.eq_zero_or_pos l.length with h1 | h1
  · have hl0 := List.eq_nil_of_length_eq_zero h1
    subst hl0
    refine (Tryz.slices_ContainsFunc_empty (α := ByteArray) A c _ w).mono ?_
    rintro e w' ⟨rfl, rfl⟩
    exact ⟨rfl, Below.refl _ _⟩
  · obtain ⟨b, off, rfl, _, _, hc⟩ := rdW_cells h h1
    have hcon := Tryz.slices_ContainsFunc (α := ByteArray) Value.string (fun x => !wordB x) 264 #[] (enters_of Tryz.func264 (by kernel_rfl) rfl) b off l.length c l w (fun W x _ => wordGives x W) (Nat.le_refl _) hl (fun j hj => by
      have := hc j hj
      rw [getElem!_pos l j hj]
      rw [this]
      simp [List.getD, List.getElem?_eq_getElem hj])
    refine hcon.mono ?_
    rintro e w' ⟨rfl, q, rfl⟩
    refine ⟨?_, drw w q⟩
    rw [List.take_length]
    have e1 : l.any (fun x => !wordB x) = !l.all wordB := by rw [List.not_all_eq_any_not]
    rw [e1]
end Go.Proofs.YtejpdbiiikcmmaaGreatDoor.Rm

/- May a rule be: the program's ruleMay. -/
set_option linter.unusedVariables false
set_option linter.unusedSimpArgs false
namespace Go.Proofs.YtejpdbiiikcmmaaGreatDoor.Rn
open Go.RowKit Lb Gr Pd Fl Go.Proofs.YtejpdbiiikcmmaaGreatDoor.Pm Bk Is Sl Ha Rm
attribute [local go_sem ↓] Go.wp_at_zero Go.wp_at_succ

theorem rb2 {a b : Bool} {e : Ending} (he : e = .returned (.bool a)) (h : b = a) : e = .returned (.bool b) := by rw [he, h]

theorem em7 (k : Int) : (Hid (k = 7) ∧ (k == 7) = true) ∨ (Hid (¬ k = 7) ∧ (k == 7) = false) := by
  by_cases h : k = 7
  · exact .inl ⟨h, by simpa using h⟩
  · exact .inr ⟨h, by simpa using h⟩
set_option maxHeartbeats 8000000 in
set_option maxRecDepth 100000 in
theorem ruleMayC (A A2 : Option Addr) (n c n2 c2 : Nat) (l : List RuleD) (r : RuleD) (w : World) (ht : Tab w) (h : kdR.rd w 0 w.heap.size (.slice A n c) l) (h2 : kdW.rd w 0 w.heap.size (.slice A2 n2 c2) r.words) (hn : n ≤ 9223372036854775807) (hn2 : n2 ≤ 9223372036854775807) (hs : r.name.size ≤ maxLen)
    (hk : -9223372036854775808 ≤ r.kind) (hk2 : r.kind ≤ 9223372036854775807) :
    Calls Tryz.prog 210 #[.slice A n c, .agg #[.string r.name, .int .i64 r.kind, .slice A2 n2 c2]] w fun e w' => e = .returned (.bool (ruleB l r)) ∧ Below w.heap.size w w' := by
  have hnn := rd0 h2
  subst hnn
  obtain ⟨X, hX⟩ : ∃ X, X = w.alloc (.cells #[.string r.name, .int .i64 r.kind, .slice A2 r.words.length c2] 51) := ⟨_, rfl⟩
  have hb0 : Below w.heap.size w X := hX ▸ (Below.refl _ _).alloc (Nat.le_refl _) _
  have k0 : Bl X w.heap.size 51 [.string r.name, .int .i64 r.kind, .slice A2 r.words.length c2] := hX ▸ Bl.new w _ _ rfl
  have HK0 : Hid (∀ W, Below X.heap.size X W → Bl W w.heap.size 51 [.string r.name, .int .i64 r.kind, .slice A2 r.words.length c2]) := Lib.hid fun W hW => k0.below hW
  have hz0 := hb0.size
  have hlt0 := k0.lt
  have HA : Hid (∀ W, Calls Tryz.prog 260 #[.string r.name] W fun e w' => e = .returned (.bool (wrt true r.name.data.toList)) ∧ W = w') := Lib.hid fun W => Go.Proofs.YtejpdbiiikcmmaaGreatDoor.Fm.nAttrName _ W
  have HE : Hid (∀ W, Calls Tryz.prog 261 #[.string r.name] W fun e w' => e = .returned (.bool (evt r.name.data.toList)) ∧ Below W.heap.size W w') := Lib.hid fun W => Go.Proofs.YtejpdbiiikcmmaaGreatDoor.Fm.nEvent _ W hs
  have HB : Hid (∀ W, Below X.heap.size X W → Calls Tryz.prog 262 #[.string r.name, .string barT] W fun e w' => e = .returned (.bool (hasT (fieldsS barT) r.name)) ∧ Below W.heap.size W w') := Lib.hid fun W hW => amongC _ _ W ((ht.below hb0).below hW) (by decide) bar_asc bar_lib
  have HL : Hid (∀ W, Below X.heap.size X W → Calls Tryz.prog 262 #[.string r.name, .string linkT] W fun e w' => e = .returned (.bool (hasT (fieldsS linkT) r.name)) ∧ Below W.heap.size W w') := Lib.hid fun W hW => amongC _ _ W ((ht.below hb0).below hW) (by decide) link_asc link_lib
  have HR : Hid (∀ W, Below X.heap.size X W → Calls Tryz.prog 131 #[.slice A n c, .func (.func 263) #[] #[.pointer (some ⟨w.heap.size, 0, none⟩)]] W fun e w' => e = .returned (.bool (hasR l r.name)) ∧ Below W.heap.size W w') :=
    Lib.hid fun W hW => containsRuC (enters_of Tryz.func263 (by kernel_rfl) rfl) rulePred (kdR.wide (rd_below h (hb0.trans (hW.mono hz0)) (Nat.le_refl _)) (Nat.le_refl _) (Nat.le_trans hz0 hW.size)) hn r.name w.heap.size (by have := hW.size; omega) ((k0.below hW).cell 0 rfl)
  have HW : Hid (∀ W, Below X.heap.size X W → Calls Tryz.prog 140 #[.slice A2 r.words.length c2, .func (.func 264) #[] #[]] W fun e w' => e = .returned (.bool (!r.words.all wordB)) ∧ Below W.heap.size W w') :=
    Lib.hid fun W hW => badWord (kdW.wide (rd_below h2 (hb0.trans (hW.mono hz0)) (Nat.le_refl _)) (Nat.le_refl _) (Nat.le_trans hz0 hW.size)) hn2
  have HX := Lib.hid hX
  have HB0 := Lib.hid hb0
  have HRB : Hid (ruleB l r = (wrt true r.name.data.toList && !evt r.name.data.toList && !hasT (fieldsS barT) r.name && !hasR l r.name && kindB r && !(hasT (fieldsS linkT) r.name && decide (r.kind ≠ 5)) && (decide (r.kind = 7) == decide (0 < r.words.length)) && r.words.all wordB)) := Lib.hid rfl
  have HKB : Hid (kindB r = (decide (0 ≤ r.kind) && decide (r.kind < 9))) := Lib.hid rfl
  clear hX hb0 h h2 ht hs
  generalize ruleB l r = res at *
  generalize kindB r = kb at *
  generalize r.words.all wordB = xw at *
  generalize hasT (fieldsS linkT) r.name = xl at *
  generalize hasR l r.name = xr at *
  generalize hasT (fieldsS barT) r.name = xb at *
  generalize evt r.name.data.toList = xe at *
  generalize wrt true r.name.data.toList = xa at *
  generalize r.words.length = m at *
  obtain ⟨nm, kd, ws⟩ := r
  have x0 := (HK0.out _ (Below.refl _ _)).cell 0 rfl
  have x1 := (HK0.out _ (Below.refl _ _)).cell 1 rfl
  have x2 := (HK0.out _ (Below.refl _ _)).cell 2 rfl
  cases xa
  · have hr : Hid (res = false) := Lib.hid (by rw [HRB.out]; rfl)
    go_enter Tryz.func210, Tryz.ntmps210
    go_wp2_with (go_at_call 260; refine (HA.out _).mono ?_; rintro e wa ⟨rfl, rfl⟩)
    go_ret
    rw [← HX.out]
    exact ⟨rb hr.out, HB0.out⟩
  · cases xe
    · cases xb
      · go_enter Tryz.func210, Tryz.ntmps210
        go_upto_region 3 with (first
          | (go_at_call 260; refine (HA.out _).mono ?_; rintro e wa ⟨rfl, rfl⟩; rw [← HX.out])
          | (go_at_call 261; refine (HE.out _).mono ?_; rintro e w1 ⟨rfl, hb1⟩; have k1 := HK0.out _ hb1; have y0 := k1.cell 0 rfl)
          | (go_at_call 262; refine (HB.out _ hb1).mono ?_; rintro e w2 ⟨rfl, hb2⟩; have hb3 := hb1.trans (hb2.mono hb1.size)))
        cases xr
        · go_upto_region 5 with (go_at_call 131; refine (HR.out _ hb3).mono ?_; rintro e w3 ⟨rfl, hb4⟩)
          have hb5 : Below X.heap.size X w3 := hb3.trans (hb4.mono hb3.size)
          have k5 := HK0.out _ hb5
          have k5d := HK0.out _ (hb5.drew)
          have u0 := k5.cell 0 rfl
          have u1 := k5.cell 1 rfl
          have u2 := k5.cell 2 rfl
          clear hb1 hb2 hb4 k1 y0 x0 x1 x2
          have Q5 : Hid ((kd != 5) = decide (kd ≠ 5)) := Lib.hid (by by_cases h : kd = 5 <;> simp [h])
          cases q1 : decide (kd < 0)
          · cases q2 : decide ((9 : Int) ≤ kd)
            · have hkb : Hid (kb = true) := Lib.hid (by
                have p1 := of_decide_eq_false q1
                have p2 := of_decide_eq_false q2
                rw [HKB.out, decide_eq_true (by omega : 0 ≤ kd), decide_eq_true (by omega : kd < 9)]; rfl)
              have p7 : (kd == 7) = decide (kd = 7) := by by_cases h : kd = 7 <;> simp [h]
              have p8 : decide ((0 : Int) < (m : Int)) = decide (0 < m) := by rw [decide_eq_decide]; omega
              cases xl
              · have HF : Hid (res = ((decide (kd = 7) == decide (0 < m)) && xw)) := Lib.hid (by rw [HRB.out, hkb.out]; simp)
                have P7 := Lib.hid p7
                have P8 := Lib.hid p8
                clear p7 p8
                first | (go_region_with (first
                    | (go_at_call 155; refine (kindsC _).mono ?_; rintro e w4 ⟨A9, G9, rfl, ho9, hb9⟩; have hb6 : Below X.heap.size X w4 := hb5.drew.trans (hb9.mono hb5.size); have k6 := HK0.out _ hb6; have v0 := k6.cell 0 rfl; have v1 := k6.cell 1 rfl)
                    | (go_at_call 262; refine (HL.out _ hb6).mono ?_; rintro e w5 ⟨rfl, hb10⟩; have hb7 : Below X.heap.size X w5 := hb6.trans (hb10.mono hb6.size); have k7 := HK0.out _ hb7; have z0 := k7.cell 0 rfl; have z1 := k7.cell 1 rfl))) | fail
                all_goals (
                  have hbz := HB0.out.trans (hb7.mono hz0)
                  have z2 := k7.cell 2 rfl
                  clear q1 q2 P7 P8
                  rcases em7 kd with ⟨e7, e7b⟩ | ⟨e7, e7b⟩
                  · by_cases e8 : 0 < m
                    · have hr : Hid (res = xw) := Lib.hid (by rw [HF.out, decide_eq_true e7.out, decide_eq_true e8]; rfl)
                      go_wp2_with (go_at_call 140; refine (HW.out _ hb7).mono ?_; rintro e w6 ⟨rfl, hb11⟩)
                      go_ret
                      exact ⟨rb hr.out, hbz.trans (hb11.mono hbz.size)⟩
                    · have hr : Hid (res = false) := Lib.hid (by rw [HF.out, decide_eq_true e7.out, decide_eq_false e8]; rfl)
                      go_wp2
                      go_ret
                      exact ⟨rb hr.out, hbz⟩
                  · by_cases e8 : 0 < m
                    · have hr : Hid (res = false) := Lib.hid (by rw [HF.out, decide_eq_false e7.out, decide_eq_true e8]; rfl)
                      go_wp2
                      go_ret
                      exact ⟨rb hr.out, hbz⟩
                    · have hr : Hid (res = xw) := Lib.hid (by rw [HF.out, decide_eq_false e7.out, decide_eq_false e8]; rfl)
                      obtain rfl : m = 0 := by omega
                      go_wp2_with (go_at_call 140; refine (HW.out _ hb7).mono ?_; rintro e w6 ⟨rfl, hb11⟩)
                      go_ret
                      exact ⟨rb hr.out, hbz.trans (hb11.mono hbz.size)⟩)
              · have P7 := Lib.hid p7
                have P8 := Lib.hid p8
                clear p7 p8
                cases q3 : (kd != 5)
                · have HF : Hid (res = ((decide (kd = 7) == decide (0 < m)) && xw)) := Lib.hid (by rw [HRB.out, hkb.out, ← Q5.out, q3]; simp)
                  first | (go_region_with (first
                      | (go_at_call 155; refine (kindsC _).mono ?_; rintro e w4 ⟨A9, G9, rfl, ho9, hb9⟩; have hb6 : Below X.heap.size X w4 := hb5.drew.trans (hb9.mono hb5.size); have k6 := HK0.out _ hb6; have v0 := k6.cell 0 rfl; have v1 := k6.cell 1 rfl)
                      | (go_at_call 262; refine (HL.out _ hb6).mono ?_; rintro e w5 ⟨rfl, hb10⟩; have hb7 : Below X.heap.size X w5 := hb6.trans (hb10.mono hb6.size); have k7 := HK0.out _ hb7; have z0 := k7.cell 0 rfl; have z1 := k7.cell 1 rfl))) | fail
                  all_goals (
                    have hbz := HB0.out.trans (hb7.mono hz0)
                    have z2 := k7.cell 2 rfl
                    clear q1 q2 q3 P7 P8
                    rcases em7 kd with ⟨e7, e7b⟩ | ⟨e7, e7b⟩
                    · by_cases e8 : 0 < m
                      · have hr : Hid (res = xw) := Lib.hid (by rw [HF.out, decide_eq_true e7.out, decide_eq_true e8]; rfl)
                        go_wp2_with (go_at_call 140; refine (HW.out _ hb7).mono ?_; rintro e w6 ⟨rfl, hb11⟩)
                        go_ret
                        exact ⟨rb hr.out, hbz.trans (hb11.mono hbz.size)⟩
                      · have hr : Hid (res = false) := Lib.hid (by rw [HF.out, decide_eq_true e7.out, decide_eq_false e8]; rfl)
                        go_wp2
                        go_ret
                        exact ⟨rb hr.out, hbz⟩
                    · by_cases e8 : 0 < m
                      · have hr : Hid (res = false) := Lib.hid (by rw [HF.out, decide_eq_false e7.out, decide_eq_true e8]; rfl)
                        go_wp2
                        go_ret
                        exact ⟨rb hr.out, hbz⟩
                      · have hr : Hid (res = xw) := Lib.hid (by rw [HF.out, decide_eq_false e7.out, decide_eq_false e8]; rfl)
                        obtain rfl : m = 0 := by omega
                        go_wp2_with (go_at_call 140; refine (HW.out _ hb7).mono ?_; rintro e w6 ⟨rfl, hb11⟩)
                        go_ret
                        exact ⟨rb hr.out, hbz.trans (hb11.mono hbz.size)⟩)
                · have hr : Hid (res = false) := Lib.hid (by rw [HRB.out, ← Q5.out, q3]; simp)
                  first | (go_region_with (first
                      | (go_at_call 155; refine (kindsC _).mono ?_; rintro e w4 ⟨A9, G9, rfl, ho9, hb9⟩; have hb6 : Below X.heap.size X w4 := hb5.drew.trans (hb9.mono hb5.size); have k6 := HK0.out _ hb6; have v0 := k6.cell 0 rfl; have v1 := k6.cell 1 rfl)
                      | (go_at_call 262; refine (HL.out _ hb6).mono ?_; rintro e w5 ⟨rfl, hb10⟩; have hb7 : Below X.heap.size X w5 := hb6.trans (hb10.mono hb6.size); have k7 := HK0.out _ hb7; have z0 := k7.cell 0 rfl; have z1 := k7.cell 1 rfl))) | fail
                  all_goals (
                    go_wp2
                    go_ret
                    exact ⟨rb hr.out, HB0.out.trans (hb7.mono hz0)⟩)
            · have hr : Hid (res = false) := Lib.hid (by
                have p2 := of_decide_eq_true q2
                rw [HRB.out, HKB.out, decide_eq_false (by omega : ¬ kd < 9)]; simp)
              have hundef : undef = Value.tuple #[] := rfl
              first | (go_region_with (first
                  | (go_at_call 155; refine (kindsC _).mono ?_; rintro e w4 ⟨A9, G9, rfl, ho9, hb9⟩; have hb6 : Below X.heap.size X w4 := hb5.drew.trans (hb9.mono hb5.size); have k6 := HK0.out _ hb6; have v0 := k6.cell 0 rfl; have v1 := k6.cell 1 rfl))) | fail
              all_goals (
                clear hundef
                go_wp2
                go_ret
                exact ⟨rb hr.out, HB0.out.trans (hb6.mono hz0)⟩)
          · have hr : Hid (res = false) := Lib.hid (by
              have p1 := of_decide_eq_true q1
              rw [HRB.out, HKB.out, decide_eq_false (by omega : ¬ 0 ≤ kd)]; simp)
            have hundef : undef = Value.tuple #[] := rfl
            first | (go_region_with (first | fail)) | fail
            all_goals (
              clear hundef
              go_wp2
              go_ret
              exact ⟨rb hr.out, HB0.out.trans (hb5.drew.mono hz0)⟩)
        · have hr : Hid (res = false) := Lib.hid (by rw [HRB.out]; rfl)
          go_wp2_with (go_at_call 131; refine (HR.out _ hb3).mono ?_; rintro e w3 ⟨rfl, hb4⟩)
          go_ret
          exact ⟨rb hr.out, HB0.out.trans ((hb3.trans (hb4.mono hb3.size)).mono hz0)⟩
      · have hr : Hid (res = false) := Lib.hid (by rw [HRB.out]; rfl)
        go_enter Tryz.func210, Tryz.ntmps210
        go_wp2_with (first
          | (go_at_call 260; refine (HA.out _).mono ?_; rintro e wa ⟨rfl, rfl⟩; rw [← HX.out])
          | (go_at_call 261; refine (HE.out _).mono ?_; rintro e w1 ⟨rfl, hb1⟩; have k1 := HK0.out _ hb1; have y0 := k1.cell 0 rfl)
          | (go_at_call 262; refine (HB.out _ hb1).mono ?_; rintro e w2 ⟨rfl, hb2⟩; have hb3 := hb1.trans (hb2.mono hb1.size)))
        go_ret
        exact ⟨rb hr.out, HB0.out.trans (hb3.mono hz0)⟩
    · have hr : Hid (res = false) := Lib.hid (by rw [HRB.out]; rfl)
      go_enter Tryz.func210, Tryz.ntmps210
      go_wp2_with (first
        | (go_at_call 260; refine (HA.out _).mono ?_; rintro e wa ⟨rfl, rfl⟩; rw [← HX.out])
        | (go_at_call 261; refine (HE.out _).mono ?_; rintro e w1 ⟨rfl, hb1⟩))
      go_ret
      exact ⟨rb hr.out, HB0.out.trans (hb1.mono hz0)⟩
end Go.Proofs.YtejpdbiiikcmmaaGreatDoor.Rn

/- May a list of rules be: the program's rulesMay; globalRight. -/
set_option linter.unusedVariables false
set_option linter.unusedSimpArgs false
namespace Go.Proofs.YtejpdbiiikcmmaaGreatDoor.Ro
open Go.RowKit Lb Gr Pd Fl Go.Proofs.YtejpdbiiikcmmaaGreatDoor.Pm Bk Is Sl Ha Rm Rn
attribute [local go_sem ↓] Go.wp_at_zero Go.wp_at_succ

/-- sizes that a machine's int holds -/
def OkR (l : List RuleD) : Prop := l.length ≤ 9223372036854775807 ∧ ∀ i (h : i < l.length), (l[i]).words.length ≤ 9223372036854775807 ∧ (l[i]).name.size ≤ maxLen ∧ -9223372036854775808 ≤ (l[i]).kind ∧ (l[i]).kind ≤ 9223372036854775807

set_option maxHeartbeats 4000000 in
set_option maxRecDepth 100000 in
theorem rulesMayC (A : Option Addr) (n c : Nat) (l : List RuleD) (w : World) (ht : Tab w) (h : kdR.rd w 0 w.heap.size (.slice A n c) l) (hok : OkR l) : Calls Tryz.prog 158 #[.slice A n c] w fun e w' => e = .returned (.bool (rulesB l)) ∧ Below w.heap.size w w' := by
  obtain ⟨hl, hw⟩ := hok
  have hn : n = l.length ∧ l.length ≤ c := by obtain ⟨_, _, hv, h1, _⟩ := fmR.rd_form h; injection hv with _ e1 e2; exact ⟨e1, by omega⟩
  obtain ⟨hn, hc⟩ := hn
  subst hn
  have HRD : Hid (∀ W, Below w.heap.size w W → kdR.rd W 0 w.heap.size (.slice A l.length c) l) := Lib.hid fun W hW => rd_below h hW (Nat.le_refl _)
  have HM : Hid (∀ W k (hk : k < l.length) A2 c2, Below w.heap.size w W → kdW.rd W 0 W.heap.size (.slice A2 l[k].words.length c2) l[k].words → Calls Tryz.prog 210 #[.slice A k c, .agg #[.string l[k].name, .int .i64 l[k].kind, .slice A2 l[k].words.length c2]] W fun e w' => e = .returned (.bool (ruleB (l.take k) l[k])) ∧ Below W.heap.size W w') :=
    Lib.hid fun W k hk A2 c2 hW hu => ruleMayC A A2 k c _ c2 (l.take k) l[k] W (ht.below hW) (kdR.wide (fmR.rd_take (rd_below h hW (Nat.le_refl _)) (Nat.le_of_lt hk)) (Nat.le_refl _) hW.size) hu (by omega) (hw k hk).1 (hw k hk).2.1 (hw k hk).2.2.1 (hw k hk).2.2.2
  have HB : Hid (rulesB l = rulesFrom (l.take 0) (l.drop 0)) := Lib.hid rfl
  clear h hw ht
  have hb00 := Below.refl w.heap.size w
  go_enter Tryz.func158, Tryz.ntmps158
  go_wp2
  go_loopw [7] (fun i wr => ∃ k : Nat, k ≤ l.length ∧ i = .int .i64 k ∧ Below w.heap.size w wr ∧ Hid (rulesB l = rulesFrom (l.take k) (l.drop k))) (fun i _ => l.length - (intOf i).toNat)
  case atStart => exact ⟨0, by omega, rfl, hb00, HB⟩
  case round =>
    obtain ⟨k, hk, rfl, hnx, hst⟩ := hrel
    by_cases hlt : k < l.length
    · obtain ⟨b, off, u, rfl, hb1, hb2, hu, hcell⟩ := fmR.rd_at (HRD.out _ hnx) hlt
      have c0 := hcell 0 _ rfl
      have c1 := hcell 1 _ rfl
      have c2 := hcell 2 _ rfl
      rw [show off + (k * fmR.size + 0) = off + k * 3 from rfl] at c0
      rw [show off + (k * fmR.size + 1) = off + k * 3 + 1 from by show off + (k * 3 + 1) = _; omega] at c1
      rw [show off + (k * fmR.size + 2) = off + k * 3 + 2 from by show off + (k * 3 + 2) = _; omega] at c2
      have hu' : kdW.rd wr 0 w.heap.size u l[k].words := hu
      clear hu
      obtain ⟨A1, cc1, rfl, _⟩ := rdW_form hu'
      clear hcell
      obtain ⟨W0, hW0⟩ : ∃ W, W = wr.alloc (.cells #[.string l[k].name, .int .i64 l[k].kind, .slice A1 l[k].words.length cc1] 51) := ⟨_, rfl⟩
      have hb0 : Below wr.heap.size wr W0 := hW0 ▸ (Below.refl _ _).alloc (Nat.le_refl _) _
      have k5 : Bl W0 wr.heap.size 51 [.string l[k].name, .int .i64 l[k].kind, .slice A1 l[k].words.length cc1] := hW0 ▸ Bl.new wr _ _ rfl
      have hu2 : kdW.rd W0 0 W0.heap.size (.slice A1 l[k].words.length cc1) l[k].words := kdW.wide (rd_below hu' (hb0.mono (Nat.le_refl _)) hnx.size) (Nat.le_refl _) (Nat.le_trans hnx.size hb0.size)
      have hb9 : Below w.heap.size w W0 := hnx.trans (hb0.mono hnx.size)
      have HM2 := Lib.hid (HM.out W0.drew k hlt A1 cc1 hb9.drew hu2)
      have y0 := k5.cell 0 rfl
      have y1 := k5.cell 1 rfl
      have y2 := k5.cell 2 rfl
      have HX := Lib.hid hW0
      have hk0 : (0 : Int) ≤ (k : Int) := by omega
      have hkc : (k : Int) ≤ (c : Int) := by omega
      clear hW0 hu' hu2
      cases hb : ruleB (l.take k) l[k]
      · have hr : Hid (rulesB l = false) := Lib.hid (by rw [hst.out]; exact rules_no hlt hb)
        rw [hb] at HM2
        clear hb
        go_upto_region 4 with fail
        rw [← HX.out]
        first | (go_region_held3 (fun W' => W'.cell? ⟨wr.heap.size, 0, none⟩ = some (.string l[k].name) ∧ W'.cell? ⟨wr.heap.size, 1, none⟩ = some (.int .i64 l[k].kind) ∧ W'.cell? ⟨wr.heap.size, 2, none⟩ = some (.slice A1 l[k].words.length cc1))
          (first | exact ⟨y0, y1, y2⟩ | exact ⟨z0, z1, z2⟩)
          (first | (go_at_call 210; refine HM2.out.mono ?_; rintro e w2 ⟨rfl, hb3⟩; have k6 := (k5.below (w' := W0.drew) (drw W0 1)).below hb3; have z0 := k6.cell 0 rfl; have z1 := k6.cell 1 rfl; have z2 := k6.cell 2 rfl))) | fail
        go_wp2
        go_ret
        exact ⟨rb hr.out, hb9.drew.trans (hb3.mono hb9.size)⟩
      · have hr : Hid (rulesB l = rulesFrom (l.take (k + 1)) (l.drop (k + 1))) := Lib.hid (by rw [hst.out]; exact rules_go hlt hb)
        rw [hb] at HM2
        clear hb
        go_upto_region 4 with fail
        rw [← HX.out]
        first | (go_region_held3 (fun W' => W'.cell? ⟨wr.heap.size, 0, none⟩ = some (.string l[k].name) ∧ W'.cell? ⟨wr.heap.size, 1, none⟩ = some (.int .i64 l[k].kind) ∧ W'.cell? ⟨wr.heap.size, 2, none⟩ = some (.slice A1 l[k].words.length cc1))
          (first | exact ⟨y0, y1, y2⟩ | exact ⟨z0, z1, z2⟩)
          (first | (go_at_call 210; refine HM2.out.mono ?_; rintro e w2 ⟨rfl, hb3⟩; have k6 := (k5.below (w' := W0.drew) (drw W0 1)).below hb3; have z0 := k6.cell 0 rfl; have z1 := k6.cell 1 rfl; have z2 := k6.cell 2 rfl))) | fail
        go_wp2
        go_roundw
        case rel => exact ⟨k + 1, by omega, by go_num, hb9.drew.trans (hb3.mono hb9.size), hr⟩
        case measure => simp [intOf] <;> omega
    · have hr : Hid (rulesB l = true) := Lib.hid (by rw [hst.out]; exact rules_end (by omega))
      go_wp2
      go_ret
      exact ⟨rb hr.out, hnx⟩
end Go.Proofs.YtejpdbiiikcmmaaGreatDoor.Ro

/- What Check says of a policy: plain data, no program. -/
set_option linter.unusedVariables false
namespace Go.Proofs.YtejpdbiiikcmmaaGreatDoor.Ck
open Go.RowKit Lb Gr Pd Go.Proofs.YtejpdbiiikcmmaaGreatDoor.Th Go.Proofs.YtejpdbiiikcmmaaGreatDoor.Lk Go.Proofs.YtejpdbiiikcmmaaGreatDoor.Ro Is

/-- may an element be allowed -/
def inA (s : ByteArray) : Bool := inS s 15
def tagB (s : ByteArray) : Bool := wrt false s.data.toList
def closedB (l : List ElD) : Bool := l.all fun e => (needsL e.name).all fun n => hasE l n
def schOk (l : List ByteArray) : Bool := onceFrom schemeB [] l
def dropOk (p : PolD) : Bool := onceFrom (fun n => tagB n && !hasE p.els n) [] p.drop
def limOk (p : PolD) : Bool := decide (1 ≤ p.depth) && decide (p.depth ≤ 512) && decide (16 ≤ p.window) && decide (p.window ≤ 1048576) && decide (w64 (thingsN p) ≤ 1000)
def elsI (p : PolD) : Int := elsFrom inA [] p.els
def globI (p : PolD) : Int := if rulesB p.glob then 0 else 141
def closI (p : PolD) : Int := if closedB p.els then 0 else 142
def schI (p : PolD) : Int := if schOk p.schemes then 0 else 143
def dropI (p : PolD) : Int := if dropOk p then 0 else 140
def limI (p : PolD) : Int := if limOk p then 0 else 144
def firstI : List Int → Int
  | [] => 0
  | x :: r => if x = 0 then firstI r else x
def checkI (p : PolD) : Int := firstI [elsI p, globI p, closI p, schI p, dropI p, limI p]
/-- what a policy's lists must not pass, to be looked through -/
def OkE (l : List ElD) : Prop := l.length ≤ 9223372036854775807 ∧ ∀ i (h : i < l.length), OkR l[i].rules
def OkT (l : List ByteArray) : Prop := l.length ≤ 9223372036854775807 ∧ ∀ i (h : i < l.length), l[i].size ≤ maxLen
def OkP (p : PolD) : Prop := OkE p.els ∧ OkR p.glob ∧ OkT p.schemes ∧ OkT p.drop
end Go.Proofs.YtejpdbiiikcmmaaGreatDoor.Ck

/- The reference's kind: a kind's name. -/
set_option linter.unusedVariables false
set_option linter.unusedSimpArgs false
namespace Go.Proofs.YtejpdbiiikcmmaaGreatDoor.Rz
open Go.RowKit Lb Gr Pd Fl Go.Proofs.YtejpdbiiikcmmaaGreatDoor.Pm Bk Go.Proofs.YtejpdbiiikcmmaaGreatDoor.Sl
attribute [local go_sem ↓] Go.wp_at_zero Go.wp_at_succ

theorem kinds_len : kindsL.length = 9 := rfl
end Go.Proofs.YtejpdbiiikcmmaaGreatDoor.Rz
