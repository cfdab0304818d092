/- The reference's Print: a policy's text. -/
import Derived.Test.YteikagdinecfoaaGreatDoorRl3
import Derived.Test.YteikagdinecfoaaGreatDoorTt
import Derived.Deep.RegionHeld3
set_option linter.unusedVariables false
set_option linter.unusedSimpArgs false
namespace Go.Proofs.YteikagdinecfoaaGreatDoor.Rp
open Go.RowKit Lb Gr Pd Fl Go.Proofs.YteikagdinecfoaaGreatDoor.Pm Bk Ru Co Is Go.Proofs.YteikagdinecfoaaGreatDoor.Sl Go.Proofs.YteikagdinecfoaaGreatDoor.Or Go.Proofs.YteikagdinecfoaaGreatDoor.Ty Go.Proofs.YteikagdinecfoaaGreatDoor.Pl Go.Proofs.YteikagdinecfoaaGreatDoor.Pp Go.Proofs.YteikagdinecfoaaGreatDoor.Tt Go.Proofs.YteikagdinecfoaaGreatDoor.Rl2 Go.Proofs.YteikagdinecfoaaGreatDoor.Rl3
attribute [local go_sem ↓] Go.wp_at_zero Go.wp_at_succ

theorem rDecI (n : Int) (h0 : 0 ≤ n) (h1 : n ≤ 1000000000000) (w : World) : Calls Tryz.prog 77 #[.int .i64 n] w fun e w' => e = .returned (.string (itoaS n)) ∧ w = w' := by
  have h := rDecC n.toNat (by omega) w
  rw [Int.toNat_of_nonneg h0] at h
  have e : itoaS n = str (Lib.decDigits n.toNat) := by unfold itoaS Lib.itoa; rw [if_neg (by omega)]
  rw [e]; exact h
/-- a line of a word and a text -/
theorem line_two (a b : ByteArray) : lineL [a, b] = (a.data.toList ++ [32]) ++ (b.data.toList ++ [10]) := by rw [lineL_cons]; unfold tailW; simp
theorem line_one (a : ByteArray) : lineL [a] = a.data.toList ++ [10] := by rw [lineL_cons]; unfold tailW; simp
theorem addL {a b c : List UInt8} {x y : ByteArray} (hx : x = str a) (hy : y = str b) (hc : a ++ b = c) (h : c.length ≤ 4611686018427387904) (W : World) : (Op.stringOp .add x y).run Tryz.prog W = .ok (.string (str c)) W := by
  subst hc; exact addS hx hy h W
theorem t01 (q : PolD) : t0 q ++ t1 q = (((([100, 101, 112, 116, 104, 32] ++ (itoaS q.depth).data.toList) ++ [10, 119, 105, 110, 100, 111, 119, 32]) ++ (itoaS q.window).data.toList) ++ [10]) := by
  unfold t0 t1; rw [line_two, line_two]; simp [str]

/-- a line of a list is put to a text -/
theorem step_add {α : Type} {f : α → List UInt8} {l : List α} {P : List UInt8} (hP : P.length + (l.flatMap f).length ≤ 140737488355328) {k : Nat} (h : k < l.length) :
    (∀ W, (Op.stringOp .add (str (P ++ (l.take k).flatMap f)) (str (f l[k]))).run Tryz.prog W = .ok (.string (str (P ++ (l.take (k + 1)).flatMap f))) W) ∧ (f l[k]).length ≤ 140737488355328 := by
  have h1 := flat_fit h hP
  refine ⟨fun W => ?_, by omega⟩
  rw [flat_succ h, ← List.append_assoc]
  exact addS rfl rfl (by rw [List.length_append, List.length_append]; omega) W
/-- a word, a text, the line's end -/
theorem word_add {wd : List UInt8} {x : ByteArray} {F : List UInt8} (hF : (wd ++ x.data.toList) ++ [10] = F) (hl : F.length ≤ 140737488355328) :
    (∀ W, (Op.stringOp .add (str wd) x).run Tryz.prog W = .ok (.string (str (wd ++ x.data.toList))) W) ∧ (∀ W, (Op.stringOp .add (str (wd ++ x.data.toList)) ⟨#[10]⟩).run Tryz.prog W = .ok (.string (str F)) W) := by
  have h1 := congrArg List.length hF
  rw [List.length_append] at h1
  simp only [List.length_cons, List.length_nil] at h1
  exact ⟨fun W => addS rfl (str_of _).symm (by omega) W, fun W => addL rfl rfl hF (by omega) W⟩

set_option maxHeartbeats 16000000 in
set_option maxRecDepth 100000 in
theorem rPrintC (x : Vs) (p : PolD) (w : World) (h : RdP w 0 w.heap.size x p) (hf : FitP p) (hd : Dif p) (hok : OkV p) (hpr : PrOk (tidyP p)) (hdp : 0 ≤ p.depth ∧ p.depth ≤ 1000000000000) (hwp : 0 ≤ p.window ∧ p.window ≤ 1000000000000) :
    Calls Tryz.prog 25 #[polV x p] w fun e w' => e = .returned (.string (str (printL (tidyP p)))) ∧ Below w.heap.size w w' := by
  obtain ⟨A1, c1, A2, c2, A3, c3, A4, c4, rfl, q1, q2, q3, q4, q5, q6, q7, q8⟩ := h.form
  obtain ⟨W0, hW0⟩ : ∃ W, W = w.alloc (.cells #[.slice A1 p.els.length c1, .slice A2 p.glob.length c2, .slice A3 p.schemes.length c3, .bool p.rel, .slice A4 p.drop.length c4, .int .i64 p.depth, .int .i64 p.window] 29) := ⟨_, rfl⟩
  have hb0 : Below w.heap.size w W0 := hW0 ▸ (Below.refl _ _).alloc (Nat.le_refl _) _
  have k0 : Bl W0 w.heap.size 29 [.slice A1 p.els.length c1, .slice A2 p.glob.length c2, .slice A3 p.schemes.length c3, .bool p.rel, .slice A4 p.drop.length c4, .int .i64 p.depth, .int .i64 p.window] := hW0 ▸ Bl.new w _ _ rfl
  have hs0 : W0.heap.size = w.heap.size + 1 := by rw [hW0]; simp
  obtain ⟨q, hq⟩ : ∃ q, q = tidyP p := ⟨_, rfl⟩
  have hqr : q.rel = p.rel ∧ q.depth = p.depth ∧ q.window = p.window := by rw [hq]; exact ⟨rfl, rfl, rfl⟩
  have HTD : Hid (Calls Tryz.prog 24 #[polV ⟨.slice A1 p.els.length c1, .slice A2 p.glob.length c2, .slice A3 p.schemes.length c3, .slice A4 p.drop.length c4⟩ p] W0 fun e w' => ∃ B1 d1 B2 d2 B3 d3 B4 d4, e = .returned (.agg #[.slice B1 q.els.length d1, .slice B2 q.glob.length d2, .slice B3 q.schemes.length d3, .bool q.rel, .slice B4 q.drop.length d4, .int .i64 q.depth, .int .i64 q.window]) ∧ RdP w' W0.heap.size w'.heap.size ⟨.slice B1 q.els.length d1, .slice B2 q.glob.length d2, .slice B3 q.schemes.length d3, .slice B4 q.drop.length d4⟩ q ∧ Below W0.heap.size W0 w') := Lib.hid (by
    refine (rTidyC _ p W0 ((h.stay (stay_below hb0 (Nat.le_refl _))).wide (Nat.le_refl _) hb0.size) hf hd hok).mono fun e w' ⟨y, he, hr, hb⟩ => ?_
    rw [← hq] at he hr
    obtain ⟨B1, d1, B2, d2, B3, d3, B4, d4, rfl, _⟩ := hr.form
    exact ⟨B1, d1, B2, d2, B3, d3, B4, d4, he, hr, hb⟩)
  rw [← hq] at hpr ⊢
  have a0 := k0.cell 0 rfl
  have a1 := k0.cell 1 rfl
  have a2 := k0.cell 2 rfl
  have a3 := k0.cell 3 rfl
  have a4 := k0.cell 4 rfl
  have a5 := k0.cell 5 rfl
  have a6 := k0.cell 6 rfl
  have HX := Lib.hid hW0
  have HS0 := Lib.hid hs0
  have HPR := Lib.hid hpr
  have HDW : Hid ((0 ≤ q.depth ∧ q.depth ≤ 1000000000000) ∧ (0 ≤ q.window ∧ q.window ≤ 1000000000000)) := Lib.hid ⟨by rw [hqr.2.1]; exact hdp, by rw [hqr.2.2]; exact hwp⟩
  have hlen := hpr.len
  obtain ⟨N, hN⟩ : ∃ N, N = (printL q).length := ⟨_, rfl⟩
  have hpl : printL q = t0 q ++ t1 q ++ t2 q.rel ++ q.schemes.flatMap fS ++ q.drop.flatMap fD ++ q.glob.flatMap fG ++ q.els.flatMap fE := rfl
  have hNl := congrArg List.length hpl
  simp only [List.length_append] at hNl
  have HPL := Lib.hid hpl
  have HNL := Lib.hid hNl
  have HLEN := Lib.hid hlen
  unfold polV at HTD ⊢
  simp only at HTD
  clear h hf hd hok hpr hdp hwp hW0 hs0 hq hqr hlen hN hpl hNl q1 q2 q3 q4 q5 q6 q7 q8
  -- the head
  have HD1 : Hid (∀ W, Calls Tryz.prog 77 #[.int .i64 q.depth] W fun e w' => e = .returned (.string (itoaS q.depth)) ∧ W = w') := Lib.hid fun W => rDecI _ HDW.out.1.1 HDW.out.1.2 W
  have HD2 : Hid (∀ W, Calls Tryz.prog 77 #[.int .i64 q.window] W fun e w' => e = .returned (.string (itoaS q.window)) ∧ W = w') := Lib.hid fun W => rDecI _ HDW.out.2.1 HDW.out.2.2 W
  have hz01 := congrArg List.length (t01 q)
  simp only [List.length_append, List.length_cons, List.length_nil] at hz01
  have hn9 := HNL.out
  have hl9 := HLEN.out
  have HA1 : Hid (∀ W, (Op.stringOp .add ⟨#[100, 101, 112, 116, 104, 32]⟩ (itoaS q.depth)).run Tryz.prog W = .ok (.string (str ([100, 101, 112, 116, 104, 32] ++ (itoaS q.depth).data.toList))) W) := Lib.hid fun W => addS rfl (str_of _).symm (by simp only [List.length_append, List.length_cons, List.length_nil]; omega) W
  have HA2 : Hid (∀ W, (Op.stringOp .add (str ([100, 101, 112, 116, 104, 32] ++ (itoaS q.depth).data.toList)) ⟨#[10, 119, 105, 110, 100, 111, 119, 32]⟩).run Tryz.prog W = .ok (.string (str (([100, 101, 112, 116, 104, 32] ++ (itoaS q.depth).data.toList) ++ [10, 119, 105, 110, 100, 111, 119, 32]))) W) := Lib.hid fun W => addS rfl rfl (by simp only [List.length_append, List.length_cons, List.length_nil]; omega) W
  have HA3 : Hid (∀ W, (Op.stringOp .add (str (([100, 101, 112, 116, 104, 32] ++ (itoaS q.depth).data.toList) ++ [10, 119, 105, 110, 100, 111, 119, 32])) (itoaS q.window)).run Tryz.prog W = .ok (.string (str ((([100, 101, 112, 116, 104, 32] ++ (itoaS q.depth).data.toList) ++ [10, 119, 105, 110, 100, 111, 119, 32]) ++ (itoaS q.window).data.toList))) W) := Lib.hid fun W => addS rfl (str_of _).symm (by simp only [List.length_append, List.length_cons, List.length_nil]; omega) W
  have HA4 : Hid (∀ W, (Op.stringOp .add (str ((([100, 101, 112, 116, 104, 32] ++ (itoaS q.depth).data.toList) ++ [10, 119, 105, 110, 100, 111, 119, 32]) ++ (itoaS q.window).data.toList)) ⟨#[10]⟩).run Tryz.prog W = .ok (.string (str (t0 q ++ t1 q))) W) := Lib.hid fun W => addL rfl rfl (t01 q).symm (by simp only [List.length_append]; omega) W
  generalize str (([100, 101, 112, 116, 104, 32] ++ (itoaS q.depth).data.toList) ++ [10, 119, 105, 110, 100, 111, 119, 32]) = s2 at HA2 HA3
  generalize str ([100, 101, 112, 116, 104, 32] ++ (itoaS q.depth).data.toList) = s1 at HA1 HA2
  generalize str ((([100, 101, 112, 116, 104, 32] ++ (itoaS q.depth).data.toList) ++ [10, 119, 105, 110, 100, 111, 119, 32]) ++ (itoaS q.window).data.toList) = s3 at HA3 HA4
  generalize itoaS q.depth = sd at HA1 HD1
  generalize itoaS q.window = sw at HA3 HD2
  obtain ⟨P0, hP0⟩ : ∃ P, P = t0 q ++ t1 q := ⟨_, rfl⟩
  have HP0 := Lib.hid hP0
  obtain ⟨x0, hx0⟩ : ∃ x, x = str P0 := ⟨_, rfl⟩
  have HX0 := Lib.hid hx0
  rw [← hP0, ← hx0] at HA4
  clear hz01 hP0 hx0 hn9 hl9
  go_enter Tryz.func25, Tryz.ntmps25
  go_upto_region 1 with fail
  rw [← HX.out]
  obtain ⟨f0, f1, f2, f3, f4, f5, f6⟩ : True ∧ True ∧ True ∧ True ∧ True ∧ True ∧ True := ⟨trivial, trivial, trivial, trivial, trivial, trivial, trivial⟩
  go_upto_region 2 with (go_at_call 24; refine HTD.out.mono ?_; rintro e w1 ⟨B1, d1, B2, d2, B3, d3, B4, d4, rfl, hr1, hb1⟩; have k1 := k0.below hb1; obtain ⟨s0, s1', s2', s3', s4, s5, s6, s7, s8, s9, s10, s11, s12, s13⟩ := k1.store7 (.slice B1 q.els.length d1) (.slice B2 q.glob.length d2) (.slice B3 q.schemes.length d3) (.bool q.rel) (.slice B4 q.drop.length d4) (.int .i64 q.depth) (.int .i64 q.window))
  have kz := k1.seven (.slice B1 q.els.length d1) (.slice B2 q.glob.length d2) (.slice B3 q.schemes.length d3) (.bool q.rel) (.slice B4 q.drop.length d4) (.int .i64 q.depth) (.int .i64 q.window)
  have hfz := Fr.set7 w1 w.heap.size (.slice B1 q.els.length d1) (.slice B2 q.glob.length d2) (.slice B3 q.schemes.length d3) (.bool q.rel) (.slice B4 q.drop.length d4) (.int .i64 q.depth) (.int .i64 q.window)
  have hz1 := hb1.size
  have hr2 := hr1.stay fun k h1 h2 => hfz.block k h2 (by have := HS0.out; simp; omega)
  generalize ((((((w1.setCell ⟨w.heap.size, 0, none⟩ (.slice B1 q.els.length d1)).setCell ⟨w.heap.size, 1, none⟩ (.slice B2 q.glob.length d2)).setCell ⟨w.heap.size, 2, none⟩ (.slice B3 q.schemes.length d3)).setCell ⟨w.heap.size, 3, none⟩ (.bool q.rel)).setCell ⟨w.heap.size, 4, none⟩ (.slice B4 q.drop.length d4)).setCell ⟨w.heap.size, 5, none⟩ (.int .i64 q.depth)).setCell ⟨w.heap.size, 6, none⟩ (.int .i64 q.window) = W1 at *
  have hw1 : Below w.heap.size w W1 := (hb0.trans (hb1.mono hb0.size)).trans (hfz.below (Nat.le_trans hb0.size hz1) (by simp))
  have hz2 := hfz.size
  have HRD : Hid (∀ W, Below W1.heap.size W1 W → RdP W 0 W.heap.size ⟨.slice B1 q.els.length d1, .slice B2 q.glob.length d2, .slice B3 q.schemes.length d3, .slice B4 q.drop.length d4⟩ q) := Lib.hid fun W hW => (hr2.stay fun k h1 h2 => hW.block k (by omega)).wide (Nat.zero_le _) (by have := hW.size; omega)
  have HK : Hid (∀ W, Below W1.heap.size W1 W → Below w.heap.size w W ∧ W.cell? ⟨w.heap.size, 0, none⟩ = some (.slice B1 q.els.length d1) ∧ W.cell? ⟨w.heap.size, 1, none⟩ = some (.slice B2 q.glob.length d2) ∧ W.cell? ⟨w.heap.size, 2, none⟩ = some (.slice B3 q.schemes.length d3) ∧ W.cell? ⟨w.heap.size, 3, none⟩ = some (.bool q.rel) ∧ W.cell? ⟨w.heap.size, 4, none⟩ = some (.slice B4 q.drop.length d4) ∧ W.cell? ⟨w.heap.size, 5, none⟩ = some (.int .i64 q.depth) ∧ W.cell? ⟨w.heap.size, 6, none⟩ = some (.int .i64 q.window)) := Lib.hid fun W hW => by
    have j := kz.below hW
    exact ⟨hw1.trans (hW.mono hw1.size), j.cell 0 rfl, j.cell 1 rfl, j.cell 2 rfl, j.cell 3 rfl, j.cell 4 rfl, j.cell 5 rfl, j.cell 6 rfl⟩
  clear a0 a1 a2 a3 a4 a5 a6 s0 s1' s2' s3' s4 s5 s6 s7 s8 s9 s10 s11 s12 s13 hr1 hr2 kz hfz k1 f0 f1 f2 f3 f4 f5 f6 k0
  obtain ⟨_, a0, a1, a2, a3, a4, a5, a6⟩ := HK.out _ (Below.refl _ _)
  have ha1 := HA1.out
  have ha2 := HA2.out
  have ha3 := HA3.out
  have ha4 := HA4.out
  go_region_held3 (fun W' => W'.cell? ⟨w.heap.size, 5, none⟩ = some (.int .i64 q.depth) ∧ W'.cell? ⟨w.heap.size, 6, none⟩ = some (.int .i64 q.window))
    (first | exact ⟨a5, a6⟩ | go_keep)
    (first
      | (go_at_call_of 77 (Value.int .i64 q.depth); refine (HD1.out _).mono ?_; rintro e w2 ⟨rfl, rfl⟩)
      | (go_at_call_of 77 (Value.int .i64 q.window); refine (HD2.out _).mono ?_; rintro e w2 ⟨rfl, rfl⟩))
  have hnx0 : Below W1.heap.size W1 W1.drew := drw W1 1
  obtain ⟨P1, hP1⟩ : ∃ P, P = P0 ++ t2 q.rel := ⟨_, rfl⟩
  have HP1 : Hid (P1 = P0 ++ t2 q.rel) := Lib.hid hP1
  obtain ⟨x1, hx1⟩ : ∃ x, x = str P1 := ⟨_, rfl⟩
  have HX1 := Lib.hid hx1
  have HS1 : Hid (P1.length + (q.schemes.flatMap fS).length ≤ 140737488355328 ∧ P1.length + (q.schemes.flatMap fS).length + (q.drop.flatMap fD).length ≤ 140737488355328 ∧ P1.length + (q.schemes.flatMap fS).length + (q.drop.flatMap fD).length + (q.glob.flatMap fG).length ≤ 140737488355328 ∧ P1.length + (q.schemes.flatMap fS).length + (q.drop.flatMap fD).length + (q.glob.flatMap fG).length + (q.els.flatMap fE).length ≤ 140737488355328) := Lib.hid (by
    have h1 := HNL.out
    have h2 := HLEN.out
    have h3 : P1.length = (t0 q).length + (t1 q).length + (t2 q.rel).length := by rw [hP1, HP0.out, List.length_append, List.length_append]
    omega)
  clear hP1 hx1 ha1 ha2 ha3 ha4 a0 a1 a2 a4 a5 a6
  go_upto_if 27 with fail
  go_cut [3] from 14 (fun s wx => s = .string x1 ∧ Below W1.heap.size W1 wx)
  case first =>
    cases hrel : q.rel
    · have e1 : Hid (x0 = x1) := Lib.hid (by rw [HX0.out, HX1.out, HP1.out, hrel]; show _ = str (P0 ++ []); rw [List.append_nil])
      go_wp2_with fail
      go_meet
      exact ⟨by rw [e1.out], hnx0⟩
    · have e1 : ∀ W, (Op.stringOp .add x0 ⟨#[114, 101, 108, 97, 116, 105, 118, 101, 10]⟩).run Tryz.prog W = .ok (.string x1) W := fun W => by
        rw [HX1.out]
        refine addL HX0.out rfl ?_ (by have := HS1.out.1; omega) W
        rw [HP1.out, hrel]
        show _ = P0 ++ lineL [str [114, 101, 108, 97, 116, 105, 118, 101]]
        rw [line_one]
        rfl
      go_wp2_with fail
      go_meet
      exact ⟨rfl, hnx0⟩
  case rest =>
    obtain ⟨rfl, hwc⟩ := hcut
    clear a3 HA1 HA2 HA3 HA4 HD1 HD2 hnx0
    obtain ⟨_, a0, a1, a2, a3, a4, a5, a6⟩ := HK.out _ hwc
    have hi := HPR.out.ints
    have hiS : (q.schemes.length : Int) ≤ 9223372036854775807 := by omega
    have hiD : (q.drop.length : Int) ≤ 9223372036854775807 := by omega
    have hiG : (q.glob.length : Int) ≤ 9223372036854775807 := by omega
    have hiE : (q.els.length : Int) ≤ 9223372036854775807 := by omega
    clear hi
    have hst0 : Hid (x1 = str (P1 ++ (q.schemes.take 0).flatMap fS)) := Lib.hid (by rw [HX1.out]; simp)
    go_wp2
    go_loopw [3, 33] (fun s i wr => ∃ (k : Nat) (x : ByteArray), k ≤ q.schemes.length ∧ i = .int .i64 k ∧ s = .string x ∧ Hid (x = str (P1 ++ (q.schemes.take k).flatMap fS)) ∧ Below W1.heap.size W1 wr) (fun _ i _ => q.schemes.length - (intOf i).toNat)
    case atStart => exact ⟨0, x1, by omega, rfl, rfl, hst0, hwc⟩
    case round =>
      clear a0 a1 a2 a3 a4 a5 a6 hst0
      obtain ⟨k, x, hk, rfl, rfl, hst, hnx⟩ := hrel
      by_cases hlt : k < q.schemes.length
      · obtain ⟨b, off, rfl, _, _, hcx⟩ := rdW_at (HRD.out _ hnx).2.2.1 hlt
        obtain ⟨r1, r2⟩ := step_add HS1.out.1 hlt
        obtain ⟨y1, y2⟩ := word_add (wd := [115, 99, 104, 101, 109, 101, 32]) (x := q.schemes[k]) (F := fS q.schemes[k]) (by unfold fS; rw [line_two]; simp [str]) r2
        rw [← hst.out] at r1
        obtain ⟨z, hz⟩ : ∃ z, z = str (P1 ++ (q.schemes.take (k + 1)).flatMap fS) := ⟨_, rfl⟩
        rw [← hz] at r1
        have HZ := Lib.hid hz
        generalize str (fS q.schemes[k]) = t9 at *
        generalize str ([115, 99, 104, 101, 109, 101, 32] ++ (q.schemes[k]).data.toList) = t8 at *
        generalize q.schemes[k] = sc at *
        have y1' : ∀ W, (Op.stringOp .add ⟨#[115, 99, 104, 101, 109, 101, 32]⟩ sc).run Tryz.prog W = .ok (.string t8) W := y1
        have hk0 : (0 : Int) ≤ (k : Int) := by omega
        have hk1 : (k : Int) < (q.schemes.length : Int) := by omega
        clear hz r2 y1
        go_wp2
        go_roundw
        case rel => exact ⟨k + 1, z, by omega, by go_num, rfl, HZ, hnx⟩
        case measure => simp [intOf] <;> omega
      · obtain rfl : k = q.schemes.length := by omega
        obtain ⟨P2, hP2⟩ : ∃ P, P = P1 ++ q.schemes.flatMap fS := ⟨_, rfl⟩
        have HP2 := Lib.hid hP2
        have HS2 : Hid (P2.length + (q.drop.flatMap fD).length ≤ 140737488355328) := Lib.hid (by rw [hP2, List.length_append]; exact HS1.out.2.1)
        have hst1 : Hid (x = str (P2 ++ (q.drop.take 0).flatMap fD)) := Lib.hid (by rw [hst.out, hP2, List.take_length]; simp)
        obtain ⟨w2, rfl⟩ : ∃ w2, w2 = wr := ⟨_, rfl⟩
        obtain ⟨_, a0, a1, a2, a3, a4, a5, a6⟩ := HK.out _ hnx
        clear hP2 hst
        go_wp2
        go_loopw [3, 46] (fun s i wr => ∃ (k : Nat) (x : ByteArray), k ≤ q.drop.length ∧ i = .int .i64 k ∧ s = .string x ∧ Hid (x = str (P2 ++ (q.drop.take k).flatMap fD)) ∧ Below W1.heap.size W1 wr) (fun _ i _ => q.drop.length - (intOf i).toNat)
        case atStart => exact ⟨0, x, by omega, rfl, rfl, hst1, hnx⟩
        case round =>
          clear a0 a1 a2 a3 a4 a5 a6 hst1
          obtain ⟨k, x, hk, rfl, rfl, hst, hnx⟩ := hrel
          by_cases hlt : k < q.drop.length
          · obtain ⟨b, off, rfl, _, _, hcx⟩ := rdW_at (HRD.out _ hnx).2.2.2 hlt
            obtain ⟨r1, r2⟩ := step_add HS2.out hlt
            obtain ⟨y1, y2⟩ := word_add (wd := [100, 114, 111, 112, 32]) (x := q.drop[k]) (F := fD q.drop[k]) (by unfold fD; rw [line_two]; simp [str]) r2
            rw [← hst.out] at r1
            obtain ⟨z, hz⟩ : ∃ z, z = str (P2 ++ (q.drop.take (k + 1)).flatMap fD) := ⟨_, rfl⟩
            rw [← hz] at r1
            have HZ := Lib.hid hz
            generalize str (fD q.drop[k]) = t9 at *
            generalize str ([100, 114, 111, 112, 32] ++ (q.drop[k]).data.toList) = t8 at *
            generalize q.drop[k] = sc at *
            have y1' : ∀ W, (Op.stringOp .add ⟨#[100, 114, 111, 112, 32]⟩ sc).run Tryz.prog W = .ok (.string t8) W := y1
            have hk0 : (0 : Int) ≤ (k : Int) := by omega
            have hk1 : (k : Int) < (q.drop.length : Int) := by omega
            clear hz r2 y1
            go_wp2
            go_roundw
            case rel => exact ⟨k + 1, z, by omega, by go_num, rfl, HZ, hnx⟩
            case measure => simp [intOf] <;> omega
          · obtain rfl : k = q.drop.length := by omega
            obtain ⟨P3, hP3⟩ : ∃ P, P = P2 ++ q.drop.flatMap fD := ⟨_, rfl⟩
            have HP3 := Lib.hid hP3
            have HS3 : Hid (P3.length + (q.glob.flatMap fG).length ≤ 140737488355328) := Lib.hid (by rw [hP3, HP2.out, List.length_append, List.length_append]; exact HS1.out.2.2.1)
            have hst1 : Hid (x = str (P3 ++ (q.glob.take 0).flatMap fG)) := Lib.hid (by rw [hst.out, hP3, List.take_length]; simp)
            obtain ⟨w3, rfl⟩ : ∃ w3, w3 = wr := ⟨_, rfl⟩
            obtain ⟨_, a0, a1, a2, a3, a4, a5, a6⟩ := HK.out _ hnx
            clear hP3 hst
            go_wp2
            go_loopw [3, 59] (fun s i wr => ∃ (k : Nat) (x : ByteArray), k ≤ q.glob.length ∧ i = .int .i64 k ∧ s = .string x ∧ Hid (x = str (P3 ++ (q.glob.take k).flatMap fG)) ∧ Below W1.heap.size W1 wr) (fun _ i _ => q.glob.length - (intOf i).toNat)
            case atStart => exact ⟨0, x, by omega, rfl, rfl, hst1, hnx⟩
            case round =>
              clear a0 a1 a2 a3 a4 a5 a6 hst1
              obtain ⟨k, x, hk, rfl, rfl, hst, hnx⟩ := hrel
              have hzr := hnx.size
              by_cases hlt : k < q.glob.length
              · obtain ⟨b, off, u, rfl, _, hb2, hu, hcell⟩ := fmR.rd_at (HRD.out _ hnx).2.1 hlt
                have hu' : kdW.rd wr 0 wr.heap.size u q.glob[k].words := hu
                have c0 := hcell 0 _ rfl
                have c1 := hcell 1 _ rfl
                have c2 := hcell 2 _ rfl
                rw [show off + (k * fmR.size + 0) = off + k * 3 from rfl] at c0
                rw [show off + (k * fmR.size + 1) = off + k * 3 + 1 from by show off + (k * 3 + 1) = _; omega] at c1
                rw [show off + (k * fmR.size + 2) = off + k * 3 + 2 from by show off + (k * 3 + 2) = _; omega] at c2
                obtain ⟨A5, c5, rfl, _⟩ := rdW_form hu'
                obtain ⟨g1, g2, _⟩ := HPR.out.glob k hlt
                obtain ⟨r1, r2⟩ := step_add HS3.out hlt
                rw [← hst.out] at r1
                obtain ⟨z, hz⟩ : ∃ z, z = str (P3 ++ (q.glob.take (k + 1)).flatMap fG) := ⟨_, rfl⟩
                rw [← hz] at r1
                have HZ := Lib.hid hz
                have hb3 : Below wr.heap.size wr (wr.alloc (.cells #[.string q.glob[k].name, .int .i64 q.glob[k].kind, .slice A5 q.glob[k].words.length c5] 50)) := (Below.refl _ _).alloc (Nat.le_refl _) _
                have HLN := rLineC (str [103, 108, 111, 98, 97, 108]) q.glob[k] (.slice A5 q.glob[k].words.length c5) (wr.alloc (.cells #[.string q.glob[k].name, .int .i64 q.glob[k].kind, .slice A5 q.glob[k].words.length c5] 50)) (kdW.wide (kdW.stay hu' fun j _ hj => hb3.block j hj) (Nat.le_refl _) hb3.size) g1 g2 (by have : (fG q.glob[k]).length ≤ 140737488355328 := r2; unfold fG at this; omega)
                have e9 : sayL (str [103, 108, 111, 98, 97, 108]) q.glob[k] = fG q.glob[k] := rfl
                rw [e9] at HLN
                generalize str (fG q.glob[k]) = t9 at *
                unfold ruV at HLN
                generalize q.glob[k].name = rn at *
                generalize q.glob[k].kind = rk at *
                generalize q.glob[k].words.length = rw9 at *
                have HLN2 : Hid (Calls Tryz.prog 78 #[.string ⟨#[103, 108, 111, 98, 97, 108]⟩, .agg #[.string rn, .int .i64 rk, .slice A5 rw9 c5]] (wr.alloc (.cells #[.string rn, .int .i64 rk, .slice A5 rw9 c5] 50)) fun e w' => e = .returned (.string t9) ∧ Below (wr.alloc (.cells #[.string rn, .int .i64 rk, .slice A5 rw9 c5] 50)).heap.size (wr.alloc (.cells #[.string rn, .int .i64 rk, .slice A5 rw9 c5] 50)) w') := Lib.hid HLN
                obtain ⟨W2, hW2⟩ : ∃ W, W = wr.alloc (.cells #[.string rn, .int .i64 rk, .slice A5 rw9 c5] 50) := ⟨_, rfl⟩
                have k5 : Bl W2 wr.heap.size 50 [.string rn, .int .i64 rk, .slice A5 rw9 c5] := hW2 ▸ Bl.new wr _ _ rfl
                have y0 := k5.cell 0 rfl
                have y1 := k5.cell 1 rfl
                have y2 := k5.cell 2 rfl
                rw [← hW2] at HLN2 hb3
                have HW2 := Lib.hid hW2
                have hk0 : (0 : Int) ≤ (k : Int) := by omega
                have hk1 : (k : Int) < (q.glob.length : Int) := by omega
                clear hz r2 HLN e9 hcell hu hu' g1 g2 hW2 k5
                go_upto_region 18 with fail
                rw [← HW2.out]
                clear c0 c1 c2
                go_wp2_with (go_at_call 78; refine HLN2.out.mono ?_; rintro e w7 ⟨rfl, hb7⟩)
                go_roundw
                case rel => exact ⟨k + 1, z, by omega, by go_num, rfl, HZ, (hnx.trans (hb3.mono hzr)).trans (hb7.mono (Nat.le_trans hzr hb3.size))⟩
                case measure => simp [intOf] <;> omega
              · obtain rfl : k = q.glob.length := by omega
                obtain ⟨P4, hP4⟩ : ∃ P, P = P3 ++ q.glob.flatMap fG := ⟨_, rfl⟩
                have HP4 := Lib.hid hP4
                have HS4 : Hid (P4.length + (q.els.flatMap fE).length ≤ 140737488355328) := Lib.hid (by rw [hP4, HP3.out, HP2.out, List.length_append, List.length_append, List.length_append]; exact HS1.out.2.2.2)
                have hst1 : Hid (x = str (P4 ++ (q.els.take 0).flatMap fE)) := Lib.hid (by rw [hst.out, hP4, List.take_length]; simp)
                obtain ⟨w4, rfl⟩ : ∃ w4, w4 = wr := ⟨_, rfl⟩
                obtain ⟨_, a0, a1, a2, a3, a4, a5, a6⟩ := HK.out _ hnx
                clear hP4 hst
                go_wp2
                go_loopw [3, 71] (fun s i wr => ∃ (k : Nat) (x : ByteArray), k ≤ q.els.length ∧ i = .int .i64 k ∧ s = .string x ∧ Hid (x = str (P4 ++ (q.els.take k).flatMap fE)) ∧ Below W1.heap.size W1 wr) (fun _ i _ => q.els.length - (intOf i).toNat)
                case atStart => exact ⟨0, x, by omega, rfl, rfl, hst1, hnx⟩
                case round =>
                  clear a0 a1 a2 a3 a4 a5 a6 hst1
                  obtain ⟨k, x, hk, rfl, rfl, hst, hnx⟩ := hrel
                  have hzr := hnx.size
                  by_cases hlt : k < q.els.length
                  · obtain ⟨b, off, u, rfl, _, hb2, hu, hcell⟩ := fmE.rd_at (HRD.out _ hnx).1 hlt
                    have hu' : kdR.rd wr 0 wr.heap.size u q.els[k].rules := hu
                    have c0 := hcell 0 _ rfl
                    have c1 := hcell 1 _ rfl
                    rw [show off + (k * fmE.size + 0) = off + k * 2 from rfl] at c0
                    rw [show off + (k * fmE.size + 1) = off + k * 2 + 1 from by show off + (k * 2 + 1) = _; omega] at c1
                    obtain ⟨A5, c5, rfl, _⟩ := fmR.rd_form hu'
                    have hfit := flat_fit hlt HS4.out
                    have hkok := HPR.out.els k hlt
                    have hint2 := HPR.out.int2 k hlt
                    have hsucc : (q.els.take (k + 1)).flatMap fE = (q.els.take k).flatMap fE ++ fE q.els[k] := flat_succ hlt
                    obtain ⟨Q, hQ⟩ : ∃ Q, Q = P4 ++ (q.els.take k).flatMap fE ++ lineL [str [101, 108, 101, 109, 101, 110, 116], q.els[k].name] := ⟨_, rfl⟩
                    have hfe : (fE q.els[k]).length = (lineL [str [101, 108, 101, 109, 101, 110, 116], q.els[k].name]).length + (q.els[k].rules.flatMap fA).length := by unfold fE; rw [List.length_append]
                    have HQS : Hid (Q.length + (q.els[k].rules.flatMap fA).length ≤ 140737488355328) := Lib.hid (by rw [hQ, List.length_append, List.length_append]; omega)
                    have HQE : Hid (Q ++ q.els[k].rules.flatMap fA = P4 ++ (q.els.take (k + 1)).flatMap fE) := Lib.hid (by rw [hQ, hsucc]; unfold fE; simp only [List.append_assoc])
                    obtain ⟨y1, y2⟩ := word_add (wd := [101, 108, 101, 109, 101, 110, 116, 32]) (x := q.els[k].name) (F := lineL [str [101, 108, 101, 109, 101, 110, 116], q.els[k].name]) (by rw [line_two]; simp [str]) (by omega)
                    have r1 : ∀ W, (Op.stringOp .add x (str (lineL [str [101, 108, 101, 109, 101, 110, 116], q.els[k].name]))).run Tryz.prog W = .ok (.string (str Q)) W := fun W => addL hst.out rfl hQ.symm (by have := HQS.out; omega) W
                    obtain ⟨z, hz⟩ : ∃ z, z = str Q := ⟨_, rfl⟩
                    rw [← hz] at r1
                    have HZ0 : Hid (z = str (Q ++ (q.els[k].rules.take 0).flatMap fA)) := Lib.hid (by rw [hz]; simp)
                    obtain ⟨RL, hRL⟩ : ∃ R, R = q.els[k].rules := ⟨_, rfl⟩
                    rw [← hRL] at HQS HQE HZ0 hint2 hu'
                    have HRR : Hid (∀ W, Below wr.heap.size wr W → kdR.rd W 0 W.heap.size (.slice A5 RL.length c5) RL) := Lib.hid fun W hW => by rw [hRL]; rw [hRL] at hu'; exact kdR.wide (rd_below hu' hW (Nat.le_refl _)) (Nat.le_refl _) hW.size
                    have HKO : Hid (∀ j (hj : j < RL.length), KOk RL[j]) := Lib.hid (by subst hRL; exact hkok)
                    have e8 : fmE.sub q.els[k] = RL := hRL.symm
                    have e7 : q.els[k].rules.length = RL.length := by rw [hRL]
                    rw [e7] at c1
                    generalize str (lineL [str [101, 108, 101, 109, 101, 110, 116], q.els[k].name]) = t9 at *
                    generalize str ([101, 108, 101, 109, 101, 110, 116, 32] ++ (q.els[k].name).data.toList) = t8 at *
                    generalize q.els[k].name = en at *
                    have y1' : ∀ W, (Op.stringOp .add ⟨#[101, 108, 101, 109, 101, 110, 116, 32]⟩ en).run Tryz.prog W = .ok (.string t8) W := y1
                    have hk0 : (0 : Int) ≤ (k : Int) := by omega
                    have hk1 : (k : Int) < (q.els.length : Int) := by omega
                    have hri : (RL.length : Int) ≤ 9223372036854775807 := by omega
                    clear hz y1 hcell hu hu' hfit hkok hint2 hsucc hfe hQ hRL e8 e7
                    go_upto_region 23 with fail
                    obtain ⟨W2, hW2⟩ : ∃ W, W = wr.alloc (.cells #[.string en, .slice A5 RL.length c5] 45) := ⟨_, rfl⟩
                    have hb3 : Below wr.heap.size wr W2 := hW2 ▸ (Below.refl _ _).alloc (Nat.le_refl _) _
                    have k5 : Bl W2 wr.heap.size 45 [.string en, .slice A5 RL.length c5] := hW2 ▸ Bl.new wr _ _ rfl
                    have j0 := k5.cell 0 rfl
                    have j1 := k5.cell 1 rfl
                    rw [← hW2]
                    have HW2 := Lib.hid hW2
                    have hn2 : Below W1.heap.size W1 W2 := hnx.trans (hb3.mono hzr)
                    have hz3 := hb3.size
                    obtain ⟨wo, rfl⟩ : ∃ wo, wo = wr := ⟨_, rfl⟩
                    clear hW2 c0 c1
                    go_wp2
                    go_loopw [3, 84] (fun s i wr => ∃ (j : Nat) (x : ByteArray), j ≤ RL.length ∧ i = .int .i64 j ∧ s = .string x ∧ Hid (x = str (Q ++ (RL.take j).flatMap fA)) ∧ Below W2.heap.size W2 wr) (fun _ i _ => RL.length - (intOf i).toNat)
                    case atStart => exact ⟨0, z, by omega, rfl, rfl, HZ0, Below.refl _ _⟩
                    case round =>
                      clear j0 j1 y1' y2 r1 HZ0
                      obtain ⟨j, x, hj, rfl, rfl, hsj, hnj⟩ := hrel
                      have hzj := hnj.size
                      by_cases hltj : j < RL.length
                      · have hnj0 : Below wo.heap.size wo wr := hb3.trans (hnj.mono hz3)
                        obtain ⟨b, off, u, rfl, _, hb2, hu, hcell⟩ := fmR.rd_at (HRR.out _ hnj0) hltj
                        have hu' : kdW.rd wr 0 wr.heap.size u RL[j].words := hu
                        have c0 := hcell 0 _ rfl
                        have c1 := hcell 1 _ rfl
                        have c2 := hcell 2 _ rfl
                        rw [show off + (j * fmR.size + 0) = off + j * 3 from rfl] at c0
                        rw [show off + (j * fmR.size + 1) = off + j * 3 + 1 from by show off + (j * 3 + 1) = _; omega] at c1
                        rw [show off + (j * fmR.size + 2) = off + j * 3 + 2 from by show off + (j * 3 + 2) = _; omega] at c2
                        obtain ⟨A6, c6, rfl, _⟩ := rdW_form hu'
                        obtain ⟨g1, g2, _⟩ := HKO.out j hltj
                        obtain ⟨r1, r2⟩ := step_add HQS.out hltj
                        rw [← hsj.out] at r1
                        obtain ⟨z, hz⟩ : ∃ z, z = str (Q ++ (RL.take (j + 1)).flatMap fA) := ⟨_, rfl⟩
                        rw [← hz] at r1
                        have HZ := Lib.hid hz
                        have hb3 : Below wr.heap.size wr (wr.alloc (.cells #[.string RL[j].name, .int .i64 RL[j].kind, .slice A6 RL[j].words.length c6] 50)) := (Below.refl _ _).alloc (Nat.le_refl _) _
                        have HLN := rLineC (str [97, 116, 116, 114]) RL[j] (.slice A6 RL[j].words.length c6) (wr.alloc (.cells #[.string RL[j].name, .int .i64 RL[j].kind, .slice A6 RL[j].words.length c6] 50)) (kdW.wide (kdW.stay hu' fun j _ hj => hb3.block j hj) (Nat.le_refl _) hb3.size) g1 g2 (by have : (fA RL[j]).length ≤ 140737488355328 := r2; unfold fA at this; omega)
                        have e9 : sayL (str [97, 116, 116, 114]) RL[j] = fA RL[j] := rfl
                        rw [e9] at HLN
                        generalize str (fA RL[j]) = t9 at *
                        unfold ruV at HLN
                        generalize RL[j].name = rn at *
                        generalize RL[j].kind = rk at *
                        generalize RL[j].words.length = rw9 at *
                        have HLN2 : Hid (Calls Tryz.prog 78 #[.string ⟨#[97, 116, 116, 114]⟩, .agg #[.string rn, .int .i64 rk, .slice A6 rw9 c6]] (wr.alloc (.cells #[.string rn, .int .i64 rk, .slice A6 rw9 c6] 50)) fun e w' => e = .returned (.string t9) ∧ Below (wr.alloc (.cells #[.string rn, .int .i64 rk, .slice A6 rw9 c6] 50)).heap.size (wr.alloc (.cells #[.string rn, .int .i64 rk, .slice A6 rw9 c6] 50)) w') := Lib.hid HLN
                        obtain ⟨W5, hW5⟩ : ∃ W, W = wr.alloc (.cells #[.string rn, .int .i64 rk, .slice A6 rw9 c6] 50) := ⟨_, rfl⟩
                        have k6 : Bl W5 wr.heap.size 50 [.string rn, .int .i64 rk, .slice A6 rw9 c6] := hW5 ▸ Bl.new wr _ _ rfl
                        have y0 := k6.cell 0 rfl
                        have y1 := k6.cell 1 rfl
                        have y2 := k6.cell 2 rfl
                        rw [← hW5] at HLN2 hb3
                        have HW5 := Lib.hid hW5
                        have hk0 : (0 : Int) ≤ (j : Int) := by omega
                        have hk1 : (j : Int) < (RL.length : Int) := by omega
                        clear hz r2 HLN e9 hcell hu hu' g1 g2 hW5 k6
                        go_upto_region 27 with fail
                        rw [← HW5.out]
                        clear c0 c1 c2
                        go_wp2_with (go_at_call 78; refine HLN2.out.mono ?_; rintro e w7 ⟨rfl, hb7⟩)
                        go_roundw
                        case rel => exact ⟨j + 1, z, by omega, by go_num, rfl, HZ, (hnj.trans (hb3.mono hzj)).trans (hb7.mono (Nat.le_trans hzj hb3.size))⟩
                        case measure => simp [intOf] <;> omega
                      · obtain rfl : j = RL.length := by omega
                        have hnew : Hid (x = str (P4 ++ (q.els.take (k + 1)).flatMap fE)) := Lib.hid (by rw [hsj.out, List.take_length, HQE.out])
                        go_wp2
                        go_roundw
                        case rel => exact ⟨k + 1, x, by omega, by go_num, rfl, hnew, hn2.trans (hnj.mono hn2.size)⟩
                        case measure => simp [intOf] <;> omega
                  · obtain rfl : k = q.els.length := by omega
                    have hfin : Hid (x = str (printL q)) := Lib.hid (by rw [hst.out, HP4.out, HP3.out, HP2.out, HP1.out, HP0.out, HPL.out, List.take_length])
                    go_wp2
                    go_ret
                    exact ⟨by rw [hfin.out]; exact rfl, (HK.out _ hnx).1⟩
end Go.Proofs.YteikagdinecfoaaGreatDoor.Rp
