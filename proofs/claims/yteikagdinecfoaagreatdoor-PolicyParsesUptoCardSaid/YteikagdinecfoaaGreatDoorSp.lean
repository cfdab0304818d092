/- The law's texts, rule, rules, spoilt; what is dropped: the program's Dropped, the reference's has and Dropped. -/
import Derived.Deep.RegionHeld3
import Derived.Deep.DrawnRows
import Derived.Deep.MidRow
import Derived.Test.YteikagdinecfoaaGreatDoorBk
import Derived.Test.YteikagdinecfoaaGreatDoorIn
import Derived.Test.YteikagdinecfoaaGreatDoorCk
import Derived.Test.YteikagdinecfoaaGreatDoorSr
set_option linter.unusedVariables false
set_option linter.unusedSimpArgs false
/-! The law's texts, rule, rules: two that read alike are the same. -/
namespace Go.Proofs.YteikagdinecfoaaGreatDoor.Tx
open Go.RowKit Lb Gr Pd Fl Go.Proofs.YteikagdinecfoaaGreatDoor.Pm Bk
attribute [local go_sem ↓] Go.wp_at_zero Go.wp_at_succ

set_option maxHeartbeats 2000000 in
set_option maxRecDepth 100000 in
theorem lTexts (l : List ByteArray) (v u : Value) (w : World) (h : kdW.rd w 0 w.heap.size v l) (h2 : kdW.rd w 0 w.heap.size u l) : Calls Tryz.prog 41 #[v, u] w fun e w' => e = .returned (.bool true) ∧ Below w.heap.size w w' := by
  obtain ⟨A, c, rfl, hc1, hc2⟩ := rdW_form h
  obtain ⟨B, d, rfl, hd1, hd2⟩ := rdW_form h2
  have hm : maxLen = 9223372036854775807 := rfl
  have hn : (l.length : Int) ≤ 9223372036854775807 := by omega
  have e0 : ((l.length : Int) != (l.length : Int)) = false := by simp
  have HA := Lib.hid h
  have HB := Lib.hid h2
  clear h h2 hm
  have hb00 := Below.refl w.heap.size w
  go_enter Tryz.func41, Tryz.ntmps41
  go_wp2
  go_loopw [13] (fun i wr => ∃ k : Nat, k ≤ l.length ∧ i = .int .i64 k ∧ Below w.heap.size w wr) (fun i _ => l.length - (intOf i).toNat)
  case atStart => exact ⟨0, by omega, rfl, hb00⟩
  case round =>
    obtain ⟨k, hk, rfl, hnx⟩ := hrel
    by_cases hlt : k < l.length
    · obtain ⟨b1, o1, rfl, _, hb1, hx1⟩ := rdW_at HA.out hlt
      obtain ⟨b2, o2, rfl, _, hb2, hx2⟩ := rdW_at HB.out hlt
      have hy1 := (hnx.cell (p := ⟨b1, o1 + k, none⟩) hb1).trans hx1
      have hy2 := (hnx.cell (p := ⟨b2, o2 + k, none⟩) hb2).trans hx2
      obtain ⟨x, hx⟩ : ∃ x, x = l[k] := ⟨_, rfl⟩
      rw [← hx] at hy1 hy2
      clear hx1 hx2 hx
      have he := toList_eq_of (a := x) (b := x) rfl
      have hk1 : (k : Int) < (l.length : Int) := by omega
      have hk0 : (0 : Int) ≤ (k : Int) := by omega
      go_wp2
      go_quiet (fail)
      go_wp2
      go_roundw
      case rel => exact ⟨k + 1, by omega, by go_num, hnx.trans ((drw _ _).mono hnx.size)⟩
      case measure => simp [intOf] <;> omega
    · go_wp2
      go_ret
      exact ⟨rfl, hnx⟩

set_option maxHeartbeats 2000000 in
set_option maxRecDepth 100000 in
theorem lRule (r : RuleD) (v u : Value) (w : World) (h : kdW.rd w 0 w.heap.size v r.words) (h2 : kdW.rd w 0 w.heap.size u r.words) : Calls Tryz.prog 34 #[.agg #[.string r.name, .int .i64 r.kind, v], .agg #[.string r.name, .int .i64 r.kind, u]] w fun e w' => e = .returned (.bool true) ∧ Below w.heap.size w w' := by
  have HT : Hid (∀ W, Below w.heap.size w W → Calls Tryz.prog 41 #[v, u] W fun e w' => e = .returned (.bool true) ∧ Below W.heap.size W w') :=
    Lib.hid fun W hW => lTexts r.words v u W (kdW.wide (rd_below h hW (Nat.le_refl _)) (Nat.le_refl _) hW.size) (kdW.wide (rd_below h2 hW (Nat.le_refl _)) (Nat.le_refl _) hW.size)
  obtain ⟨A, c, rfl, hc1, hc2⟩ := rdW_form h
  obtain ⟨B, d, rfl, hd1, hd2⟩ := rdW_form h2
  clear h h2
  obtain ⟨n, k, ws⟩ := r
  simp only at HT hc1 hd1 ⊢
  have hb2 := ((Below.refl w.heap.size w).alloc (Nat.le_refl _) (.cells #[.string n, .int .i64 k, .slice A ws.length c] 50)).alloc (by simp) (.cells #[.string n, .int .i64 k, .slice B ws.length d] 50)
  have HB := Lib.hid hb2
  clear hb2
  have he := toList_eq_of (a := n) (b := n) rfl
  go_enter Tryz.func34, Tryz.ntmps34
  go_wp2_with (go_at_call 41; refine (HT.out _ HB.out).mono ?_; rintro e w' ⟨rfl, hb'⟩)
  go_ret
  exact ⟨rfl, HB.out.trans (hb'.mono HB.out.size)⟩

set_option maxHeartbeats 4000000 in
set_option maxRecDepth 100000 in
theorem lRules (l : List RuleD) (v u : Value) (w : World) (h : kdR.rd w 0 w.heap.size v l) (h2 : kdR.rd w 0 w.heap.size u l) : Calls Tryz.prog 33 #[v, u] w fun e w' => e = .returned (.bool true) ∧ Below w.heap.size w w' := by
  obtain ⟨A, c, rfl, hc1, hc2⟩ := fmR.rd_form h
  obtain ⟨B, d, rfl, hd1, hd2⟩ := fmR.rd_form h2
  have hm : maxLen = 9223372036854775807 := rfl
  have hn : (l.length : Int) ≤ 9223372036854775807 := by omega
  have e0 : ((l.length : Int) != (l.length : Int)) = false := by simp
  have HA : Hid (∀ W, Below w.heap.size w W → kdR.rd W 0 w.heap.size (.slice A l.length c) l) := Lib.hid fun W hW => rd_below h hW (Nat.le_refl _)
  have HB : Hid (∀ W, Below w.heap.size w W → kdR.rd W 0 w.heap.size (.slice B l.length d) l) := Lib.hid fun W hW => rd_below h2 hW (Nat.le_refl _)
  clear h h2 hm
  have hb00 := Below.refl w.heap.size w
  go_enter Tryz.func33, Tryz.ntmps33
  go_wp2
  go_loopw [13] (fun i wr => ∃ k : Nat, k ≤ l.length ∧ i = .int .i64 k ∧ Below w.heap.size w wr) (fun i _ => l.length - (intOf i).toNat)
  case atStart => exact ⟨0, by omega, rfl, hb00⟩
  case round =>
    obtain ⟨k, hk, rfl, hnx⟩ := hrel
    by_cases hlt : k < l.length
    · obtain ⟨b1, o1, u1, rfl, _, hb1, hu1, hcell1⟩ := fmR.rd_at (HA.out _ hnx) hlt
      obtain ⟨b2, o2, u2, rfl, _, hb2, hu2, hcell2⟩ := fmR.rd_at (HB.out _ hnx) hlt
      have c0 := hcell1 0 _ rfl
      have c1 := hcell1 1 _ rfl
      have c2 := hcell1 2 _ rfl
      have d0 := hcell2 0 _ rfl
      have d1 := hcell2 1 _ rfl
      have d2 := hcell2 2 _ rfl
      rw [show o1 + (k * fmR.size + 0) = o1 + k * 3 from rfl] at c0
      rw [show o1 + (k * fmR.size + 1) = o1 + k * 3 + 1 from by show o1 + (k * 3 + 1) = _; omega] at c1
      rw [show o1 + (k * fmR.size + 2) = o1 + k * 3 + 2 from by show o1 + (k * 3 + 2) = _; omega] at c2
      rw [show o2 + (k * fmR.size + 0) = o2 + k * 3 from rfl] at d0
      rw [show o2 + (k * fmR.size + 1) = o2 + k * 3 + 1 from by show o2 + (k * 3 + 1) = _; omega] at d1
      rw [show o2 + (k * fmR.size + 2) = o2 + k * 3 + 2 from by show o2 + (k * 3 + 2) = _; omega] at d2
      have hu1' : kdW.rd wr 0 w.heap.size u1 l[k].words := hu1
      have hu2' : kdW.rd wr 0 w.heap.size u2 l[k].words := hu2
      clear hu1 hu2 hcell1 hcell2
      have hz := hnx.size
      have HC : Hid (Calls Tryz.prog 34 #[.agg #[.string l[k].name, .int .i64 l[k].kind, u1], .agg #[.string l[k].name, .int .i64 l[k].kind, u2]] wr.drew fun e w' => e = .returned (.bool true) ∧ Below wr.heap.size wr.drew w') :=
        Lib.hid (lRule l[k] u1 u2 wr.drew (kdW.wide (kdW.stay hu1' fun _ _ _ => rfl) (Nat.le_refl _) hz) (kdW.wide (kdW.stay hu2' fun _ _ _ => rfl) (Nat.le_refl _) hz))
      obtain ⟨A1, a1, rfl, _⟩ := rdW_form hu1'
      obtain ⟨A2, a2, rfl, _⟩ := rdW_form hu2'
      clear hu1' hu2'
      obtain ⟨n, q, ws⟩ : ∃ n q ws, l[k] = (⟨n, q, ws⟩ : RuleD) := ⟨_, _, _, rfl⟩
      have hk1 : (k : Int) < (l.length : Int) := by omega
      have hk0 : (0 : Int) ≤ (k : Int) := by omega
      have hcl : ∀ w1, Below wr.heap.size wr.drew w1 → ∀ b o x, b < w.heap.size → wr.cell? ⟨b, o, none⟩ = some x → w1.cell? ⟨b, o, none⟩ = some x := fun w1 h1 b o x hb hx => (h1.cell (p := ⟨b, o, none⟩) (Nat.lt_of_lt_of_le hb hz)).trans hx
      have HCL := Lib.hid hcl
      clear hcl
      go_upto_region 6 with fail
      first | (go_region_held3 (fun W' => W'.cell? ⟨b1, o1 + k * 3, none⟩ = some (.string l[k].name) ∧ W'.cell? ⟨b1, o1 + k * 3 + 1, none⟩ = some (.int .i64 l[k].kind) ∧ W'.cell? ⟨b1, o1 + k * 3 + 2, none⟩ = some (.slice A1 l[k].words.length a1) ∧ W'.cell? ⟨b2, o2 + k * 3, none⟩ = some (.string l[k].name) ∧ W'.cell? ⟨b2, o2 + k * 3 + 1, none⟩ = some (.int .i64 l[k].kind) ∧ W'.cell? ⟨b2, o2 + k * 3 + 2, none⟩ = some (.slice A2 l[k].words.length a2))
        (first | exact ⟨c0, c1, c2, d0, d1, d2⟩ | exact ⟨z0, z1, z2, z3, z4, z5⟩)
        (first | (go_at_call 34; refine HC.out.mono ?_; rintro e w2 ⟨rfl, hb3⟩; have z0 := HCL.out _ hb3 _ _ _ hb1 c0; have z1 := HCL.out _ hb3 _ _ _ hb1 c1; have z2 := HCL.out _ hb3 _ _ _ hb1 c2; have z3 := HCL.out _ hb3 _ _ _ hb2 d0; have z4 := HCL.out _ hb3 _ _ _ hb2 d1; have z5 := HCL.out _ hb3 _ _ _ hb2 d2))) | fail
      go_wp2
      go_roundw
      case rel => exact ⟨k + 1, by omega, by go_num, hnx.drew.trans (hb3.mono hz)⟩
      case measure => simp [intOf] <;> omega
    · go_wp2
      go_ret
      exact ⟨rfl, hnx⟩
end Go.Proofs.YteikagdinecfoaaGreatDoor.Tx

/-! Is a name dropped with its content: the program's Dropped, the reference's has and Dropped. -/
namespace Go.Proofs.YteikagdinecfoaaGreatDoor.Dp
open Go.RowKit Lb Gr Pd Fl Go.Proofs.YteikagdinecfoaaGreatDoor.Pm Bk Is Sl
attribute [local go_sem ↓] Go.wp_at_zero Go.wp_at_succ

def drpB (p : PolD) (s : ByteArray) : Bool := hasT p.drop s || inS s 3 || decide (s = str [115, 99, 114, 105, 112, 116]) || decide (s = str [112, 108, 97, 105, 110, 116, 101, 120, 116])

set_option maxHeartbeats 2000000 in
set_option maxRecDepth 100000 in
theorem rHasC (l : List ByteArray) (v : Value) (s : ByteArray) (w : World) (h : kdW.rd w 0 w.heap.size v l) : Calls Tryz.prog 56 #[v, .string s] w fun e w' => e = .returned (.bool (hasT l s)) ∧ w' = w := by
  obtain ⟨A, c, rfl, hc1, hc2⟩ := rdW_form h
  have hm : maxLen = 9223372036854775807 := rfl
  have hn : (l.length : Int) ≤ 9223372036854775807 := by omega
  have HA := Lib.hid h
  have HB : Hid (hasT l s = hasT (l.drop 0) s) := Lib.hid rfl
  clear h hm
  go_enter Tryz.func56, Tryz.ntmps56
  go_wp2
  go_loopw [9] (fun i wr => ∃ k : Nat, k ≤ l.length ∧ i = .int .i64 k ∧ wr = w ∧ Hid (hasT l s = hasT (l.drop k) s)) (fun i _ => l.length - (intOf i).toNat)
  case atStart => exact ⟨0, by omega, rfl, rfl, HB⟩
  case round =>
    obtain ⟨k, hk, rfl, rfl, hst⟩ := hrel
    by_cases hlt : k < l.length
    · obtain ⟨b1, o1, rfl, _, hb1, hx1⟩ := rdW_at HA.out hlt
      have hk0 : (0 : Int) ≤ (k : Int) := by omega
      by_cases hs : l[k] = s
      · have hr : Hid (hasT l s = true) := Lib.hid (by rw [hst.out, List.drop_eq_getElem_cons hlt]; unfold hasT; rw [List.any_cons, decide_eq_true hs]; rfl)
        have he := toList_eq_of hs
        clear hs
        go_wp2
        go_ret
        exact ⟨rb hr.out, rfl⟩
      · have hr : Hid (hasT l s = hasT (l.drop (k + 1)) s) := Lib.hid (by rw [hst.out, List.drop_eq_getElem_cons hlt]; unfold hasT; rw [List.any_cons, decide_eq_false hs, Bool.false_or])
        have he := toList_ne_of hs
        clear hs
        go_wp2
        go_roundw
        case rel => exact ⟨k + 1, by omega, by go_num, by trivial, hr⟩
        case measure => simp [intOf] <;> omega
    · have hr : Hid (hasT l s = false) := Lib.hid (by rw [hst.out, List.drop_eq_nil_of_le (by omega)]; rfl)
      go_wp2
      go_ret
      exact ⟨rb hr.out, rfl⟩

theorem drp_of {p : PolD} {s : ByteArray} {a b c d : Bool} (h1 : hasT p.drop s = a) (h2 : inS s 3 = b) (h3 : decide (s = str [115, 99, 114, 105, 112, 116]) = c) (h4 : decide (s = str [112, 108, 97, 105, 110, 116, 101, 120, 116]) = d) : drpB p s = (a || b || c || d) := by
  unfold drpB; rw [h1, h2, h3, h4]

set_option maxHeartbeats 4000000 in
set_option maxRecDepth 100000 in
theorem rDroppedC (x : Vs) (p : PolD) (s : ByteArray) (w : World) (h : RdP w 0 w.heap.size x p) : Calls Tryz.prog 37 #[polV x p, .string s] w fun e w' => e = .returned (.bool (drpB p s)) ∧ Below w.heap.size w w' := by
  have HH : Hid (∀ W, Below w.heap.size w W → Calls Tryz.prog 56 #[x.d, .string s] W fun e w' => e = .returned (.bool (hasT p.drop s)) ∧ w' = W) :=
    Lib.hid fun W hW => rHasC p.drop x.d s W (kdW.wide (kdW.stay h.2.2.2 (stay_below hW (Nat.le_refl _))) (Nat.le_refl _) hW.size)
  have HI : Hid (∀ W, Calls Tryz.prog 55 #[.string s, .int .i64 3] W fun e w' => e = .returned (.bool (inS s 3)) ∧ Below W.heap.size W w') := Lib.hid fun W => rIn s 3 W
  obtain ⟨A1, c1, A2, c2, A3, c3, A4, c4, rfl, q1, q2, q3, q4, q5, q6, q7, q8⟩ := h.form
  clear h
  simp only at HH
  unfold polV
  have hb0 := (Below.refl w.heap.size w).alloc (Nat.le_refl _) (.cells #[.slice A1 p.els.length c1, .slice A2 p.glob.length c2, .slice A3 p.schemes.length c3, .bool p.rel, .slice A4 p.drop.length c4, .int .i64 p.depth, .int .i64 p.window] 29)
  obtain ⟨b1, h1⟩ : ∃ b, hasT p.drop s = b := ⟨_, rfl⟩
  obtain ⟨b2, h2⟩ : ∃ b, inS s 3 = b := ⟨_, rfl⟩
  obtain ⟨b3, h3⟩ : ∃ b, decide (s = str [115, 99, 114, 105, 112, 116]) = b := ⟨_, rfl⟩
  obtain ⟨b4, h4⟩ : ∃ b, decide (s = str [112, 108, 97, 105, 110, 116, 101, 120, 116]) = b := ⟨_, rfl⟩
  have hd : Hid (drpB p s = (b1 || b2 || b3 || b4)) := Lib.hid (drp_of h1 h2 h3 h4)
  have e3 : (s.toList == [115, 99, 114, 105, 112, 116]) = b3 := by rw [← h3, ← eq_str, Lib.toList_data (str _)]; rfl
  have e4 : (s.toList == [112, 108, 97, 105, 110, 116, 101, 120, 116]) = b4 := by rw [← h4, ← eq_str, Lib.toList_data (str _)]; rfl
  rw [h1] at HH
  rw [h2] at HI
  clear h1 h2 h3 h4
  have HB0 := Lib.hid hb0
  have hd2 := hd.out
  clear hd
  cases b1 <;> cases b2 <;> cases b3 <;> cases b4 <;> simp only [Bool.true_or, Bool.false_or, Bool.or_true, Bool.or_false] at hd2 <;> have hd := Lib.hid hd2 <;> clear hd2 <;>
  · go_enter Tryz.func37, Tryz.ntmps37
    go_wp2_with (first
      | (go_at_call 56; refine (HH.out _ hb0).mono ?_; rintro e w1 ⟨rfl, rfl⟩)
      | (go_at_call 55; refine (HI.out _).mono ?_; rintro e w2 ⟨rfl, hb2⟩))
    go_ret
    first | exact ⟨rb hd.out, hb0.trans (hb2.mono hb0.size)⟩ | exact ⟨rb hd.out, hb0⟩
set_option maxHeartbeats 4000000 in
set_option maxRecDepth 100000 in
theorem droppedC (x : Vs) (p : PolD) (s : ByteArray) (w : World) (ht : Tab w) (h : RdP w 0 w.heap.size x p) : Calls Tryz.prog 36 #[polV x p, .string s] w fun e w' => e = .returned (.bool (drpB p s)) ∧ Below w.heap.size w w' := by
  obtain ⟨A1, c1, A2, c2, A3, c3, A4, c4, rfl, q1, q2, q3, q4, q5, q6, q7, q8⟩ := h.form
  have HH : Hid (∀ W, Below w.heap.size w W → Calls Tryz.prog 87 #[.slice A4 p.drop.length c4, .string s] W fun e w' => e = .returned (.bool (hasT p.drop s)) ∧ W = w') :=
    Lib.hid fun W hW => libContains (kdW.stay h.2.2.2 (stay_below hW (Nat.le_refl _))) (by have hm : maxLen = 9223372036854775807 := rfl; omega) s
  have HI : Hid (∀ W, Below w.heap.size w W → Calls Tryz.prog 88 #[.string s, .int .i64 3] W fun e w' => e = .returned (.bool (inS s 3)) ∧ Below W.heap.size W w') := Lib.hid fun W hW => nIn s 3 W (ht.below hW)
  clear h ht
  unfold polV
  have hb0 := (Below.refl w.heap.size w).alloc (Nat.le_refl _) (.cells #[.slice A1 p.els.length c1, .slice A2 p.glob.length c2, .slice A3 p.schemes.length c3, .bool p.rel, .slice A4 p.drop.length c4, .int .i64 p.depth, .int .i64 p.window] 29)
  obtain ⟨b1, h1⟩ : ∃ b, hasT p.drop s = b := ⟨_, rfl⟩
  obtain ⟨b2, h2⟩ : ∃ b, inS s 3 = b := ⟨_, rfl⟩
  obtain ⟨b3, h3⟩ : ∃ b, decide (s = str [115, 99, 114, 105, 112, 116]) = b := ⟨_, rfl⟩
  obtain ⟨b4, h4⟩ : ∃ b, decide (s = str [112, 108, 97, 105, 110, 116, 101, 120, 116]) = b := ⟨_, rfl⟩
  have hd : Hid (drpB p s = (b1 || b2 || b3 || b4)) := Lib.hid (drp_of h1 h2 h3 h4)
  have e3 : (s.toList == [115, 99, 114, 105, 112, 116]) = b3 := by rw [← h3, ← eq_str, Lib.toList_data (str _)]; rfl
  have e4 : (s.toList == [112, 108, 97, 105, 110, 116, 101, 120, 116]) = b4 := by rw [← h4, ← eq_str, Lib.toList_data (str _)]; rfl
  rw [h1] at HH
  rw [h2] at HI
  clear h1 h2 h3 h4
  have hd2 := hd.out
  clear hd
  cases b1 <;> cases b2 <;> cases b3 <;> cases b4 <;> simp only [Bool.true_or, Bool.false_or, Bool.or_true, Bool.or_false] at hd2 <;> have hd := Lib.hid hd2 <;> clear hd2 <;>
  · go_enter Tryz.func36, Tryz.ntmps36
    go_wp2_with (first
      | (go_at_call 87; refine (HH.out _ hb0).mono ?_; rintro e w1 ⟨rfl, rfl⟩)
      | (go_at_call 88; refine (HI.out _ hb0).mono ?_; rintro e w2 ⟨rfl, hb2⟩))
    go_ret
    first | exact ⟨rb hd.out, hb0.trans (hb2.mono hb0.size)⟩ | exact ⟨rb hd.out, hb0⟩
end Go.Proofs.YteikagdinecfoaaGreatDoor.Dp

/-! The law's spoilt: rules of the call's own are written over. -/
namespace Go.Proofs.YteikagdinecfoaaGreatDoor.Sp
open Go.RowKit Lb Gr Pd Fl Go.Proofs.YteikagdinecfoaaGreatDoor.Pm Bk Go.Proofs.YteikagdinecfoaaGreatDoor.Rs Go.Proofs.YteikagdinecfoaaGreatDoor.Sr
attribute [local go_sem ↓] Go.wp_at_zero Go.wp_at_succ

theorem set33 {xs : List Value} {k n : Nat} {a b d : Value} (hl : xs.length = n * 3) (hk : k < n) : xs.take (k * 3) ++ [a, b, d] ++ xs.drop ((k + 1) * 3) = ((xs.set (k * 3) a).set (k * 3 + 1) b).set (k * 3 + 2) d := by
  have h := set3 (xs := (xs.set (k * 3) a).set (k * 3 + 1) b) (k := k) (n := n) (a := a) (b := b) (d := d) (by simpa using hl) hk (by rw [List.getElem?_set_ne (by omega), List.getElem?_set_self (by omega)]) (by rw [List.getElem?_set_self (by simp; omega)])
  rw [← h, List.take_set_of_le (by omega), List.take_set_of_le (by omega), List.drop_set_of_lt (by omega), List.drop_set_of_lt (by omega)]
/-- a rule written over, in its row -/
theorem closeS {w5 : World} {B g n c k : Nat} {xs : List Value} (r : RuleD) (hk : k < n) (hxs : w5.ownsRow B fmR.e fmR.size (.slice (some ⟨g, 0, none⟩) n c) n xs) (hxl : xs.length = n * fmR.size) (u5 : Value) :
    (((w5.setCell ⟨g, k * 3, none⟩ (.string r.name)).setCell ⟨g, k * 3 + 1, none⟩ (.int .i64 r.kind)).setCell ⟨g, k * 3 + 2, none⟩ u5).ownsRow B fmR.e fmR.size (.slice (some ⟨g, 0, none⟩) n c) n (xs.take (k * fmR.size) ++ fmR.enc r u5 ++ xs.drop ((k + 1) * fmR.size)) := by
  have g2 := ((((hxs.stored (k * 3) (.string r.name)).1.stored (k * 3 + 1) (.int .i64 r.kind)).1).stored (k * 3 + 2) u5).1
  rw [← set33 (n := n) hxl hk] at g2
  exact g2
theorem Fr.set3' (w : World) (g o : Nat) (x y z : Value) : Fr [g] w (((w.setCell ⟨g, o, none⟩ x).setCell ⟨g, o + 1, none⟩ y).setCell ⟨g, o + 2, none⟩ z) := ((Fr.setCell w ⟨g, o, none⟩ x (.inl (by simp))).trans (Fr.setCell _ ⟨g, o + 1, none⟩ y (.inl (by simp)))).trans (Fr.setCell _ ⟨g, o + 2, none⟩ z (.inl (by simp)))
def spS : ByteArray := ⟨#[115, 112, 111, 105, 108, 116]⟩
def spR : RuleD := ⟨spS, 0, []⟩

set_option maxHeartbeats 4000000 in
set_option maxRecDepth 100000 in
theorem spoiltC {l : List RuleD} {v : Value} {F : List Nat} {B : Nat} (w : World) (h : kdR.own w B v l F) (hl : l.length ≤ 9223372036854775807) (hw : ∀ i (h : i < l.length), (l[i]).words.length ≤ 9223372036854775807) : Calls Tryz.prog 35 #[v] w fun e w' =>
    e = .returned (.tuple #[]) ∧ ∃ F', kdR.own w' B v (l.map fun _ => spR) F' ∧ (∀ k ∈ F', k ∈ F) ∧ Fr F w w' := by
  obtain ⟨A, c, rfl, hc1, hc2⟩ := fmR.own_form h
  have HW := Lib.hid hw
  have hlen : (l.length : Int) ≤ 9223372036854775807 := by omega
  have h0 : Hid (kdR.own w B (.slice A l.length c) (mixed (fun _ => spR) l 0) F ∧ (∀ x ∈ F, x ∈ F) ∧ Fr F w w) := Lib.hid ⟨by rw [mixed_0]; exact h, fun _ h => h, Fr.refl _ _⟩
  clear h hw
  go_enter Tryz.func35, Tryz.ntmps35
  go_wp2
  go_loopw [6] (fun i wr => ∃ (k : Nat) (Fc : List Nat), k ≤ l.length ∧ i = .int .i64 k ∧ Hid (kdR.own wr B (.slice A l.length c) (mixed (fun _ => spR) l k) Fc ∧ (∀ x ∈ Fc, x ∈ F) ∧ Fr F w wr)) (fun i _ => l.length - (intOf i).toNat)
  case atStart => exact ⟨0, F, by omega, rfl, h0⟩
  case round =>
    obtain ⟨k, Fc, hk, rfl, hst⟩ := hrel
    by_cases hlt : k < l.length
    · obtain ⟨w1, rfl⟩ : ∃ w1, w1 = wr := ⟨_, rfl⟩
      have hml := mixed_len (fun _ => spR) l k
      obtain ⟨g, cap, u, G, hv, hBg, hgw, hsub, hgF, hgG, hGF, hcells, hfz, hclose⟩ := fmR.own_at hst.out.1 (i := k) (by omega)
      rw [mixed_at hlt (by omega)] at hsub hcells
      injection hv with e1 e2 e3
      subst e1 e3
      have hsub' : kdW.own w1 B u l[k].words G := hsub
      obtain ⟨A2, c2, rfl, hq1, hq2⟩ := own_slice hsub'.1
      have HCL := Lib.hid hclose
      have x2 := hcells 2 _ rfl
      have x0 := hcells 0 _ rfl
      have x1 := hcells 1 _ rfl
      rw [show k * fmR.size + 0 = k * 3 from rfl] at x0
      rw [show k * fmR.size + 1 = k * 3 + 1 from rfl] at x1
      rw [show k * fmR.size + 2 = k * 3 + 2 from rfl] at x2
      have HX0 := Lib.hid x0
      have HX1 := Lib.hid x1
      have hwl := HW.out k hlt
      obtain ⟨ws, hwsd⟩ : ∃ ws, ws = l[k].words := ⟨_, rfl⟩
      rw [← hwsd] at hwl hq1 x2 hsub'
      have h1 : Hid (kdW.own w1 B (.slice A2 ws.length c2) (mixed (fun _ => spS) ws 0) G ∧ Fr G w1 w1) := Lib.hid ⟨by rw [mixed_0]; exact hsub', Fr.refl _ _⟩
      have HFZ := Lib.hid hfz
      have hwi : (ws.length : Int) ≤ 9223372036854775807 := by omega
      have hk0 : (0 : Int) ≤ (k : Int) := by omega
      clear hsub hsub' hcells hclose hwsd hfz e2 x0 x1
      go_wp2
      go_loopw [15] (fun i wr => ∃ j : Nat, j ≤ ws.length ∧ i = .int .i64 j ∧ Hid (kdW.own wr B (.slice A2 ws.length c2) (mixed (fun _ => spS) ws j) G ∧ Fr G w1 wr)) (fun i _ => ws.length - (intOf i).toNat)
      case atStart => exact ⟨0, by omega, rfl, h1⟩
      case round =>
        obtain ⟨j, hj, rfl, hin⟩ := hrel
        have z0 : wr.cell? ⟨g, k * 3 + 2, none⟩ = some (.slice A2 ws.length c2) := (World.cell?_of_block (a := ⟨g, k * 3 + 2, none⟩) (hin.out.2.block g hgw hgG)).trans x2
        by_cases hltj : j < ws.length
        · obtain ⟨b, e9, hBb, hbw, hfzb, hcj, ho9⟩ := Own.store (B := B) (n := ws.length) (c := c2) (l := mixed (fun _ => spS) ws j) hin.out.1.1 (j := j) (by rw [mixed_len]; exact hltj) spS
          subst e9
          have hj0 : (0 : Int) ≤ (j : Int) := by omega
          have hnew : Hid (kdW.own (wr.setCell ⟨b, j, none⟩ (.string spS)) B (.slice (some ⟨b, 0, none⟩) ws.length c2) (mixed (fun _ => spS) ws (j + 1)) G ∧ Fr G w1 (wr.setCell ⟨b, j, none⟩ (.string spS))) := Lib.hid (by
            have h9 := ho9
            have e : (mixed (fun _ => spS) ws j).set j spS = mixed (fun _ => spS) ws (j + 1) := mixed_set (f := fun _ => spS) hltj
            rw [e] at h9
            exact ⟨⟨h9, hin.out.1.2⟩, hin.out.2.trans (Fr.setCell _ _ _ (.inl (by rw [hin.out.1.2]; simp [Value.ownBlock])))⟩)
          clear ho9
          unfold spS at hnew
          go_wp2
          go_roundw
          case rel => exact ⟨j + 1, by omega, by go_num, hnew⟩
          case measure => simp [intOf] <;> omega
        · obtain rfl : j = ws.length := by omega
          have hfw : Fr G w1 wr := hin.out.2
          have c0 := (World.cell?_of_block (a := ⟨g, k * 3, none⟩) (hfw.block g hgw hgG)).trans HX0.out
          have c1 := (World.cell?_of_block (a := ⟨g, k * 3 + 1, none⟩) (hfw.block g hgw hgG)).trans HX1.out
          have f0 := (World.frozen?_of_block (a := ⟨g, k * 3, none⟩) (hfw.block g hgw hgG)).trans (HFZ.out _)
          have f1 := (World.frozen?_of_block (a := ⟨g, k * 3 + 1, none⟩) (hfw.block g hgw hgG)).trans (HFZ.out _)
          have f2 := (World.frozen?_of_block (a := ⟨g, k * 3 + 2, none⟩) (hfw.block g hgw hgG)).trans (HFZ.out _)
          have d1 := (World.cell?_setCell_other wr ⟨g, k * 3, none⟩ ⟨g, k * 3 + 1, none⟩ (.string ⟨#[115, 112, 111, 105, 108, 116]⟩) (by simp)).trans c1
          have b1 := (World.frozen?_setCell wr ⟨g, k * 3, none⟩ ⟨g, k * 3 + 1, none⟩ (.string ⟨#[115, 112, 111, 105, 108, 116]⟩)).trans f1
          have d2 := (World.cell?_setCell_other (wr.setCell ⟨g, k * 3, none⟩ (.string ⟨#[115, 112, 111, 105, 108, 116]⟩)) ⟨g, k * 3 + 1, none⟩ ⟨g, k * 3 + 2, none⟩ (.int .i64 0) (by simp)).trans ((World.cell?_setCell_other wr ⟨g, k * 3, none⟩ ⟨g, k * 3 + 2, none⟩ (.string ⟨#[115, 112, 111, 105, 108, 116]⟩) (by simp)).trans z0)
          have b2 := (World.frozen?_setCell (wr.setCell ⟨g, k * 3, none⟩ (.string ⟨#[115, 112, 111, 105, 108, 116]⟩)) ⟨g, k * 3 + 1, none⟩ ⟨g, k * 3 + 2, none⟩ (.int .i64 0)).trans ((World.frozen?_setCell wr ⟨g, k * 3, none⟩ ⟨g, k * 3 + 2, none⟩ (.string ⟨#[115, 112, 111, 105, 108, 116]⟩)).trans f2)
          have hE := HCL.out wr spR (.slice none 0 0) [] (hfw.block g hgw hgG) hfw.size (fun x hx hxG => hfw.block x ((kdR.ge hst.out.1 x hx).2) hxG) ⟨World.ownsRow_nil _ _ _ _, rfl⟩ (fun x hx => by cases hx) (((wr.setCell ⟨g, k * 3, none⟩ (.string spR.name)).setCell ⟨g, k * 3 + 1, none⟩ (.int .i64 spR.kind)).setCell ⟨g, k * 3 + 2, none⟩ (.slice none 0 0)) (by simp [World.setCell]) (fun x hx => by rw [Below.heap_setCell _ ⟨g, k * 3 + 2, none⟩ _ x hx, Below.heap_setCell _ ⟨g, k * 3 + 1, none⟩ _ x hx, Below.heap_setCell _ ⟨g, k * 3, none⟩ _ x hx]) (fun xs hxs hxl => by
            rw [hml] at hxs hxl ⊢
            exact closeS spR hlt hxs hxl _)
          obtain ⟨F5, hF5, hm5⟩ := hE
          have e : (mixed (fun _ => spR) l k).set k spR = mixed (fun _ => spR) l (k + 1) := mixed_set (f := fun _ => spR) hlt
          rw [e] at hF5
          have hrel2 : Hid (kdR.own (((wr.setCell ⟨g, k * 3, none⟩ (.string spR.name)).setCell ⟨g, k * 3 + 1, none⟩ (.int .i64 spR.kind)).setCell ⟨g, k * 3 + 2, none⟩ (.slice none 0 0)) B (.slice (some ⟨g, 0, none⟩) l.length c) (mixed (fun _ => spR) l (k + 1)) F5 ∧ (∀ x ∈ F5, x ∈ F) ∧ Fr F w (((wr.setCell ⟨g, k * 3, none⟩ (.string spR.name)).setCell ⟨g, k * 3 + 1, none⟩ (.int .i64 spR.kind)).setCell ⟨g, k * 3 + 2, none⟩ (.slice none 0 0))) :=
            Lib.hid ⟨hF5, fun x hx => (hm5 x hx).elim (hst.out.2.1 x) (fun h => by cases h), (hst.out.2.2.trans (hfw.mono fun x hx => hst.out.2.1 x (hGF x hx))).trans ((Go.Proofs.YteikagdinecfoaaGreatDoor.Sp.Fr.set3' wr g (k * 3) _ _ _).mono (fun x hx => by simp at hx; subst hx; exact hst.out.2.1 _ hgF))⟩
          clear hF5 hm5 hfw
          unfold spR spS at hrel2
          simp only at hrel2
          go_wp2
          go_roundw
          case rel => exact ⟨k + 1, F5, by omega, by go_num, hrel2⟩
          case measure => simp [intOf] <;> omega
    · obtain rfl : k = l.length := by omega
      have hfin := hst.out
      rw [mixed_all] at hfin
      go_wp2
      go_end0
      exact ⟨rfl, Fc, hfin.1, hfin.2.1, hfin.2.2⟩
end Go.Proofs.YteikagdinecfoaaGreatDoor.Sp

