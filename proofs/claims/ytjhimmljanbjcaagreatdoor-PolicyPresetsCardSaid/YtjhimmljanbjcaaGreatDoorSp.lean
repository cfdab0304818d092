/- The law's texts, rule, rules, spoilt; what is dropped: the program's Dropped, the reference's has and Dropped. -/
import Derived.Deep.RegionHeld3
import Derived.Deep.DrawnRows
import Derived.Deep.MidRow
import Derived.Test.YtjhimmljanbjcaaGreatDoorBk
import Derived.Test.YtjhimmljanbjcaaGreatDoorCi
import Derived.Test.YtjhimmljanbjcaaGreatDoorCk
import Derived.Test.YtjhimmljanbjcaaGreatDoorSr
import Derived.Test.YtjhimmljanbjcaaGreatDoorEs
set_option linter.unusedVariables false
set_option linter.unusedSimpArgs false
/-! The law's texts, rule, rules: two that read alike are the same. -/
namespace Go.Proofs.YtjhimmljanbjcaaGreatDoor.Tx
open Go.RowKit Lb Gr Pd Fl Go.Proofs.YtjhimmljanbjcaaGreatDoor.Pm Bk
attribute [local go_sem ↓] Go.wp_at_zero Go.wp_at_succ

set_option maxHeartbeats 2000000 in
set_option maxRecDepth 100000 in
theorem lTexts (l : List ByteArray) (v u : Value) (w : World) (h : kdW.rd w 0 w.heap.size v l) (h2 : kdW.rd w 0 w.heap.size u l) : Calls Tryz.prog 68 #[v, u] w fun e w' => e = .returned (.bool true) ∧ Below w.heap.size w w' := by
  obtain ⟨A, c, rfl, hc1, hc2⟩ := rdW_form h
  obtain ⟨B, d, rfl, hd1, hd2⟩ := rdW_form h2
  have hm : maxLen = 9223372036854775807 := rfl
  have hn : (l.length : Int) ≤ 9223372036854775807 := by omega
  have e0 : ((l.length : Int) != (l.length : Int)) = false := by simp
  have HA := Lib.hid h
  have HB := Lib.hid h2
  clear h h2 hm
  have hb00 := Below.refl w.heap.size w
  go_enter Tryz.func68, Tryz.ntmps68
  go_wp2
  go_loopw [13] (fun i wr => ∃ k : Nat, k ≤ l.length ∧ i = .int .i64 k ∧ Below w.heap.size w wr) (fun i _ => l.length - (intOf i).toNat)
  case atStart => exact ⟨0, by omega, rfl, hb00⟩
  case round =>
    obtain ⟨k, hk, rfl, hnx⟩ := hrel
    by_cases hlt : k < l.length
    · obtain ⟨b1, o1, rfl, _, hb1, hx1⟩ := rdW_at HA.out hlt
      obtain ⟨b2, o2, rfl, _, hb2, hx2⟩ := rdW_at HB.out hlt
      have hy1 := (hnx.cell (p := ⟨b1, o1 + k, none⟩) hb1).trans hx1
      have hy2 := (hnx.cell (p := ⟨b2, o2 + k, none⟩) hb2).trans hx2
      obtain ⟨x, hx⟩ : ∃ x, x = l[k] := ⟨_, rfl⟩
      rw [← hx] at hy1 hy2
      clear hx1 hx2 hx
      have he := toList_eq_of (a := x) (b := x) rfl
      have hk1 : (k : Int) < (l.length : Int) := by omega
      have hk0 : (0 : Int) ≤ (k : Int) := by omega
      go_wp2
      go_quiet (fail)
      go_wp2
      go_roundw
      case rel => exact ⟨k + 1, by omega, by go_num, hnx.trans ((drw _ _).mono hnx.size)⟩
      case measure => simp [intOf] <;> omega
    · go_wp2
      go_ret
      exact ⟨rfl, hnx⟩

set_option maxHeartbeats 2000000 in
set_option maxRecDepth 100000 in
theorem lRule (r : RuleD) (v u : Value) (w : World) (h : kdW.rd w 0 w.heap.size v r.words) (h2 : kdW.rd w 0 w.heap.size u r.words) : Calls Tryz.prog 30 #[.agg #[.string r.name, .int .i64 r.kind, v], .agg #[.string r.name, .int .i64 r.kind, u]] w fun e w' => e = .returned (.bool true) ∧ Below w.heap.size w w' := by
  have HT : Hid (∀ W, Below w.heap.size w W → Calls Tryz.prog 68 #[v, u] W fun e w' => e = .returned (.bool true) ∧ Below W.heap.size W w') :=
    Lib.hid fun W hW => lTexts r.words v u W (kdW.wide (rd_below h hW (Nat.le_refl _)) (Nat.le_refl _) hW.size) (kdW.wide (rd_below h2 hW (Nat.le_refl _)) (Nat.le_refl _) hW.size)
  obtain ⟨A, c, rfl, hc1, hc2⟩ := rdW_form h
  obtain ⟨B, d, rfl, hd1, hd2⟩ := rdW_form h2
  clear h h2
  obtain ⟨n, k, ws⟩ := r
  simp only at HT hc1 hd1 ⊢
  have hb2 := ((Below.refl w.heap.size w).alloc (Nat.le_refl _) (.cells #[.string n, .int .i64 k, .slice A ws.length c] 50)).alloc (by simp) (.cells #[.string n, .int .i64 k, .slice B ws.length d] 50)
  have HB := Lib.hid hb2
  clear hb2
  have he := toList_eq_of (a := n) (b := n) rfl
  go_enter Tryz.func30, Tryz.ntmps30
  go_wp2_with (go_at_call 68; refine (HT.out _ HB.out).mono ?_; rintro e w' ⟨rfl, hb'⟩)
  go_ret
  exact ⟨rfl, HB.out.trans (hb'.mono HB.out.size)⟩

set_option maxHeartbeats 4000000 in
set_option maxRecDepth 100000 in
theorem lRules (l : List RuleD) (v u : Value) (w : World) (h : kdR.rd w 0 w.heap.size v l) (h2 : kdR.rd w 0 w.heap.size u l) : Calls Tryz.prog 29 #[v, u] w fun e w' => e = .returned (.bool true) ∧ Below w.heap.size w w' := by
  obtain ⟨A, c, rfl, hc1, hc2⟩ := fmR.rd_form h
  obtain ⟨B, d, rfl, hd1, hd2⟩ := fmR.rd_form h2
  have hm : maxLen = 9223372036854775807 := rfl
  have hn : (l.length : Int) ≤ 9223372036854775807 := by omega
  have e0 : ((l.length : Int) != (l.length : Int)) = false := by simp
  have HA : Hid (∀ W, Below w.heap.size w W → kdR.rd W 0 w.heap.size (.slice A l.length c) l) := Lib.hid fun W hW => rd_below h hW (Nat.le_refl _)
  have HB : Hid (∀ W, Below w.heap.size w W → kdR.rd W 0 w.heap.size (.slice B l.length d) l) := Lib.hid fun W hW => rd_below h2 hW (Nat.le_refl _)
  clear h h2 hm
  have hb00 := Below.refl w.heap.size w
  go_enter Tryz.func29, Tryz.ntmps29
  go_wp2
  go_loopw [13] (fun i wr => ∃ k : Nat, k ≤ l.length ∧ i = .int .i64 k ∧ Below w.heap.size w wr) (fun i _ => l.length - (intOf i).toNat)
  case atStart => exact ⟨0, by omega, rfl, hb00⟩
  case round =>
    obtain ⟨k, hk, rfl, hnx⟩ := hrel
    by_cases hlt : k < l.length
    · obtain ⟨b1, o1, u1, rfl, _, hb1, hu1, hcell1⟩ := fmR.rd_at (HA.out _ hnx) hlt
      obtain ⟨b2, o2, u2, rfl, _, hb2, hu2, hcell2⟩ := fmR.rd_at (HB.out _ hnx) hlt
      have c0 := hcell1 0 _ rfl
      have c1 := hcell1 1 _ rfl
      have c2 := hcell1 2 _ rfl
      have d0 := hcell2 0 _ rfl
      have d1 := hcell2 1 _ rfl
      have d2 := hcell2 2 _ rfl
      rw [show o1 + (k * fmR.size + 0) = o1 + k * 3 from rfl] at c0
      rw [show o1 + (k * fmR.size + 1) = o1 + k * 3 + 1 from by show o1 + (k * 3 + 1) = _; omega] at c1
      rw [show o1 + (k * fmR.size + 2) = o1 + k * 3 + 2 from by show o1 + (k * 3 + 2) = _; omega] at c2
      rw [show o2 + (k * fmR.size + 0) = o2 + k * 3 from rfl] at d0
      rw [show o2 + (k * fmR.size + 1) = o2 + k * 3 + 1 from by show o2 + (k * 3 + 1) = _; omega] at d1
      rw [show o2 + (k * fmR.size + 2) = o2 + k * 3 + 2 from by show o2 + (k * 3 + 2) = _; omega] at d2
      have hu1' : kdW.rd wr 0 w.heap.size u1 l[k].words := hu1
      have hu2' : kdW.rd wr 0 w.heap.size u2 l[k].words := hu2
      clear hu1 hu2 hcell1 hcell2
      have hz := hnx.size
      have HC : Hid (Calls Tryz.prog 30 #[.agg #[.string l[k].name, .int .i64 l[k].kind, u1], .agg #[.string l[k].name, .int .i64 l[k].kind, u2]] wr.drew fun e w' => e = .returned (.bool true) ∧ Below wr.heap.size wr.drew w') :=
        Lib.hid (lRule l[k] u1 u2 wr.drew (kdW.wide (kdW.stay hu1' fun _ _ _ => rfl) (Nat.le_refl _) hz) (kdW.wide (kdW.stay hu2' fun _ _ _ => rfl) (Nat.le_refl _) hz))
      obtain ⟨A1, a1, rfl, _⟩ := rdW_form hu1'
      obtain ⟨A2, a2, rfl, _⟩ := rdW_form hu2'
      clear hu1' hu2'
      obtain ⟨n, q, ws⟩ : ∃ n q ws, l[k] = (⟨n, q, ws⟩ : RuleD) := ⟨_, _, _, rfl⟩
      have hk1 : (k : Int) < (l.length : Int) := by omega
      have hk0 : (0 : Int) ≤ (k : Int) := by omega
      have hcl : ∀ w1, Below wr.heap.size wr.drew w1 → ∀ b o x, b < w.heap.size → wr.cell? ⟨b, o, none⟩ = some x → w1.cell? ⟨b, o, none⟩ = some x := fun w1 h1 b o x hb hx => (h1.cell (p := ⟨b, o, none⟩) (Nat.lt_of_lt_of_le hb hz)).trans hx
      have HCL := Lib.hid hcl
      clear hcl
      go_upto_region 6 with fail
      first | (go_region_held3 (fun W' => W'.cell? ⟨b1, o1 + k * 3, none⟩ = some (.string l[k].name) ∧ W'.cell? ⟨b1, o1 + k * 3 + 1, none⟩ = some (.int .i64 l[k].kind) ∧ W'.cell? ⟨b1, o1 + k * 3 + 2, none⟩ = some (.slice A1 l[k].words.length a1) ∧ W'.cell? ⟨b2, o2 + k * 3, none⟩ = some (.string l[k].name) ∧ W'.cell? ⟨b2, o2 + k * 3 + 1, none⟩ = some (.int .i64 l[k].kind) ∧ W'.cell? ⟨b2, o2 + k * 3 + 2, none⟩ = some (.slice A2 l[k].words.length a2))
        (first | exact ⟨c0, c1, c2, d0, d1, d2⟩ | exact ⟨z0, z1, z2, z3, z4, z5⟩)
        (first | (go_at_call 30; refine HC.out.mono ?_; rintro e w2 ⟨rfl, hb3⟩; have z0 := HCL.out _ hb3 _ _ _ hb1 c0; have z1 := HCL.out _ hb3 _ _ _ hb1 c1; have z2 := HCL.out _ hb3 _ _ _ hb1 c2; have z3 := HCL.out _ hb3 _ _ _ hb2 d0; have z4 := HCL.out _ hb3 _ _ _ hb2 d1; have z5 := HCL.out _ hb3 _ _ _ hb2 d2))) | fail
      go_wp2
      go_roundw
      case rel => exact ⟨k + 1, by omega, by go_num, hnx.drew.trans (hb3.mono hz)⟩
      case measure => simp [intOf] <;> omega
    · go_wp2
      go_ret
      exact ⟨rfl, hnx⟩
end Go.Proofs.YtjhimmljanbjcaaGreatDoor.Tx

/-! Is a name dropped with its content: the program's Dropped, the reference's has and Dropped. -/
namespace Go.Proofs.YtjhimmljanbjcaaGreatDoor.Dp
open Go.RowKit Lb Gr Pd Fl Go.Proofs.YtjhimmljanbjcaaGreatDoor.Pm Bk Is Sl
attribute [local go_sem ↓] Go.wp_at_zero Go.wp_at_succ

def drpB (p : PolD) (s : ByteArray) : Bool := hasT p.drop s || inS s 3 || decide (s = str [115, 99, 114, 105, 112, 116]) || decide (s = str [112, 108, 97, 105, 110, 116, 101, 120, 116])

set_option maxHeartbeats 2000000 in
set_option maxRecDepth 100000 in
theorem rHasC (l : List ByteArray) (v : Value) (s : ByteArray) (w : World) (h : kdW.rd w 0 w.heap.size v l) : Calls Tryz.prog 48 #[v, .string s] w fun e w' => e = .returned (.bool (hasT l s)) ∧ w' = w := by
  obtain ⟨A, c, rfl, hc1, hc2⟩ := rdW_form h
  have hm : maxLen = 9223372036854775807 := rfl
  have hn : (l.length : Int) ≤ 9223372036854775807 := by omega
  have HA := Lib.hid h
  have HB : Hid (hasT l s = hasT (l.drop 0) s) := Lib.hid rfl
  clear h hm
  go_enter Tryz.func48, Tryz.ntmps48
  go_wp2
  go_loopw [9] (fun i wr => ∃ k : Nat, k ≤ l.length ∧ i = .int .i64 k ∧ wr = w ∧ Hid (hasT l s = hasT (l.drop k) s)) (fun i _ => l.length - (intOf i).toNat)
  case atStart => exact ⟨0, by omega, rfl, rfl, HB⟩
  case round =>
    obtain ⟨k, hk, rfl, rfl, hst⟩ := hrel
    by_cases hlt : k < l.length
    · obtain ⟨b1, o1, rfl, _, hb1, hx1⟩ := rdW_at HA.out hlt
      have hk0 : (0 : Int) ≤ (k : Int) := by omega
      by_cases hs : l[k] = s
      · have hr : Hid (hasT l s = true) := Lib.hid (by rw [hst.out, List.drop_eq_getElem_cons hlt]; unfold hasT; rw [List.any_cons, decide_eq_true hs]; rfl)
        have he := toList_eq_of hs
        clear hs
        go_wp2
        go_ret
        exact ⟨rb hr.out, rfl⟩
      · have hr : Hid (hasT l s = hasT (l.drop (k + 1)) s) := Lib.hid (by rw [hst.out, List.drop_eq_getElem_cons hlt]; unfold hasT; rw [List.any_cons, decide_eq_false hs, Bool.false_or])
        have he := toList_ne_of hs
        clear hs
        go_wp2
        go_roundw
        case rel => exact ⟨k + 1, by omega, by go_num, by trivial, hr⟩
        case measure => simp [intOf] <;> omega
    · have hr : Hid (hasT l s = false) := Lib.hid (by rw [hst.out, List.drop_eq_nil_of_le (by omega)]; rfl)
      go_wp2
      go_ret
      exact ⟨rb hr.out, rfl⟩

theorem drp_of {p : PolD} {s : ByteArray} {a b c d : Bool} (h1 : hasT p.drop s = a) (h2 : inS s 3 = b) (h3 : decide (s = str [115, 99, 114, 105, 112, 116]) = c) (h4 : decide (s = str [112, 108, 97, 105, 110, 116, 101, 120, 116]) = d) : drpB p s = (a || b || c || d) := by
  unfold drpB; rw [h1, h2, h3, h4]

set_option maxHeartbeats 4000000 in
set_option maxRecDepth 100000 in
theorem rDroppedC (x : Vs) (p : PolD) (s : ByteArray) (w : World) (h : RdP w 0 w.heap.size x p) : Calls Tryz.prog 33 #[polV x p, .string s] w fun e w' => e = .returned (.bool (drpB p s)) ∧ Below w.heap.size w w' := by
  have HH : Hid (∀ W, Below w.heap.size w W → Calls Tryz.prog 48 #[x.d, .string s] W fun e w' => e = .returned (.bool (hasT p.drop s)) ∧ w' = W) :=
    Lib.hid fun W hW => rHasC p.drop x.d s W (kdW.wide (kdW.stay h.2.2.2 (stay_below hW (Nat.le_refl _))) (Nat.le_refl _) hW.size)
  have HI : Hid (∀ W, Calls Tryz.prog 47 #[.string s, .int .i64 3] W fun e w' => e = .returned (.bool (inS s 3)) ∧ Below W.heap.size W w') := Lib.hid fun W => rIn s 3 W
  obtain ⟨A1, c1, A2, c2, A3, c3, A4, c4, rfl, q1, q2, q3, q4, q5, q6, q7, q8⟩ := h.form
  clear h
  simp only at HH
  unfold polV
  have hb0 := (Below.refl w.heap.size w).alloc (Nat.le_refl _) (.cells #[.slice A1 p.els.length c1, .slice A2 p.glob.length c2, .slice A3 p.schemes.length c3, .bool p.rel, .slice A4 p.drop.length c4, .int .i64 p.depth, .int .i64 p.window] 26)
  obtain ⟨b1, h1⟩ : ∃ b, hasT p.drop s = b := ⟨_, rfl⟩
  obtain ⟨b2, h2⟩ : ∃ b, inS s 3 = b := ⟨_, rfl⟩
  obtain ⟨b3, h3⟩ : ∃ b, decide (s = str [115, 99, 114, 105, 112, 116]) = b := ⟨_, rfl⟩
  obtain ⟨b4, h4⟩ : ∃ b, decide (s = str [112, 108, 97, 105, 110, 116, 101, 120, 116]) = b := ⟨_, rfl⟩
  have hd : Hid (drpB p s = (b1 || b2 || b3 || b4)) := Lib.hid (drp_of h1 h2 h3 h4)
  have e3 : (s.toList == [115, 99, 114, 105, 112, 116]) = b3 := by rw [← h3, ← eq_str, Lib.toList_data (str _)]; rfl
  have e4 : (s.toList == [112, 108, 97, 105, 110, 116, 101, 120, 116]) = b4 := by rw [← h4, ← eq_str, Lib.toList_data (str _)]; rfl
  rw [h1] at HH
  rw [h2] at HI
  clear h1 h2 h3 h4
  have HB0 := Lib.hid hb0
  have hd2 := hd.out
  clear hd
  cases b1 <;> cases b2 <;> cases b3 <;> cases b4 <;> simp only [Bool.true_or, Bool.false_or, Bool.or_true, Bool.or_false] at hd2 <;> have hd := Lib.hid hd2 <;> clear hd2 <;>
  · go_enter Tryz.func33, Tryz.ntmps33
    go_wp2_with (first
      | (go_at_call 48; refine (HH.out _ hb0).mono ?_; rintro e w1 ⟨rfl, rfl⟩)
      | (go_at_call 47; refine (HI.out _).mono ?_; rintro e w2 ⟨rfl, hb2⟩))
    go_ret
    first | exact ⟨rb hd.out, hb0.trans (hb2.mono hb0.size)⟩ | exact ⟨rb hd.out, hb0⟩
set_option maxHeartbeats 4000000 in
set_option maxRecDepth 100000 in
theorem droppedC (x : Vs) (p : PolD) (s : ByteArray) (w : World) (ht : Tab w) (h : RdP w 0 w.heap.size x p) : Calls Tryz.prog 32 #[polV x p, .string s] w fun e w' => e = .returned (.bool (drpB p s)) ∧ Below w.heap.size w w' := by
  obtain ⟨A1, c1, A2, c2, A3, c3, A4, c4, rfl, q1, q2, q3, q4, q5, q6, q7, q8⟩ := h.form
  have HH : Hid (∀ W, Below w.heap.size w W → Calls Tryz.prog 81 #[.slice A4 p.drop.length c4, .string s] W fun e w' => e = .returned (.bool (hasT p.drop s)) ∧ W = w') :=
    Lib.hid fun W hW => libContains (kdW.stay h.2.2.2 (stay_below hW (Nat.le_refl _))) (by have hm : maxLen = 9223372036854775807 := rfl; omega) s
  have HI : Hid (∀ W, Below w.heap.size w W → Calls Tryz.prog 82 #[.string s, .int .i64 3] W fun e w' => e = .returned (.bool (inS s 3)) ∧ Below W.heap.size W w') := Lib.hid fun W hW => nIn s 3 W (ht.below hW)
  clear h ht
  unfold polV
  have hb0 := (Below.refl w.heap.size w).alloc (Nat.le_refl _) (.cells #[.slice A1 p.els.length c1, .slice A2 p.glob.length c2, .slice A3 p.schemes.length c3, .bool p.rel, .slice A4 p.drop.length c4, .int .i64 p.depth, .int .i64 p.window] 26)
  obtain ⟨b1, h1⟩ : ∃ b, hasT p.drop s = b := ⟨_, rfl⟩
  obtain ⟨b2, h2⟩ : ∃ b, inS s 3 = b := ⟨_, rfl⟩
  obtain ⟨b3, h3⟩ : ∃ b, decide (s = str [115, 99, 114, 105, 112, 116]) = b := ⟨_, rfl⟩
  obtain ⟨b4, h4⟩ : ∃ b, decide (s = str [112, 108, 97, 105, 110, 116, 101, 120, 116]) = b := ⟨_, rfl⟩
  have hd : Hid (drpB p s = (b1 || b2 || b3 || b4)) := Lib.hid (drp_of h1 h2 h3 h4)
  have e3 : (s.toList == [115, 99, 114, 105, 112, 116]) = b3 := by rw [← h3, ← eq_str, Lib.toList_data (str _)]; rfl
  have e4 : (s.toList == [112, 108, 97, 105, 110, 116, 101, 120, 116]) = b4 := by rw [← h4, ← eq_str, Lib.toList_data (str _)]; rfl
  rw [h1] at HH
  rw [h2] at HI
  clear h1 h2 h3 h4
  have hd2 := hd.out
  clear hd
  cases b1 <;> cases b2 <;> cases b3 <;> cases b4 <;> simp only [Bool.true_or, Bool.false_or, Bool.or_true, Bool.or_false] at hd2 <;> have hd := Lib.hid hd2 <;> clear hd2 <;>
  · go_enter Tryz.func32, Tryz.ntmps32
    go_wp2_with (first
      | (go_at_call 81; refine (HH.out _ hb0).mono ?_; rintro e w1 ⟨rfl, rfl⟩)
      | (go_at_call 82; refine (HI.out _ hb0).mono ?_; rintro e w2 ⟨rfl, hb2⟩))
    go_ret
    first | exact ⟨rb hd.out, hb0.trans (hb2.mono hb0.size)⟩ | exact ⟨rb hd.out, hb0⟩
end Go.Proofs.YtjhimmljanbjcaaGreatDoor.Dp

/-! The law's spoilt: rules of the call's own are written over. -/
namespace Go.Proofs.YtjhimmljanbjcaaGreatDoor.Sp
open Go.RowKit Lb Gr Pd Fl Go.Proofs.YtjhimmljanbjcaaGreatDoor.Pm Bk Go.Proofs.YtjhimmljanbjcaaGreatDoor.Rs Go.Proofs.YtjhimmljanbjcaaGreatDoor.Sr
attribute [local go_sem ↓] Go.wp_at_zero Go.wp_at_succ

theorem set33 {xs : List Value} {k n : Nat} {a b d : Value} (hl : xs.length = n * 3) (hk : k < n) : xs.take (k * 3) ++ [a, b, d] ++ xs.drop ((k + 1) * 3) = ((xs.set (k * 3) a).set (k * 3 + 1) b).set (k * 3 + 2) d := by
  have h := set3 (xs := (xs.set (k * 3) a).set (k * 3 + 1) b) (k := k) (n := n) (a := a) (b := b) (d := d) (by simpa using hl) hk (by rw [List.getElem?_set_ne (by omega), List.getElem?_set_self (by omega)]) (by rw [List.getElem?_set_self (by simp; omega)])
  rw [← h, List.take_set_of_le (by omega), List.take_set_of_le (by omega), List.drop_set_of_lt (by omega), List.drop_set_of_lt (by omega)]
/-- a rule written over, in its row -/
theorem closeS {w5 : World} {B g n c k : Nat} {xs : List Value} (r : RuleD) (hk : k < n) (hxs : w5.ownsRow B fmR.e fmR.size (.slice (some ⟨g, 0, none⟩) n c) n xs) (hxl : xs.length = n * fmR.size) (u5 : Value) :
    (((w5.setCell ⟨g, k * 3, none⟩ (.string r.name)).setCell ⟨g, k * 3 + 1, none⟩ (.int .i64 r.kind)).setCell ⟨g, k * 3 + 2, none⟩ u5).ownsRow B fmR.e fmR.size (.slice (some ⟨g, 0, none⟩) n c) n (xs.take (k * fmR.size) ++ fmR.enc r u5 ++ xs.drop ((k + 1) * fmR.size)) := by
  have g2 := ((((hxs.stored (k * 3) (.string r.name)).1.stored (k * 3 + 1) (.int .i64 r.kind)).1).stored (k * 3 + 2) u5).1
  rw [← set33 (n := n) hxl hk] at g2
  exact g2
theorem Fr.set3' (w : World) (g o : Nat) (x y z : Value) : Fr [g] w (((w.setCell ⟨g, o, none⟩ x).setCell ⟨g, o + 1, none⟩ y).setCell ⟨g, o + 2, none⟩ z) := ((Fr.setCell w ⟨g, o, none⟩ x (.inl (by simp))).trans (Fr.setCell _ ⟨g, o + 1, none⟩ y (.inl (by simp)))).trans (Fr.setCell _ ⟨g, o + 2, none⟩ z (.inl (by simp)))
def spS : ByteArray := ⟨#[115, 112, 111, 105, 108, 116]⟩
def spR : RuleD := ⟨spS, 0, []⟩

set_option maxHeartbeats 4000000 in
set_option maxRecDepth 100000 in
theorem spoiltC {l : List RuleD} {v : Value} {F : List Nat} {B : Nat} (w : World) (h : kdR.own w B v l F) (hl : l.length ≤ 9223372036854775807) (hw : ∀ i (h : i < l.length), (l[i]).words.length ≤ 9223372036854775807) : Calls Tryz.prog 31 #[v] w fun e w' =>
    e = .returned (.tuple #[]) ∧ ∃ F', kdR.own w' B v (l.map fun _ => spR) F' ∧ (∀ k ∈ F', k ∈ F) ∧ Fr F w w' := by
  obtain ⟨A, c, rfl, hc1, hc2⟩ := fmR.own_form h
  have HW := Lib.hid hw
  have hlen : (l.length : Int) ≤ 9223372036854775807 := by omega
  have h0 : Hid (kdR.own w B (.slice A l.length c) (mixed (fun _ => spR) l 0) F ∧ (∀ x ∈ F, x ∈ F) ∧ Fr F w w) := Lib.hid ⟨by rw [mixed_0]; exact h, fun _ h => h, Fr.refl _ _⟩
  clear h hw
  go_enter Tryz.func31, Tryz.ntmps31
  go_wp2
  go_loopw [6] (fun i wr => ∃ (k : Nat) (Fc : List Nat), k ≤ l.length ∧ i = .int .i64 k ∧ Hid (kdR.own wr B (.slice A l.length c) (mixed (fun _ => spR) l k) Fc ∧ (∀ x ∈ Fc, x ∈ F) ∧ Fr F w wr)) (fun i _ => l.length - (intOf i).toNat)
  case atStart => exact ⟨0, F, by omega, rfl, h0⟩
  case round =>
    obtain ⟨k, Fc, hk, rfl, hst⟩ := hrel
    by_cases hlt : k < l.length
    · obtain ⟨w1, rfl⟩ : ∃ w1, w1 = wr := ⟨_, rfl⟩
      have hml := mixed_len (fun _ => spR) l k
      obtain ⟨g, cap, u, G, hv, hBg, hgw, hsub, hgF, hgG, hGF, hcells, hfz, hclose⟩ := fmR.own_at hst.out.1 (i := k) (by omega)
      rw [mixed_at hlt (by omega)] at hsub hcells
      injection hv with e1 e2 e3
      subst e1 e3
      have hsub' : kdW.own w1 B u l[k].words G := hsub
      obtain ⟨A2, c2, rfl, hq1, hq2⟩ := own_slice hsub'.1
      have HCL := Lib.hid hclose
      have x2 := hcells 2 _ rfl
      have x0 := hcells 0 _ rfl
      have x1 := hcells 1 _ rfl
      rw [show k * fmR.size + 0 = k * 3 from rfl] at x0
      rw [show k * fmR.size + 1 = k * 3 + 1 from rfl] at x1
      rw [show k * fmR.size + 2 = k * 3 + 2 from rfl] at x2
      have HX0 := Lib.hid x0
      have HX1 := Lib.hid x1
      have hwl := HW.out k hlt
      obtain ⟨ws, hwsd⟩ : ∃ ws, ws = l[k].words := ⟨_, rfl⟩
      rw [← hwsd] at hwl hq1 x2 hsub'
      have h1 : Hid (kdW.own w1 B (.slice A2 ws.length c2) (mixed (fun _ => spS) ws 0) G ∧ Fr G w1 w1) := Lib.hid ⟨by rw [mixed_0]; exact hsub', Fr.refl _ _⟩
      have HFZ := Lib.hid hfz
      have hwi : (ws.length : Int) ≤ 9223372036854775807 := by omega
      have hk0 : (0 : Int) ≤ (k : Int) := by omega
      clear hsub hsub' hcells hclose hwsd hfz e2 x0 x1
      go_wp2
      go_loopw [15] (fun i wr => ∃ j : Nat, j ≤ ws.length ∧ i = .int .i64 j ∧ Hid (kdW.own wr B (.slice A2 ws.length c2) (mixed (fun _ => spS) ws j) G ∧ Fr G w1 wr)) (fun i _ => ws.length - (intOf i).toNat)
      case atStart => exact ⟨0, by omega, rfl, h1⟩
      case round =>
        obtain ⟨j, hj, rfl, hin⟩ := hrel
        have z0 : wr.cell? ⟨g, k * 3 + 2, none⟩ = some (.slice A2 ws.length c2) := (World.cell?_of_block (a := ⟨g, k * 3 + 2, none⟩) (hin.out.2.block g hgw hgG)).trans x2
        by_cases hltj : j < ws.length
        · obtain ⟨b, e9, hBb, hbw, hfzb, hcj, ho9⟩ := Own.store (B := B) (n := ws.length) (c := c2) (l := mixed (fun _ => spS) ws j) hin.out.1.1 (j := j) (by rw [mixed_len]; exact hltj) spS
          subst e9
          have hj0 : (0 : Int) ≤ (j : Int) := by omega
          have hnew : Hid (kdW.own (wr.setCell ⟨b, j, none⟩ (.string spS)) B (.slice (some ⟨b, 0, none⟩) ws.length c2) (mixed (fun _ => spS) ws (j + 1)) G ∧ Fr G w1 (wr.setCell ⟨b, j, none⟩ (.string spS))) := Lib.hid (by
            have h9 := ho9
            have e : (mixed (fun _ => spS) ws j).set j spS = mixed (fun _ => spS) ws (j + 1) := mixed_set (f := fun _ => spS) hltj
            rw [e] at h9
            exact ⟨⟨h9, hin.out.1.2⟩, hin.out.2.trans (Fr.setCell _ _ _ (.inl (by rw [hin.out.1.2]; simp [Value.ownBlock])))⟩)
          clear ho9
          unfold spS at hnew
          go_wp2
          go_roundw
          case rel => exact ⟨j + 1, by omega, by go_num, hnew⟩
          case measure => simp [intOf] <;> omega
        · obtain rfl : j = ws.length := by omega
          have hfw : Fr G w1 wr := hin.out.2
          have c0 := (World.cell?_of_block (a := ⟨g, k * 3, none⟩) (hfw.block g hgw hgG)).trans HX0.out
          have c1 := (World.cell?_of_block (a := ⟨g, k * 3 + 1, none⟩) (hfw.block g hgw hgG)).trans HX1.out
          have f0 := (World.frozen?_of_block (a := ⟨g, k * 3, none⟩) (hfw.block g hgw hgG)).trans (HFZ.out _)
          have f1 := (World.frozen?_of_block (a := ⟨g, k * 3 + 1, none⟩) (hfw.block g hgw hgG)).trans (HFZ.out _)
          have f2 := (World.frozen?_of_block (a := ⟨g, k * 3 + 2, none⟩) (hfw.block g hgw hgG)).trans (HFZ.out _)
          have d1 := (World.cell?_setCell_other wr ⟨g, k * 3, none⟩ ⟨g, k * 3 + 1, none⟩ (.string ⟨#[115, 112, 111, 105, 108, 116]⟩) (by simp)).trans c1
          have b1 := (World.frozen?_setCell wr ⟨g, k * 3, none⟩ ⟨g, k * 3 + 1, none⟩ (.string ⟨#[115, 112, 111, 105, 108, 116]⟩)).trans f1
          have d2 := (World.cell?_setCell_other (wr.setCell ⟨g, k * 3, none⟩ (.string ⟨#[115, 112, 111, 105, 108, 116]⟩)) ⟨g, k * 3 + 1, none⟩ ⟨g, k * 3 + 2, none⟩ (.int .i64 0) (by simp)).trans ((World.cell?_setCell_other wr ⟨g, k * 3, none⟩ ⟨g, k * 3 + 2, none⟩ (.string ⟨#[115, 112, 111, 105, 108, 116]⟩) (by simp)).trans z0)
          have b2 := (World.frozen?_setCell (wr.setCell ⟨g, k * 3, none⟩ (.string ⟨#[115, 112, 111, 105, 108, 116]⟩)) ⟨g, k * 3 + 1, none⟩ ⟨g, k * 3 + 2, none⟩ (.int .i64 0)).trans ((World.frozen?_setCell wr ⟨g, k * 3, none⟩ ⟨g, k * 3 + 2, none⟩ (.string ⟨#[115, 112, 111, 105, 108, 116]⟩)).trans f2)
          have hE := HCL.out wr spR (.slice none 0 0) [] (hfw.block g hgw hgG) hfw.size (fun x hx hxG => hfw.block x ((kdR.ge hst.out.1 x hx).2) hxG) ⟨World.ownsRow_nil _ _ _ _, rfl⟩ (fun x hx => by cases hx) (((wr.setCell ⟨g, k * 3, none⟩ (.string spR.name)).setCell ⟨g, k * 3 + 1, none⟩ (.int .i64 spR.kind)).setCell ⟨g, k * 3 + 2, none⟩ (.slice none 0 0)) (by simp [World.setCell]) (fun x hx => by rw [Below.heap_setCell _ ⟨g, k * 3 + 2, none⟩ _ x hx, Below.heap_setCell _ ⟨g, k * 3 + 1, none⟩ _ x hx, Below.heap_setCell _ ⟨g, k * 3, none⟩ _ x hx]) (fun xs hxs hxl => by
            rw [hml] at hxs hxl ⊢
            exact closeS spR hlt hxs hxl _)
          obtain ⟨F5, hF5, hm5⟩ := hE
          have e : (mixed (fun _ => spR) l k).set k spR = mixed (fun _ => spR) l (k + 1) := mixed_set (f := fun _ => spR) hlt
          rw [e] at hF5
          have hrel2 : Hid (kdR.own (((wr.setCell ⟨g, k * 3, none⟩ (.string spR.name)).setCell ⟨g, k * 3 + 1, none⟩ (.int .i64 spR.kind)).setCell ⟨g, k * 3 + 2, none⟩ (.slice none 0 0)) B (.slice (some ⟨g, 0, none⟩) l.length c) (mixed (fun _ => spR) l (k + 1)) F5 ∧ (∀ x ∈ F5, x ∈ F) ∧ Fr F w (((wr.setCell ⟨g, k * 3, none⟩ (.string spR.name)).setCell ⟨g, k * 3 + 1, none⟩ (.int .i64 spR.kind)).setCell ⟨g, k * 3 + 2, none⟩ (.slice none 0 0))) :=
            Lib.hid ⟨hF5, fun x hx => (hm5 x hx).elim (hst.out.2.1 x) (fun h => by cases h), (hst.out.2.2.trans (hfw.mono fun x hx => hst.out.2.1 x (hGF x hx))).trans ((Go.Proofs.YtjhimmljanbjcaaGreatDoor.Sp.Fr.set3' wr g (k * 3) _ _ _).mono (fun x hx => by simp at hx; subst hx; exact hst.out.2.1 _ hgF))⟩
          clear hF5 hm5 hfw
          unfold spR spS at hrel2
          simp only at hrel2
          go_wp2
          go_roundw
          case rel => exact ⟨k + 1, F5, by omega, by go_num, hrel2⟩
          case measure => simp [intOf] <;> omega
    · obtain rfl : k = l.length := by omega
      have hfin := hst.out
      rw [mixed_all] at hfin
      go_wp2
      go_end0
      exact ⟨rfl, Fc, hfin.1, hfin.2.1, hfin.2.2⟩
end Go.Proofs.YtjhimmljanbjcaaGreatDoor.Sp

/- The law's same: two policies that read alike are the same. -/
set_option linter.unusedVariables false
set_option linter.unusedSimpArgs false
namespace Go.Proofs.YtjhimmljanbjcaaGreatDoor.Sa
open Go.RowKit Lb Gr Pd Fl Go.Proofs.YtjhimmljanbjcaaGreatDoor.Pm Bk Tx
attribute [local go_sem ↓] Go.wp_at_zero Go.wp_at_succ

set_option maxHeartbeats 8000000 in
set_option maxRecDepth 100000 in
theorem lSameC (x y : Vs) (p : PolD) (w : World) (h : RdP w 0 w.heap.size x p) (h2 : RdP w 0 w.heap.size y p) : Calls Tryz.prog 18 #[polV x p, polV y p] w fun e w' => e = .returned (.bool true) ∧ Below w.heap.size w w' := by
  have HRU : Hid (∀ W, Below w.heap.size w W → Calls Tryz.prog 29 #[x.g, y.g] W fun e w' => e = .returned (.bool true) ∧ Below W.heap.size W w') :=
    Lib.hid fun W hW => lRules p.glob _ _ W (kdR.wide (rd_below h.2.1 hW (Nat.le_refl _)) (Nat.le_refl _) hW.size) (kdR.wide (rd_below h2.2.1 hW (Nat.le_refl _)) (Nat.le_refl _) hW.size)
  have HTS : Hid (∀ W, Below w.heap.size w W → Calls Tryz.prog 68 #[x.s, y.s] W fun e w' => e = .returned (.bool true) ∧ Below W.heap.size W w') :=
    Lib.hid fun W hW => lTexts p.schemes _ _ W (kdW.wide (rd_below h.2.2.1 hW (Nat.le_refl _)) (Nat.le_refl _) hW.size) (kdW.wide (rd_below h2.2.2.1 hW (Nat.le_refl _)) (Nat.le_refl _) hW.size)
  have HTD : Hid (∀ W, Below w.heap.size w W → Calls Tryz.prog 68 #[x.d, y.d] W fun e w' => e = .returned (.bool true) ∧ Below W.heap.size W w') :=
    Lib.hid fun W hW => lTexts p.drop _ _ W (kdW.wide (rd_below h.2.2.2 hW (Nat.le_refl _)) (Nat.le_refl _) hW.size) (kdW.wide (rd_below h2.2.2.2 hW (Nat.le_refl _)) (Nat.le_refl _) hW.size)
  have HX : Hid (∀ W, Below w.heap.size w W → kdE.rd W 0 w.heap.size x.e p.els) := Lib.hid fun W hW => rd_below h.1 hW (Nat.le_refl _)
  have HY : Hid (∀ W, Below w.heap.size w W → kdE.rd W 0 w.heap.size y.e p.els) := Lib.hid fun W hW => rd_below h2.1 hW (Nat.le_refl _)
  have HRR : Hid (∀ W l u v, kdR.rd W 0 W.heap.size u l → kdR.rd W 0 W.heap.size v l → Calls Tryz.prog 29 #[u, v] W fun e w' => e = .returned (.bool true) ∧ Below W.heap.size W w') := Lib.hid fun W l u v h1 h2 => lRules l u v W h1 h2
  obtain ⟨A1, c1, A2, c2, A3, c3, A4, c4, rfl, q1, q2, q3, q4, q5, q6, q7, q8⟩ := h.form
  obtain ⟨B1, d1, B2, d2, B3, d3, B4, d4, rfl, p1, p2, p3, p4, p5, p6, p7, p8⟩ := h2.form
  clear h h2
  unfold polV
  simp only at HRU HTS HTD HX HY
  have hm : maxLen = 9223372036854775807 := rfl
  have hn : (p.els.length : Int) ≤ 9223372036854775807 := by omega
  have e0 : ((p.els.length : Int) != (p.els.length : Int)) = false := by simp
  have e1 : (p.rel != p.rel) = false := by simp
  have e2 : (p.depth != p.depth) = false := by simp
  have e3 : (p.window != p.window) = false := by simp
  obtain ⟨W0, hW0⟩ : ∃ W, W = (w.alloc (.cells #[.slice A1 p.els.length c1, .slice A2 p.glob.length c2, .slice A3 p.schemes.length c3, .bool p.rel, .slice A4 p.drop.length c4, .int .i64 p.depth, .int .i64 p.window] 26)).alloc (.cells #[.slice B1 p.els.length d1, .slice B2 p.glob.length d2, .slice B3 p.schemes.length d3, .bool p.rel, .slice B4 p.drop.length d4, .int .i64 p.depth, .int .i64 p.window] 26) := ⟨_, rfl⟩
  have hb0 : Below w.heap.size w W0 := hW0 ▸ ((Below.refl _ _).alloc (Nat.le_refl _) _).alloc (by simp) _
  have k0 : Bl W0 w.heap.size 26 [.slice A1 p.els.length c1, .slice A2 p.glob.length c2, .slice A3 p.schemes.length c3, .bool p.rel, .slice A4 p.drop.length c4, .int .i64 p.depth, .int .i64 p.window] := hW0 ▸ (Bl.new w _ _ rfl).alloc _
  have k1 : Bl W0 (w.heap.size + 1) 26 [.slice B1 p.els.length d1, .slice B2 p.glob.length d2, .slice B3 p.schemes.length d3, .bool p.rel, .slice B4 p.drop.length d4, .int .i64 p.depth, .int .i64 p.window] := hW0 ▸ Bl.new _ _ _ (by simp)
  have hz0 := hb0.size
  have HK : Hid (∀ W, Below W0.heap.size W0 W → Below w.heap.size w W ∧ (W.cell? ⟨w.heap.size, 0, none⟩ = some (.slice A1 p.els.length c1) ∧ W.cell? ⟨w.heap.size, 1, none⟩ = some (.slice A2 p.glob.length c2) ∧ W.cell? ⟨w.heap.size, 2, none⟩ = some (.slice A3 p.schemes.length c3) ∧ W.cell? ⟨w.heap.size, 3, none⟩ = some (.bool p.rel) ∧ W.cell? ⟨w.heap.size, 4, none⟩ = some (.slice A4 p.drop.length c4) ∧ W.cell? ⟨w.heap.size, 5, none⟩ = some (.int .i64 p.depth) ∧ W.cell? ⟨w.heap.size, 6, none⟩ = some (.int .i64 p.window)) ∧
      (W.cell? ⟨w.heap.size + 1, 0, none⟩ = some (.slice B1 p.els.length d1) ∧ W.cell? ⟨w.heap.size + 1, 1, none⟩ = some (.slice B2 p.glob.length d2) ∧ W.cell? ⟨w.heap.size + 1, 2, none⟩ = some (.slice B3 p.schemes.length d3) ∧ W.cell? ⟨w.heap.size + 1, 3, none⟩ = some (.bool p.rel) ∧ W.cell? ⟨w.heap.size + 1, 4, none⟩ = some (.slice B4 p.drop.length d4) ∧ W.cell? ⟨w.heap.size + 1, 5, none⟩ = some (.int .i64 p.depth) ∧ W.cell? ⟨w.heap.size + 1, 6, none⟩ = some (.int .i64 p.window))) := Lib.hid fun W hW => by
    have j0 := k0.below hW
    have j1 := k1.below hW
    exact ⟨hb0.trans (hW.mono hz0), ⟨j0.cell 0 rfl, j0.cell 1 rfl, j0.cell 2 rfl, j0.cell 3 rfl, j0.cell 4 rfl, j0.cell 5 rfl, j0.cell 6 rfl⟩, j1.cell 0 rfl, j1.cell 1 rfl, j1.cell 2 rfl, j1.cell 3 rfl, j1.cell 4 rfl, j1.cell 5 rfl, j1.cell 6 rfl⟩
  have h00 := Below.refl W0.heap.size W0
  obtain ⟨_, ⟨a0, a1, a2, a3, a4, a5, a6⟩, b0, b1, b2, b3, b4, b5, b6⟩ := HK.out _ h00
  have HX0 := Lib.hid hW0
  clear hW0 k0 k1 hm
  go_enter Tryz.func18, Tryz.ntmps18
  go_upto_region 1 with fail
  rw [← HX0.out]
  go_upto_region 3 with (first
    | (go_at_call 29; refine (HRU.out _ hb0).mono ?_; rintro e w1 ⟨rfl, hb1⟩; obtain ⟨hw1, ⟨f0, f1, f2, f3, f4, f5, f6⟩, g0, g1, g2, g3, g4, g5, g6⟩ := HK.out _ hb1)
    | (go_at_call 68; have _z := hc2; refine (HTD.out _ hw2).mono ?_; rintro e w3 ⟨rfl, hb3⟩; have hc3 : Below W0.heap.size W0 w3 := hc2.trans (hb3.mono hc2.size); obtain ⟨hw3, ⟨j0, j1, j2, j3, j4, j5, j6⟩, l0, l1, l2, l3, l4, l5, l6⟩ := HK.out _ hc3)
    | (go_at_call 68; refine (HTS.out _ hw1).mono ?_; rintro e w2 ⟨rfl, hb2⟩; have hc2 : Below W0.heap.size W0 w2 := hb1.trans (hb2.mono hb1.size); obtain ⟨hw2, ⟨h0, h1, h2, h3, h4, h5, h6⟩, i0, i1, i2, i3, i4, i5, i6⟩ := HK.out _ hc2))
  clear a0 a1 a2 a3 a4 a5 a6 b0 b1 b2 b3 b4 b5 b6 f0 f1 f2 f3 f4 f5 f6 g0 g1 g2 g3 g4 g5 g6 h0 h1 h2 h3 h4 h5 h6 i0 i1 i2 i3 i4 i5 i6
  go_wp2
  go_loopw [61] (fun i wr => ∃ k : Nat, k ≤ p.els.length ∧ i = .int .i64 k ∧ Below W0.heap.size W0 wr) (fun i _ => p.els.length - (intOf i).toNat)
  case atStart => exact ⟨0, by omega, rfl, hc3⟩
  case round =>
    obtain ⟨k, hk, rfl, hnx⟩ := hrel
    obtain ⟨hwr, ⟨a0, _⟩, b0, _⟩ := HK.out _ hnx
    by_cases hlt : k < p.els.length
    · have hzz := hnx.size
      obtain ⟨t1, o1, u1, rfl, _, hb1, hu1, hcell1⟩ := fmE.rd_at (HX.out _ hwr) hlt
      obtain ⟨t2, o2, u2, rfl, _, hb2, hu2, hcell2⟩ := fmE.rd_at (HY.out _ hwr) hlt
      have m0 := hcell1 0 _ rfl
      have m1 := hcell1 1 _ rfl
      have n0 := hcell2 0 _ rfl
      have n1 := hcell2 1 _ rfl
      rw [show o1 + (k * fmE.size + 0) = o1 + k * 2 from rfl] at m0
      rw [show o1 + (k * fmE.size + 1) = o1 + k * 2 + 1 from by show o1 + (k * 2 + 1) = _; omega] at m1
      rw [show o2 + (k * fmE.size + 0) = o2 + k * 2 from rfl] at n0
      rw [show o2 + (k * fmE.size + 1) = o2 + k * 2 + 1 from by show o2 + (k * 2 + 1) = _; omega] at n1
      have hu1' : kdR.rd wr 0 w.heap.size u1 p.els[k].rules := hu1
      have hu2' : kdR.rd wr 0 w.heap.size u2 p.els[k].rules := hu2
      have hzr := hwr.size
      have HC : Hid (Calls Tryz.prog 29 #[u1, u2] wr.drew fun e w' => e = .returned (.bool true) ∧ Below wr.drew.heap.size wr.drew w') :=
        Lib.hid (HRR.out wr.drew _ _ _ (kdR.wide (kdR.stay hu1' fun _ _ _ => rfl) (Nat.le_refl _) hzr) (kdR.wide (kdR.stay hu2' fun _ _ _ => rfl) (Nat.le_refl _) hzr))
      obtain ⟨C1, r1, rfl, _⟩ := fmR.rd_form hu1'
      obtain ⟨C2, r2, rfl, _⟩ := fmR.rd_form hu2'
      clear hu1 hu2 hu1' hu2' hcell1 hcell2
      obtain ⟨en, hen⟩ : ∃ en, en = p.els[k].name := ⟨_, rfl⟩
      rw [← hen] at m0 n0
      clear hen
      have he := toList_eq_of (a := en) (b := en) rfl
      have hk0 : (0 : Int) ≤ (k : Int) := by omega
      have hk1 : (k : Int) < (p.els.length : Int) := by omega
      go_upto_region 6 with fail
      have hzz2 := hzz
      go_region_held3 (fun W' => W'.cell? ⟨w.heap.size, 0, none⟩ = some (.slice (some ⟨t1, o1, none⟩) p.els.length c1) ∧ W'.cell? ⟨w.heap.size + 1, 0, none⟩ = some (.slice (some ⟨t2, o2, none⟩) p.els.length d1) ∧ W'.cell? ⟨t1, o1 + k * 2, none⟩ = some (.string en) ∧ W'.cell? ⟨t1, o1 + k * 2 + 1, none⟩ = some (.slice C1 p.els[k].rules.length r1) ∧ W'.cell? ⟨t2, o2 + k * 2, none⟩ = some (.string en) ∧ W'.cell? ⟨t2, o2 + k * 2 + 1, none⟩ = some (.slice C2 p.els[k].rules.length r2))
        (first | exact ⟨a0, b0, m0, m1, n0, n1⟩ | exact HS.out)
        (first | (go_at_call 29; refine HC.out.mono ?_; rintro e w5 ⟨rfl, hb5⟩; have hd5 : Below wr.heap.size wr w5 := (drw wr 1).trans hb5; have HS : Hid (w5.cell? ⟨w.heap.size, 0, none⟩ = some (.slice (some ⟨t1, o1, none⟩) p.els.length c1) ∧ w5.cell? ⟨w.heap.size + 1, 0, none⟩ = some (.slice (some ⟨t2, o2, none⟩) p.els.length d1) ∧ w5.cell? ⟨t1, o1 + k * 2, none⟩ = some (.string en) ∧ w5.cell? ⟨t1, o1 + k * 2 + 1, none⟩ = some (.slice C1 p.els[k].rules.length r1) ∧ w5.cell? ⟨t2, o2 + k * 2, none⟩ = some (.string en) ∧ w5.cell? ⟨t2, o2 + k * 2 + 1, none⟩ = some (.slice C2 p.els[k].rules.length r2)) := Lib.hid ⟨(HK.out _ (hnx.trans (hd5.mono hzz))).2.1.1, (HK.out _ (hnx.trans (hd5.mono hzz))).2.2.1, (hd5.cell (p := ⟨t1, o1 + k * 2, none⟩) (Nat.lt_of_lt_of_le hb1 hzr)).trans m0, (hd5.cell (p := ⟨t1, o1 + k * 2 + 1, none⟩) (Nat.lt_of_lt_of_le hb1 hzr)).trans m1, (hd5.cell (p := ⟨t2, o2 + k * 2, none⟩) (Nat.lt_of_lt_of_le hb2 hzr)).trans n0, (hd5.cell (p := ⟨t2, o2 + k * 2 + 1, none⟩) (Nat.lt_of_lt_of_le hb2 hzr)).trans n1⟩))
      all_goals go_wp2
      all_goals go_roundw
      all_goals first | (exact ⟨k + 1, by omega, by go_num, (hnx.trans ((drw wr 1).mono hzz)).trans (hb5.mono hzz)⟩) | (simp [intOf] <;> omega)
    · go_wp2
      go_ret
      exact ⟨rfl, hwr⟩
end Go.Proofs.YtjhimmljanbjcaaGreatDoor.Sa

/- The law's spoil: a policy of the call's own is written over. -/
set_option linter.unusedVariables false
set_option linter.unusedSimpArgs false
namespace Go.Proofs.YtjhimmljanbjcaaGreatDoor.Wr
open Go.RowKit Lb Gr Pd Fl Go.Proofs.YtjhimmljanbjcaaGreatDoor.Pm Bk Ru Co Go.Proofs.YtjhimmljanbjcaaGreatDoor.Rs Go.Proofs.YtjhimmljanbjcaaGreatDoor.Sr Go.Proofs.YtjhimmljanbjcaaGreatDoor.Sp
attribute [local go_sem ↓] Go.wp_at_zero Go.wp_at_succ

theorem set22 {xs : List Value} {k n : Nat} {a b : Value} (hl : xs.length = n * 2) (hk : k < n) : xs.take (k * 2) ++ [a, b] ++ xs.drop ((k + 1) * 2) = (xs.set (k * 2) a).set (k * 2 + 1) b := by
  apply List.ext_getElem?
  intro j
  have hm : min (k * 2) xs.length = k * 2 := by omega
  rw [List.append_assoc, List.getElem?_append, List.length_take, hm]
  by_cases h1 : j < k * 2
  · rw [if_pos h1, List.getElem?_take, if_pos h1, List.getElem?_set_ne (by omega), List.getElem?_set_ne (by omega)]
  · rw [if_neg h1]
    by_cases h2 : j = k * 2
    · subst h2
      rw [Nat.sub_self, List.getElem?_set_ne (by omega), List.getElem?_set_self (by omega)]
      rfl
    · by_cases h3 : j = k * 2 + 1
      · subst h3
        rw [show k * 2 + 1 - k * 2 = 1 by omega, List.getElem?_set_self (by simp; omega)]
        rfl
      · rw [List.getElem?_append_right (by simp; omega), List.getElem?_drop, List.getElem?_set_ne (by omega), List.getElem?_set_ne (by omega)]
        congr 1
        simp
        omega
def spE : ElD := ⟨spS, []⟩
/-- an element written over, in its row -/
theorem closeE2 {w5 : World} {B g n c k : Nat} {xs : List Value} (hk : k < n) (hxs : w5.ownsRow B fmE.e fmE.size (.slice (some ⟨g, 0, none⟩) n c) n xs) (hxl : xs.length = n * fmE.size) :
    ((w5.setCell ⟨g, k * 2, none⟩ (.string spE.name)).setCell ⟨g, k * 2 + 1, none⟩ (.slice none 0 0)).ownsRow B fmE.e fmE.size (.slice (some ⟨g, 0, none⟩) n c) n (xs.take (k * fmE.size) ++ fmE.enc spE (.slice none 0 0) ++ xs.drop ((k + 1) * fmE.size)) := by
  have g2 := ((hxs.stored (k * 2) (.string spE.name)).1.stored (k * 2 + 1) (.slice none 0 0)).1
  rw [← set22 (n := n) hxl hk] at g2
  exact g2
theorem Fr.set2' (w : World) (g o : Nat) (x y : Value) : Fr [g] w ((w.setCell ⟨g, o, none⟩ x).setCell ⟨g, o + 1, none⟩ y) := (Fr.setCell w ⟨g, o, none⟩ x (.inl (by simp))).trans (Fr.setCell _ ⟨g, o + 1, none⟩ y (.inl (by simp)))

/-- what a policy's lists must not pass, to be written over -/
structure Spb (p : PolD) : Prop where
  e : p.els.length ≤ 9223372036854775807
  er : ∀ i (h : i < p.els.length), (p.els[i]).rules.length ≤ 9223372036854775807 ∧ ∀ j (h2 : j < (p.els[i]).rules.length), ((p.els[i]).rules[j]).words.length ≤ 9223372036854775807
  g : p.glob.length ≤ 9223372036854775807
  gr : ∀ j (h2 : j < p.glob.length), (p.glob[j]).words.length ≤ 9223372036854775807
  s : p.schemes.length ≤ 9223372036854775807
  d : p.drop.length ≤ 9223372036854775807
theorem Spb.of {p : PolD} (h : FitP p) : Spb p := by
  obtain ⟨⟨h1, h2⟩, ⟨h3, h4⟩, h5, h6⟩ := h
  exact ⟨by omega, fun i hi => ⟨by have := (h2 i hi).1; omega, fun j hj => by have := (h2 i hi).2 j hj; omega⟩, by omega, fun j hj => by have := h4 j hj; omega, by omega, by omega⟩

set_option maxHeartbeats 8000000 in
set_option maxRecDepth 100000 in
theorem spoilC {x : Vs} {p : PolD} {F : List Nat} {B : Nat} (w : World) (h : OwnP w B x p F) (hs : Spb p) : Calls Tryz.prog 22 #[polV x p] w fun e w' => e = .returned (.tuple #[]) ∧ Fr F w w' := by
  obtain ⟨A1, c1, A2, c2, A3, c3, A4, c4, rfl, _⟩ := (h.rd (lo := 0) (hi := w.heap.size) (Nat.zero_le _) (Nat.le_refl _)).form
  have hge := h.ge
  obtain ⟨F1, F2, F3, F4, h1, h2, h3, h4, rfl, hn⟩ := h
  have d1 := (List.nodup_append.1 hn).2.2
  have d2 := (List.nodup_append.1 (List.nodup_append.1 hn).2.1).2.2
  have d3 := (List.nodup_append.1 (List.nodup_append.1 (List.nodup_append.1 hn).2.1).2.1).2.2
  simp only at h1 h2 h3 h4
  have HSG : Hid (∀ W, kdR.own W B (.slice A2 p.glob.length c2) p.glob F2 → Calls Tryz.prog 31 #[.slice A2 p.glob.length c2] W fun e w' => e = .returned (.tuple #[]) ∧ Fr F2 W w') := Lib.hid fun W ho => (spoiltC W ho hs.g hs.gr).mono fun e w' ⟨he, F', _, _, hfr⟩ => ⟨he, hfr⟩
  have HSE : Hid (∀ W i (hi : i < p.els.length) v G, kdR.own W B v p.els[i].rules G → Calls Tryz.prog 31 #[v] W fun e w' => e = .returned (.tuple #[]) ∧ Fr G W w') := Lib.hid fun W i hi v G ho => (spoiltC W ho (hs.er i hi).1 (hs.er i hi).2).mono fun e w' ⟨he, F', _, _, hfr⟩ => ⟨he, hfr⟩
  have hne : (p.els.length : Int) ≤ 9223372036854775807 := by have := hs.e; omega
  have hns : (p.schemes.length : Int) ≤ 9223372036854775807 := by have := hs.s; omega
  have hnd : (p.drop.length : Int) ≤ 9223372036854775807 := by have := hs.d; omega
  clear hs
  unfold polV
  obtain ⟨W0, hW0⟩ : ∃ W, W = w.alloc (.cells #[.slice A1 p.els.length c1, .slice A2 p.glob.length c2, .slice A3 p.schemes.length c3, .bool p.rel, .slice A4 p.drop.length c4, .int .i64 p.depth, .int .i64 p.window] 26) := ⟨_, rfl⟩
  have hb0 : Below w.heap.size w W0 := hW0 ▸ (Below.refl _ _).alloc (Nat.le_refl _) _
  have k0 : Bl W0 w.heap.size 26 [.slice A1 p.els.length c1, .slice A2 p.glob.length c2, .slice A3 p.schemes.length c3, .bool p.rel, .slice A4 p.drop.length c4, .int .i64 p.depth, .int .i64 p.window] := hW0 ▸ Bl.new w _ _ rfl
  have hf0 : Fr (F1 ++ (F2 ++ (F3 ++ F4))) w W0 := Fr.of_below hb0
  have i1 : kdE.own W0 B _ _ F1 := kdE.keep h1 hb0.size fun k hk => hb0.block k (kdE.ge h1 k hk).2
  have i2 : kdR.own W0 B _ _ F2 := kdR.keep h2 hb0.size fun k hk => hb0.block k (kdR.ge h2 k hk).2
  have i3 : kdW.own W0 B _ _ F3 := kdW.keep h3 hb0.size fun k hk => hb0.block k (kdW.ge h3 k hk).2
  have i4 : kdW.own W0 B _ _ F4 := kdW.keep h4 hb0.size fun k hk => hb0.block k (kdW.ge h4 k hk).2
  have n1 : w.heap.size ∉ F1 := fun hx => by have := hge _ (List.mem_append_left _ hx); omega
  have n2 : w.heap.size ∉ F2 := fun hx => by have := hge _ (List.mem_append_right _ (List.mem_append_left _ hx)); omega
  have n3 : w.heap.size ∉ F3 := fun hx => by have := hge _ (List.mem_append_right _ (List.mem_append_right _ (List.mem_append_left _ hx))); omega
  have n4 : w.heap.size ∉ F4 := fun hx => by have := hge _ (List.mem_append_right _ (List.mem_append_right _ (List.mem_append_right _ hx))); omega
  have g1 := k0.cell 1 rfl
  have HX0 := Lib.hid hW0
  clear hW0 h1 h2 h3 h4
  go_enter Tryz.func22, Tryz.ntmps22
  go_upto_region 1 with fail
  rw [← HX0.out]
  go_upto_region 2 with (go_at_call 31; refine (HSG.out _ i2).mono ?_; rintro e w1 ⟨rfl, hf1⟩)
  have k1 := k0.of (hf1.block _ k0.lt n2)
  have j1 : kdE.own w1 B _ _ F1 := kdE.keep i1 hf1.size fun k hk => hf1.block k (kdE.ge i1 k hk).2 (fun hx => d1 k hk k (List.mem_append_left _ hx) rfl)
  have j3 : kdW.own w1 B _ _ F3 := kdW.keep i3 hf1.size fun k hk => hf1.block k (kdW.ge i3 k hk).2 (fun hx => d2 k hx k (List.mem_append_left _ hk) rfl)
  have j4 : kdW.own w1 B _ _ F4 := kdW.keep i4 hf1.size fun k hk => hf1.block k (kdW.ge i4 k hk).2 (fun hx => d2 k hx k (List.mem_append_right _ hk) rfl)
  have hg1 : Fr (F1 ++ (F2 ++ (F3 ++ F4))) w w1 := hf0.trans (hf1.mono fun k hk => by simp [hk])
  clear i1 i2 i3 i4 g1 k0 hf1
  have m1 : Hid (kdE.own w1 B (.slice A1 p.els.length c1) (mixed (fun _ => spE) p.els 0) F1 ∧ (∀ x ∈ F1, x ∈ F1) ∧ Fr F1 w1 w1) := Lib.hid ⟨by rw [mixed_0]; exact j1, fun _ h => h, Fr.refl _ _⟩
  clear j1
  have g0 := k1.cell 0 rfl
  go_wp2
  go_loopw [11] (fun i wr => ∃ (k : Nat) (Fc : List Nat), k ≤ p.els.length ∧ i = .int .i64 k ∧ Hid (kdE.own wr B (.slice A1 p.els.length c1) (mixed (fun _ => spE) p.els k) Fc ∧ (∀ x ∈ Fc, x ∈ F1) ∧ Fr F1 w1 wr)) (fun i _ => p.els.length - (intOf i).toNat)
  case atStart => exact ⟨0, F1, by omega, rfl, m1⟩
  case round =>
    obtain ⟨k, Fc, hk, rfl, hst⟩ := hrel
    have kr := k1.of (hst.out.2.2.block _ k1.lt n1)
    have g0 := kr.cell 0 rfl
    by_cases hlt : k < p.els.length
    · have hml := mixed_len (fun _ => spE) p.els k
      obtain ⟨g, cap, u, G, hv, hBg, hgw, hsub, hgF, hgG, hGF, hcells, hfz, hclose⟩ := fmE.own_at hst.out.1 (i := k) (by omega)
      rw [mixed_at hlt (by omega)] at hsub hcells
      injection hv with e1 e2 e3
      subst e1 e3
      have hsub' : kdR.own wr B u p.els[k].rules G := hsub
      obtain ⟨A5, c5, rfl, _⟩ := fmR.own_form hsub'
      have HCL := Lib.hid hclose
      have x0 := hcells 0 _ rfl
      have x1 := hcells 1 _ rfl
      rw [show k * fmE.size + 0 = k * 2 from rfl] at x0
      rw [show k * fmE.size + 1 = k * 2 + 1 from rfl] at x1
      have HFZ := Lib.hid hfz
      have hk0 : (0 : Int) ≤ (k : Int) := by omega
      have hk1 : (k : Int) < (p.els.length : Int) := by omega
      have HQ := Lib.hid (HSE.out wr k hlt _ G hsub')
      clear hsub hsub' hcells hclose hfz e2
      go_upto_region 6 with (go_at_call 31; refine HQ.out.mono ?_; rintro e w2 ⟨rfl, hf2⟩)
      have kz := kr.of (hf2.block _ kr.lt (fun hx => n1 (hst.out.2.1 _ (hGF _ hx))))
      have g0' := kz.cell 0 rfl
      have c0 := (World.cell?_of_block (a := ⟨g, k * 2, none⟩) (hf2.block g hgw hgG)).trans x0
      have c1' := (World.cell?_of_block (a := ⟨g, k * 2 + 1, none⟩) (hf2.block g hgw hgG)).trans x1
      have f0 := (World.frozen?_of_block (a := ⟨g, k * 2, none⟩) (hf2.block g hgw hgG)).trans (HFZ.out _)
      have f1 := (World.frozen?_of_block (a := ⟨g, k * 2 + 1, none⟩) (hf2.block g hgw hgG)).trans (HFZ.out _)
      have e1 := (World.cell?_setCell_other w2 ⟨g, k * 2, none⟩ ⟨g, k * 2 + 1, none⟩ (.string ⟨#[115, 112, 111, 105, 108, 116]⟩) (by simp)).trans c1'
      have b1 := (World.frozen?_setCell w2 ⟨g, k * 2, none⟩ ⟨g, k * 2 + 1, none⟩ (.string ⟨#[115, 112, 111, 105, 108, 116]⟩)).trans f1
      have hE := HCL.out w2 spE (.slice none 0 0) [] (hf2.block g hgw hgG) hf2.size (fun x hx hxG => hf2.block x ((kdE.ge hst.out.1 x hx).2) hxG) (fmR.own_nil _ _) (fun x hx => by cases hx) ((w2.setCell ⟨g, k * 2, none⟩ (.string spE.name)).setCell ⟨g, k * 2 + 1, none⟩ (.slice none 0 0)) (by simp [World.setCell]) (fun x hx => by rw [Below.heap_setCell _ ⟨g, k * 2 + 1, none⟩ _ x hx, Below.heap_setCell _ ⟨g, k * 2, none⟩ _ x hx]) (fun xs hxs hxl => by
        rw [hml] at hxs hxl ⊢
        exact closeE2 hlt hxs hxl)
      obtain ⟨F5, hF5, hm5⟩ := hE
      have e : (mixed (fun _ => spE) p.els k).set k spE = mixed (fun _ => spE) p.els (k + 1) := mixed_set (f := fun _ => spE) hlt
      rw [e] at hF5
      have hrel2 : Hid (kdE.own ((w2.setCell ⟨g, k * 2, none⟩ (.string spE.name)).setCell ⟨g, k * 2 + 1, none⟩ (.slice none 0 0)) B (.slice (some ⟨g, 0, none⟩) p.els.length c1) (mixed (fun _ => spE) p.els (k + 1)) F5 ∧ (∀ x ∈ F5, x ∈ F1) ∧ Fr F1 w1 ((w2.setCell ⟨g, k * 2, none⟩ (.string spE.name)).setCell ⟨g, k * 2 + 1, none⟩ (.slice none 0 0))) :=
        Lib.hid ⟨hF5, fun x hx => (hm5 x hx).elim (hst.out.2.1 x) (fun h => by cases h), (hst.out.2.2.trans (hf2.mono fun x hx => hst.out.2.1 x (hGF x hx))).trans ((Go.Proofs.YtjhimmljanbjcaaGreatDoor.Wr.Fr.set2' w2 g (k * 2) _ _).mono (fun x hx => by simp at hx; subst hx; exact hst.out.2.1 _ hgF))⟩
      clear hF5 hm5 hf2 x0 x1 e
      unfold spE spS at hrel2
      simp only at hrel2
      go_wp2
      go_roundw
      case rel => exact ⟨k + 1, F5, by omega, by go_num, hrel2⟩
      case measure => simp [intOf] <;> omega
    · obtain rfl : k = p.els.length := by omega
      have hfw : Fr F1 w1 wr := hst.out.2.2
      have q3 : kdW.own wr B (.slice A3 p.schemes.length c3) p.schemes F3 := kdW.keep j3 hfw.size fun k hk => hfw.block k (kdW.ge j3 k hk).2 (fun hx => d1 k hx k (by simp [hk]) rfl)
      have q4 : kdW.own wr B (.slice A4 p.drop.length c4) p.drop F4 := kdW.keep j4 hfw.size fun k hk => hfw.block k (kdW.ge j4 k hk).2 (fun hx => d1 k hx k (by simp [hk]) rfl)
      have m3 : Hid (kdW.own wr B (.slice A3 p.schemes.length c3) (mixed (fun _ => spS) p.schemes 0) F3 ∧ Fr F3 wr wr) := Lib.hid ⟨by rw [mixed_0]; exact q3, Fr.refl _ _⟩
      have hg2 : Fr (F1 ++ (F2 ++ (F3 ++ F4))) w wr := hg1.trans (hfw.mono fun k hk => by simp [hk])
      obtain ⟨wa, hwa⟩ : ∃ wa, wa = wr := ⟨_, rfl⟩
      rw [← hwa] at kr q4 m3 hg2
      have g2 := kr.cell 2 rfl
      rw [hwa] at g2
      go_wp2
      go_loopw [30] (fun i wr => ∃ j : Nat, j ≤ p.schemes.length ∧ i = .int .i64 j ∧ Hid (kdW.own wr B (.slice A3 p.schemes.length c3) (mixed (fun _ => spS) p.schemes j) F3 ∧ Fr F3 wa wr)) (fun i _ => p.schemes.length - (intOf i).toNat)
      case atStart => exact ⟨0, by omega, rfl, hwa ▸ m3⟩
      case round =>
        clear hwa g0
        obtain ⟨j, hj, rfl, hin⟩ := hrel
        have ks := kr.of (hin.out.2.block _ kr.lt n3)
        have z2 := ks.cell 2 rfl
        have z4 := ks.cell 4 rfl
        by_cases hltj : j < p.schemes.length
        · obtain ⟨b, e9, hBb, hbw, hfzb, hcj, ho9⟩ := Own.store (B := B) (n := p.schemes.length) (c := c3) (l := mixed (fun _ => spS) p.schemes j) hin.out.1.1 (j := j) (by rw [mixed_len]; exact hltj) spS
          subst e9
          have hj0 : (0 : Int) ≤ (j : Int) := by omega
          have hj1 : (j : Int) < (p.schemes.length : Int) := by omega
          have hnew : Hid (kdW.own (wr.setCell ⟨b, j, none⟩ (.string spS)) B (.slice (some ⟨b, 0, none⟩) p.schemes.length c3) (mixed (fun _ => spS) p.schemes (j + 1)) F3 ∧ Fr F3 wa (wr.setCell ⟨b, j, none⟩ (.string spS))) := Lib.hid (by
            have h9 := ho9
            have e : (mixed (fun _ => spS) p.schemes j).set j spS = mixed (fun _ => spS) p.schemes (j + 1) := mixed_set (f := fun _ => spS) hltj
            rw [e] at h9
            exact ⟨⟨h9, hin.out.1.2⟩, hin.out.2.trans (Fr.setCell _ _ _ (.inl (by rw [hin.out.1.2]; simp [Value.ownBlock])))⟩)
          clear ho9
          unfold spS at hnew
          go_wp2
          go_roundw
          case rel => exact ⟨j + 1, by omega, by go_num, hnew⟩
          case measure => simp [intOf] <;> omega
        · obtain rfl : j = p.schemes.length := by omega
          have hfs : Fr F3 wa wr := hin.out.2
          have q4' : kdW.own wr B (.slice A4 p.drop.length c4) p.drop F4 := kdW.keep q4 hfs.size fun k hk => hfs.block k (kdW.ge q4 k hk).2 (fun hx => d3 k hx k hk rfl)
          have m4 : Hid (kdW.own wr B (.slice A4 p.drop.length c4) (mixed (fun _ => spS) p.drop 0) F4 ∧ Fr F4 wr wr) := Lib.hid ⟨by rw [mixed_0]; exact q4', Fr.refl _ _⟩
          have hg3 : Fr (F1 ++ (F2 ++ (F3 ++ F4))) w wr := hg2.trans (hfs.mono fun k hk => by simp [hk])
          obtain ⟨wb, hwb⟩ : ∃ wb, wb = wr := ⟨_, rfl⟩
          rw [← hwb] at ks m4 hg3
          go_wp2
          go_loopw [41] (fun i wr => ∃ j : Nat, j ≤ p.drop.length ∧ i = .int .i64 j ∧ Hid (kdW.own wr B (.slice A4 p.drop.length c4) (mixed (fun _ => spS) p.drop j) F4 ∧ Fr F4 wb wr)) (fun i _ => p.drop.length - (intOf i).toNat)
          case atStart => exact ⟨0, by omega, rfl, hwb ▸ m4⟩
          case round =>
            clear hwb z2 z4
            obtain ⟨j, hj, rfl, hin⟩ := hrel
            have kt := ks.of (hin.out.2.block _ ks.lt n4)
            have z4 := kt.cell 4 rfl
            by_cases hltj : j < p.drop.length
            · obtain ⟨b, e9, hBb, hbw, hfzb, hcj, ho9⟩ := Own.store (B := B) (n := p.drop.length) (c := c4) (l := mixed (fun _ => spS) p.drop j) hin.out.1.1 (j := j) (by rw [mixed_len]; exact hltj) spS
              subst e9
              have hj0 : (0 : Int) ≤ (j : Int) := by omega
              have hj1 : (j : Int) < (p.drop.length : Int) := by omega
              have hnew : Hid (kdW.own (wr.setCell ⟨b, j, none⟩ (.string spS)) B (.slice (some ⟨b, 0, none⟩) p.drop.length c4) (mixed (fun _ => spS) p.drop (j + 1)) F4 ∧ Fr F4 wb (wr.setCell ⟨b, j, none⟩ (.string spS))) := Lib.hid (by
                have h9 := ho9
                have e : (mixed (fun _ => spS) p.drop j).set j spS = mixed (fun _ => spS) p.drop (j + 1) := mixed_set (f := fun _ => spS) hltj
                rw [e] at h9
                exact ⟨⟨h9, hin.out.1.2⟩, hin.out.2.trans (Fr.setCell _ _ _ (.inl (by rw [hin.out.1.2]; simp [Value.ownBlock])))⟩)
              clear ho9
              unfold spS at hnew
              go_wp2
              go_roundw
              case rel => exact ⟨j + 1, by omega, by go_num, hnew⟩
              case measure => simp [intOf] <;> omega
            · obtain rfl : j = p.drop.length := by omega
              have hfd : Fr F4 wb wr := hin.out.2
              go_wp2
              go_end0
              exact ⟨rfl, hg3.trans (hfd.mono fun k hk => by simp [hk])⟩
end Go.Proofs.YtjhimmljanbjcaaGreatDoor.Wr
