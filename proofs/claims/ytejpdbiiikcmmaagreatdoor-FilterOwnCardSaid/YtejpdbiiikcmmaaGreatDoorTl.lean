/- token.attrs, token.Check. -/
import Derived.Test.YtejpdbiiikcmmaaGreatDoorTk
set_option linter.unusedVariables false
set_option linter.unusedSimpArgs false
namespace Go.Proofs.YtejpdbiiikcmmaaGreatDoor.Tk
open Go.RowKit Lb Gr Pd Fpl Kf Ub Mp Lw Go.Proofs.YtejpdbiiikcmmaaGreatDoor.Pm Bk
attribute [local go_sem ↓] Go.wp_at_zero Go.wp_at_succ

/-! ### attributes -/
theorem look_seen (s : ByteArray) : ∀ l : List AtD, lookL s (l.map fun a => (a.name, Value.bool true)) = if hasA l s then some (.bool true) else none
  | [] => rfl
  | a :: r => by
    have ih := look_seen s r
    unfold hasA at ih ⊢
    rw [List.map_cons]
    unfold lookL
    rw [List.any_cons]
    by_cases h : s = a.name
    · rw [if_pos h, decide_eq_true h]; rfl
    · rw [if_neg h, decide_eq_false h, Bool.false_or]; exact ih
set_option maxHeartbeats 8000000 in
set_option maxRecDepth 100000 in
theorem attrsC (l : List AtD) (v : Value) (w : World) (h : kdA.rd w 0 w.heap.size v l) (hz : ∀ a ∈ l, a.name.size ≤ maxLen ∧ a.value.size ≤ maxLen) (hm : l.length ≤ 9223372036854775807) :
    Calls Tryz.prog 102 #[v] w fun e w' => e = .returned (.bool (attrsP l)) ∧ Below w.heap.size w w' := by
  obtain ⟨A, c, rfl, q1, q2⟩ := rdF_form h
  have HRD : Hid (∀ W, Below w.heap.size w W → kdA.rd W 0 w.heap.size (.slice A l.length c) l) := Lib.hid fun W hW => kdA.stay h (stay_below hW (Nat.le_refl _))
  have HN : Hid (∀ k (hk : k < l.length) W, Calls Tryz.prog 101 #[.string l[k].name, .bool true] W fun e w' => e = .returned (.bool (nameP true l[k].name.data.toList)) ∧ Below W.heap.size W w') := Lib.hid fun k hk W => nameC _ (hz _ (List.getElem_mem hk)).1 true W
  have HV : Hid (∀ k (hk : k < l.length) W, Calls Tryz.prog 100 #[.string l[k].value] W fun e w' => e = .returned (.bool (validB l[k].value.data.toList)) ∧ Below W.heap.size W w') := Lib.hid fun k hk W => validC _ (hz _ (List.getElem_mem hk)).2 W
  have HB : Hid (attrsP l = attrsFrom (l.take 0) (l.drop 0)) := Lib.hid rfl
  have hm0 := MapS.made w
  have hb00 := (Below.refl w.heap.size w).alloc (Nat.le_refl _) (.map #[] 0)
  clear h hz
  have hmm := @run_makeMap Tryz.prog
  go_enter Tryz.func102, Tryz.ntmps102
  go_wp2
  go_loopw [9] (fun i wr => ∃ k : Nat, k ≤ l.length ∧ i = .int .i64 k ∧ MapS wr w.heap.size ((l.take k).map fun a => (a.name, Value.bool true)) ∧ Below w.heap.size w wr ∧ Hid (attrsP l = attrsFrom (l.take k) (l.drop k))) (fun i _ => l.length - (intOf i).toNat)
  case atStart => exact ⟨0, by omega, rfl, hm0, hb00, HB⟩
  case round =>
    obtain ⟨k, hk, rfl, m4, hnx, hst⟩ := hrel
    by_cases hlt : k < l.length
    · obtain ⟨b, off, rfl, hb1, hb2, e0, e1⟩ := rdA_at (HRD.out _ hnx) hlt
      rw [← Nat.add_assoc] at e1
      have hXN : Hid (attrOk (l.take k) l[k] = false → attrsP l = false) := Lib.hid (fun h => hst.out.trans (attrs_no hlt h))
      have hXY : Hid (attrOk (l.take k) l[k] = true → attrsP l = attrsFrom (l.take (k + 1)) (l.drop (k + 1))) := Lib.hid (fun h => hst.out.trans (attrs_go hlt h))
      have hXD : Hid (attrOk (l.take k) l[k] = (nameP true l[k].name.data.toList && validB l[k].value.data.toList && !hasA (l.take k) l[k].name)) := Lib.hid rfl
      have hmp : Hid ((l.take (k + 1)).map (fun a => (a.name, Value.bool true)) = ((l.take k).map fun a => (a.name, Value.bool true)) ++ [(l[k].name, .bool true)]) := Lib.hid (by rw [List.take_succ_eq_append_getElem hlt, List.map_append]; rfl)
      have hlk0 := Lib.hid (look_seen l[k].name (l.take k))
      have HN1 := Lib.hid (HN.out k hlt)
      have HV1 := Lib.hid (HV.out k hlt)
      generalize l[k].name = nm at *
      generalize l[k].value = vl at *
      generalize (l.take k).map (fun a => (a.name, Value.bool true)) = M at *
      obtain ⟨W0, hW0⟩ : ∃ W, W = wr.alloc (.cells #[.string nm, .string vl] 48) := ⟨_, rfl⟩
      have hb0 : Below wr.heap.size wr W0 := hW0 ▸ (Below.refl _ _).alloc (Nat.le_refl _) _
      have k5 : Bl W0 wr.heap.size 48 [.string nm, .string vl] := hW0 ▸ Bl.new wr _ _ rfl
      have m5 := m4.below hb0
      have y0 := k5.cell 0 rfl
      have y1 := k5.cell 1 rfl
      have hb9 : Below w.heap.size w W0 := hnx.trans (hb0.mono hnx.size)
      have HX := Lib.hid hW0
      clear hW0
      have hk0 : (0 : Int) ≤ (k : Int) := by omega
      cases hn : nameP true nm.data.toList
      · rw [hn] at HN1 hXD
        have hq := Lib.hid (hXN.out (by rw [hXD.out]; rfl))
        go_upto_region 5 with fail
        rw [← HX.out]
        go_wp2_with (go_at_call 101; refine (HN1.out _).mono ?_; rintro e w1 ⟨rfl, hb1⟩)
        go_ret
        exact ⟨rb hq.out, hb9.trans (hb1.mono hb9.size)⟩
      · rw [hn] at HN1 hXD
        cases hv : validB vl.data.toList
        · rw [hv] at HV1 hXD
          have hq := Lib.hid (hXN.out (by rw [hXD.out]; rfl))
          go_upto_region 5 with fail
          rw [← HX.out]
          go_wp2_with (first
            | (go_at_call 101; refine (HN1.out _).mono ?_; rintro e w1 ⟨rfl, hb1⟩; have k6 := k5.below hb1; have z1 := k6.cell 1 rfl; have hb19 := hb9.trans (hb1.mono hb9.size))
            | (go_at_call 100; refine (HV1.out _).mono ?_; rintro e w2 ⟨rfl, hb2⟩))
          go_ret
          exact ⟨rb hq.out, hb19.trans (hb2.mono hb19.size)⟩
        · rw [hv] at HV1 hXD
          cases hh : hasA (l.take k) nm
          · rw [hh] at hXD hlk0
            have hq := Lib.hid (hXY.out (by rw [hXD.out]; rfl))
            have hlk1 := hlk0.out
            simp only [Bool.false_eq_true, if_false] at hlk1
            have HL := Lib.hid hlk1
            clear hlk1
            go_upto_region 5 with fail
            rw [← HX.out]
            go_upto_region 7 with (first
              | (go_at_call 101; refine (HN1.out _).mono ?_; rintro e w1 ⟨rfl, hb1⟩; have k6 := k5.below hb1; have m6 := m5.below hb1; have z1 := k6.cell 1 rfl; have hb19 := hb9.trans (hb1.mono hb9.size))
              | (go_at_call 100; refine (HV1.out _).mono ?_; rintro e w2 ⟨rfl, hb2⟩; have k7 := k6.below hb2; have m7 := m6.below hb2; have z2 := k7.cell 0 rfl; have hb29 := hb19.trans (hb2.mono hb19.size); have hlk := run_look (P := Tryz.prog) (w := w2) Tryz.underlying74 Tryz.underlying9 m7 nm (z := .bool false) (Tryz.zeroValue4 w2) false; rw [HL.out] at hlk; simp only [Option.getD_none, Bool.false_eq_true, if_false] at hlk))
            obtain ⟨w3, hrun, m8, hg8⟩ := run_put (P := Tryz.prog) (w := w2) Tryz.underlying74 Tryz.underlying9 m7 (s := nm) (v := .bool true) HL.out
            have hb39 := hb29.grown hg8 hb29.size (fun j hj => by injection hj with hj; omega)
            rw [← hmp.out] at m8
            go_wp2
            go_roundw
            case rel => exact ⟨k + 1, by omega, by go_num, m8, hb39, hq⟩
            case measure => simp [intOf] <;> omega
          · rw [hh] at hXD hlk0
            have hq := Lib.hid (hXN.out (by rw [hXD.out]; rfl))
            have hlk1 := hlk0.out
            simp only [if_true] at hlk1
            have HL := Lib.hid hlk1
            clear hlk1
            go_upto_region 5 with fail
            rw [← HX.out]
            go_wp2_with (first
              | (go_at_call 101; refine (HN1.out _).mono ?_; rintro e w1 ⟨rfl, hb1⟩; have k6 := k5.below hb1; have m6 := m5.below hb1; have z1 := k6.cell 1 rfl; have hb19 := hb9.trans (hb1.mono hb9.size))
              | (go_at_call 100; refine (HV1.out _).mono ?_; rintro e w2 ⟨rfl, hb2⟩; have k7 := k6.below hb2; have m7 := m6.below hb2; have z2 := k7.cell 0 rfl; have hb29 := hb19.trans (hb2.mono hb19.size); have hlk := run_look (P := Tryz.prog) (w := w2) Tryz.underlying74 Tryz.underlying9 m7 nm (z := .bool false) (Tryz.zeroValue4 w2) false; rw [HL.out] at hlk; simp only [Option.getD_none, Option.getD_some, Bool.false_eq_true, if_false] at hlk))
            go_ret
            exact ⟨rb hq.out, hb29⟩
    · have hr : Hid (attrsP l = true) := Lib.hid (by rw [hst.out]; exact attrs_end (by omega))
      go_wp2
      go_ret
      exact ⟨rb hr.out, hnx⟩

/-! ### a token -/
theorem fz {w : World} {g : Nat} {t : TypeId} {xs : List Value} (h : Bl w g t xs) : True := trivial
/-- sizes that memory allows -/
def TokOk (t : TokD) : Prop := t.name.size ≤ maxLen ∧ t.text.size ≤ maxLen ∧ t.attrs.length ≤ 9223372036854775807 ∧ ∀ a ∈ t.attrs, a.name.size ≤ maxLen ∧ a.value.size ≤ maxLen
set_option maxHeartbeats 8000000 in
set_option maxRecDepth 100000 in
theorem checkStart (t : TokD) (v : Value) (w : World) (h : kdA.rd w 0 w.heap.size v t.attrs) (hz : TokOk t) (hk : t.kind = 1) :
    Calls Tryz.prog 41 #[tokV t v] w fun e w' => e = .returned (.int .i64 (mayI t)) ∧ Below w.heap.size w w' := by
  obtain ⟨kd, nm, tx, ats, sf, p1, p2, p3⟩ := t
  simp only at hk h
  subst hk
  obtain ⟨A, c, rfl, q1, q2⟩ := rdF_form h
  obtain ⟨z1, z2, z3, z4⟩ := hz
  simp only at z1 z2 z3 z4
  unfold tokV
  simp only
  obtain ⟨W0, hW0⟩ : ∃ W, W = w.alloc (.cells #[.int .i64 1, .string nm, .string tx, .slice A ats.length c, .bool sf, .int .i64 p1, .int .i64 p2, .int .i64 p3] 39) := ⟨_, rfl⟩
  have hb0 : Below w.heap.size w W0 := hW0 ▸ (Below.refl _ _).alloc (Nat.le_refl _) _
  have k0 : Bl W0 w.heap.size 39 [.int .i64 1, .string nm, .string tx, .slice A ats.length c, .bool sf, .int .i64 p1, .int .i64 p2, .int .i64 p3] := hW0 ▸ Bl.new w _ _ rfl
  have HX := Lib.hid hW0
  clear hW0
  have y0 := k0.cell 0 rfl
  have y1 := k0.cell 1 rfl
  have HN := Lib.hid (fun W => nameC nm z1 false W)
  have HA : Hid (∀ W, Below w.heap.size w W → Calls Tryz.prog 102 #[.slice A ats.length c] W fun e w' => e = .returned (.bool (attrsP ats)) ∧ Below W.heap.size W w') := Lib.hid fun W hW => attrsC ats _ W (kdA.wide (kdA.stay h (stay_below hW (Nat.le_refl _))) (Nat.le_refl _) hW.size) z4 z3
  have HM : Hid (mayI ⟨1, nm, tx, ats, sf, p1, p2, p3⟩ = if nameP false nm.data.toList && decide (tx.size = 0) && attrsP ats then 0 else 70) := Lib.hid rfl
  clear h z1 z2 z4
  generalize mayI ⟨1, nm, tx, ats, sf, p1, p2, p3⟩ = M at *
  generalize attrsP ats = ab at *
  generalize nameP false nm.data.toList = nb at *
  cases nb
  · go_enter Tryz.func41, Tryz.ntmps41
    go_upto_region 1 with fail
    rw [← HX.out]
    go_wp2_with (go_at_call 101; refine (HN.out _).mono ?_; rintro e w1 ⟨rfl, hb1⟩)
    go_ret
    exact ⟨by rw [HM.out]; rfl, hb0.trans (hb1.mono hb0.size)⟩
  · by_cases hx : tx.size = 0
    · have he := toList_nil hx
      have hb := isEmpty_nil hx
      have hx2 : decide (tx.size = 0) = true := by simp [hx]
      cases ab
      · go_enter Tryz.func41, Tryz.ntmps41
        go_upto_region 1 with fail
        rw [← HX.out]
        go_wp2_with (first
          | (go_at_call 101; refine (HN.out _).mono ?_; rintro e w1 ⟨rfl, hb1⟩; have k1 := k0.below hb1; have x2 := k1.cell 2 rfl; have x3 := k1.cell 3 rfl; have hb10 := hb0.trans (hb1.mono hb0.size))
          | (go_at_call 102; refine (HA.out _ hb10).mono ?_; rintro e w2 ⟨rfl, hb2⟩))
        go_ret
        exact ⟨by rw [HM.out, hx2]; rfl, hb10.trans (hb2.mono hb10.size)⟩
      · go_enter Tryz.func41, Tryz.ntmps41
        go_upto_region 1 with fail
        rw [← HX.out]
        go_wp2_with (first
          | (go_at_call 101; refine (HN.out _).mono ?_; rintro e w1 ⟨rfl, hb1⟩; have k1 := k0.below hb1; have x2 := k1.cell 2 rfl; have x3 := k1.cell 3 rfl; have hb10 := hb0.trans (hb1.mono hb0.size))
          | (go_at_call 102; refine (HA.out _ hb10).mono ?_; rintro e w2 ⟨rfl, hb2⟩))
        go_ret
        exact ⟨by rw [HM.out, hx2]; rfl, hb10.trans (hb2.mono hb10.size)⟩
    · have he := toList_ne (Nat.pos_of_ne_zero hx)
      have hb := isEmpty_ne (Nat.pos_of_ne_zero hx)
      have hx2 : decide (tx.size = 0) = false := by simp [hx]
      go_enter Tryz.func41, Tryz.ntmps41
      go_upto_region 1 with fail
      rw [← HX.out]
      go_wp2_with (first
        | (go_at_call 101; refine (HN.out _).mono ?_; rintro e w1 ⟨rfl, hb1⟩; have k1 := k0.below hb1; have x2 := k1.cell 2 rfl; have x3 := k1.cell 3 rfl; have hb10 := hb0.trans (hb1.mono hb0.size)))
      go_ret
      exact ⟨by rw [HM.out, hx2]; rfl, hb10⟩
end Go.Proofs.YtejpdbiiikcmmaaGreatDoor.Tk
