/- May a list of rules be: the program's rulesMay; globalRight. -/
import Derived.Test.YteikagdinecfoaaGreatDoorRn
set_option linter.unusedVariables false
set_option linter.unusedSimpArgs false
namespace Go.Proofs.YteikagdinecfoaaGreatDoor.Ro
open Go.RowKit Lb Gr Pd Fl Go.Proofs.YteikagdinecfoaaGreatDoor.Pm Bk Is Sl Ha Rm Rn
attribute [local go_sem ↓] Go.wp_at_zero Go.wp_at_succ

/-- sizes that a machine's int holds -/
def OkR (l : List RuleD) : Prop := l.length ≤ 9223372036854775807 ∧ ∀ i (h : i < l.length), (l[i]).words.length ≤ 9223372036854775807 ∧ (l[i]).name.size ≤ maxLen ∧ -9223372036854775808 ≤ (l[i]).kind ∧ (l[i]).kind ≤ 9223372036854775807

set_option maxHeartbeats 4000000 in
set_option maxRecDepth 100000 in
theorem rulesMayC (A : Option Addr) (n c : Nat) (l : List RuleD) (w : World) (ht : Tab w) (h : kdR.rd w 0 w.heap.size (.slice A n c) l) (hok : OkR l) : Calls Tryz.prog 131 #[.slice A n c] w fun e w' => e = .returned (.bool (rulesB l)) ∧ Below w.heap.size w w' := by
  obtain ⟨hl, hw⟩ := hok
  have hn : n = l.length ∧ l.length ≤ c := by obtain ⟨_, _, hv, h1, _⟩ := fmR.rd_form h; injection hv with _ e1 e2; exact ⟨e1, by omega⟩
  obtain ⟨hn, hc⟩ := hn
  subst hn
  have HRD : Hid (∀ W, Below w.heap.size w W → kdR.rd W 0 w.heap.size (.slice A l.length c) l) := Lib.hid fun W hW => rd_below h hW (Nat.le_refl _)
  have HM : Hid (∀ W k (hk : k < l.length) A2 c2, Below w.heap.size w W → kdW.rd W 0 W.heap.size (.slice A2 l[k].words.length c2) l[k].words → Calls Tryz.prog 180 #[.slice A k c, .agg #[.string l[k].name, .int .i64 l[k].kind, .slice A2 l[k].words.length c2]] W fun e w' => e = .returned (.bool (ruleB (l.take k) l[k])) ∧ Below W.heap.size W w') :=
    Lib.hid fun W k hk A2 c2 hW hu => ruleMayC A A2 k c _ c2 (l.take k) l[k] W (ht.below hW) (kdR.wide (fmR.rd_take (rd_below h hW (Nat.le_refl _)) (Nat.le_of_lt hk)) (Nat.le_refl _) hW.size) hu (by omega) (hw k hk).1 (hw k hk).2.1 (hw k hk).2.2.1 (hw k hk).2.2.2
  have HB : Hid (rulesB l = rulesFrom (l.take 0) (l.drop 0)) := Lib.hid rfl
  clear h hw ht
  have hb00 := Below.refl w.heap.size w
  go_enter Tryz.func131, Tryz.ntmps131
  go_wp2
  go_loopw [7] (fun i wr => ∃ k : Nat, k ≤ l.length ∧ i = .int .i64 k ∧ Below w.heap.size w wr ∧ Hid (rulesB l = rulesFrom (l.take k) (l.drop k))) (fun i _ => l.length - (intOf i).toNat)
  case atStart => exact ⟨0, by omega, rfl, hb00, HB⟩
  case round =>
    obtain ⟨k, hk, rfl, hnx, hst⟩ := hrel
    by_cases hlt : k < l.length
    · obtain ⟨b, off, u, rfl, hb1, hb2, hu, hcell⟩ := fmR.rd_at (HRD.out _ hnx) hlt
      have c0 := hcell 0 _ rfl
      have c1 := hcell 1 _ rfl
      have c2 := hcell 2 _ rfl
      rw [show off + (k * fmR.size + 0) = off + k * 3 from rfl] at c0
      rw [show off + (k * fmR.size + 1) = off + k * 3 + 1 from by show off + (k * 3 + 1) = _; omega] at c1
      rw [show off + (k * fmR.size + 2) = off + k * 3 + 2 from by show off + (k * 3 + 2) = _; omega] at c2
      have hu' : kdW.rd wr 0 w.heap.size u l[k].words := hu
      clear hu
      obtain ⟨A1, cc1, rfl, _⟩ := rdW_form hu'
      clear hcell
      obtain ⟨W0, hW0⟩ : ∃ W, W = wr.alloc (.cells #[.string l[k].name, .int .i64 l[k].kind, .slice A1 l[k].words.length cc1] 50) := ⟨_, rfl⟩
      have hb0 : Below wr.heap.size wr W0 := hW0 ▸ (Below.refl _ _).alloc (Nat.le_refl _) _
      have k5 : Bl W0 wr.heap.size 50 [.string l[k].name, .int .i64 l[k].kind, .slice A1 l[k].words.length cc1] := hW0 ▸ Bl.new wr _ _ rfl
      have hu2 : kdW.rd W0 0 W0.heap.size (.slice A1 l[k].words.length cc1) l[k].words := kdW.wide (rd_below hu' (hb0.mono (Nat.le_refl _)) hnx.size) (Nat.le_refl _) (Nat.le_trans hnx.size hb0.size)
      have hb9 : Below w.heap.size w W0 := hnx.trans (hb0.mono hnx.size)
      have HM2 := Lib.hid (HM.out W0.drew k hlt A1 cc1 hb9.drew hu2)
      have y0 := k5.cell 0 rfl
      have y1 := k5.cell 1 rfl
      have y2 := k5.cell 2 rfl
      have HX := Lib.hid hW0
      have hk0 : (0 : Int) ≤ (k : Int) := by omega
      have hkc : (k : Int) ≤ (c : Int) := by omega
      clear hW0 hu' hu2
      cases hb : ruleB (l.take k) l[k]
      · have hr : Hid (rulesB l = false) := Lib.hid (by rw [hst.out]; exact rules_no hlt hb)
        rw [hb] at HM2
        clear hb
        go_upto_region 4 with fail
        rw [← HX.out]
        first | (go_region_held3 (fun W' => W'.cell? ⟨wr.heap.size, 0, none⟩ = some (.string l[k].name) ∧ W'.cell? ⟨wr.heap.size, 1, none⟩ = some (.int .i64 l[k].kind) ∧ W'.cell? ⟨wr.heap.size, 2, none⟩ = some (.slice A1 l[k].words.length cc1))
          (first | exact ⟨y0, y1, y2⟩ | exact ⟨z0, z1, z2⟩)
          (first | (go_at_call 180; refine HM2.out.mono ?_; rintro e w2 ⟨rfl, hb3⟩; have k6 := (k5.below (w' := W0.drew) (drw W0 1)).below hb3; have z0 := k6.cell 0 rfl; have z1 := k6.cell 1 rfl; have z2 := k6.cell 2 rfl))) | fail
        go_wp2
        go_ret
        exact ⟨rb hr.out, hb9.drew.trans (hb3.mono hb9.size)⟩
      · have hr : Hid (rulesB l = rulesFrom (l.take (k + 1)) (l.drop (k + 1))) := Lib.hid (by rw [hst.out]; exact rules_go hlt hb)
        rw [hb] at HM2
        clear hb
        go_upto_region 4 with fail
        rw [← HX.out]
        first | (go_region_held3 (fun W' => W'.cell? ⟨wr.heap.size, 0, none⟩ = some (.string l[k].name) ∧ W'.cell? ⟨wr.heap.size, 1, none⟩ = some (.int .i64 l[k].kind) ∧ W'.cell? ⟨wr.heap.size, 2, none⟩ = some (.slice A1 l[k].words.length cc1))
          (first | exact ⟨y0, y1, y2⟩ | exact ⟨z0, z1, z2⟩)
          (first | (go_at_call 180; refine HM2.out.mono ?_; rintro e w2 ⟨rfl, hb3⟩; have k6 := (k5.below (w' := W0.drew) (drw W0 1)).below hb3; have z0 := k6.cell 0 rfl; have z1 := k6.cell 1 rfl; have z2 := k6.cell 2 rfl))) | fail
        go_wp2
        go_roundw
        case rel => exact ⟨k + 1, by omega, by go_num, hb9.drew.trans (hb3.mono hb9.size), hr⟩
        case measure => simp [intOf] <;> omega
    · have hr : Hid (rulesB l = true) := Lib.hid (by rw [hst.out]; exact rules_end (by omega))
      go_wp2
      go_ret
      exact ⟨rb hr.out, hnx⟩
end Go.Proofs.YteikagdinecfoaaGreatDoor.Ro
