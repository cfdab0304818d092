/- The reference's rules, over what its rule says (which is asked for as a premise here: to be joined to XRj). -/
import Derived.Test.YteikagdinecfoaaGreatDoorCh
import Derived.Test.YteikagdinecfoaaGreatDoorEs
set_option linter.unusedVariables false
set_option linter.unusedSimpArgs false
namespace Go.Proofs.YteikagdinecfoaaGreatDoor.Rq
open Go.RowKit Lb Gr Pd Fl Go.Proofs.YteikagdinecfoaaGreatDoor.Pm Bk
attribute [local go_sem ↓] Go.wp_at_zero Go.wp_at_succ

/-- what the reference's rule says -/
def RuleSays : Prop := ∀ (l : List RuleD) (v : Value) (k : Nat) (hk : l.length = k + 1) (w : World), kdR.rd w 0 w.heap.size v l → (∀ i (hi : i < l.length), (l[i]).name.size ≤ maxLen) →
    Calls Tryz.prog 118 #[v] w fun e w' => e = .returned (.bool (ruleB (l.take k) (l[k]'(by omega)))) ∧ Below w.heap.size w w'

set_option maxHeartbeats 4000000 in
set_option maxRecDepth 100000 in
theorem rRulesC (HM : RuleSays) (l : List RuleD) (v : Value) (w : World) (h : kdR.rd w 0 w.heap.size v l) (hs : ∀ i (hi : i < l.length), (l[i]).name.size ≤ maxLen) : Calls Tryz.prog 57 #[v] w fun e w' => e = .returned (.bool (rulesB l)) ∧ Below w.heap.size w w' := by
  obtain ⟨A, c, rfl, hc1, hc2⟩ := fmR.rd_form h
  have hm : maxLen = 9223372036854775807 := rfl
  have hlen : (l.length : Int) ≤ 9223372036854775807 := by omega
  have HC : Hid (∀ W, Below w.heap.size w W → ∀ k (hk : k < l.length), Calls Tryz.prog 118 #[.slice A (k + 1) c] W fun e w' => e = .returned (.bool (ruleB (l.take k) l[k])) ∧ Below W.heap.size W w') := Lib.hid fun W hW k hk => by
    have h1 := fmR.rd_take (rd_below h hW (Nat.le_refl _)) (show k + 1 ≤ l.length by omega)
    have h2 := HM (l.take (k + 1)) (.slice A (k + 1) c) k (by rw [List.length_take]; omega) W (kdR.wide h1 (Nat.le_refl _) hW.size) (fun i hi => by
      rw [List.getElem_take]
      exact hs i (by rw [List.length_take] at hi; omega))
    rw [List.take_take, Nat.min_eq_left (by omega : k ≤ k + 1), List.getElem_take] at h2
    exact h2
  have H0 : Hid (rulesB l = rulesFrom (l.take 0) (l.drop 0)) := Lib.hid rfl
  clear h hs
  go_enter Tryz.func57, Tryz.ntmps57
  go_wp2
  go_loopw [6] (fun i wr => ∃ k : Nat, k ≤ l.length ∧ i = .int .i64 k ∧ Hid (rulesB l = rulesFrom (l.take k) (l.drop k)) ∧ Below w.heap.size w wr) (fun i _ => l.length - (intOf i).toNat)
  case atStart => exact ⟨0, by omega, rfl, H0, Below.refl _ _⟩
  case round =>
    obtain ⟨k, hk, rfl, hst, hnx⟩ := hrel
    by_cases hlt : k < l.length
    · have hk0 : (0 : Int) ≤ (k : Int) := by omega
      have hk1 : (k : Int) + 1 ≤ (c : Int) := by omega
      have hw1 : IntKind.i64.wrap ((k : Int) + 1) = (k : Int) + 1 := by rw [IntKind.wrap_i64]; omega
      have hkn : ((k : Int) + 1).toNat = k + 1 := by omega
      have hk2 : (0 : Int) ≤ (k : Int) + 1 := by omega
      have HC2 := HC.out wr hnx k hlt
      cases hb : ruleB (l.take k) l[k]
      · rw [hb] at HC2
        have hr : Hid (rulesB l = false) := Lib.hid (by rw [hst.out]; exact rules_no hlt hb)
        have HC3 := Lib.hid HC2
        clear hb HC2
        go_wp2_with (go_at_call 118; refine HC3.out.mono ?_; rintro e w1 ⟨rfl, hb1⟩)
        go_ret
        exact ⟨rb hr.out, hnx.trans (hb1.mono hnx.size)⟩
      · rw [hb] at HC2
        have hr : Hid (rulesB l = rulesFrom (l.take (k + 1)) (l.drop (k + 1))) := Lib.hid (by rw [hst.out]; exact rules_go hlt hb)
        have HC3 := Lib.hid HC2
        clear hb HC2
        go_wp2_with (go_at_call 118; refine HC3.out.mono ?_; rintro e w1 ⟨rfl, hb1⟩)
        go_roundw
        case rel => exact ⟨k + 1, by omega, by go_num, hr, hnx.trans (hb1.mono hnx.size)⟩
        case measure => simp [intOf] <;> omega
    · have hr : Hid (rulesB l = true) := Lib.hid (by rw [hst.out]; exact rules_end (by omega))
      go_wp2
      go_ret
      exact ⟨rb hr.out, hnx⟩
end Go.Proofs.YteikagdinecfoaaGreatDoor.Rq
