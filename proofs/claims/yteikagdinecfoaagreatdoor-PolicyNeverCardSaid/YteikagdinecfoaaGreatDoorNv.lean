/- What no valid policy has: plain laws, no program. -/
import Derived.Test.YteikagdinecfoaaGreatDoorVd
set_option linter.unusedVariables false
set_option linter.unusedSimpArgs false
namespace Go.Proofs.YteikagdinecfoaaGreatDoor.Nv
open Go.RowKit Lb Gr Pd Go.Proofs.YteikagdinecfoaaGreatDoor.Ck Go.Proofs.YteikagdinecfoaaGreatDoor.Lk Go.Proofs.YteikagdinecfoaaGreatDoor.Vd Is

def barredL : List ByteArray := [str [115, 99, 114, 105, 112, 116], str [115, 116, 121, 108, 101], str [120, 109, 112], str [105, 102, 114, 97, 109, 101], str [110, 111, 101, 109, 98, 101, 100], str [110, 111, 102, 114, 97, 109, 101, 115], str [110, 111, 115, 99, 114, 105, 112, 116], str [116, 105, 116, 108, 101], str [115, 118, 103], str [109, 97, 116, 104], str [116, 101, 109, 112, 108, 97, 116, 101], str [112, 108, 97, 105, 110, 116, 101, 120, 116], str [111, 98, 106, 101, 99, 116], str [101, 109, 98, 101, 100]]
theorem barred_no : barredL.all (fun s => !inA s) = true := by decide +kernel
theorem no_barred {p : PolD} (h : Valid p) {s : ByteArray} (hs : s ∈ barredL) : p.els.find? (fun e => decide (e.name = s)) = none := by
  rw [List.find?_eq_none]
  intro e he hn
  simp at hn
  have h1 := List.all_eq_true.1 barred_no s hs
  rw [← hn, (h.els e he).1] at h1
  cases h1
theorem once_ok {ok : ByteArray → Bool} : ∀ {t l : List ByteArray}, onceFrom ok l t = true → ∀ s ∈ t, ok s = true
  | [], _, _, s, hs => by cases hs
  | a :: t, l, h, s, hs => by
    rw [onceFrom, Bool.and_eq_true, Bool.and_eq_true] at h
    rcases List.mem_cons.1 hs with rfl | hs
    · exact h.1.1
    · exact once_ok h.2 s hs
theorem no_never {p : PolD} (h : Valid p) {s : ByteArray} (hs : s ∈ p.schemes) : hasT neverL s = false := by
  have h1 := once_ok (l := []) h.schemes s hs
  unfold schemeB at h1
  simp only [Bool.and_eq_true, Bool.not_eq_true'] at h1
  exact h1.2
theorem rules_ok : ∀ {t l : List RuleD}, rulesFrom l t = true → ∀ r ∈ t, ∃ l', ruleB l' r = true
  | [], _, _, r, hr => by cases hr
  | a :: t, l, h, r, hr => by
    rw [rulesFrom, Bool.and_eq_true] at h
    rcases List.mem_cons.1 hr with rfl | hr
    · exact ⟨l, h.1⟩
    · exact rules_ok h.2 r hr
/-- what a right rule is not -/
structure ROk (r : RuleD) : Prop where
  on : Lib.hasPrefix (lowL r.name.data.toList) [111, 110] = false
  style : r.name ≠ str [115, 116, 121, 108, 101]
  srcdoc : r.name ≠ str [115, 114, 99, 100, 111, 99]
  href : r.name = str [104, 114, 101, 102] → r.kind = 5
  src : r.name = str [115, 114, 99] → r.kind = 5
theorem rok_of {l : List RuleD} {r : RuleD} (h : ruleB l r = true) : ROk r := by
  unfold ruleB at h
  simp only [Bool.and_eq_true, Bool.not_eq_true', Bool.and_eq_false_iff, decide_eq_false_iff_not, Decidable.not_not] at h
  obtain ⟨⟨⟨⟨⟨⟨⟨h1, h2⟩, h3⟩, h4⟩, h5⟩, h6⟩, h7⟩, h8⟩ := h
  refine ⟨h2, fun e => ?_, fun e => ?_, fun e => ?_, fun e => ?_⟩
  · rw [e] at h3; exact absurd h3 (by decide +kernel)
  · rw [e] at h3; exact absurd h3 (by decide +kernel)
  · rw [e] at h6; exact h6.elim (fun h => absurd h (by decide +kernel)) id
  · rw [e] at h6; exact h6.elim (fun h => absurd h (by decide +kernel)) id
/-- all that comes of a policy -/
def allOf (p : PolD) : List (ByteArray × RuleD) := p.els.flatMap fun e => (e.rules ++ p.glob.filter fun r => !hasR e.rules r.name).map fun r => (e.name, r)
theorem allOf_ok {p : PolD} (h : Valid p) {x : ByteArray × RuleD} (hx : x ∈ allOf p) : ROk x.2 ∧ x.1 ≠ ByteArray.empty := by
  unfold allOf at hx
  obtain ⟨e, he, hx⟩ := List.mem_flatMap.1 hx
  obtain ⟨r, hr, rfl⟩ := List.mem_map.1 hx
  have h1 := h.els e he
  refine ⟨?_, fun hn => ?_⟩
  · rcases List.mem_append.1 hr with hr | hr
    · obtain ⟨l, hl⟩ := rules_ok (l := []) h1.2 r hr; exact rok_of hl
    · obtain ⟨l, hl⟩ := rules_ok (l := []) h.glob r (List.mem_filter.1 hr).1; exact rok_of hl
  · have := nil_no' (s := e.name) (by show e.name.size = 0; rw [show e.name = ByteArray.empty from hn]; rfl) 15
    have h2 := h1.1
    unfold inA at h2
    rw [this] at h2
    cases h2
end Go.Proofs.YteikagdinecfoaaGreatDoor.Nv
