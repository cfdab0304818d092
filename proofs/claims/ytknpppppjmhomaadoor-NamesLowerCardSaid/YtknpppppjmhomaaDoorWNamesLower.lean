/- NamesLower: small letters stay, and are as long; Fold is an equality; names that may be written are in small letters. For every three texts, no condition.  (The walk.) -/
import Derived.Test.YtknpppppjmhomaaDoorAwake
import Derived.Test.YtknpppppjmhomaaDoorForms
namespace Go.Proofs.YtknpppppjmhomaaDoor.namesLower
open Go.RowKit Lb Fl Is Aw

theorem fold_low (a : ByteArray) : Ms.foldS a (lowS a) = true := by unfold Ms.foldS; rw [lowS_lowS]; simp
theorem fold_comm (a b : ByteArray) : Ms.foldS a b = Ms.foldS b a := by unfold Ms.foldS; rw [Bool.eq_iff_iff, beq_iff_eq, beq_iff_eq]; exact ⟨Eq.symm, Eq.symm⟩
theorem fold_trans {a b c : ByteArray} (h1 : Ms.foldS a b = true) (h2 : Ms.foldS b c = true) : Ms.foldS a c = true := by
  unfold Ms.foldS at *; rw [beq_iff_eq] at *; exact h1.trans h2

set_option maxHeartbeats 4000000 in
set_option maxRecDepth 100000 in
theorem walk (a b c : ByteArray) (w : World) (ht : Tab w) (ha : a.size ≤ maxLen) (hb : b.size ≤ maxLen) (hc : c.size ≤ maxLen) : Calls Tryd.prog 7 #[.string a, .string b, .string c] w fun e w' => e = .returned (.bool true) ∧ Below w.heap.size w w' := by
  have hl : (lowS a).size ≤ maxLen := by rw [lowS_size]; exact ha
  have hl2 : (lowS (lowS a)).size ≤ maxLen := by rw [lowS_size, lowS_size]; exact ha
  have e1 : ((lowS (lowS a)).toList == (lowS a).toList) = true := by rw [lowS_lowS]; simp
  have e2 : (lowS a).size = a.size := lowS_size a
  have e3 := fold_low a
  have e4 : (Ms.foldS a b == Ms.foldS b a) = true := by rw [fold_comm]; simp
  have key : ∃ x y z, Ms.foldS a b = x ∧ Ms.foldS b c = y ∧ Ms.foldS a c = z ∧ (x = true → y = true → z = true) := ⟨_, _, _, rfl, rfl, rfl, fold_trans⟩
  have hba : Ms.foldS b a = Ms.foldS a b := fold_comm b a
  obtain ⟨x, y, z, hx, hy, hz, himp⟩ := key
  rw [hx] at hba
  rw [hx, hba] at e4
  have key2 : (wrt false a.data.toList = true ∧ ((lowS a).toList == a.toList) = true) ∨ (wrt false a.data.toList = false ∧ wrt true a.data.toList = true ∧ ((lowS a).toList == a.toList) = true) ∨ (wrt false a.data.toList = false ∧ wrt true a.data.toList = false) := by
    cases h1 : wrt false a.data.toList
    · cases h2 : wrt true a.data.toList
      · exact .inr (.inr ⟨rfl, rfl⟩)
      · exact .inr (.inl ⟨rfl, rfl, by rw [low_wrt h2]; simp⟩)
    · exact .inl ⟨rfl, by rw [low_wrt h1]; simp⟩
  have hz1 : ∀ s : ByteArray, s.size ≤ maxLen → s.size ≤ 9223372036854775807 := fun s h => by unfold maxLen at h; omega
  have sa := hz1 a ha
  have sl := hz1 _ hl
  clear hz1
  cases x <;> cases y
  case' true.true => obtain rfl := himp rfl rfl
  all_goals
    clear himp
    rcases key2 with ⟨t1, t2⟩ | ⟨t1, t2, t3⟩ | ⟨t1, t2⟩
    all_goals
      have hb0 : Below w.heap.size w w := Below.refl _ _
      go_enter Tryd.func7, Tryd.ntmps7
      go_wp2_with fail
      refine (chain hb0 (Lw.nLower _ _ ha)).mono ?_
      rintro e wa ⟨rfl, hba1⟩
      go_wp2_with fail
      refine (chain hba1 (Lw.nLower _ _ hl)).mono ?_
      rintro e wb ⟨rfl, hbb⟩
      go_wp2_with (first | (go_at_call 22; refine (chain (by assumption) (Ms.nFold _ _ _ (by assumption) (by assumption))).mono ?_; rintro e w2 ⟨rfl, hb2⟩) | (go_at_call 40; refine (Fm.nTagName _ _).mono ?_; rintro e w' ⟨rfl, rfl⟩) | (go_at_call 41; refine (Fm.nAttrName _ _).mono ?_; rintro e w' ⟨rfl, rfl⟩) | (go_at_call 14; refine (chain (by assumption) (awake _ (ht.below (by assumption)))).mono ?_; rintro e w3 ⟨rfl, hb3⟩))
      go_ret
      exact ⟨rfl, by assumption⟩
end Go.Proofs.YtknpppppjmhomaaDoor.namesLower
