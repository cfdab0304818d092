/- NamesNear: how far any two texts are apart; the nearest known name. For every two texts, no condition. (The walk.) -/
import Derived.Deep.Cut
import Derived.Test.YtknpppppjmhomaaDoorNr
import Derived.Test.YtknpppppjmhomaaDoorAwake
set_option linter.unusedVariables false
set_option linter.unusedSimpArgs false
namespace Go.Proofs.YtknpppppjmhomaaDoor.namesNear
open Go.RowKit Lb Fl Is Aw Nr Lv Ds Dr

set_option maxHeartbeats 2000000 in
set_option maxRecDepth 100000 in
theorem walk (a b : ByteArray) (w : World) (ht : Tab w) (ha : a.size ≤ maxLen) (hb : b.size ≤ maxLen) : Calls Tryd.prog 11 #[.string a, .string b] w fun e w' => e = .returned (.bool true) ∧ Below w.heap.size w w' := by
  have HT : Hid (∀ W, Below w.heap.size w W → Tab W) := Lib.hid fun W h => ht.below h
  have H1 := Lib.hid (nNear a w ht ha)
  have H2 := Lib.hid (fun W => rNear a W ha)
  have H3 := Lib.hid (fun W => nDist a b W ha hb)
  have H4 := Lib.hid (fun W => rDist a b W ha hb)
  clear ht
  generalize dist a b = d at *
  obtain ⟨p, q⟩ := near a
  try dsimp only at H1 H2
  go_enter Tryd.func11, Tryd.ntmps11
  go_wp2_with (first
    | (go_at_call 57; refine H1.out.mono ?_; rintro e w1 ⟨rfl, hb1⟩)
    | (go_at_call 58; refine (H2.out _).mono ?_; rintro e w2 ⟨rfl, hb2⟩)
    | (go_at_call 59; refine (H3.out _).mono ?_; rintro e w3 ⟨rfl, hb3⟩)
    | (go_at_call 60; refine (H4.out _).mono ?_; rintro e w4 ⟨rfl, hb4⟩)
    | (go_at_call 14; refine (awake _ (HT.out _ (seq (seq (seq hb1 hb2) hb3) hb4))).mono ?_; rintro e wa ⟨rfl, hba⟩))
  go_ret
  exact ⟨rfl, seq (seq (seq (seq hb1 hb2) hb3) hb4) hba⟩
end Go.Proofs.YtknpppppjmhomaaDoor.namesNear
