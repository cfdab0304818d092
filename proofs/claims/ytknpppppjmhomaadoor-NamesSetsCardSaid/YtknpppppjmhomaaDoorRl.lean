/- The reference's List: a set's names in rising order. -/
import Derived.Test.YtknpppppjmhomaaDoorRs
import Derived.Test.YtknpppppjmhomaaDoorRFields
set_option linter.unusedVariables false
set_option linter.unusedSimpArgs false
namespace Go.Proofs.YtknpppppjmhomaaDoor.Rl
open Go.RowKit Lb St Fl Ls Rt Is Go.Proofs.YtknpppppjmhomaaDoor.So Rs

set_option maxHeartbeats 1000000 in
set_option maxRecDepth 100000 in
theorem rListC (k : Int) (w : World) : Calls Tryd.prog 49 #[.int .i64 k] w fun e w' => RetS w (srt (fieldsS (rtS k))) e w' := by
  have hsz := rtS_size k
  have hF := Lib.hid (fun W => Rf.rFieldsR (rtS k) W (by omega))
  have hln : Hid ((fieldsS (rtS k)).length ≤ 2001) := Lib.hid (by
    have h1 := flds_length (rtS k).data.toList []
    rw [size_len] at h1
    unfold fieldsS fieldsL
    simp at h1 ⊢
    omega)
  have hs := Lib.hid (srt_len (fieldsS (rtS k)))
  have HT := Lib.hid (fun W => rText k W)
  generalize fieldsS (rtS k) = N at *
  generalize rtS k = T at *
  clear hsz
  go_enter Tryd.func49, Tryd.ntmps49
  go_wp2_with (first
    | (go_at_call 72; refine (HT.out _).mono ?_; rintro e w1 ⟨rfl, rfl⟩)
    | (go_at_call 19; refine (hF.out _).mono ?_; rintro e w2 ⟨A, c, rfl, hown, hb2⟩)
    | (go_at_call 73; refine (rSortC _ _ _ _ _ _ hown (by have := hln.out; omega)).mono ?_; rintro e w3 ⟨rfl, ho3, hg3⟩))
  go_ret
  have hb3 : Below w.heap.size w w3 := hb2.grown hg3 hb2.size (fun j hj => hown.ge j hj)
  refine ⟨A, c, by rw [hs.out]; rfl, ?_, hb3⟩
  rw [hs.out]
  exact ho3
end Go.Proofs.YtknpppppjmhomaaDoor.Rl
