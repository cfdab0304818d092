/- awake(): the document's example holds. -/
import Derived.Test.YtknpppppjmhomaaDoorIn
import Derived.Test.YtknpppppjmhomaaDoorMisc
namespace Go.Proofs.YtknpppppjmhomaaDoor.Aw
open Go.RowKit Lb St Fl Is Ms
theorem a1 : inS ⟨#[112]⟩ 6 = true := by decide +kernel
theorem a2 : inS ⟨#[80]⟩ 6 = false := by decide +kernel
theorem a3 : ((collS ⟨#[32, 97, 9, 98, 32, 32, 99, 32]⟩).toList == [97, 32, 98, 32, 99]) = true := by
  rw [Lib.toList_data]; decide +kernel
set_option maxHeartbeats 1000000 in
theorem awake (w : World) (ht : Tab w) : Calls Tryd.prog 14 #[] w fun e w' => e = .returned (.bool true) ∧ Below w.heap.size w w' := by
  have c1 := fun wx (h : Tab wx) => nIn ⟨#[112]⟩ 6 wx h
  have c2 := fun wx (h : Tab wx) => nIn ⟨#[80]⟩ 6 wx h
  rw [a1] at c1
  rw [a2] at c2
  have h3 := a3
  have C1 := Lib.hid c1
  have C2 := Lib.hid c2
  clear c1 c2
  go_enter Tryd.func14, Tryd.ntmps14
  go_wp2_with fail
  refine (C1.out _ ht).mono ?_
  rintro e w1 ⟨rfl, hb1⟩
  go_wp2_with fail
  refine (chain hb1 (C2.out _ (ht.below hb1))).mono ?_
  rintro e w2 ⟨rfl, hb2⟩
  go_wp2_with fail
  refine (chain hb2 (nCollapse _ _ (by decide))).mono ?_
  rintro e w3 ⟨rfl, hb3⟩
  go_wp2_with fail
  go_ret
  exact ⟨rfl, hb3⟩
end Go.Proofs.YtknpppppjmhomaaDoor.Aw
