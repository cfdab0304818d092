/- nest: End: how many an end tag closes. -/
import Derived.Deep.Cut
import Derived.Test.YtddgpkdhakjjaaaDoorLw
set_option linter.unusedVariables false
set_option linter.unusedSimpArgs false
namespace Go.Proofs.YtddgpkdhakjjaaaDoor.En
open Go.RowKit Lb Fl Is Tp Np Wk Wp Wi Wo Pt Oc Go.Proofs.YtddgpkdhakjjaaaDoor.Ask Rt Go.Proofs.YtddgpkdhakjjaaaDoor.Op Aw Lt

def endAt (s : List ByteArray) (y : ByteArray) : Int :=
  if headB y then tm headB wallB s else if is_table y then tm (namedB y) noB s else if inS y 14 then tm (namedB y) (namedB s_table) s else tm (namedB y) wallB s
def endE (s : List ByteArray) : Int := if rightB s then 0 else 161
def endV (s : List ByteArray) (y : ByteArray) : Int := if rightB s then (if endAt s y < 0 then 0 else (s.length : Int) - endAt s y) else 0
theorem endAt_ge (s : List ByteArray) (y : ByteArray) : -1 ≤ endAt s y := by
  unfold endAt
  repeat' split
  all_goals exact tm_ge _ _ _
theorem endAt_lt (s : List ByteArray) (y : ByteArray) : endAt s y < s.length := by
  unfold endAt
  repeat' split
  all_goals exact tm_le _ _ _
theorem lit_new (X : World) (x : ByteArray) (b : Nat) (h : X.heap.size = b) : Below X.heap.size X (X.alloc (.cells #[.string x] 9)) ∧ b < (X.alloc (.cells #[.string x] 9)).heap.size ∧ (X.alloc (.cells #[.string x] 9)).cell? ⟨b, 0, none⟩ = some (.string x) := by
  subst h
  exact ⟨(Below.refl _ _).alloc (Nat.le_refl _) _, by simp, by rw [World.cell?_alloc_new]; rfl⟩

set_option maxHeartbeats 6400000 in
set_option maxRecDepth 100000 in
theorem endC (w : World) (ht : Tab w) (A : Option Addr) (n c : Nat) (s : List ByteArray) (y : ByteArray) (hr : Rd w A n s) (hc : n ≤ c) (hc2 : c ≤ 9223372036854775807) :
    Calls Tryd.prog 30 #[.slice A n c, .string y] w fun e w' => e = .returned (.tuple #[.int .i64 (endV s y), .int .i64 (endE s)]) ∧ Below w.heap.size w w' := by
  have HT : Hid (∀ W, Below w.heap.size w W → Tab W) := Lib.hid fun W h => ht.below h
  have HR : Hid (∀ W, Below w.heap.size w W → Rd W A n s) := Lib.hid fun W h => hr.below h
  have hR := Lib.hid (rightC w ht A n c s hr hc hc2)
  have hge := endAt_ge s y
  have hlt := endAt_lt s y
  have hTm : ∀ W k lb pr k2 lb2 q, Below w.heap.size w W → Pd W k lb pr → Pd W k2 lb2 q → Calls Tryd.prog 52 #[.slice A n c, .func (.func k) #[] lb, .func (.func k2) #[] lb2] W fun e w' => e = .returned (.int .i64 (tm pr q s)) ∧ Below W.heap.size W w' :=
    fun W k lb pr k2 lb2 q hb h1 h2 => topmost W (hr.below hb) (by omega) h1 h2
  rw [← hr.1] at hlt
  unfold endV endE
  rw [← hr.1]
  have HTM := Lib.hid hTm
  clear hTm hr ht
  cases h1 : rightB s
  · rw [h1] at hR
    go_enter Tryd.func30, Tryd.ntmps30
    go_wp2_with (go_at_call 15; refine hR.out.mono ?_; rintro e w1 ⟨rfl, hb1⟩)
    go_ret2
    exact ⟨rfl, hb1⟩
  · rw [h1] at hR
    simp only [if_true]
    cases hh : headB y
    · cases h2 : (y.toList == [116, 97, 98, 108, 101])
      · cases h3 : inS y 14
        · have hE : endAt s y = tm (namedB y) wallB s := by unfold endAt is_table; rw [hh, h2, h3]; rfl
          generalize endAt s y = t at *
          have HE := Lib.hid hE
          clear hE
          by_cases h0 : t < 0
          all_goals (
            try have hwr : IntKind.i64.wrap ((n : Int) - t) = (n : Int) - t := by rw [IntKind.wrap_i64]; omega
            go_enter Tryd.func30, Tryd.ntmps30
            go_wp2_with (first
              | (go_at_call 15; refine hR.out.mono ?_; rintro e w1 ⟨rfl, hb1⟩)
              | (go_at_call 48; refine (namedC _ _).mono ?_; rintro e w2 ⟨rfl, rfl⟩; obtain ⟨hl1, hl2, hl3⟩ := lit_new w1 y _ rfl; have hbw := seq hb1 hl1)
              | (go_at_call 50; refine (headC y _ (HT.out _ hbw)).mono ?_; rintro e w3 ⟨rfl, hb3⟩; rw [hh]; have hbw := seq hbw hb3; have hl2 := Nat.lt_of_lt_of_le hl2 hb3.size; have hl3 := (hb3.cell (p := ⟨_, 0, none⟩) (World.block_lt_of_cell? _ _ hl3)).trans hl3)
              | (go_at_call 17; refine (nIn y 14 _ (HT.out _ hbw)).mono ?_; rintro e w4 ⟨rfl, hb4⟩; rw [h3]; have hbw := seq hbw hb4; have hl2 := Nat.lt_of_lt_of_le hl2 hb4.size; have hl3 := (hb4.cell (p := ⟨_, 0, none⟩) (World.block_lt_of_cell? _ _ hl3)).trans hl3)
              | (go_at_call 52; refine (HTM.out _ _ _ (namedB y) _ _ wallB hbw (namedP _ _ _ hl2 hl3) (wallP _)).mono ?_; rintro e w9 ⟨rfl, hb9⟩; rw [← HE.out]))
            go_ret2
            exact ⟨by first | rfl | simp [h0], seq hbw hb9⟩)
        · have hE : endAt s y = tm (namedB y) (namedB s_table) s := by unfold endAt is_table; rw [hh, h2, h3]; rfl
          generalize endAt s y = t at *
          have HE := Lib.hid hE
          clear hE
          by_cases h0 : t < 0
          all_goals (
            try have hwr : IntKind.i64.wrap ((n : Int) - t) = (n : Int) - t := by rw [IntKind.wrap_i64]; omega
            go_enter Tryd.func30, Tryd.ntmps30
            go_upto_region 9 with (first
              | (go_at_call 15; refine hR.out.mono ?_; rintro e w1 ⟨rfl, hb1⟩)
              | (go_at_call 48; refine (namedC _ _).mono ?_; rintro e w2 ⟨rfl, rfl⟩; obtain ⟨hl1, hl2, hl3⟩ := lit_new w1 y _ rfl; have hbw := seq hb1 hl1)
              | (go_at_call 50; refine (headC y _ (HT.out _ hbw)).mono ?_; rintro e w3 ⟨rfl, hb3⟩; rw [hh]; have hbw := seq hbw hb3; have hl2 := Nat.lt_of_lt_of_le hl2 hb3.size; have hl3 := (hb3.cell (p := ⟨_, 0, none⟩) (World.block_lt_of_cell? _ _ hl3)).trans hl3)
              | (go_at_call 17; refine (nIn y 14 _ (HT.out _ hbw)).mono ?_; rintro e w4 ⟨rfl, hb4⟩; rw [h3]; have hbw := seq hbw hb4; have hl2 := Nat.lt_of_lt_of_le hl2 hb4.size; have hl3 := (hb4.cell (p := ⟨_, 0, none⟩) (World.block_lt_of_cell? _ _ hl3)).trans hl3))
            go_wp2_with (first
              | (go_at_call 48; refine (namedC _ _).mono ?_; rintro e w5 ⟨rfl, rfl⟩; obtain ⟨hm1, hm2, hm3⟩ := lit_new w4 s_table _ rfl; have hbw := seq hbw hm1; have hl2 := Nat.lt_of_lt_of_le hl2 hm1.size; have hl3 := (hm1.cell (p := ⟨_, 0, none⟩) (World.block_lt_of_cell? _ _ hl3)).trans hl3)
              | (go_at_call 52; refine (HTM.out _ _ _ (namedB y) _ _ (namedB s_table) hbw (namedP _ _ _ hl2 hl3) (namedP _ _ _ hm2 hm3)).mono ?_; rintro e w9 ⟨rfl, hb9⟩; rw [← HE.out]))
            go_ret2
            exact ⟨by first | rfl | simp [h0], seq hbw hb9⟩)
      · have hE : endAt s y = tm (namedB y) noB s := by unfold endAt is_table; rw [hh, h2]; rfl
        generalize endAt s y = t at *
        have HE := Lib.hid hE
        clear hE
        by_cases h0 : t < 0
        all_goals (
          try have hwr : IntKind.i64.wrap ((n : Int) - t) = (n : Int) - t := by rw [IntKind.wrap_i64]; omega
          go_enter Tryd.func30, Tryd.ntmps30
          go_wp2_with (first
            | (go_at_call 15; refine hR.out.mono ?_; rintro e w1 ⟨rfl, hb1⟩)
            | (go_at_call 48; refine (namedC _ _).mono ?_; rintro e w2 ⟨rfl, rfl⟩; obtain ⟨hl1, hl2, hl3⟩ := lit_new w1 y _ rfl; have hbw := seq hb1 hl1)
            | (go_at_call 50; refine (headC y _ (HT.out _ hbw)).mono ?_; rintro e w3 ⟨rfl, hb3⟩; rw [hh]; have hbw := seq hbw hb3; have hl2 := Nat.lt_of_lt_of_le hl2 hb3.size; have hl3 := (hb3.cell (p := ⟨_, 0, none⟩) (World.block_lt_of_cell? _ _ hl3)).trans hl3)
            | (go_at_call 52; refine (HTM.out _ _ _ (namedB y) _ _ noB hbw (namedP _ _ _ hl2 hl3) (neverP _)).mono ?_; rintro e w9 ⟨rfl, hb9⟩; rw [← HE.out]))
          go_ret2
          exact ⟨by first | rfl | simp [h0], seq hbw hb9⟩)
    · have hE : endAt s y = tm headB wallB s := by unfold endAt is_table; rw [hh]; rfl
      generalize endAt s y = t at *
      have HE := Lib.hid hE
      clear hE
      by_cases h0 : t < 0
      all_goals (
        try have hwr : IntKind.i64.wrap ((n : Int) - t) = (n : Int) - t := by rw [IntKind.wrap_i64]; omega
        go_enter Tryd.func30, Tryd.ntmps30
        go_wp2_with (first
          | (go_at_call 15; refine hR.out.mono ?_; rintro e w1 ⟨rfl, hb1⟩)
          | (go_at_call 48; refine (namedC _ _).mono ?_; rintro e w2 ⟨rfl, rfl⟩; obtain ⟨hl1, hl2, hl3⟩ := lit_new w1 y _ rfl; have hbw := seq hb1 hl1)
          | (go_at_call 50; refine (headC y _ (HT.out _ hbw)).mono ?_; rintro e w3 ⟨rfl, hb3⟩; rw [hh]; have hbw := seq hbw hb3; have hl2 := Nat.lt_of_lt_of_le hl2 hb3.size; have hl3 := (hb3.cell (p := ⟨_, 0, none⟩) (World.block_lt_of_cell? _ _ hl3)).trans hl3)
          | (go_at_call 52; refine (HTM.out _ _ _ headB _ _ wallB hbw (headP _ (HT.out _ hbw)) (wallP _)).mono ?_; rintro e w9 ⟨rfl, hb9⟩; rw [← HE.out]))
        go_ret2
        exact ⟨by first | rfl | simp [h0], seq hbw hb9⟩)
end Go.Proofs.YtddgpkdhakjjaaaDoor.En
