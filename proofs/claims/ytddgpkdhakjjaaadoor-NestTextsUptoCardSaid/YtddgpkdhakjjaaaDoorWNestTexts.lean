/- NestTexts: what a text asks of every stack, and what every end tag closes. Where the arguments are of bulk at most 1048576. (The walk.) -/
import Derived.Deep.Cut
import Derived.Deep.RegionHeld3
import Derived.Test.YtddgpkdhakjjaaaDoorTe
import Derived.Test.YtddgpkdhakjjaaaDoorEd
import Derived.Test.YtddgpkdhakjjaaaDoorLw
import Derived.Test.YtddgpkdhakjjaaaDoorAw
set_option linter.unusedVariables false
set_option linter.unusedSimpArgs false
namespace Go.Proofs.YtddgpkdhakjjaaaDoor.nestTexts
open Go.RowKit Lb Fl Is Tp Np Wk Wp Wi Wo Pt Oc Go.Proofs.YtddgpkdhakjjaaaDoor.Ask Rt Go.Proofs.YtddgpkdhakjjaaaDoor.Op Aw Lt Lw En El Ri Rq Go.Proofs.YtddgpkdhakjjaaaDoor.Eq Ro Tx Rx Te Re Ed

theorem same_self (l : List ByteArray) : sameL l l = true := by unfold sameL; simp
theorem plan_self (k : Int) (d : Bool) (l : List ByteArray) : planB k k d d l l = true := by unfold planB; rw [same_self]; simp
theorem txP_len (s : List ByteArray) (b : Bool) : (txP s b).length ≤ 4 := by
  unfold txP
  split
  · have := inP2_len s []
    simp only [List.length_nil] at this
    omega
  · exact Nat.zero_le _
set_option maxHeartbeats 8000000 in
set_option maxRecDepth 100000 in
theorem walk (w : World) (ht : Tab w) (A : Option Addr) (n c : Nat) (s : List ByteArray) (b : Bool) (y : ByteArray) (hr : Rd w A n s) (hc : n ≤ c) (hc2 : c ≤ 1048576) (hy : y.size ≤ 1048576) :
    Calls Tryd.prog 9 #[.slice A n c, .bool b, .string y] w fun e w' => e = .returned (.bool true) ∧ Below w.heap.size w w' := by
  have HT : Hid (∀ W, Below w.heap.size w W → Tab W) := Lib.hid fun W h => ht.below h
  by_cases hn : 600 < n
  · have hlong : decide (600 < n) = true := by simp [hn]
    clear hr ht
    go_enter Tryd.func9, Tryd.ntmps9
    go_wp2_with (first
      | (go_at_call 14; refine (longC _ _ _ _).mono ?_; rintro e wl ⟨rfl, rfl⟩; rw [hlong])
      | (go_at_call 13; refine (awakeC _ (HT.out _ (Below.refl _ _))).mono ?_; rintro e wa ⟨rfl, hba⟩))
    go_ret
    exact ⟨rfl, hba⟩
  · have hlong : decide (600 < n) = false := by simp [hn]
    have HRR : Hid (∀ W, Below w.heap.size w W → Calls Tryd.prog 21 #[.slice A n c] W fun e w' => e = .returned (.bool (rightB s)) ∧ Below W.heap.size W w') := Lib.hid fun W h => by
      rw [right_eq]; exact rRightC W A n c s (hr.below h) hc (by omega)
    have HTX : Hid (Calls Tryd.prog 31 #[.slice A n c, .bool b] w (Gives w (txK s b) (txP s b) (txD s b) (endE s))) := Lib.hid (textC w ht A n c s b hr hc (by omega))
    have HEN : Hid (∀ W, Below w.heap.size w W → Calls Tryd.prog 30 #[.slice A n c, .string y] W fun e w' => e = .returned (.tuple #[.int .i64 (endV s y), .int .i64 (endE s)]) ∧ Below W.heap.size W w') := Lib.hid fun W h => endC W (ht.below h) A n c s y (hr.below h) hc (by omega)
    have HRT : rightB s = true → Hid (∀ W, Below w.heap.size w W → Calls Tryd.prog 32 #[.slice A n c, .bool b] W fun e w' => ∃ A2 c2, e = .returned (.agg #[.int .i64 (txK s b), .slice A2 (txP s b).length c2, .bool (txD s b)]) ∧ Rd w' A2 (txP s b).length (txP s b) ∧ Below W.heap.size W w') := fun hR => Lib.hid fun W h => by
      have h1 := rTextC W A n c s b (hr.below h) hc (by omega)
      have h2 := text_eq (b := b) hR
      rwa [h2.1, h2.2.1, h2.2.2] at h1
    have HRE : rightB s = true → Hid (∀ W, Below w.heap.size w W → Calls Tryd.prog 33 #[.slice A n c, .string y] W fun e w' => e = .returned (.int .i64 (endV s y)) ∧ Below W.heap.size W w') := fun hR => Lib.hid fun W h => by
      have h1 := rEndC W A n c s y (hr.below h) hc (by omega) (by omega)
      rwa [hr.1, end_eq hR, ← hr.1] at h1
    cases hR : rightB s
    · have hE : endE s = 161 := by unfold endE; rw [hR]; rfl
      have hV : endV s y = 0 := by unfold endV; rw [hR]; rfl
      have hg : txGo s b = false := by unfold txGo; rw [hR]; rfl
      have hK : txK s b = 0 := by unfold txK; rw [hg]; rfl
      have hP : txP s b = [] := by unfold txP; rw [hg]; rfl
      have hD : txD s b = false := by unfold txD; rw [hR]; rfl
      rw [hK, hP, hD, hE] at HTX
      rw [hV, hE] at HEN
      rw [hR] at HRR
      clear HRT HRE hg hK hP hD hE hV hr ht
      have HNO : Hid (∀ W A2 c2, Calls Tryd.prog 24 #[.agg #[.int .i64 0, .slice A2 0 c2, .bool false]] W fun e w' => e = .returned (.bool true) ∧ Below W.heap.size W w') := Lib.hid fun W A2 c2 => by
        have := nothingC W 0 false A2 0 c2 [] ⟨rfl, fun j hj => absurd hj (Nat.not_lt_zero _)⟩ (by omega)
        rwa [show planB 0 0 false false [] [] = true from by decide] at this
      unfold Gives at HTX
      go_enter Tryd.func9, Tryd.ntmps9
      go_upto_region 4 with (first
        | (go_at_call 14; refine (longC _ _ _ _).mono ?_; rintro e wl ⟨rfl, rfl⟩; rw [hlong])
        | (go_at_call 31; refine HTX.out.mono ?_; rintro e w2 ⟨A2, c2, rfl, ho2, hb2⟩))
      have hbW2 := hb2.alloc hb2.size (.cells #[.int .i64 0, .slice A2 0 c2, .bool false] 33)
      have hp2 : Pl (w2.alloc (.cells #[.int .i64 0, .slice A2 0 c2, .bool false] 33)) w2.heap.size (.int .i64 0) (.slice A2 0 c2) (.bool false) := Pl.new w2 _ _ _ _ rfl
      have HP2 := Lib.hid hp2
      clear hp2
      go_wp2_with (first
        | (go_at_call 30; refine (HEN.out _ hbW2).mono ?_; rintro e w3 ⟨rfl, hb3⟩; have hbw3 := seq hbW2 hb3)
        | (go_at_call 21; refine (HRR.out _ hbw3).mono ?_; rintro e w4 ⟨rfl, hb4⟩; have hbw4 := seq hbw3 hb4; have hP := HP2.out.below (seq hb3 hb4); have a0 := hP.c0; have a1 := hP.c1; have a2 := hP.c2)
        | (go_at_call 12; refine (numC _ _).mono ?_; rintro e wn ⟨rfl, rfl⟩)
        | (go_at_call 24; refine (HNO.out _ _ _).mono ?_; rintro e w5 ⟨rfl, hb5⟩; have hbw5 := seq hbw4 hb5)
        | (go_at_call 13; refine (awakeC _ (HT.out _ hbw5)).mono ?_; rintro e wa ⟨rfl, hba⟩))
      go_ret
      exact ⟨rfl, seq hbw5 hba⟩
    · have hE : endE s = 0 := by unfold endE; rw [hR]; rfl
      have HRT2 := HRT hR
      have HRE2 := HRE hR
      have hm4 := txP_len s b
      rw [hE] at HTX HEN
      rw [hR] at HRR
      clear HRT HRE hE hr ht hR
      generalize txK s b = K at *
      generalize txP s b = P at *
      generalize txD s b = D at *
      generalize endV s y = v at *
      obtain ⟨m, hm⟩ : ∃ m, P.length = m := ⟨_, rfl⟩
      unfold Gives at HTX
      rw [hm] at HTX HRT2 hm4
      have HPL : Hid (∀ W A2 c2 A3 c3, Rd W A2 m P → Rd W A3 m P → Calls Tryd.prog 26 #[.agg #[.int .i64 K, .slice A2 m c2, .bool D], .agg #[.int .i64 K, .slice A3 m c3, .bool D]] W fun e w' => e = .returned (.bool true) ∧ Below W.heap.size W w') := Lib.hid fun W A2 c2 A3 c3 h2 h3 => by
        have := planL W K K D D A2 A3 m m c2 c3 P P h2 h3 (by omega) (by omega)
        rwa [plan_self] at this
      clear hm
      go_enter Tryd.func9, Tryd.ntmps9
      go_upto_region 4 with (first
        | (go_at_call 14; refine (longC _ _ _ _).mono ?_; rintro e wl ⟨rfl, rfl⟩; rw [hlong])
        | (go_at_call 31; refine HTX.out.mono ?_; rintro e w2 ⟨A2, c2, rfl, ho2, hb2⟩))
      obtain ⟨W2, hW2⟩ : ∃ W, W = w2.alloc (.cells #[.int .i64 K, .slice A2 m c2, .bool D] 33) := ⟨_, rfl⟩
      have hbW2 : Below w.heap.size w W2 := hW2 ▸ hb2.alloc hb2.size _
      have hp2 : Pl W2 w2.heap.size (.int .i64 K) (.slice A2 m c2) (.bool D) := hW2 ▸ Pl.new w2 _ _ _ _ rfl
      have hoP : Rd W2 A2 m P := (hW2 ▸ ho2.alloc (.cells #[.int .i64 K, .slice A2 m c2, .bool D] 33) : Fl.Own W2 w.heap.size (.slice A2 m c2) P).rd
      rw [← hW2]
      clear hW2 ho2 hb2
      have HP2 := Lib.hid hp2
      have HOP := Lib.hid hoP
      clear hp2 hoP
      go_upto_region 7 with (first
        | (go_at_call 30; refine (HEN.out _ hbW2).mono ?_; rintro e w3 ⟨rfl, hb3⟩; have hbw3 := seq hbW2 hb3)
        | (go_at_call 21; refine (HRR.out _ hbw3).mono ?_; rintro e w4 ⟨rfl, hb4⟩))
      have hbw4 := seq hbw3 hb4
      have hb24 := seq hb3 hb4
      have hbd := seq hbw4 (Go.Proofs.YtddgpkdhakjjaaaDoor.Ask.drw w4)
      have hb2d := seq hb24 (Go.Proofs.YtddgpkdhakjjaaaDoor.Ask.drw w4)
      have hP := HP2.out.below hb2d
      have a0 := hP.c0
      have a1 := hP.c1
      have a2 := hP.c2
      have HBD := Lib.hid hbd
      have HB2D := Lib.hid hb2d
      clear hbw4 hb24 hbw3 hb3 hb4 hbd hb2d
      go_region_held3 (fun W' => W'.cell? ⟨w2.heap.size, 0, none⟩ = some (.int .i64 K) ∧ W'.cell? ⟨w2.heap.size, 1, none⟩ = some (.slice A2 m c2) ∧ W'.cell? ⟨w2.heap.size, 2, none⟩ = some (.bool D))
        (first | exact ⟨a0, a1, a2⟩ | exact ⟨b0, b1, b2⟩ | exact ⟨d0, d1, d2⟩ | exact ⟨e0, e1, e2⟩ | exact ⟨f0, f1, f2⟩)
        (first
          | (go_at_call 12; refine (numC _ _).mono ?_; rintro e wn ⟨rfl, rfl⟩)
          | (go_at_call 32; refine (HRT2.out _ HBD.out).mono ?_; rintro e w5 ⟨A5, c5, rfl, hr5, hb5⟩; have hP5 := hP.below hb5; have b0 := hP5.c0; have b1 := hP5.c1; have b2 := hP5.c2)
          | (go_at_call 26; refine (HPL.out w5 A2 c2 A5 c5 (HOP.out.below (seq HB2D.out hb5)) hr5).mono ?_; rintro e w6 ⟨rfl, hb6⟩; have hP6 := hP5.below hb6; have d0 := hP6.c0; have d1 := hP6.c1; have d2 := hP6.c2)
          | (go_at_call 33; refine (HRE2.out _ (seq HBD.out (seq hb5 hb6))).mono ?_; rintro e w7 ⟨rfl, hb7⟩; have hP7 := hP6.below hb7; have e0 := hP7.c0; have e1 := hP7.c1; have e2 := hP7.c2)
          | (go_at_call 13; refine (awakeC _ (HT.out _ (seq HBD.out (seq (seq hb5 hb6) hb7)))).mono ?_; rintro e wa ⟨rfl, hba⟩; have hP8 := hP7.below hba; have f0 := hP8.c0; have f1 := hP8.c1; have f2 := hP8.c2))
      all_goals (
        go_wp2_with fail
        go_ret
        exact ⟨rfl, seq HBD.out (seq (seq (seq hb5 hb6) hb7) hba)⟩)
end Go.Proofs.YtddgpkdhakjjaaaDoor.nestTexts
