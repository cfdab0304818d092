/- NamesApart: no distance but of the same texts is 0; it is the same both ways; no way around is shorter; a known name is nearest to itself. No condition. (The walk.) -/
import Derived.Deep.Cut
import Derived.Test.YtknpppppjmhomaaDoorWf
import Derived.Test.YtknpppppjmhomaaDoorTri
import Derived.Test.YtknpppppjmhomaaDoorMisc
import Derived.Laws.OwnMore
import Derived.Deep.Cut
import Derived.Test.YtknpppppjmhomaaDoorAwake
set_option linter.unusedVariables false
set_option linter.unusedSimpArgs false
namespace Go.Proofs.YtknpppppjmhomaaDoor.namesApart
open Go.RowKit Lb Fl Is Aw Kn Km Lv Tb Sh Sy Ct Ms St Wf Ds Nr Tr Lw Go.Proofs.YtknpppppjmhomaaDoor.So

set_option maxHeartbeats 4000000 in
set_option maxRecDepth 100000 in
theorem walk (a b c : ByteArray) (w : World) (ht : Tab w) (ma : a.size ≤ maxLen) (mb : b.size ≤ maxLen) (mc : c.size ≤ maxLen) : Calls Tryd.prog 13 #[.string a, .string b, .string c] w fun e w' => e = .returned (.bool true) ∧ Below w.heap.size w w' := by
  have HT : Hid (∀ W, Below w.heap.size w W → Tab W) := Lib.hid fun W h => ht.below h
  have hb0 := Below.refl w.heap.size w
  clear ht
  by_cases hl : 100 < a.size ∨ 100 < b.size ∨ 100 < c.size
  · by_cases h1 : 100 < a.size
    · have g1 : (100 : Int) < (a.size : Int) := by omega
      go_enter Tryd.func13, Tryd.ntmps13
      go_wp2_with (go_at_call 14; refine (awake _ (HT.out _ hb0)).mono ?_; rintro e wa ⟨rfl, hba⟩)
      go_ret
      exact ⟨rfl, hba⟩
    · have g1 : ¬ (100 : Int) < (a.size : Int) := by omega
      by_cases h2 : 100 < b.size
      · have g2 : (100 : Int) < (b.size : Int) := by omega
        go_enter Tryd.func13, Tryd.ntmps13
        go_wp2_with (go_at_call 14; refine (awake _ (HT.out _ hb0)).mono ?_; rintro e wa ⟨rfl, hba⟩)
        go_ret
        exact ⟨rfl, hba⟩
      · have g2 : ¬ (100 : Int) < (b.size : Int) := by omega
        have g3 : (100 : Int) < (c.size : Int) := by omega
        go_enter Tryd.func13, Tryd.ntmps13
        go_wp2_with (go_at_call 14; refine (awake _ (HT.out _ hb0)).mono ?_; rintro e wa ⟨rfl, hba⟩)
        go_ret
        exact ⟨rfl, hba⟩
  · have g1 : ¬ (100 : Int) < (a.size : Int) := by omega
    have g2 : ¬ (100 : Int) < (b.size : Int) := by omega
    have g3 : ¬ (100 : Int) < (c.size : Int) := by omega
    have s1 : a.size ≤ 100 := by omega
    have s2 : b.size ≤ 100 := by omega
    have s3 : c.size ≤ 100 := by omega
    have t1 := dist_tri a b c
    have t2 := dist_max s1 s2
    have t3 := dist_ge s1 s2
    have t4 := dist_max s2 s3
    have t5 := dist_max s1 s3
    have tz := dist_zero s1 s2
    have HSYM := Lib.hid (dist_sym b a)
    have HN1 := Lib.hid (fun W h => nNear a W h ma)
    have hnk := near_mem a
    have hns := known_size hnk
    have hnn := near_near a
    have hN2 := fun W h => nNear (near a).1 W h (by unfold maxLen; omega)
    rw [hnn] at hN2
    dsimp only at hN2
    have hnd := near_dist a
    have hkn : a ∈ knownL → near a = (a, 0) := near_known
    have hks := @known_sets a
    have mn : (near a).1.size ≤ maxLen := by unfold maxLen; omega
    have ml : (lowS a).size ≤ maxLen := by rw [lowS_size]; exact ma
    have HLOW : Hid (∀ W, Calls Tryd.prog 20 #[.string a] W fun e w' => e = .returned (.string (lowS a)) ∧ Below W.heap.size W w') := Lib.hid fun W => nLower a W ma
    obtain ⟨L, hL⟩ : ∃ L, L = lowS a := ⟨_, rfl⟩
    have hD3 : ∀ W, Calls Tryd.prog 59 #[.string L, .string (near a).1] W fun e w' => e = .returned (.int .i64 (near a).2) ∧ Below W.heap.size W w' := fun W => by rw [hnd, hL]; exact nDist _ _ W ml mn
    rw [← hL] at HLOW
    clear hnd hnn hnk hL
    have HD3 := Lib.hid hD3
    have HN2 := Lib.hid hN2
    clear hD3 hN2
    have hst : ∀ W, Tab W → Calls Tryd.prog 51 #[.string a] W fun e w' => RetN W 22 (setsL a 16) e w' := fun W h => setsC a W h
    have HST := Lib.hid hst
    clear hst
    have hd : (setsL a 16).length = 0 ∨ (near a).1 = a := by
      by_cases h : a ∈ knownL
      · right; rw [hkn h]
      · left
        have := mt hks.2 h
        omega
    clear hkn hks
    generalize near a = nr at *
    obtain ⟨n, d⟩ := nr
    dsimp only at *
    generalize setsL a 16 = N at *
    have q : ((N.length : Int) == 0) = true ∨ (((N.length : Int) == 0) = false ∧ (n.toList == a.toList) = true) := by
      by_cases h : N.length = 0
      · left; rw [h]; rfl
      · right; refine ⟨by rw [beq_eq_false_iff_ne]; omega, toList_eq_of (hd.resolve_left h)⟩
    clear hd
    have HD1 : Hid (∀ s t W, s.size ≤ maxLen → t.size ≤ maxLen → Calls Tryd.prog 59 #[.string s, .string t] W fun e w' => e = .returned (.int .i64 (dist s t : Int)) ∧ Below W.heap.size W w') := Lib.hid fun s t W => nDist s t W
    have e1 : ¬ ((dist a b : Int) + (dist b c : Int) < (dist a c : Int)) := by omega
    have e2 : ¬ ((dist a b : Int) < (a.size : Int) - (b.size : Int)) := by omega
    have e3 : ¬ ((dist a b : Int) < 0) := by omega
    have e4 : ¬ ((max (a.size : Int) (b.size : Int)) < (dist a b : Int)) := by omega
    have u1 : ((dist a b : Nat) : Int) ≤ 100 := by omega
    have u2 : ((dist b c : Nat) : Int) ≤ 100 := by omega
    have u3 : ((dist a c : Nat) : Int) ≤ 100 := by omega
    have hab : (((dist a b : Int) == 0) = true ∧ (a.toList == b.toList) = true) ∨ (((dist a b : Int) == 0) = false ∧ (a.toList == b.toList) = false) := by
      by_cases e : a = b
      · left; exact ⟨by rw [beq_iff_eq]; have := tz.2 e; omega, toList_eq_of e⟩
      · right; refine ⟨by rw [beq_eq_false_iff_ne]; have := mt tz.1 e; omega, toList_ne_of e⟩
    clear tz t1 t2 t3 t4 t5 hl
    go_enter Tryd.func13, Tryd.ntmps13
    go_upto_region 4 with (go_at_call 59; refine (HD1.out _ _ _ (by first | exact ma | exact mb) (by first | exact mb | exact mc)).mono ?_; rintro e w3 ⟨rfl, hb3⟩; have hbw := seq (by first | exact hbw | exact hb0) hb3; clear hb3)
    go_cut [78] from 14 (fun s78 wx => s78 = .bool false ∧ Below w.heap.size w wx)
    case first =>
      rcases hab with ⟨hz, he⟩ | ⟨hz, he⟩
      all_goals (
        go_wp2_with (go_at_call 59; refine (HD1.out _ _ _ (by first | exact mb) (by first | exact ma)).mono ?_; rw [HSYM.out]; rintro e w3 ⟨rfl, hb3⟩; have hbw := seq hbw hb3; clear hb3)
        go_meet
        case rel => exact ⟨congrArg Value.bool (by rw [Bool.or_eq_false_iff, Bool.or_eq_false_iff, Bool.or_eq_false_iff, decide_eq_false_iff_not, decide_eq_false_iff_not, decide_eq_false_iff_not, decide_eq_false_iff_not]; omega), hbw⟩)
    case rest =>
      obtain ⟨rfl, hb4⟩ := hcut
      clear hab hb0 hbw
      go_upto_region 7 with (go_at_call 57; refine (HN1.out _ (HT.out _ hb4)).mono ?_; rintro e w5 ⟨rfl, hb5⟩; have hbw := seq hb4 hb5)
      rcases q with q1 | ⟨q1, q2⟩
      all_goals (
        go_wp2_with (first
          | (go_at_call 57; refine (HN2.out _ (HT.out _ hbw)).mono ?_; rintro e w6 ⟨rfl, hb6⟩; have hbw := seq hbw hb6)
          | (go_at_call 20; refine (HLOW.out _).mono ?_; rintro e w7 ⟨rfl, hb7⟩; have hbw := seq hbw hb7)
          | (go_at_call 59; refine (HD3.out _).mono ?_; rintro e w8 ⟨rfl, hb8⟩; have hbw := seq hbw hb8)
          | (go_at_call 51; refine (HST.out _ (HT.out _ hbw)).mono ?_; rintro e w9 ⟨A9, c9, rfl, ho9, hb9⟩; have hbw := seq hbw hb9; clear ho9)
          | (go_at_call 14; refine (awake _ (HT.out _ hbw)).mono ?_; rintro e wa ⟨rfl, hba⟩))
        go_ret
        exact ⟨rfl, seq hbw hba⟩)
end Go.Proofs.YtknpppppjmhomaaDoor.namesApart
