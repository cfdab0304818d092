/- NestLittle: what is put in is little, and may be allowed; what asks nothing closes nothing. No condition. (The walk.) -/
import Derived.Deep.Cut
import Derived.Test.YtddgpkdhakjjaaaDoorLw
import Derived.Test.YtddgpkdhakjjaaaDoorAw
set_option linter.unusedVariables false
set_option linter.unusedSimpArgs false
namespace Go.Proofs.YtddgpkdhakjjaaaDoor.nestLittle
open Go.RowKit Lb Fl Is Tp Np Wk Wp Wi Wo Pt Oc Go.Proofs.YtddgpkdhakjjaaaDoor.Ask Rt Go.Proofs.YtddgpkdhakjjaaaDoor.Op Aw Lt Lw

set_option maxHeartbeats 4000000 in
set_option maxRecDepth 100000 in
theorem walk (w : World) (ht : Tab w) (A : Option Addr) (n c : Nat) (s : List ByteArray) (y : ByteArray) (hr : Rd w A n s) (hc : n ≤ c) (hc2 : c ≤ 8796093021952) :
    Calls Tryd.prog 6 #[.slice A n c, .string y] w fun e w' => e = .returned (.bool true) ∧ Below w.heap.size w w' := by
  have HT : Hid (∀ W, Below w.heap.size w W → Tab W) := Lib.hid fun W h => ht.below h
  have HR : Hid (∀ W, Below w.heap.size w W → Rd W A n s) := Lib.hid fun W h => hr.below h
  have hO := openC w ht A n c s y hr hc (by omega)
  have hon := op_on (s := s) (y := y)
  rw [← hr.1] at hon
  by_cases hn : 600 < n
  · have hlong : decide (600 < n) = true := by simp [hn]
    clear hO hon hr ht
    go_enter Tryd.func6, Tryd.ntmps6
    go_wp2_with (first
      | (go_at_call 14; refine (longC _ _ _ _).mono ?_; rintro e wl ⟨rfl, rfl⟩; rw [hlong])
      | (go_at_call 13; refine (awakeC _ (HT.out _ (Below.refl _ _))).mono ?_; rintro e wa ⟨rfl, hba⟩))
    go_ret
    exact ⟨rfl, hba⟩
  · have hlong : decide (600 < n) = false := by simp [hn]
    by_cases hE : opE s y = 0
    · rw [hE] at hO
      have hM : ∀ W, Below w.heap.size w W → Calls Tryd.prog 20 #[.slice A n c, .string y] W fun e w' => e = .returned (.tuple #[.bool (opK s y == 0 && ((opP s y).length : Int) == 0), .int .i64 0]) ∧ Below W.heap.size W w' := fun W h => by
        have h1 := mayC W (ht.below h) A n c s y (hr.below h) hc (by omega)
        rw [hE] at h1
        simpa using h1
      obtain ⟨hk0, hkn, hm4, hmem⟩ := hon
      generalize opK s y = k1 at *
      generalize opP s y = p1 at *
      obtain ⟨m, hm⟩ : ∃ m, p1.length = m := ⟨_, rfl⟩
      have hm4' : (m : Int) ≤ 4 := by omega
      rw [hm] at hM
      unfold Gives at hO
      rw [hm] at hO
      have HO := Lib.hid hO
      have HM := Lib.hid hM
      have HMEM := Lib.hid hmem
      have HL := Lib.hid hm
      clear hO hM hmem hm hr ht hE hm4
      cases hk : k1 == 0 <;> cases hl : ((m : Int) == 0)
      all_goals (
        go_enter Tryd.func6, Tryd.ntmps6
        go_wp2_with (first
          | (go_at_call 14; refine (longC _ _ _ _).mono ?_; rintro e wl ⟨rfl, rfl⟩; rw [hlong])
          | (go_at_call 19; refine HO.out.mono ?_; rintro e w1 ⟨A1, c1, rfl, ho1, hb1⟩)
          | (go_at_call 12; refine (numC _ _).mono ?_; rintro e wn ⟨rfl, rfl⟩))
        obtain ⟨W2, hW2⟩ : ∃ W, W = w1.alloc (.cells #[.int .i64 k1, .slice A1 m c1, .bool false] 33) := ⟨_, rfl⟩
        have hb2 : Below w.heap.size w W2 := hW2 ▸ hb1.alloc hb1.size _
        have hp2 : Pl W2 w1.heap.size (.int .i64 k1) (.slice A1 m c1) (.bool false) := hW2 ▸ Pl.new w1 _ _ _ _ rfl
        have hr2 : Rd W2 A1 m p1 := hW2 ▸ (ho1.rd).below ((Below.refl _ _).alloc (Nat.le_refl _) _)
        have HR2 := Lib.hid hr2
        have HP2 : Hid (∀ W, Below W2.heap.size W2 W → Pl W w1.heap.size (.int .i64 k1) (.slice A1 m c1) (.bool false)) := Lib.hid fun W h => hp2.below h
        rw [← hW2]
        clear hW2 hr2 hp2 ho1
        go_loopw [31] (fun i wr => ∃ j : Nat, j ≤ m ∧ i = .int .i64 j ∧ Below W2.heap.size W2 wr) (fun i _ => m - (intOf i).toNat)
        case atStart => exact ⟨0, by omega, rfl, Below.refl _ _⟩
        case round =>
          obtain ⟨j, hj, rfl, hnx⟩ := hrel
          by_cases hlt : j < m
          · have hjl : j < p1.length := by rw [HL.out]; exact hlt
            obtain ⟨b1, o1, rfl, _, hcx⟩ := HR2.out.get hjl
            have hx1 := hcx wr hnx
            obtain ⟨x, hx⟩ : ∃ x, x = p1[j] := ⟨_, rfl⟩
            rw [← hx] at hx1
            have hxx := put_in x (HMEM.out x (by rw [hx]; exact List.getElem_mem _))
            obtain ⟨hx15, hx0⟩ := hxx
            clear hx hcx
            have hb3 : (j : Int) < (m : Int) := by omega
            have hb0 : (0 : Int) ≤ (j : Int) := by omega
            have hbw := seq hb2 hnx
            go_wp2_with (go_at_call 17; refine (nIn _ _ _ (HT.out _ hbw)).mono ?_; rintro e w3 ⟨rfl, hb3⟩; have hbw := seq hbw hb3; have hnx := seq hnx hb3; first | rw [hx15] | rw [hx0])
            go_roundw
            case rel => exact ⟨j + 1, by omega, by go_num, hnx⟩
            case measure => simp [intOf] <;> omega
          · have hjm : j = m := by omega
            subst hjm
            have hbw := seq hb2 hnx
            go_wp2_with (first
              | (go_at_call 20; refine (HM.out _ hbw).mono ?_; rintro e w3 ⟨rfl, hb3⟩; have hP := HP2.out _ (seq hnx hb3); have e0 := hP.c0; have e1 := hP.c1; have e2 := hP.c2)
              | (go_at_call 12; refine (numC _ _).mono ?_; rintro e wn ⟨rfl, rfl⟩)
              | (go_at_call 13; refine (awakeC _ (HT.out _ (seq hbw hb3))).mono ?_; rintro e wa ⟨rfl, hba⟩))
            go_ret
            exact ⟨rfl, seq (seq hbw hb3) hba⟩)
    · have h1 := op_off hE
      rw [h1.1, h1.2] at hO
      have hE1 : (opE s y != 0) = true := by simpa using hE
      generalize opE s y = E at *
      have HO := Lib.hid hO
      clear hO hE h1 hr ht
      have hN := fun (W : World) (A1 : Option Addr) (c1 : Nat) => nothingC W 0 false A1 0 c1 [] ⟨rfl, fun j hj => absurd hj (Nat.not_lt_zero _)⟩ (by omega)
      rw [show planB 0 0 false false [] [] = true from by decide] at hN
      have HN := Lib.hid hN
      clear hN
      go_enter Tryd.func6, Tryd.ntmps6
      go_wp2_with (first
        | (go_at_call 14; refine (longC _ _ _ _).mono ?_; rintro e wl ⟨rfl, rfl⟩; rw [hlong])
        | (go_at_call 19; refine HO.out.mono ?_; rintro e w1 ⟨A1, c1, rfl, ho1, hb1⟩; have hbw := hb1)
        | (go_at_call 12; refine (numC _ _).mono ?_; rintro e wn ⟨rfl, rfl⟩)
        | (go_at_call 24; refine (HN.out _ _ _).mono ?_; rintro e w2 ⟨rfl, hb2⟩; have hbw := seq (hb1.alloc hb1.size (.cells #[.int .i64 0, .slice A1 0 c1, .bool false] 33)) hb2)
        | (go_at_call 13; refine (awakeC _ (HT.out _ hbw)).mono ?_; rintro e wa ⟨rfl, hba⟩))
      go_ret
      exact ⟨rfl, seq hbw hba⟩
end Go.Proofs.YtddgpkdhakjjaaaDoor.nestLittle
