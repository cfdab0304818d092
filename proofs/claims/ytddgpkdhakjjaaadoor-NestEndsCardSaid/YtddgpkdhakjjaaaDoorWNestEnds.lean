/- NestEnds: the end of the top closes one; that of what is not open closes nothing. No condition. (The walk.) -/
import Derived.Deep.Cut
import Derived.Test.YtddgpkdhakjjaaaDoorEl
import Derived.Test.YtddgpkdhakjjaaaDoorLw
import Derived.Test.YtddgpkdhakjjaaaDoorAw
set_option linter.unusedVariables false
set_option linter.unusedSimpArgs false
namespace Go.Proofs.YtddgpkdhakjjaaaDoor.nestEnds
open Go.RowKit Lb Fl Is Tp Np Wk Wp Wi Wo Pt Oc Go.Proofs.YtddgpkdhakjjaaaDoor.Ask Rt Go.Proofs.YtddgpkdhakjjaaaDoor.Op Aw Lt Lw En El

theorem thr_end {s : List ByteArray} {y : ByteArray} {n j : Nat} (hn : n = s.length) (hj : ¬ j < n) (h : ∀ i (h : i < s.length), i < j → s[i] ≠ y) : ∀ x ∈ s, x ≠ y := by
  intro x hx
  obtain ⟨i, hi, rfl⟩ := List.getElem_of_mem hx
  exact h i hi (by omega)
set_option maxHeartbeats 4000000 in
set_option maxRecDepth 100000 in
theorem walk (w : World) (ht : Tab w) (A : Option Addr) (n c : Nat) (s : List ByteArray) (y : ByteArray) (hr : Rd w A n s) (hc : n ≤ c) (hc2 : c ≤ 8796093021952) :
    Calls Tryd.prog 8 #[.slice A n c, .string y] w fun e w' => e = .returned (.bool true) ∧ Below w.heap.size w w' := by
  have HT : Hid (∀ W, Below w.heap.size w W → Tab W) := Lib.hid fun W h => ht.below h
  have HR : Hid (∀ W, Below w.heap.size w W → Rd W A n s) := Lib.hid fun W h => hr.below h
  have HN : Hid (n = s.length) := Lib.hid hr.1
  have HRC : Hid (∀ W, Below w.heap.size w W → Calls Tryd.prog 15 #[.slice A n c] W fun e w' => e = .returned (.bool (rightB s)) ∧ Below W.heap.size W w') := Lib.hid fun W h => rightC W (ht.below h) A n c s (hr.below h) hc (by omega)
  have hEC := fun (W : World) (x : ByteArray) (h : Below w.heap.size w W) => endC W (ht.below h) A n c s x (hr.below h) hc (by omega)
  by_cases hn : 600 < n
  · have hlong : decide (600 < n) = true := by simp [hn]
    clear hEC hr ht
    go_enter Tryd.func8, Tryd.ntmps8
    go_wp2_with (first
      | (go_at_call 14; refine (longC _ _ _ _).mono ?_; rintro e wl ⟨rfl, rfl⟩; rw [hlong])
      | (go_at_call 13; refine (awakeC _ (HT.out _ (Below.refl _ _))).mono ?_; rintro e wa ⟨rfl, hba⟩))
    go_ret
    exact ⟨rfl, hba⟩
  · have hlong : decide (600 < n) = false := by simp [hn]
    cases hR : rightB s
    · rw [hR] at HRC
      clear hEC hr ht
      go_enter Tryd.func8, Tryd.ntmps8
      go_wp2_with (first
        | (go_at_call 14; refine (longC _ _ _ _).mono ?_; rintro e wl ⟨rfl, rfl⟩; rw [hlong])
        | (go_at_call 15; refine (HRC.out _ (Below.refl _ _)).mono ?_; rintro e w1 ⟨rfl, hb1⟩)
        | (go_at_call 13; refine (awakeC _ (HT.out _ (hb1))).mono ?_; rintro e wa ⟨rfl, hba⟩))
      go_ret
      exact ⟨rfl, seq hb1 hba⟩
    · rw [hR] at HRC
      have hE0 : endE s = 0 := by unfold endE; rw [hR]; rfl
      rw [hE0] at hEC
      have HM : Hid (headB y = false → (∀ x ∈ s, x ≠ y) → endV s y = 0) := Lib.hid fun h1 h2 => end_miss h1 h2
      have HTOP : Hid (∀ x, 0 < n → s[n - 1]? = some x → endV s x = 1) := Lib.hid fun x h0 hx => by
        have hs : s ≠ [] := by intro e; rw [e] at hx; simp at hx
        have e : topS s = x := by
          unfold topS
          rw [List.getLastD_eq_getLast?, List.getLast?_eq_getElem?, ← hr.1, hx, Option.getD_some]
        rw [← e]
        exact end_top hs hR
      have HNIL : Hid (n = 0 → endV s y = 0) := Lib.hid fun h0 => by
        have hs : s = [] := List.eq_nil_of_length_eq_zero (by rw [← hr.1]; exact h0)
        rw [hs]; exact end_nil y
      have HE : Hid (∀ W, Below w.heap.size w W → Calls Tryd.prog 30 #[.slice A n c, .string y] W fun e w' => e = .returned (.tuple #[.int .i64 (endV s y), .int .i64 0]) ∧ Below W.heap.size W w') := Lib.hid fun W h => hEC W y h
      have HE2 : Hid (∀ x, 0 < n → s[n - 1]? = some x → ∀ W, Below w.heap.size w W → Calls Tryd.prog 30 #[.slice A n c, .string x] W fun e w' => e = .returned (.tuple #[.int .i64 1, .int .i64 0]) ∧ Below W.heap.size W w') := Lib.hid fun x h0 hx W h => by
        have := hEC W x h
        rw [HTOP.out x h0 hx] at this
        exact this
      clear hEC HTOP
      generalize endV s y = v at *
      clear hr ht hR hE0
      go_enter Tryd.func8, Tryd.ntmps8
      go_wp2_with (first
        | (go_at_call 14; refine (longC _ _ _ _).mono ?_; rintro e wl ⟨rfl, rfl⟩; rw [hlong])
        | (go_at_call 15; refine (HRC.out _ (Below.refl _ _)).mono ?_; rintro e w1 ⟨rfl, hb1⟩; have hbw := hb1)
        | (go_at_call 30; refine (HE.out _ hbw).mono ?_; rintro e w2 ⟨rfl, hb2⟩; have hbw := seq hbw hb2)
        | (go_at_call 12; refine (numC _ _).mono ?_; rintro e wn ⟨rfl, rfl⟩)
        | (go_at_call 17; refine (nIn y 5 _ (HT.out _ hbw)).mono ?_; rintro e w3 ⟨rfl, hb3⟩; have hbw := seq hbw hb3))
      go_loopw [7, 33] (fun t i wr => ∃ (j : Nat) (b : Bool), j ≤ n ∧ i = .int .i64 j ∧ t = .bool b ∧ Below w.heap.size w wr ∧ Hid (b = false → headB y = false ∧ ∀ i (h : i < s.length), i < j → s[i] ≠ y)) (fun _ i _ => n - (intOf i).toNat)
      case atStart => exact ⟨0, _, by omega, rfl, rfl, hbw, Lib.hid (fun h => ⟨h, fun i _ hi => absurd hi (Nat.not_lt_zero _)⟩)⟩
      case round =>
        obtain ⟨j, b, hj, rfl, rfl, hnx, hb⟩ := hrel
        by_cases hlt : j < n
        · have hjl : j < s.length := by rw [← HN.out]; exact hlt
          obtain ⟨b1, o1, rfl, _, hcx⟩ := (HR.out _ (Below.refl _ _)).get hjl
          have hx1 := hcx wr hnx
          obtain ⟨x, hx⟩ : ∃ x, x = s[j] := ⟨_, rfl⟩
          rw [← hx] at hx1
          have HX := Lib.hid hx
          clear hx hcx
          have hb3 : (j : Int) < (n : Int) := by omega
          have hb0 : (0 : Int) ≤ (j : Int) := by omega
          cases b
          · by_cases e : x = y
            · have he := toList_eq_of e
              clear e
              go_wp2
              go_roundw
              case rel => exact ⟨j + 1, true, by omega, by go_num, rfl, hnx, Lib.hid (fun h => by cases h)⟩
              case measure => simp [intOf] <;> omega
            · have he := toList_ne_of e
              have hb2 : Hid (false = false → headB y = false ∧ ∀ i (h : i < s.length), i < j + 1 → s[i] ≠ y) := Lib.hid (fun h => ⟨(hb.out h).1, fun i hi hij => by
                by_cases ex : i = j
                · subst ex; rw [← HX.out]; exact e
                · exact (hb.out h).2 i hi (by omega)⟩)
              clear e
              go_wp2
              go_roundw
              case rel => exact ⟨j + 1, false, by omega, by go_num, rfl, hnx, hb2⟩
              case measure => simp [intOf] <;> omega
          · go_wp2
            go_roundw
            case rel => exact ⟨j + 1, true, by omega, by go_num, rfl, hnx, Lib.hid (fun h => by cases h)⟩
            case measure => simp [intOf] <;> omega
        · by_cases hn0 : n = 0
          · have hv0 : (v == 0) = true := by rw [HNIL.out hn0]; rfl
            have hv1 : (v != 0) = false := by rw [HNIL.out hn0]; rfl
            have hn1 : ((n : Int) == 0) = true := by rw [hn0]; rfl
            cases b
            all_goals (
              go_wp2_with (go_at_call 13; refine (awakeC _ (HT.out _ (hnx))).mono ?_; rintro e wa ⟨rfl, hba⟩)
              go_ret
              exact ⟨rfl, seq hnx hba⟩)
          · have hn1 : ((n : Int) == 0) = false := by rw [beq_eq_false_iff_ne]; omega
            have hjl : n - 1 < s.length := by have := HN.out; omega
            obtain ⟨b1, o1, rfl, _, hcx⟩ := (HR.out _ (Below.refl _ _)).get hjl
            have hx1 := hcx wr hnx
            have hxs : s[n - 1]? = some s[n - 1] := List.getElem?_eq_getElem hjl
            obtain ⟨x, hx⟩ : ∃ x, x = s[n - 1] := ⟨_, rfl⟩
            rw [← hx] at hx1 hxs
            have HE3 := Lib.hid (HE2.out x (by omega) hxs)
            clear hx hcx hxs
            obtain ⟨m, rfl⟩ : ∃ m, n = m + 1 := ⟨n - 1, by omega⟩
            rw [Nat.add_sub_cancel] at hx1
            have hb3 : ((m + 1 : Nat) : Int) - 1 = (m : Int) := by omega
            have hb0 : (m : Int) < ((m + 1 : Nat) : Int) := by omega
            cases b
            · have hv1 : (v != 0) = false := by rw [HM.out (hb.out rfl).1 (thr_end HN.out hlt (hb.out rfl).2)]; rfl
              go_wp2_with (first
                | (go_at_call 30; refine (HE3.out _ hnx).mono ?_; rintro e w4 ⟨rfl, hb4⟩)
                | (go_at_call 12; refine (numC _ _).mono ?_; rintro e wn ⟨rfl, rfl⟩)
                | (go_at_call 13; refine (awakeC _ (HT.out _ (seq hnx hb4))).mono ?_; rintro e wa ⟨rfl, hba⟩))
              go_ret
              exact ⟨rfl, seq (seq hnx hb4) hba⟩
            · go_wp2_with (first
                | (go_at_call 30; refine (HE3.out _ hnx).mono ?_; rintro e w4 ⟨rfl, hb4⟩)
                | (go_at_call 12; refine (numC _ _).mono ?_; rintro e wn ⟨rfl, rfl⟩)
                | (go_at_call 13; refine (awakeC _ (HT.out _ (seq hnx hb4))).mono ?_; rintro e wa ⟨rfl, hba⟩))
              go_ret
              exact ⟨rfl, seq (seq hnx hb4) hba⟩
end Go.Proofs.YtddgpkdhakjjaaaDoor.nestEnds
