/- The reference's End. -/
import Derived.Deep.Cut
import Derived.Test.YtddgpkdhakjjaaaDoorRTrim
import Derived.Test.YtddgpkdhakjjaaaDoorRx
set_option linter.unusedVariables false
set_option linter.unusedSimpArgs false
namespace Go.Proofs.YtddgpkdhakjjaaaDoor.Re
open Go.Proofs.YtddgpkdhakjjaaaDoor.Np hiding is_li is_dt is_dd is_textarea is_a
open Go.RowKit Lb Fl Is Tp Wk Wp Wi Wo Pt Oc Pm Go.Proofs.YtddgpkdhakjjaaaDoor.Ask Rt Go.Proofs.YtddgpkdhakjjaaaDoor.Op Aw Lt En El Rn Ri Rj Rp Rq Go.Proofs.YtddgpkdhakjjaaaDoor.Eq Ro

def c_tab : ByteArray := ⟨#[99, 97, 112, 116, 105, 111, 110, 32, 99, 111, 108, 103, 114, 111, 117, 112, 32, 116, 104, 101, 97, 100, 32, 116, 98, 111, 100, 121, 32, 116, 102, 111, 111, 116, 32, 116, 114, 32, 116, 100, 32, 116, 104]⟩
def rTrimOk (y : ByteArray) : Bool := (str (trimL y.data.toList)).toList == y.toList
def rEnd (s : List ByteArray) (y : ByteArray) : Int :=
  if headB y then tm headB wallB s else if is_table y then tm (namedB s_table) noB s else if isB c_tab y then tm (isB y) (namedB s_table) s
  else if rTrimOk y && (((fieldsS y).length : Int) == 1) && !inS y 0 then tm (isB y) wallB s else -1
def rEndV (n : Nat) (s : List ByteArray) (y : ByteArray) : Int := if rEnd s y < 0 then 0 else (n : Int) - rEnd s y

set_option maxHeartbeats 8000000 in
set_option maxRecDepth 100000 in
theorem rEndC (w : World) (A : Option Addr) (n c : Nat) (s : List ByteArray) (y : ByteArray) (hr : Rd w A n s) (hc : n ≤ c) (hc2 : c ≤ 9223372036854775807) (hy : y.size ≤ 2147483647) :
    Calls Tryd.prog 33 #[.slice A n c, .string y] w fun e w' => e = .returned (.int .i64 (rEndV n s y)) ∧ Below w.heap.size w w' := by
  have hnb : n ≤ 9223372036854775807 := by omega
  have hnl := hr.1
  have HH : Hid (∀ W, Calls Tryd.prog 58 #[.string y, .string c_heads] W fun e w' => e = .returned (.bool (headB y)) ∧ Below W.heap.size W w') := Lib.hid fun W => by
    have := isC y c_heads W (by decide)
    rwa [heads_B] at this
  have HTB : Hid (∀ W, Calls Tryd.prog 58 #[.string y, .string c_tab] W fun e w' => e = .returned (.bool (isB c_tab y)) ∧ Below W.heap.size W w') := Lib.hid fun W => isC y c_tab W (by decide)
  have HAB : Hid (∀ W, Below w.heap.size w W → ∀ sm pr, sm.size ≤ 2147483647 → isB sm = pr → ∀ oth q, oth.size ≤ 2147483647 → isB oth = q →
      Calls Tryd.prog 59 #[.slice A n c, .string sm, .string oth] W fun e w' => e = .returned (.int .i64 (tm pr q s)) ∧ Below W.heap.size W w') := Lib.hid fun W h sm pr h1 h2 oth q h3 h4 => by
    have := aboveC A n c s sm oth W (hr.below h) hnb h1 h3
    rwa [h2, h4] at this
  have HTP : Hid (∀ W, Below w.heap.size w W → Calls Tryd.prog 60 #[.slice A n c, .string s_table] W fun e w' => e = .returned (.int .i64 (tm (namedB s_table) noB s)) ∧ Below W.heap.size W w') := Lib.hid fun W h => by
    have := topR A n c s s_table W (hr.below h) hnb (by decide)
    rwa [one_B f_table] at this
  have HTR := Lib.hid (fun W => rTrim y W (by unfold maxLen; omega))
  have HFI := Lib.hid (fun W => Rf.rFieldsR y W hy)
  have b1 := tm_ge headB wallB s
  have b2 := tm_le headB wallB s
  have b3 := tm_ge (namedB s_table) noB s
  have b4 := tm_le (namedB s_table) noB s
  have b5 := tm_ge (isB y) (namedB s_table) s
  have b6 := tm_le (isB y) (namedB s_table) s
  have b7 := tm_ge (isB y) wallB s
  have b8 := tm_le (isB y) wallB s
  have hbw0 := Below.refl w.heap.size w
  unfold rEndV
  rw [← hnl] at b2 b4 b6 b8
  clear hr hnl
  cases h1 : headB y
  · cases h2 : (y.toList == [116, 97, 98, 108, 101])
    · cases h3 : isB c_tab y
      · cases h4 : ((str (trimL y.data.toList)).toList == y.toList)
        · have hE : rEnd s y = -1 := by unfold rEnd is_table rTrimOk; rw [h1, h2, h3, h4]; simp
          have hG : (if rEnd s y < 0 then (0 : Int) else (n : Int) - rEnd s y) = 0 := by rw [hE]; rfl
          rw [hG]
          clear hE hG
          go_enter Tryd.func33, Tryd.ntmps33
          go_upto_region 6 with (go_at_call 58; refine (HH.out _).mono ?_; rintro e w2 ⟨rfl, hb2⟩; rw [h1])
          go_wp2_with (first
            | (go_at_call 58; refine (HTB.out _).mono ?_; rintro e w3 ⟨rfl, hb3⟩; rw [h3]; have hb23 := seq hb2 hb3)
            | (go_at_call 61; refine (HTR.out _).mono ?_; rintro e wt ⟨rfl, rfl⟩))
          go_ret
          exact ⟨rfl, hb23⟩
        · cases h5 : (((fieldsS y).length : Int) == 1)
          · have hE : rEnd s y = -1 := by unfold rEnd is_table rTrimOk; rw [h1, h2, h3, h4, h5]; simp
            have hG : (if rEnd s y < 0 then (0 : Int) else (n : Int) - rEnd s y) = 0 := by rw [hE]; rfl
            rw [hG]
            clear hE hG
            go_enter Tryd.func33, Tryd.ntmps33
            go_upto_region 6 with (go_at_call 58; refine (HH.out _).mono ?_; rintro e w2 ⟨rfl, hb2⟩; rw [h1])
            go_wp2_with (first
              | (go_at_call 58; refine (HTB.out _).mono ?_; rintro e w3 ⟨rfl, hb3⟩; rw [h3]; have hb23 := seq hb2 hb3)
              | (go_at_call 61; refine (HTR.out _).mono ?_; rintro e wt ⟨rfl, rfl⟩)
              | (go_at_call 62; refine (HFI.out _).mono ?_; rintro e w4 ⟨A4, c4, rfl, ho4, hb4⟩; have hb24 := seq hb23 hb4))
            go_ret
            exact ⟨rfl, hb24⟩
          · cases h6 : inS y 0
            · have hE : rEnd s y = tm (isB y) wallB s := by unfold rEnd is_table rTrimOk; rw [h1, h2, h3, h4, h5, h6]; rfl
              rw [hE]
              have HC : Hid (∀ W, Below w.heap.size w W → Calls Tryd.prog 59 #[.slice A n c, .string y, .string c_walls] W fun e w' => e = .returned (.int .i64 (tm (isB y) wallB s)) ∧ Below W.heap.size W w') := Lib.hid fun W h => HAB.out W h y _ hy rfl c_walls _ (by decide) walls_B
              clear hE
              generalize tm (isB y) wallB s = t at *
              by_cases h0 : t < 0
              all_goals (
                try have hwr : IntKind.i64.wrap ((n : Int) - t) = (n : Int) - t := by rw [IntKind.wrap_i64]; omega
                go_enter Tryd.func33, Tryd.ntmps33
                go_upto_region 6 with (go_at_call 58; refine (HH.out _).mono ?_; rintro e w2 ⟨rfl, hb2⟩; rw [h1])
                go_wp2_with (first
                  | (go_at_call 58; refine (HTB.out _).mono ?_; rintro e w3 ⟨rfl, hb3⟩; rw [h3]; have hb23 := seq hb2 hb3)
                  | (go_at_call 61; refine (HTR.out _).mono ?_; rintro e wt ⟨rfl, rfl⟩)
                  | (go_at_call 62; refine (HFI.out _).mono ?_; rintro e w4 ⟨A4, c4, rfl, ho4, hb4⟩; have hb24 := seq hb23 hb4)
                  | (go_at_call 45; refine (rIn y 0 _).mono ?_; rintro e w5 ⟨rfl, hb5⟩; rw [h6]; have hb25 := seq hb24 hb5)
                  | (go_at_call 59; refine (HC.out _ hb25).mono ?_; rintro e w9 ⟨rfl, hb9⟩; have hbZ := seq hb25 hb9))
                go_ret
                exact ⟨ri (by simp [h0]), hbZ⟩)
            · have hE : rEnd s y = -1 := by unfold rEnd is_table rTrimOk; rw [h1, h2, h3, h4, h5, h6]; simp
              have hG : (if rEnd s y < 0 then (0 : Int) else (n : Int) - rEnd s y) = 0 := by rw [hE]; rfl
              rw [hG]
              clear hE hG
              go_enter Tryd.func33, Tryd.ntmps33
              go_upto_region 6 with (go_at_call 58; refine (HH.out _).mono ?_; rintro e w2 ⟨rfl, hb2⟩; rw [h1])
              go_wp2_with (first
                | (go_at_call 58; refine (HTB.out _).mono ?_; rintro e w3 ⟨rfl, hb3⟩; rw [h3]; have hb23 := seq hb2 hb3)
                | (go_at_call 61; refine (HTR.out _).mono ?_; rintro e wt ⟨rfl, rfl⟩)
                | (go_at_call 62; refine (HFI.out _).mono ?_; rintro e w4 ⟨A4, c4, rfl, ho4, hb4⟩; have hb24 := seq hb23 hb4)
                | (go_at_call 45; refine (rIn y 0 _).mono ?_; rintro e w5 ⟨rfl, hb5⟩; rw [h6]; have hb25 := seq hb24 hb5))
              go_ret
              exact ⟨rfl, hb25⟩
      · have hE : rEnd s y = tm (isB y) (namedB s_table) s := by unfold rEnd is_table rTrimOk; rw [h1, h2, h3]; rfl
        rw [hE]
        have HC : Hid (∀ W, Below w.heap.size w W → Calls Tryd.prog 59 #[.slice A n c, .string y, .string s_table] W fun e w' => e = .returned (.int .i64 (tm (isB y) (namedB s_table) s)) ∧ Below W.heap.size W w') := Lib.hid fun W h => HAB.out W h y _ hy rfl s_table _ (by decide) (one_B f_table)
        clear hE
        generalize tm (isB y) (namedB s_table) s = t at *
        by_cases h0 : t < 0
        all_goals (
          try have hwr : IntKind.i64.wrap ((n : Int) - t) = (n : Int) - t := by rw [IntKind.wrap_i64]; omega
          go_enter Tryd.func33, Tryd.ntmps33
          go_upto_region 6 with (go_at_call 58; refine (HH.out _).mono ?_; rintro e w2 ⟨rfl, hb2⟩; rw [h1])
          go_wp2_with (first
            | (go_at_call 58; refine (HTB.out _).mono ?_; rintro e w3 ⟨rfl, hb3⟩; rw [h3]; have hb23 := seq hb2 hb3)
            | (go_at_call 59; refine (HC.out _ hb23).mono ?_; rintro e w9 ⟨rfl, hb9⟩; have hbZ := seq hb23 hb9))
          go_ret
          exact ⟨ri (by simp [h0]), hbZ⟩)
    · have hE : rEnd s y = tm (namedB s_table) noB s := by unfold rEnd is_table rTrimOk; rw [h1, h2]; rfl
      rw [hE]
      have HC : Hid (∀ W, Below w.heap.size w W → Calls Tryd.prog 60 #[.slice A n c, .string s_table] W fun e w' => e = .returned (.int .i64 (tm (namedB s_table) noB s)) ∧ Below W.heap.size W w') := Lib.hid fun W h => HTP.out W h
      clear hE
      generalize tm (namedB s_table) noB s = t at *
      by_cases h0 : t < 0
      all_goals (
        try have hwr : IntKind.i64.wrap ((n : Int) - t) = (n : Int) - t := by rw [IntKind.wrap_i64]; omega
        go_enter Tryd.func33, Tryd.ntmps33
        go_wp2_with (first
          | (go_at_call 58; refine (HH.out _).mono ?_; rintro e w2 ⟨rfl, hb2⟩; rw [h1])
          | (go_at_call 60; refine (HC.out _ hb2).mono ?_; rintro e w9 ⟨rfl, hb9⟩; have hbZ := seq hb2 hb9))
        go_ret
        exact ⟨ri (by simp [h0]), hbZ⟩)
  · have hE : rEnd s y = tm headB wallB s := by unfold rEnd is_table rTrimOk; rw [h1]; rfl
    rw [hE]
    have HC : Hid (∀ W, Below w.heap.size w W → Calls Tryd.prog 59 #[.slice A n c, .string c_heads, .string c_walls] W fun e w' => e = .returned (.int .i64 (tm headB wallB s)) ∧ Below W.heap.size W w') := Lib.hid fun W h => HAB.out W h c_heads _ (by decide) heads_B c_walls _ (by decide) walls_B
    clear hE
    generalize tm headB wallB s = t at *
    by_cases h0 : t < 0
    all_goals (
      try have hwr : IntKind.i64.wrap ((n : Int) - t) = (n : Int) - t := by rw [IntKind.wrap_i64]; omega
      go_enter Tryd.func33, Tryd.ntmps33
      go_wp2_with (first
        | (go_at_call 58; refine (HH.out _).mono ?_; rintro e w2 ⟨rfl, hb2⟩; rw [h1])
        | (go_at_call 59; refine (HC.out _ hb2).mono ?_; rintro e w9 ⟨rfl, hb9⟩; have hbZ := seq hb2 hb9))
      go_ret
      exact ⟨ri (by simp [h0]), hbZ⟩)
end Go.Proofs.YtddgpkdhakjjaaaDoor.Re
