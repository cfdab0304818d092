/- NestOpens: every name in every stack: what it asks, and whether it may stand there. No condition. (The walk.) -/
import Derived.Deep.Cut
import Derived.Test.YtddgpkdhakjjaaaDoorLw
import Derived.Test.YtddgpkdhakjjaaaDoorSp
import Derived.Test.YtddgpkdhakjjaaaDoorRo
import Derived.Test.YtddgpkdhakjjaaaDoorAw
set_option linter.unusedVariables false
set_option linter.unusedSimpArgs false
namespace Go.Proofs.YtddgpkdhakjjaaaDoor.nestOpens
open Go.RowKit Lb Fl Is Tp Np Wk Wp Wi Wo Pt Oc Go.Proofs.YtddgpkdhakjjaaaDoor.Ask Rt Go.Proofs.YtddgpkdhakjjaaaDoor.Op Aw Lt Lw Sp Ri Rq Go.Proofs.YtddgpkdhakjjaaaDoor.Eq Ro

theorem nothing_eq (k : Int) (P : List ByteArray) : planB k 0 false false P [] = (k == 0 && ((P.length : Int) == 0)) := by
  unfold planB sameL
  cases P with
  | nil => cases k == 0 <;> rfl
  | cons x r =>
    have h : (((x :: r).length : Int) == 0) = false := by rw [beq_eq_false_iff_ne]; simp; omega
    rw [h]
    simp
theorem same_self (l : List ByteArray) : sameL l l = true := by unfold sameL; simp
theorem plan_self (k : Int) (d : Bool) (l : List ByteArray) : planB k k d d l l = true := by unfold planB; rw [same_self]; simp
/-- a row that the call does not own, over a change in another's row -/
theorem rd_grown {W W' : World} {A : Option Addr} {n : Nat} {l : List ByteArray} {row : Option Nat} (h : Rd W A n l) (hg : W.grownBy W' row) (hne : ∀ b off sp, A = some ⟨b, off, sp⟩ → l ≠ [] → some b ≠ row) : Rd W' A n l := by
  refine ⟨h.1, fun j hj => ?_⟩
  obtain ⟨b1, off, e, hlt, hc⟩ := h.2 j hj
  have h0 := hc W (Below.refl _ _)
  have hln : l ≠ [] := by intro e; rw [e] at hj; exact absurd hj (Nat.not_lt_zero _)
  have h1 := hg.cell (a := ⟨b1, off + j, none⟩) h0 (hne _ _ _ e hln)
  exact ⟨b1, off, e, Nat.lt_of_lt_of_le hlt hg.size, fun w' hw => (hw.cell (p := ⟨b1, off + j, none⟩) (Nat.lt_of_lt_of_le hlt hg.size)).trans h1⟩
theorem Pl_grown {W W' : World} {b : Nat} {u v x : Value} {row : Option Nat} (h : Pl W b u v x) (hg : W.grownBy W' row) (hne : some b ≠ row) : Pl W' b u v x := (hg.block b h.lt hne).trans h
theorem grown_below {w W W' : World} {B n c : Nat} {A : Option Addr} {l : List ByteArray} (hb : Below w.heap.size w W) (ho : Fl.Own W B (.slice A n c) l) (hB : w.heap.size ≤ B) (hg : W.grownBy W' (Value.slice A n c).ownBlock) : Below w.heap.size w W' :=
  hb.grown hg hb.size (fun k hk => Nat.le_trans hB (ho.ge k hk))
theorem row_of {A : Option Addr} {n c k : Nat} (h : (Value.slice A n c).ownBlock = some k) : ∃ off sp, A = some ⟨k, off, sp⟩ := by
  cases A with
  | none => simp [Value.ownBlock] at h
  | some a =>
    obtain ⟨b, off, sp⟩ := a
    have : b = k := by simpa [Value.ownBlock] using h
    subst this
    exact ⟨_, _, rfl⟩
set_option maxHeartbeats 8000000 in
set_option maxRecDepth 100000 in
theorem walk (w : World) (ht : Tab w) (A : Option Addr) (n c : Nat) (s : List ByteArray) (y : ByteArray) (hr : Rd w A n s) (hc : n ≤ c) (hc2 : c ≤ 8796093021952) :
    Calls Tryd.prog 5 #[.slice A n c, .string y] w fun e w' => e = .returned (.bool true) ∧ Below w.heap.size w w' := by
  have HT : Hid (∀ W, Below w.heap.size w W → Tab W) := Lib.hid fun W h => ht.below h
  have HR : Hid (∀ W, Below w.heap.size w W → Rd W A n s) := Lib.hid fun W h => hr.below h
  have HOW := Lib.hid (ownL A n c s w hr (by omega))
  have HNS : Hid (n = s.length) := Lib.hid hr.1
  by_cases hn : 600 < n
  · have hlong : decide (600 < n) = true := by simp [hn]
    clear hr ht
    go_enter Tryd.func5, Tryd.ntmps5
    go_wp2_with (first
      | (go_at_call 14; refine (longC _ _ _ _).mono ?_; rintro e wl ⟨rfl, rfl⟩; rw [hlong])
      | (go_at_call 13; refine (awakeC _ (HT.out _ (Below.refl _ _))).mono ?_; rintro e wa ⟨rfl, hba⟩))
    go_ret
    exact ⟨rfl, hba⟩
  · have hlong : decide (600 < n) = false := by simp [hn]
    have HRR : Hid (∀ W, Below w.heap.size w W → Calls Tryd.prog 21 #[.slice A n c] W fun e w' => e = .returned (.bool (rightB s)) ∧ Below W.heap.size W w') := Lib.hid fun W h => by
      rw [right_eq]; exact rRightC W A n c s (hr.below h) hc (by omega)
    have HSAME : Hid (∀ W A2 c2, Below w.heap.size w W → Rd W A2 n s → Calls Tryd.prog 23 #[.slice A2 n c2, .slice A n c] W fun e w' => e = .returned (.bool true) ∧ Below W.heap.size W w') := Lib.hid fun W A2 c2 h h2 => by
      have := lSame (c := c2) (d := c) W h2 (hr.below h) (by omega) (by omega)
      rwa [same_self] at this
    have HGO : Hid (∀ W A2 c2, Below w.heap.size w W → Rd W A2 n s → n ≤ c2 → c2 ≤ 9223372036854775807 → Calls Tryd.prog 19 #[.slice A2 n c2, .string y] W (Gives W (opK s y) (opP s y) false (opE s y))) := Lib.hid fun W A2 c2 h h2 h3 h4 => openC W (ht.below h) A2 n c2 s y h2 h3 h4
    have HGM : Hid (∀ W A2 c2, Below w.heap.size w W → Rd W A2 n s → n ≤ c2 → c2 ≤ 9223372036854775807 → Calls Tryd.prog 20 #[.slice A2 n c2, .string y] W fun e w' => e = .returned (.tuple #[.bool (opE s y == 0 && opK s y == 0 && ((opP s y).length : Int) == 0), .int .i64 (opE s y)]) ∧ Below W.heap.size W w') := Lib.hid fun W A2 c2 h h2 h3 h4 => mayC W (ht.below h) A2 n c2 s y h2 h3 h4
    have HGR : Hid (∀ W A2 c2, Below w.heap.size w W → Rd W A2 n s → n ≤ c2 → c2 ≤ 9223372036854775807 → Calls Tryd.prog 15 #[.slice A2 n c2] W fun e w' => e = .returned (.bool (rightB s)) ∧ Below W.heap.size W w') := Lib.hid fun W A2 c2 h h2 h3 h4 => rightC W (ht.below h) A2 n c2 s h2 h3 h4
    have HRO : rightB s = true → Hid (∀ W, Below w.heap.size w W → Calls Tryd.prog 25 #[.slice A n c, .string y] W fun e w' => ∃ A2 c2, e = .returned (.agg #[.int .i64 ((n : Int) - ((askS y s).length : Int)), .slice A2 (askP y s).length c2, .bool false]) ∧ (Rd w' A2 (askP y s).length (askP y s) ∧ Fr W.heap.size A2 (askP y s)) ∧ Below W.heap.size W w') := fun hR => Lib.hid fun W h => by
      have := rOpenC W A n c s y (hr.below h) hc (by omega)
      rwa [rS_eq (right_CC hR), rP_eq (right_CC hR)] at this
    have hon := op_on (s := s) (y := y)
    obtain ⟨hk0, hkn, hm4, hmem⟩ := hon
    cases h1 : rightB s
    · have eE : opE s y = 161 := by unfold opE; rw [h1]; rfl
      have eo := op_off (s := s) (y := y) (by rw [eE]; decide)
      rw [eE, eo.1, eo.2] at HGO HGM
      rw [h1] at HRR HGR
      clear HRO hk0 hkn hm4 hmem eE eo hr ht
      have HNO : Hid (∀ W A2 c2, Calls Tryd.prog 24 #[.agg #[.int .i64 0, .slice A2 0 c2, .bool false]] W fun e w' => e = .returned (.bool true) ∧ Below W.heap.size W w') := Lib.hid fun W A2 c2 => by
        have := nothingC W 0 false A2 0 c2 [] ⟨rfl, fun j hj => absurd hj (Nat.not_lt_zero _)⟩ (by omega)
        rwa [show planB 0 0 false false [] [] = true from by decide] at this
      unfold Gives at HGO
      go_enter Tryd.func5, Tryd.ntmps5
      go_upto_region 5 with (first
        | (go_at_call 14; refine (longC _ _ _ _).mono ?_; rintro e wl ⟨rfl, rfl⟩; rw [hlong])
        | (go_at_call 18; refine HOW.out.mono ?_; rintro e w1 ⟨Ag, cg, rfl, hog, hb1⟩; obtain ⟨hcg, hcg2⟩ := own_cap hog)
        | (go_at_call 19; refine (HGO.out _ Ag cg hb1 hog.rd hcg hcg2).mono ?_; rintro e w2 ⟨A2, c2, rfl, ho2, hb2⟩))
      have hbW2 := hb2.alloc hb2.size (.cells #[.int .i64 0, .slice A2 0 c2, .bool false] 33)
      have hp2 : Pl (w2.alloc (.cells #[.int .i64 0, .slice A2 0 c2, .bool false] 33)) w2.heap.size (.int .i64 0) (.slice A2 0 c2) (.bool false) := Pl.new w2 _ _ _ _ rfl
      have hbw2 := seq hb1 hbW2
      have hog2 := hog.rd.below hbW2
      have HP2 := Lib.hid hp2
      clear hp2
      go_upto_region 6 with (go_at_call 19; refine (HGO.out _ Ag cg hbw2 hog2 hcg hcg2).mono ?_; rintro e w3 ⟨A3, c3, rfl, ho3, hb3⟩)
      have hbW3 := hb3.alloc hb3.size (.cells #[.int .i64 0, .slice A3 0 c3, .bool false] 33)
      have hbw := seq hbw2 hbW3
      have hog3 := hog2.below hbW3
      go_wp2_with (first
        | (go_at_call 20; refine (HGM.out _ Ag cg hbw hog3 hcg hcg2).mono ?_; rintro e w4 ⟨rfl, hb4⟩; have hbw5 := seq hbw hb4)
        | (go_at_call 21; refine (HRR.out _ hbw5).mono ?_; rintro e w5 ⟨rfl, hb5⟩; have hbw7 := seq hbw5 hb5; have hog7 := hog3.below (seq hb4 hb5))
        | (go_at_call 22; refine (allowC _ _).mono ?_; rintro e w6 ⟨rfl, hb6⟩; rw [h2]; have hbw7 := seq hbw7 hb6; have hog7 := hog7.below hb6)
        | (go_at_call 15; refine (HGR.out _ Ag cg hbw7 hog7 hcg hcg2).mono ?_; rintro e w7 ⟨rfl, hb7⟩; have hbw8 := seq hbw7 hb7; have hog8 := hog7.below hb7)
        | (go_at_call 12; refine (numC _ _).mono ?_; rintro e wn ⟨rfl, rfl⟩)
        | (go_at_call 23; refine (HSAME.out _ Ag cg hbw8 hog8).mono ?_; rintro e w8 ⟨rfl, hb8⟩; have hbw9 := seq hbw8 hb8; have hP := HP2.out.below (seq (seq (seq (seq hbW3 hb4) hb5) hb7) hb8); have a0 := hP.c0; have a1 := hP.c1; have a2 := hP.c2)
        | (go_at_call 24; refine (HNO.out _ _ _).mono ?_; rintro e w9 ⟨rfl, hb9⟩; have hbwa := seq hbw9 hb9)
        | (go_at_call 13; refine (awakeC _ (HT.out _ (hbwa))).mono ?_; rintro e wa ⟨rfl, hba⟩))
      go_ret
      exact ⟨rfl, seq hbwa hba⟩
    · cases h2 : inS y 15
      · have eE : opE s y = 160 := by unfold opE; rw [h1, h2]; rfl
        have eo := op_off (s := s) (y := y) (by rw [eE]; decide)
        rw [eE, eo.1, eo.2] at HGO HGM
        rw [h1] at HRR HGR
        clear HRO hk0 hkn hm4 hmem eE eo hr ht
        have HNO : Hid (∀ W A2 c2, Calls Tryd.prog 24 #[.agg #[.int .i64 0, .slice A2 0 c2, .bool false]] W fun e w' => e = .returned (.bool true) ∧ Below W.heap.size W w') := Lib.hid fun W A2 c2 => by
          have := nothingC W 0 false A2 0 c2 [] ⟨rfl, fun j hj => absurd hj (Nat.not_lt_zero _)⟩ (by omega)
          rwa [show planB 0 0 false false [] [] = true from by decide] at this
        unfold Gives at HGO
        go_enter Tryd.func5, Tryd.ntmps5
        go_upto_region 5 with (first
          | (go_at_call 14; refine (longC _ _ _ _).mono ?_; rintro e wl ⟨rfl, rfl⟩; rw [hlong])
          | (go_at_call 18; refine HOW.out.mono ?_; rintro e w1 ⟨Ag, cg, rfl, hog, hb1⟩; obtain ⟨hcg, hcg2⟩ := own_cap hog)
          | (go_at_call 19; refine (HGO.out _ Ag cg hb1 hog.rd hcg hcg2).mono ?_; rintro e w2 ⟨A2, c2, rfl, ho2, hb2⟩))
        have hbW2 := hb2.alloc hb2.size (.cells #[.int .i64 0, .slice A2 0 c2, .bool false] 33)
        have hp2 : Pl (w2.alloc (.cells #[.int .i64 0, .slice A2 0 c2, .bool false] 33)) w2.heap.size (.int .i64 0) (.slice A2 0 c2) (.bool false) := Pl.new w2 _ _ _ _ rfl
        have hbw2 := seq hb1 hbW2
        have hog2 := hog.rd.below hbW2
        have HP2 := Lib.hid hp2
        clear hp2
        go_upto_region 6 with (go_at_call 19; refine (HGO.out _ Ag cg hbw2 hog2 hcg hcg2).mono ?_; rintro e w3 ⟨A3, c3, rfl, ho3, hb3⟩)
        have hbW3 := hb3.alloc hb3.size (.cells #[.int .i64 0, .slice A3 0 c3, .bool false] 33)
        have hbw := seq hbw2 hbW3
        have hog3 := hog2.below hbW3
        go_wp2_with (first
          | (go_at_call 20; refine (HGM.out _ Ag cg hbw hog3 hcg hcg2).mono ?_; rintro e w4 ⟨rfl, hb4⟩; have hbw5 := seq hbw hb4)
          | (go_at_call 21; refine (HRR.out _ hbw5).mono ?_; rintro e w5 ⟨rfl, hb5⟩; have hbw7 := seq hbw5 hb5; have hog7 := hog3.below (seq hb4 hb5))
          | (go_at_call 22; refine (allowC _ _).mono ?_; rintro e w6 ⟨rfl, hb6⟩; rw [h2]; have hbw7 := seq hbw7 hb6; have hog7 := hog7.below hb6)
          | (go_at_call 15; refine (HGR.out _ Ag cg hbw7 hog7 hcg hcg2).mono ?_; rintro e w7 ⟨rfl, hb7⟩; have hbw8 := seq hbw7 hb7; have hog8 := hog7.below hb7)
          | (go_at_call 12; refine (numC _ _).mono ?_; rintro e wn ⟨rfl, rfl⟩)
          | (go_at_call 23; refine (HSAME.out _ Ag cg hbw8 hog8).mono ?_; rintro e w8 ⟨rfl, hb8⟩; have hbw9 := seq hbw8 hb8; have hP := HP2.out.below (seq (seq (seq (seq (seq hbW3 hb4) hb5) hb6) hb7) hb8); have a0 := hP.c0; have a1 := hP.c1; have a2 := hP.c2)
          | (go_at_call 24; refine (HNO.out _ _ _).mono ?_; rintro e w9 ⟨rfl, hb9⟩; have hbwa := seq hbw9 hb9)
          | (go_at_call 13; refine (awakeC _ (HT.out _ (hbwa))).mono ?_; rintro e wa ⟨rfl, hba⟩))
        go_ret
        exact ⟨rfl, seq hbwa hba⟩
      · have eE : opE s y = 0 := by unfold opE; rw [h1, h2]; rfl
        have eK : opK s y = (n : Int) - ((askS y s).length : Int) := by unfold opK; rw [h1, h2, HNS.out]; rfl
        have eP : opP s y = askP y s := by unfold opP; rw [h1, h2]; rfl
        have HRO2 := HRO h1
        rw [← eK, ← eP] at HRO2
        rw [eE] at HGO HGM
        rw [h1] at HRR HGR
        clear HRO eK eP eE hmem hr ht
        generalize opK s y = K at *
        generalize opP s y = P at *
        obtain ⟨m, hm⟩ : ∃ m, P.length = m := ⟨_, rfl⟩
        rw [hm] at HGM HRO2
        unfold Gives at HGO
        rw [hm] at HGO
        have HM5 := Lib.hid hm
        have hmm : m ≤ 4 := by omega
        have HNO : Hid (∀ W A2 c2, Rd W A2 m P → Calls Tryd.prog 24 #[.agg #[.int .i64 K, .slice A2 m c2, .bool false]] W fun e w' => e = .returned (.bool (K == 0 && ((m : Int) == 0))) ∧ Below W.heap.size W w') := Lib.hid fun W A2 c2 h2 => by
          have := nothingC W K false A2 m c2 P h2 (by omega)
          rwa [nothing_eq, hm] at this
        have HPL : Hid (∀ W A2 c2 A3 c3, Rd W A2 m P → Rd W A3 m P → Calls Tryd.prog 26 #[.agg #[.int .i64 K, .slice A2 m c2, .bool false], .agg #[.int .i64 K, .slice A3 m c3, .bool false]] W fun e w' => e = .returned (.bool true) ∧ Below W.heap.size W w') := Lib.hid fun W A2 c2 A3 c3 h2 h3 => by
          have := planL W K K false false A2 A3 m m c2 c3 P P h2 h3 (by omega) (by omega)
          rwa [plan_self] at this
        clear hm
        cases hK : K == 0 <;> cases hL : ((m : Int) == 0)
        all_goals (
          go_enter Tryd.func5, Tryd.ntmps5
          go_upto_region 5 with (first
            | (go_at_call 14; refine (longC _ _ _ _).mono ?_; rintro e wl ⟨rfl, rfl⟩; rw [hlong])
            | (go_at_call 18; refine HOW.out.mono ?_; rintro e w1 ⟨Ag, cg, rfl, hog, hb1⟩; obtain ⟨hcg, hcg2⟩ := own_cap hog)
            | (go_at_call 19; refine (HGO.out _ Ag cg hb1 hog.rd hcg hcg2).mono ?_; rintro e w2 ⟨A2, c2, rfl, ho2, hb2⟩))
          obtain ⟨W2, hW2⟩ : ∃ W, W = w2.alloc (.cells #[.int .i64 K, .slice A2 m c2, .bool false] 33) := ⟨_, rfl⟩
          have hbW2 : Below w1.heap.size w1 W2 := hW2 ▸ hb2.alloc hb2.size _
          have hp2 : Pl W2 w2.heap.size (.int .i64 K) (.slice A2 m c2) (.bool false) := hW2 ▸ Pl.new w2 _ _ _ _ rfl
          have hoP : Fl.Own W2 w1.heap.size (.slice A2 m c2) P := hW2 ▸ ho2.alloc (.cells #[.int .i64 K, .slice A2 m c2, .bool false] 33)
          have hsz2 : w1.heap.size ≤ w2.heap.size := hb2.size
          have hW2s : W2.heap.size = w2.heap.size + 1 := by rw [hW2]; simp
          rw [← hW2]
          have HWW2 := Lib.hid hW2
          clear hW2 ho2 hb2
          have hbw2 := seq hb1 hbW2
          have hog2 := hog.rd.below hbW2
          have HOG := Lib.hid hog
          have HOP := Lib.hid hoP
          have HP2 := Lib.hid hp2
          clear hog hoP hp2
          go_upto_region 6 with (go_at_call 19; refine (HGO.out _ Ag cg hbw2 hog2 hcg hcg2).mono ?_; rintro e w3 ⟨A3, c3, rfl, ho3, hb3⟩)
          obtain ⟨W3, hW3⟩ : ∃ W, W = w3.alloc (.cells #[.int .i64 K, .slice A3 m c3, .bool false] 33) := ⟨_, rfl⟩
          have hbW3 : Below W2.heap.size W2 W3 := hW3 ▸ hb3.alloc hb3.size _
          have hp3 : Pl W3 w3.heap.size (.int .i64 K) (.slice A3 m c3) (.bool false) := hW3 ▸ Pl.new w3 _ _ _ _ rfl
          have hoQ : Fl.Own W3 W2.heap.size (.slice A3 m c3) P := hW3 ▸ ho3.alloc (.cells #[.int .i64 K, .slice A3 m c3, .bool false] 33)
          have hsz3 : W2.heap.size ≤ w3.heap.size := hb3.size
          rw [← hW3]
          have HWW3 := Lib.hid hW3
          clear hW3 ho3 hb3
          have hbw := seq hbw2 hbW3
          have hog3 := hog2.below hbW3
          have HOQ := Lib.hid hoQ
          have HP3 := Lib.hid hp3
          clear hoQ hp3
          go_upto_region 18 with (first
            | (go_at_call 20; refine (HGM.out _ Ag cg hbw hog3 hcg hcg2).mono ?_; rintro e w4 ⟨rfl, hb4⟩; have hbw5 := seq hbw hb4)
            | (go_at_call 21; refine (HRR.out _ hbw5).mono ?_; rintro e w5 ⟨rfl, hb5⟩; have hbw6 := seq hbw5 hb5)
            | (go_at_call 22; refine (allowC _ _).mono ?_; rintro e w6 ⟨rfl, hb6⟩; rw [h2]; have hbw7 := seq hbw6 hb6; have hog7 := hog3.below (seq (seq hb4 hb5) hb6))
            | (go_at_call 15; refine (HGR.out _ Ag cg hbw7 hog7 hcg hcg2).mono ?_; rintro e w7 ⟨rfl, hb7⟩; have hbw8 := seq hbw7 hb7; have hog8 := hog7.below hb7)
            | (go_at_call 12; refine (numC _ _).mono ?_; rintro e wn ⟨rfl, rfl⟩)
            | (go_at_call 23; refine (HSAME.out _ Ag cg hbw8 hog8).mono ?_; rintro e w8 ⟨rfl, hb8⟩; have hbw9 := seq hbw8 hb8)
            | (go_at_call 25; refine (HRO2.out _ hbw9).mono ?_; rintro e w9 ⟨A9, c9, rfl, ⟨hr9, hf9⟩, hb9⟩))
          obtain ⟨W4, hW4⟩ : ∃ W, W = w9.alloc (.cells #[.int .i64 K, .slice A9 m c9, .bool false] 33) := ⟨_, rfl⟩
          have hb8w : Below W3.heap.size W3 w8 := seq (seq (seq (seq hb4 hb5) hb6) hb7) hb8
          have hb9w : Below W3.heap.size W3 w9 := seq hb8w hb9
          have hbW4 : Below W3.heap.size W3 W4 := hW4 ▸ hb9w.alloc hb9w.size _
          have hpw : Pl W4 w9.heap.size (.int .i64 K) (.slice A9 m c9) (.bool false) := hW4 ▸ Pl.new w9 _ _ _ _ rfl
          have hr94 : Rd W4 A9 m P := hW4 ▸ hr9.below ((Below.refl _ _).alloc (Nat.le_refl _) _)
          rw [← hW4]
          have hpp := HP2.out.below (seq hbW3 hbW4)
          have hpq := HP3.out.below hbW4
          have hrP4 : Rd W4 A2 m P := HOP.out.rd.below (seq hbW3 hbW4)
          have hs9 : w9.heap.size < W4.heap.size := by rw [hW4]; simp
          have HHW4 := Lib.hid hW4
          clear hW4 hr9
          have a0 := hpp.c0
          have a1 := hpp.c1
          have a2 := hpp.c2
          have b0 := hpw.c0
          have b1 := hpw.c1
          have b2 := hpw.c2
          have HPP := Lib.hid hpp
          have HPQ := Lib.hid hpq
          have HPW := Lib.hid hpw
          clear hpp hpq hpw
          go_upto_region 20 with (first
            | (go_at_call 26; refine (HPL.out W4 A2 c2 A9 c9 hrP4 hr94).mono ?_; rintro e w10 ⟨rfl, hb10⟩; have hpw10 := HPW.out.below hb10; have d0 := hpw10.c0; have d1 := hpw10.c1; have d2 := hpw10.c2)
            | (go_at_call 24; refine (HNO.out w10 A9 c9 (hr94.below hb10)).mono ?_; rintro e w11 ⟨rfl, hb11⟩; have hpp11 := HPP.out.below (seq hb10 hb11); have f0 := hpp11.c0; have f1 := hpp11.c1; have f2 := hpp11.c2))
          have hb4e := seq hb10 hb11
          have hbWe := seq hbW4 hb4e
          have hoP11 := HOP.out.below (seq hbW3 hbWe)
          have hkb : ∀ k, (Value.slice A2 m c2).ownBlock = some k → w1.heap.size ≤ k ∧ k < W2.heap.size := fun k hk => ⟨HOP.out.ge k hk, own_lt HOP.out k hk⟩
          go_upto_region 21 with (go_at_call 27; refine (spoilC w1.heap.size m c2 A2 P w11 hoP11 HM5.out.symm (by omega)).mono ?_; rintro e w12 ⟨rfl, hg12, hs12, _⟩)
          have hsz4 : W2.heap.size ≤ W3.heap.size := hbW3.size
          have hsz8 : W3.heap.size ≤ w8.heap.size := hb8w.size
          have hsz9 : w8.heap.size ≤ w9.heap.size := hb9.size
          have hpq12 := Pl_grown (HPQ.out.below hb4e) hg12 (fun e => by have := hkb _ e.symm; omega)
          have hpw12 := Pl_grown (HPW.out.below hb4e) hg12 (fun e => by have := hkb _ e.symm; omega)
          have g0 := hpq12.c0
          have g1 := hpq12.c1
          have g2 := hpq12.c2
          have i0 := hpw12.c0
          have i1 := hpw12.c1
          have i2 := hpw12.c2
          have hrq12 : Rd w12 A3 m P := rd_grown (HOQ.out.rd.below (seq hbW4 hb4e)) hg12 (fun b off sp e hne e2 => by
            have := hkb _ e2.symm
            have := fr_own HOQ.out (Nat.le_refl _) b off sp e hne
            omega)
          have hrw12 : Rd w12 A9 m P := rd_grown (hr94.below hb4e) hg12 (fun b off sp e hne e2 => by
            have := hkb _ e2.symm
            have := hf9 b off sp e hne
            omega)
          have hrg12 : Rd w12 Ag n s := rd_grown (hog3.below (seq hbW4 hb4e)) hg12 (fun b off sp e hne e2 => by
            have h1 := hkb _ e2.symm
            have h2 := own_lt HOG.out b (by rw [e]; rfl)
            omega)
          have hbw12 : Below w.heap.size w w12 := grown_below (seq hbw hbWe) hoP11 hb1.size hg12
          go_wp2_with (first
            | (go_at_call 26; refine (HPL.out w12 A3 c3 A9 c9 hrq12 hrw12).mono ?_; rintro e w13 ⟨rfl, hb13⟩; have hbw13 := seq hbw12 hb13)
            | (go_at_call 23; refine (HSAME.out _ Ag cg hbw13 (hrg12.below hb13)).mono ?_; rintro e w14 ⟨rfl, hb14⟩; have hbw14 := seq hbw13 hb14)
            | (go_at_call 13; refine (awakeC _ (HT.out _ (hbw14))).mono ?_; rintro e wa ⟨rfl, hba⟩))
          go_ret
          exact ⟨rfl, seq hbw14 hba⟩)
end Go.Proofs.YtddgpkdhakjjaaaDoor.nestOpens
