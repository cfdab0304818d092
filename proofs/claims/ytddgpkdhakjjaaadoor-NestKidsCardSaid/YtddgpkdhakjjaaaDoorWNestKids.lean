/- NestKids: all that may stand in a stack; the stack that comes of opening any names. No condition. (The walk.) -/
import Derived.Deep.Cut
import Derived.Deep.DeepCutAuto
import Derived.Deep.CutBlock
import Derived.Test.YtddgpkdhakjjaaaDoorKi
import Derived.Test.YtddgpkdhakjjaaaDoorRv
import Derived.Test.YtddgpkdhakjjaaaDoorRl
import Derived.Test.YtddgpkdhakjjaaaDoorAw
set_option linter.unusedVariables false
set_option linter.unusedSimpArgs false
namespace Go.Proofs.YtddgpkdhakjjaaaDoor.nestKids
open Go.Proofs.YtddgpkdhakjjaaaDoor.Np hiding is_li is_dt is_dd is_textarea is_a
open Go.RowKit Lb Fl Is Tp Wk Wp Wi Wo Pt Oc Go.Proofs.YtddgpkdhakjjaaaDoor.Ask Rt Go.Proofs.YtddgpkdhakjjaaaDoor.Op Aw Pm Lt Lw Sp Ap En El Rn Ri Rj Rp Rq Go.Proofs.YtddgpkdhakjjaaaDoor.Eq Ro Sl Sm Pu Ru Rv Al Ki Rs Rl Go.Proofs.YtddgpkdhakjjaaaDoor.So

theorem same_self (l : List ByteArray) : sameL l l = true := by unfold sameL; simp
theorem nothing_still (s : List ByteArray) (y : ByteArray) : planB ((s.length : Int) - ((askS y s).length : Int)) 0 false false (askP y s) [] = stillB s y := by
  unfold planB stillB sameL
  have h1 : ((s.length : Int) - ((askS y s).length : Int) == 0) = (((askS y s).length : Int) == (s.length : Int)) := by
    rw [Bool.eq_iff_iff, beq_iff_eq, beq_iff_eq]
    omega
  rw [h1]
  cases askP y s with
  | nil => simp
  | cons x r => simp; intro _; omega
def taken (s : List ByteArray) (j : Nat) : List ByteArray := ((allL 15).take j).filter fun y => stillB s y
theorem taken_snoc (s : List ByteArray) {j : Nat} (h : j < (allL 15).length) : taken s (j + 1) = taken s j ++ (if stillB s (allL 15)[j] then [(allL 15)[j]] else []) := by
  unfold taken
  rw [List.take_succ_eq_append_getElem h, List.filter_append]
  congr 1
  simp only [List.filter_cons, List.filter_nil]
theorem taken_len (s : List ByteArray) (j : Nat) : (taken s j).length ≤ 2000 := by
  unfold taken
  have h1 := List.length_filter_le (fun y => stillB s y) ((allL 15).take j)
  have h2 := all_len 15
  rw [List.length_take] at h1
  omega
theorem taken_all (s : List ByteArray) {j : Nat} (h : (allL 15).length ≤ j) : taken s j = kidsL s := by
  unfold taken kidsL
  rw [List.take_of_length_le h]
theorem list_15 : srt (fieldsS (rtS 15)) = allL 15 := by rw [rtS_in (by decide) (by decide)]; rfl

set_option maxHeartbeats 8000000 in
set_option maxRecDepth 100000 in
theorem walk (w : World) (ht : Tab w) (A A1 : Option Addr) (n c m c1 : Nat) (s l : List ByteArray) (hr : Rd w A n s) (hr1 : Rd w A1 m l) (hc : n ≤ c) (hc2 : c ≤ 8796093021952) :
    Calls Tryd.prog 11 #[.slice A n c, .slice A1 m c1] w fun e w' => e = .returned (.bool true) ∧ Below w.heap.size w w' := by
  have HT : Hid (∀ W, Below w.heap.size w W → Tab W) := Lib.hid fun W h => ht.below h
  have HR1 : Hid (∀ W, Below w.heap.size w W → Rd W A1 m l) := Lib.hid fun W h => hr1.below h
  have HML : Hid (m = l.length) := Lib.hid hr1.1
  obtain ⟨i0, hi, hz0, hz1, hzb⟩ := info_parts infoStr
  by_cases hn : 600 < n
  · have hlong : decide (600 < n) = true := by simp [hn]
    clear hr hr1 ht
    go_enter Tryd.func11, Tryd.ntmps11
    go_wp2_with (first
      | (go_at_call 14; refine (longC _ _ _ _).mono ?_; rintro e wl ⟨rfl, rfl⟩; rw [hlong])
      | (go_at_call 13; refine (awakeC _ (HT.out _ (Below.refl _ _))).mono ?_; rintro e wa ⟨rfl, hba⟩))
    go_ret
    exact ⟨rfl, hba⟩
  · have hlong : decide (600 < n) = false := by simp [hn]
    by_cases hm : 600 < m
    · have hlong2 : decide (600 < m) = true := by simp [hm]
      clear hr hr1 ht
      go_enter Tryd.func11, Tryd.ntmps11
      go_wp2_with (first
        | (go_at_call 14; have _z := hdone; refine (longC A1 m c1 w).mono ?_; rintro e wl ⟨rfl, rfl⟩; rw [hlong2])
        | (go_at_call 14; refine (longC A n c w).mono ?_; rintro e wl ⟨rfl, rfl⟩; rw [hlong]; have hdone := True.intro)
        | (go_at_call 13; refine (awakeC _ (HT.out _ (Below.refl _ _))).mono ?_; rintro e wa ⟨rfl, hba⟩))
      go_ret
      exact ⟨rfl, hba⟩
    · have hlong2 : decide (600 < m) = false := by simp [hm]
      have HKI : Hid (Calls Tryd.prog 35 #[.slice A n c] w fun e w' => if rightB s then (∃ A2 c2, e = .returned (.tuple #[.slice A2 (kidsL s).length c2, .int .i64 0]) ∧ Fl.Own w' w.heap.size (.slice A2 (kidsL s).length c2) (kidsL s) ∧ Below w.heap.size w w')
        else (e = .returned (.tuple #[.slice none 0 0, .int .i64 161]) ∧ Below w.heap.size w w')) := Lib.hid (kidsC w ht A n c s hr hc (by omega))
      have HRR : Hid (∀ W, Below w.heap.size w W → Calls Tryd.prog 21 #[.slice A n c] W fun e w' => e = .returned (.bool (rightB s)) ∧ Below W.heap.size W w') := Lib.hid fun W h => by
        rw [right_eq]; exact rRightC W A n c s (hr.below h) hc (by omega)
      have HLI : Hid (∀ W, Calls Tryd.prog 36 #[.int .i64 15] W (RetS W (allL 15))) := Lib.hid fun W => by
        rw [← list_15]; exact rListC 15 W
      have HOP : rightB s = true → Hid (∀ W y, Below w.heap.size w W → Calls Tryd.prog 25 #[.slice A n c, .string y] W fun e w' => ∃ A2 c2, e = .returned (.agg #[.int .i64 ((n : Int) - ((askS y s).length : Int)), .slice A2 (askP y s).length c2, .bool false]) ∧ Rd w' A2 (askP y s).length (askP y s) ∧ Below W.heap.size W w') := fun hR => Lib.hid fun W y h => by
        have h1 := rOpenC W A n c s y (hr.below h) hc (by omega)
        rw [rS_eq (right_CC hR), rP_eq (right_CC hR)] at h1
        exact h1.mono fun e w' ⟨A2, c2, q1, q2, q3⟩ => ⟨A2, c2, q1, q2.1, q3⟩
      have HNO : Hid (∀ W y A2 c2, Rd W A2 (askP y s).length (askP y s) → Calls Tryd.prog 24 #[.agg #[.int .i64 ((n : Int) - ((askS y s).length : Int)), .slice A2 (askP y s).length c2, .bool false]] W fun e w' => e = .returned (.bool (stillB s y)) ∧ Below W.heap.size W w') := Lib.hid fun W y A2 c2 h => by
        have h1 := nothingC W ((n : Int) - ((askS y s).length : Int)) false A2 (askP y s).length c2 (askP y s) h (by have := askP_4 y s; omega)
        rw [hr.1, nothing_still, ← hr.1] at h1
        exact h1
      have HSM : Hid (∀ W A2 A3 q c2 c3 (L : List ByteArray), Rd W A2 q L → Rd W A3 q L → q ≤ 100000 → Calls Tryd.prog 23 #[.slice A2 q c2, .slice A3 q c3] W fun e w' => e = .returned (.bool true) ∧ Below W.heap.size W w') := Lib.hid fun W A2 A3 q c2 c3 L h1 h2 h3 => by
        have := lSame (c := c2) (d := c3) W h1 h2 (by omega) (by omega)
        rwa [same_self] at this
      have HRU : Hid (∀ W, Below w.heap.size w W → Calls Tryd.prog 37 #[.slice A1 m c1] W (RunP W l)) := Lib.hid fun W h => runC W (ht.below h) A1 m c1 l (hr1.below h) (by omega)
      have HPU : Hid (∀ W A2 q c2 (st : List ByteArray) x, Rd W A2 q st → q ≤ c2 → c2 ≤ 9223372036854775807 → rightB st = true → q ≤ 100000 → Calls Tryd.prog 38 #[.slice A2 q c2, .string x] W fun e w' => ∃ A3 c3, e = .returned (.slice A3 (upN st x).length c3) ∧ Fl.Own w' W.heap.size (.slice A3 (upN st x).length c3) (upN st x) ∧ Below W.heap.size W w') :=
        Lib.hid fun W A2 q c2 st x h1 h2 h3 h4 h5 => pushR W A2 q c2 st x h1 h2 h3 (right_CC h4) (by omega)
      clear hr hr1 ht
      have HKI2 : Hid (Calls Tryd.prog 35 #[.slice A n c] w fun e w' => ∃ A2 q c2 L E, e = .returned (.tuple #[.slice A2 q c2, .int .i64 E]) ∧ Fl.Own w' w.heap.size (.slice A2 q c2) L ∧ Hid (rightB s = true → L = kidsL s ∧ E = 0) ∧ Hid (rightB s = false → E = 161 ∧ q = 0) ∧ Below w.heap.size w w') := Lib.hid (HKI.out.mono fun e w' h => by
        split at h
        · next h1 =>
          obtain ⟨A2, c2, rfl, h2, h3⟩ := h
          exact ⟨A2, _, c2, _, _, rfl, h2, Lib.hid fun _ => ⟨rfl, rfl⟩, Lib.hid (fun h4 => by rw [h1] at h4; cases h4), h3⟩
        · next h1 =>
          obtain ⟨rfl, h3⟩ := h
          exact ⟨none, 0, 0, [], 161, rfl, Fl.Own.nil _ _, Lib.hid (fun h4 => absurd h4 h1), Lib.hid fun _ => ⟨rfl, rfl⟩, h3⟩)
      clear HKI
      go_enter Tryd.func11, Tryd.ntmps11
      go_upto_if 29 with (first
        | (go_at_call 14; have _z := hdone; refine (longC A1 m c1 w).mono ?_; rintro e wl ⟨rfl, rfl⟩; rw [hlong2])
        | (go_at_call 14; refine (longC A n c w).mono ?_; rintro e wl ⟨rfl, rfl⟩; rw [hlong]; have hdone := True.intro)
        | (go_at_call 35; refine HKI2.out.mono ?_; rintro e w2 ⟨A2, q2, c2, L2, E2, rfl, ho2, HY2, HN2, hb2⟩)
        | (go_at_call 21; refine (HRR.out _ hb2).mono ?_; rintro e w3 ⟨rfl, hb3⟩))
      have hb23 := seq hb2 hb3
      go_cut [] (fun wx => Below w.heap.size w wx)
      case first =>
        cases hR : rightB s
        · obtain ⟨rfl, rfl⟩ := HN2.out hR
          go_wp2_with (go_at_call 12; refine (numC _ _).mono ?_; rintro e wn ⟨rfl, rfl⟩)
          go_meet
          exact hb23
        · obtain ⟨rfl, rfl⟩ := HY2.out hR
          have HOP2 := HOP hR
          have ho3 := ho2.below hb3
          have hq : Hid (q2 = (kidsL s).length) := Lib.hid (by obtain ⟨A', c', hv⟩ := ho2.form; injection hv)
          have hql : q2 ≤ 2000 := by
            have h1 := taken_len s (allL 15).length
            rw [taken_all s (Nat.le_refl _)] at h1
            have := hq.out
            omega
          have HO3 := Lib.hid ho3
          clear ho2 ho3 HOP HRR HKI2 HRU HPU
          go_upto_block 0 with (go_at_call 36; refine (HLI.out _).mono ?_; rintro e w4 ⟨A4, c4, rfl, ho4, hb4⟩)
          have HO4 := Lib.hid ho4
          have hall := all_len 15
          have hb24 := seq hb23 hb4
          have HS4 : Hid (w3.heap.size ≤ w4.heap.size) := Lib.hid hb4.size
          have HB24 := Lib.hid hb24
          clear ho4
          go_wp2
          go_loopw [7, 40] (fun v i wr => ∃ (j : Nat) (Aw : Option Addr) (qw cw : Nat), j ≤ (allL 15).length ∧ i = .int .i64 j ∧ v = .slice Aw qw cw ∧ Below w4.heap.size w4 wr ∧ Hid (Fl.Own wr w4.heap.size (.slice Aw qw cw) (taken s j))) (fun _ i _ => (allL 15).length - (intOf i).toNat)
          case atStart => exact ⟨0, none, 0, 0, Nat.zero_le _, rfl, rfl, Below.refl _ _, Lib.hid (Fl.Own.nil _ _)⟩
          case round =>
            obtain ⟨j, Aw, qw, cw, hj, rfl, rfl, hnx, hown⟩ := hrel
            by_cases hlt : j < (allL 15).length
            · obtain ⟨b4, o4, rfl, _, hcx⟩ := HO4.out.rd.get hlt
              have hx1 := hcx wr hnx
              have hsn := taken_snoc s hlt
              obtain ⟨y, hy⟩ : ∃ y, y = (allL 15)[j] := ⟨_, rfl⟩
              rw [← hy] at hx1 hsn
              have HSN := Lib.hid hsn
              clear hy hcx hsn
              have hb3' : (j : Int) < ((allL 15).length : Int) := by omega
              have hb0' : (0 : Int) ≤ (j : Int) := by omega
              have hnw := seq HB24.out hnx
              have htl := taken_len s j
              cases hst : stillB s y
              · go_wp2_with (first
                  | (go_at_call 25; refine (HOP2.out _ y hnw).mono ?_; rintro e w5 ⟨A5, c5, rfl, hr5, hb5⟩)
                  | (go_at_call 24; refine (HNO.out _ y A5 c5 hr5).mono ?_; rintro e w6 ⟨rfl, hb6⟩; rw [hst]))
                go_roundw
                case rel => exact ⟨j + 1, Aw, qw, cw, by omega, by go_num, rfl, seq hnx (seq hb5 hb6), Lib.hid (by rw [HSN.out, hst]; simp only [Bool.false_eq_true, if_false, List.append_nil]; exact hown.out.below (seq hb5 hb6))⟩
                case measure => simp [intOf] <;> omega
              · go_upto_region 12 with (first
                  | (go_at_call 25; refine (HOP2.out _ y hnw).mono ?_; rintro e w5 ⟨A5, c5, rfl, hr5, hb5⟩)
                  | (go_at_call 24; refine (HNO.out _ y A5 c5 hr5).mono ?_; rintro e w6 ⟨rfl, hb6⟩; rw [hst]))
                have hb56 := seq hb5 hb6
                have ho7 : Fl.Own (w6.alloc (.cells #[.string y] 9)) w4.heap.size (.slice Aw qw cw) (taken s j) := (hown.out.below hb56).alloc _
                have hb7 := (seq hnx hb56).alloc (seq hnx hb56).size (.cells #[.string y] 9)
                go_wp2_with (at_builtin; refine wpList_append_src _ rfl (.tmp 48) (.tmp 50) 25 rfl w4.heap.size 9 i0 (.string ByteArray.empty) 1 16 Tryd.underlying25 hi hz0 hz1 hzb rfl (by decide) _ _ _ rfl ho7 (some ⟨_, 0, none⟩) 1 1 [.string y] rfl rfl (one_src _ _ _ _ (by first | rfl | simp)) (Lb.one_cell rfl) (by unfold maxLen; omega) (by omega) hb7.size ?_; intro v9 w9 hown9 hgrow9 hrow9; obtain ⟨A9, m9, c9, hv9⟩ := slice_of hown9; subst hv9)
                have ho9 : Fl.Own w9 w4.heap.size (.slice A9 m9 c9) (taken s j ++ [y]) := Own.push hown9
                go_roundw
                case rel => exact ⟨j + 1, A9, m9, c9, by omega, by go_num, rfl, hb7.grown hgrow9 hb7.size (fun k hk => ho7.ge k hk), Lib.hid (by rw [HSN.out, hst]; simp only [if_true]; exact ho9)⟩
                case measure => simp [intOf] <;> omega
            · have hta := Lib.hid (taken_all s (j := j) (by omega))
              have ho8 : Fl.Own wr w4.heap.size (.slice Aw qw cw) (kidsL s) := by rw [← hta.out]; exact hown.out
              obtain rfl : qw = q2 := by
                obtain ⟨A', c', hv⟩ := ho8.form
                injection hv with e1 e2 e3
                have := hq.out
                omega
              have HO8 := Lib.hid ho8
              clear ho8
              go_wp2_with (first
                | (go_at_call 12; refine (numC _ _).mono ?_; rintro e wn ⟨rfl, rfl⟩)
                | (go_at_call 23; refine (HSM.out wr A2 Aw qw c2 cw (kidsL s) ((HO3.out.rd.below hb4).below hnx) HO8.out.rd (by omega)).mono ?_; rintro e w9 ⟨rfl, hb9⟩))
              go_meet
              exact seq (seq HB24.out hnx) hb9
      case rest =>
        have hbc := hcut
        clear HY2 HN2 HKI2 HRR HLI HOP HNO ho2 hb2 hb3 hb23
        cases hA : allB l
        · have HRN : Hid (Calls Tryd.prog 37 #[.slice A1 m c1] wc fun e w' => e = .returned (.tuple #[.slice none 0 0, .int .i64 160]) ∧ Below wc.heap.size wc w') := Lib.hid (by
            have h1 := HRU.out wc hbc
            unfold RunP at h1
            rw [hA] at h1
            exact h1)
          clear HRU HSM
          go_upto_block 2 with (go_at_call 37; refine HRN.out.mono ?_; rintro e w4 ⟨rfl, hb4⟩)
          have hbw4 := seq hbc hb4
          clear hb4
          go_wp2
          go_loopw [12, 69] (fun v i wr => ∃ (j : Nat) (Aw : Option Addr) (qw cw : Nat), j ≤ m ∧ i = .int .i64 j ∧ v = .slice Aw qw cw ∧ Below w4.heap.size w4 wr ∧ Hid (Fl.Own wr w4.heap.size (.slice Aw qw cw) (runL (l.take j))) ∧ Hid (∀ x (hx : x < l.length), x < j → inS l[x] 15 = true)) (fun _ i _ => m - (intOf i).toNat)
          case atStart => exact ⟨0, none, 0, 0, Nat.zero_le _, rfl, rfl, Below.refl _ _, Lib.hid (Fl.Own.nil _ _), Lib.hid fun x hx h => absurd h (Nat.not_lt_zero _)⟩
          case round =>
            obtain ⟨j, Aw, qw, cw, hj, rfl, rfl, hnx, hown, hall⟩ := hrel
            have hnw := seq hbw4 hnx
            by_cases hlt : j < m
            · have hjl : j < l.length := by have := HML.out; omega
              obtain ⟨b4, o4, rfl, _, hcx⟩ := (HR1.out _ (Below.refl _ _)).get hjl
              have hx1 := hcx wr hnw
              have hsn := run_snoc hjl
              have hrr := run_right (l.take j) (fun y hy => by
                obtain ⟨i, hi, rfl⟩ := List.getElem_of_mem hy
                rw [List.getElem_take]
                rw [List.length_take] at hi
                exact hall.out i (by omega) (by omega))
              have hrn := run_len (l.take j)
              rw [List.length_take] at hrn
              have hrn2 : (runL (l.take j)).length ≤ 3000 := by omega
              obtain ⟨st, hst⟩ : ∃ st, st = runL (l.take j) := ⟨_, rfl⟩
              rw [← hst] at hown hsn hrr hrn2
              obtain ⟨x, hx⟩ : ∃ x, x = l[j] := ⟨_, rfl⟩
              rw [← hx] at hx1 hsn
              have HSN := Lib.hid hsn
              have HX := Lib.hid hx
              have HRR2 := Lib.hid hrr
              clear hx hcx hsn hst hrn hrr
              have hb3' : (j : Int) < (m : Int) := by omega
              have hb0' : (0 : Int) ≤ (j : Int) := by omega
              obtain ⟨hcg, hcg2⟩ := own_cap hown.out
              have hqs : qw = st.length := by obtain ⟨A', c', hv⟩ := hown.out.form; injection hv
              have hqw : qw ≤ 3000 := by omega
              clear hqs hrn2
              cases hin : inS x 15
              · go_wp2_with (first
                  | (go_at_call 12; refine (numC _ _).mono ?_; rintro e wn ⟨rfl, rfl⟩)
                  | (go_at_call 22; refine (allowC x _).mono ?_; rintro e w5 ⟨rfl, hb5⟩; rw [hin])
                  | (go_at_call 13; refine (awakeC _ (HT.out _ (seq hnw hb5))).mono ?_; rintro e wa ⟨rfl, hba⟩))
                go_ret
                exact ⟨rfl, seq (seq hnw hb5) hba⟩
              · go_wp2_with (first
                  | (go_at_call 22; refine (allowC x _).mono ?_; rintro e w5 ⟨rfl, hb5⟩; rw [hin])
                  | (go_at_call 38; refine (HPU.out w5 Aw qw cw st x (hown.out.below hb5).rd hcg hcg2 HRR2.out (by omega)).mono ?_; rintro e w6 ⟨A6, c6, rfl, ho6, hb6⟩))
                go_roundw
                case rel => exact ⟨j + 1, A6, _, c6, by omega, by go_num, rfl, seq hnx (seq hb5 hb6), Lib.hid (by rw [HSN.out]; exact own_mono ho6 (seq hnx hb5).size), Lib.hid fun y hy h => by
                  by_cases e : y = j
                  · subst e; rw [← HX.out]; exact hin
                  · exact hall.out y hy (by omega)⟩
                case measure => simp [intOf] <;> omega
            · have hno := all_yes (l := l) (fun y hy => hall.out y hy (by have := HML.out; omega))
              rw [hA] at hno
              cases hno
        · have HRY : Hid (Calls Tryd.prog 37 #[.slice A1 m c1] wc fun e w' => ∃ A2 c2, e = .returned (.tuple #[.slice A2 (runL l).length c2, .int .i64 0]) ∧ Fl.Own w' wc.heap.size (.slice A2 (runL l).length c2) (runL l) ∧ Below wc.heap.size wc w') := Lib.hid (by
            have h1 := HRU.out wc hbc
            unfold RunP at h1
            rw [hA] at h1
            exact h1)
          clear HRU
          have hrl := run_len l
          have hml := HML.out
          obtain ⟨qr, hqr⟩ : ∃ q, q = (runL l).length := ⟨_, rfl⟩
          rw [← hqr] at HRY hrl
          have hrl2 : qr ≤ 3000 := by omega
          have HQR := Lib.hid hqr
          clear hqr hrl hml
          have HALL : Hid (∀ x (hx : x < l.length), inS l[x] 15 = true) := Lib.hid fun x hx => by
            unfold allB at hA
            exact List.all_eq_true.1 hA _ (List.getElem_mem hx)
          go_upto_block 2 with (go_at_call 37; refine HRY.out.mono ?_; rintro e w4 ⟨Ar, cr, rfl, hor, hb4⟩)
          have hbw4 := seq hbc hb4
          have HOR := Lib.hid hor.rd
          clear hb4 hor
          go_wp2
          go_loopw [12, 69] (fun v i wr => ∃ (j : Nat) (Aw : Option Addr) (qw cw : Nat), j ≤ m ∧ i = .int .i64 j ∧ v = .slice Aw qw cw ∧ Below w4.heap.size w4 wr ∧ Hid (Fl.Own wr w4.heap.size (.slice Aw qw cw) (runL (l.take j))) ∧ Hid (∀ x (hx : x < l.length), x < j → inS l[x] 15 = true)) (fun _ i _ => m - (intOf i).toNat)
          case atStart => exact ⟨0, none, 0, 0, Nat.zero_le _, rfl, rfl, Below.refl _ _, Lib.hid (Fl.Own.nil _ _), Lib.hid fun x hx h => absurd h (Nat.not_lt_zero _)⟩
          case round =>
            obtain ⟨j, Aw, qw, cw, hj, rfl, rfl, hnx, hown, hall⟩ := hrel
            have hnw := seq hbw4 hnx
            by_cases hlt : j < m
            · have hjl : j < l.length := by have := HML.out; omega
              obtain ⟨b4, o4, rfl, _, hcx⟩ := (HR1.out _ (Below.refl _ _)).get hjl
              have hx1 := hcx wr hnw
              have hsn := run_snoc hjl
              have hrr := run_right (l.take j) (fun y hy => by
                obtain ⟨i, hi, rfl⟩ := List.getElem_of_mem hy
                rw [List.getElem_take]
                rw [List.length_take] at hi
                exact hall.out i (by omega) (by omega))
              have hrn := run_len (l.take j)
              rw [List.length_take] at hrn
              have hrn2 : (runL (l.take j)).length ≤ 3000 := by omega
              obtain ⟨st, hst⟩ : ∃ st, st = runL (l.take j) := ⟨_, rfl⟩
              rw [← hst] at hown hsn hrr hrn2
              obtain ⟨x, hx⟩ : ∃ x, x = l[j] := ⟨_, rfl⟩
              rw [← hx] at hx1 hsn
              have HSN := Lib.hid hsn
              have HX := Lib.hid hx
              have HRR2 := Lib.hid hrr
              clear hx hcx hsn hst hrn hrr
              have hb3' : (j : Int) < (m : Int) := by omega
              have hb0' : (0 : Int) ≤ (j : Int) := by omega
              obtain ⟨hcg, hcg2⟩ := own_cap hown.out
              have hqs : qw = st.length := by obtain ⟨A', c', hv⟩ := hown.out.form; injection hv
              have hqw : qw ≤ 3000 := by omega
              clear hqs hrn2
              have hin : inS x 15 = true := by rw [HX.out]; exact HALL.out j hjl
              go_wp2_with (first
                | (go_at_call 22; refine (allowC x _).mono ?_; rintro e w5 ⟨rfl, hb5⟩; rw [hin])
                | (go_at_call 38; refine (HPU.out w5 Aw qw cw st x (hown.out.below hb5).rd hcg hcg2 HRR2.out (by omega)).mono ?_; rintro e w6 ⟨A6, c6, rfl, ho6, hb6⟩))
              go_roundw
              case rel => exact ⟨j + 1, A6, _, c6, by omega, by go_num, rfl, seq hnx (seq hb5 hb6), Lib.hid (by rw [HSN.out]; exact own_mono ho6 (seq hnx hb5).size), Lib.hid fun y hy h => by
                by_cases e : y = j
                · subst e; rw [← HX.out]; exact hin
                · exact hall.out y hy (by omega)⟩
              case measure => simp [intOf] <;> omega
            · have ho8 : Fl.Own wr w4.heap.size (.slice Aw qw cw) (runL l) := by
                have h1 := hown.out
                rwa [List.take_of_length_le (by have := HML.out; omega)] at h1
              obtain rfl : qw = qr := by
                obtain ⟨A', c', hv⟩ := ho8.form
                injection hv with e1 e2 e3
                have := HQR.out
                omega
              have HO8 := Lib.hid ho8
              clear ho8
              go_wp2_with (first
                | (go_at_call 12; refine (numC _ _).mono ?_; rintro e wn ⟨rfl, rfl⟩)
                | (go_at_call 23; refine (HSM.out wr Ar Aw qw cr cw (runL l) (HOR.out.below hnx) HO8.out.rd (by omega)).mono ?_; rintro e w9 ⟨rfl, hb9⟩)
                | (go_at_call 13; refine (awakeC _ (HT.out _ (seq hnw hb9))).mono ?_; rintro e wa ⟨rfl, hba⟩))
              go_ret
              exact ⟨rfl, seq (seq hnw hb9) hba⟩
end Go.Proofs.YtddgpkdhakjjaaaDoor.nestKids
