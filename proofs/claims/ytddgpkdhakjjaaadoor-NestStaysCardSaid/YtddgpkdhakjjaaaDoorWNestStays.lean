/- NestStays: the stack stays right, behind a name, a text, an end tag; and behind a plan nothing more is asked. No condition. (The walk.) -/
import Derived.Deep.Cut
import Derived.Test.YtddgpkdhakjjaaaDoorPu
import Derived.Test.YtddgpkdhakjjaaaDoorTx
import Derived.Test.YtddgpkdhakjjaaaDoorLw
import Derived.Test.YtddgpkdhakjjaaaDoorAw
set_option linter.unusedVariables false
set_option linter.unusedSimpArgs false
namespace Go.Proofs.YtddgpkdhakjjaaaDoor.nestStays
open Go.Proofs.YtddgpkdhakjjaaaDoor.Np hiding is_li is_dt is_dd is_textarea is_a
open Go.RowKit Lb Fl Is Tp Wk Wp Wi Wo Pt Oc Go.Proofs.YtddgpkdhakjjaaaDoor.Ask Rt Go.Proofs.YtddgpkdhakjjaaaDoor.Op Aw Pm Lt Lw Sp Ap En El Rn Ri Rj Rp Rq Go.Proofs.YtddgpkdhakjjaaaDoor.Eq Tx Sl Sm Pu

theorem upL_nil : upL ⟨#[]⟩ = [] := by decide +kernel
theorem text_again {s : List ByteArray} (b : Bool) (h : rightB s = true) : ∃ k1, k1 ≤ s.length ∧ txK s b = (s.length : Int) - (k1 : Int) ∧ rightB (s.take k1 ++ txP s b) = true ∧
    (txD s b = false → txK (s.take k1 ++ txP s b) b = 0 ∧ txP (s.take k1 ++ txP s b) b = [] ∧ txD (s.take k1 ++ txP s b) b = false) ∧ (txD s b = true → txK s b = 0 ∧ txP s b = []) := by
  cases hg : txGo s b
  · have hK : txK s b = 0 := by unfold txK; rw [hg]; rfl
    have hP : txP s b = [] := by unfold txP; rw [hg]; rfl
    refine ⟨s.length, Nat.le_refl _, by rw [hK]; omega, by rw [hP, List.append_nil, List.take_length]; exact h, fun hd => ?_, fun _ => ⟨hK, hP⟩⟩
    rw [hP, List.append_nil, List.take_length]
    exact ⟨hK, hP, hd⟩
  · have hK : txK s b = (s.length : Int) - ((inS2 s []).length : Int) := by unfold txK; rw [hg]; rfl
    have hP : txP s b = inP2 s [] := by unfold txP; rw [hg]; rfl
    have ht : is_textarea (topS s) = false := by
      unfold txGo at hg
      simp only [Bool.and_eq_true, Bool.not_eq_true'] at hg
      exact hg.2.1
    have hr := text_right h ht
    refine ⟨(inS2 s []).length, (inS2_pre s).length_le, hK, by rw [hP, inS2_take]; exact hr.1, fun _ => ?_, fun hd => ?_⟩
    · rw [hP, inS2_take]
      have h2 := in_id hr.2
      have hw : wantB (topS (inS2 s [] ++ inP2 s [])) = false := by
        obtain ⟨q1, q2, q3, q4, q5, q6⟩ := hr.2
        unfold wantB
        rw [q1, q2, q3, q4, q5, q6]
        rfl
      refine ⟨?_, ?_, ?_⟩
      · unfold txK
        split
        · rw [h2.1]; omega
        · rfl
      · unfold txP
        split
        · exact h2.2
        · rfl
      · unfold txD
        rw [hw]
        simp
    · unfold txGo at hg
      unfold txD at hd
      simp only [Bool.and_eq_true, Bool.not_eq_true'] at hg hd
      rw [hd.2.2.1, hd.2.2.2] at hg
      exact absurd hg.2.2 (by decide)
theorem end_cut (s : List ByteArray) (y : ByteArray) : ∃ e1, e1 ≤ s.length ∧ endV s y = (s.length : Int) - (e1 : Int) := by
  have h1 := endAt_ge s y
  have h2 := endAt_lt s y
  unfold endV
  split
  · split
    · exact ⟨s.length, Nat.le_refl _, by omega⟩
    · exact ⟨(endAt s y).toNat, by omega, by omega⟩
  · exact ⟨s.length, Nat.le_refl _, by omega⟩
theorem may_yes {s : List ByteArray} {y : ByteArray} (h : rightB s = true) (h15 : inS y 15 = true) (hs : stillB s y = true) : opE s y = 0 ∧ opK s y = 0 ∧ opP s y = [] := by
  unfold stillB at hs
  simp only [Bool.and_eq_true, beq_iff_eq] at hs
  refine ⟨?_, ?_, ?_⟩
  · unfold opE; rw [h, h15]; rfl
  · unfold opK; rw [h, h15]
    show (s.length : Int) - _ = 0
    omega
  · unfold opP; rw [h, h15]
    exact List.eq_nil_of_length_eq_zero (by show (askP y s).length = 0; omega)
theorem up_right {s : List ByteArray} {y : ByteArray} (h : rightB s = true) (h15 : inS y 15 = true) : rightB (askS y s ++ askP y s ++ upL y) = true := by
  unfold upL
  split
  · rw [List.append_nil]; exact ask_right h
  · cases hv : inS y 0
    · exact ask_push h h15 hv
    · rw [if_pos rfl, List.append_nil]; exact ask_right h
theorem askP_len (y : ByteArray) (s : List ByteArray) : (askP y s).length ≤ 4 := askP_4 y s
theorem txP_len (s : List ByteArray) (b : Bool) : (txP s b).length ≤ 4 := by
  unfold txP
  split
  · have := inP2_len s []
    simp only [List.length_nil] at this
    omega
  · exact Nat.zero_le _
set_option maxHeartbeats 8000000 in
set_option maxRecDepth 100000 in
theorem walk (w : World) (ht : Tab w) (A : Option Addr) (n c : Nat) (s : List ByteArray) (y : ByteArray) (b : Bool) (hr : Rd w A n s) (hc : n ≤ c) (hc2 : c ≤ 8796093021952) :
    Calls Tryd.prog 10 #[.slice A n c, .string y, .bool b] w fun e w' => e = .returned (.bool true) ∧ Below w.heap.size w w' := by
  have HT : Hid (∀ W, Below w.heap.size w W → Tab W) := Lib.hid fun W h => ht.below h
  have HRC : Hid (Calls Tryd.prog 15 #[.slice A n c] w fun e w' => e = .returned (.bool (rightB s)) ∧ Below w.heap.size w w') := Lib.hid (rightC w ht A n c s hr hc (by omega))
  by_cases hn : 600 < n
  · have hlong : decide (600 < n) = true := by simp [hn]
    clear hr ht
    go_enter Tryd.func10, Tryd.ntmps10
    go_wp2_with (first
      | (go_at_call 14; refine (longC _ _ _ _).mono ?_; rintro e wl ⟨rfl, rfl⟩; rw [hlong])
      | (go_at_call 13; refine (awakeC _ (HT.out _ (Below.refl _ _))).mono ?_; rintro e wa ⟨rfl, hba⟩))
    go_ret
    exact ⟨rfl, hba⟩
  · have hlong : decide (600 < n) = false := by simp [hn]
    cases hR : rightB s
    · rw [hR] at HRC
      clear hr ht
      go_enter Tryd.func10, Tryd.ntmps10
      go_wp2_with (first
        | (go_at_call 14; refine (longC _ _ _ _).mono ?_; rintro e wl ⟨rfl, rfl⟩; rw [hlong])
        | (go_at_call 15; refine HRC.out.mono ?_; rintro e w1 ⟨rfl, hb1⟩)
        | (go_at_call 13; refine (awakeC _ (HT.out _ hb1)).mono ?_; rintro e wa ⟨rfl, hba⟩))
      go_ret
      exact ⟨rfl, seq hb1 hba⟩
    · rw [hR] at HRC
      have hE : endE s = 0 := by unfold endE; rw [hR]; rfl
      obtain ⟨k1, hk1, hK1, hR1, hN1, hD1⟩ := text_again b hR
      obtain ⟨e1, he1, hV⟩ := end_cut s y
      have hm1 := txP_len s b
      have hEr : rightB (s.take e1) = true := right_pre hR (take_pre' _ _)
      have HTX : Hid (∀ W, Below w.heap.size w W → Calls Tryd.prog 31 #[.slice A n c, .bool b] W (Gives W ((n : Int) - (k1 : Int)) (txP s b) (txD s b) 0)) := Lib.hid fun W h => by
        have h1 := textC W (ht.below h) A n c s b (hr.below h) hc (by omega)
        rwa [hE, hK1, ← hr.1] at h1
      have HEN : Hid (∀ W, Below w.heap.size w W → Calls Tryd.prog 30 #[.slice A n c, .string y] W fun e w' => e = .returned (.tuple #[.int .i64 ((n : Int) - (e1 : Int)), .int .i64 0]) ∧ Below W.heap.size W w') := Lib.hid fun W h => by
        have h1 := endC W (ht.below h) A n c s y (hr.below h) hc (by omega)
        rwa [hE, hV, ← hr.1] at h1
      have HPU : Hid (∀ W A2 m2 c2 k (P : List ByteArray) D x, Below w.heap.size w W → Rd W A2 m2 P → k ≤ n → m2 ≤ 10000000 → Calls Tryd.prog 34 #[.slice A n c, .agg #[.int .i64 ((n : Int) - (k : Int)), .slice A2 m2 c2, .bool D], .string x] W fun e w' =>
          ∃ A3 c3, e = .returned (.tuple #[.slice A3 (s.take k ++ P ++ upL x).length c3, .bool true]) ∧ Fl.Own w' W.heap.size (.slice A3 (s.take k ++ P ++ upL x).length c3) (s.take k ++ P ++ upL x) ∧ Below W.heap.size W w') := Lib.hid fun W A2 m2 c2 k P D x h h2 h3 h4 =>
        pushC W (ht.below h) A A2 n c m2 c2 k s P D x (hr.below h) h2 hc (by omega) h3 (by omega) h4
      have HRT : Hid (∀ W A2 n2 c2 l, Below w.heap.size w W → Fl.Own W w.heap.size (.slice A2 n2 c2) l → rightB l = true → Calls Tryd.prog 15 #[.slice A2 n2 c2] W fun e w' => e = .returned (.bool true) ∧ Below W.heap.size W w') := Lib.hid fun W A2 n2 c2 l h h2 h3 => by
        obtain ⟨h4, h5⟩ := own_cap h2
        have h1 := rightC W (ht.below h) A2 n2 c2 l h2.rd h4 h5
        rwa [h3] at h1
      have HRE : Hid (∀ W, Below w.heap.size w W → Calls Tryd.prog 15 #[.slice A e1 c] W fun e w' => e = .returned (.bool true) ∧ Below W.heap.size W w') := Lib.hid fun W h => by
        have h1 := rightC W (ht.below h) A e1 c (s.take e1) (rd_take (hr.below h) (by have := hr.1; omega)) (by have := hr.1; omega) (by omega)
        rwa [hEr] at h1
      have HTX2 : Hid (∀ W A2 n2 c2 l, Below w.heap.size w W → Fl.Own W w.heap.size (.slice A2 n2 c2) l → rightB l = true → Calls Tryd.prog 31 #[.slice A2 n2 c2, .bool b] W (Gives W (txK l b) (txP l b) (txD l b) 0)) := Lib.hid fun W A2 n2 c2 l h h2 h3 => by
        obtain ⟨h4, h5⟩ := own_cap h2
        have h1 := textC W (ht.below h) A2 n2 c2 l b h2.rd h4 h5
        rwa [show endE l = 0 from by unfold endE; rw [h3]; rfl] at h1
      have HOP : Hid (∀ W, Below w.heap.size w W → Calls Tryd.prog 19 #[.slice A n c, .string y] W (Gives W (opK s y) (opP s y) false (opE s y))) := Lib.hid fun W h => openC W (ht.below h) A n c s y (hr.below h) hc (by omega)
      have HMY : Hid (∀ W A2 n2 c2 l, Below w.heap.size w W → Fl.Own W w.heap.size (.slice A2 n2 c2) l → rightB l = true → inS y 15 = true → stillB l y = true → Calls Tryd.prog 20 #[.slice A2 n2 c2, .string y] W fun e w' => e = .returned (.tuple #[.bool true, .int .i64 0]) ∧ Below W.heap.size W w') := Lib.hid fun W A2 n2 c2 l h h2 h3 h4 h5 => by
        obtain ⟨h6, h7⟩ := own_cap h2
        have h1 := mayC W (ht.below h) A2 n2 c2 l y h2.rd h6 h7
        obtain ⟨q1, q2, q3⟩ := may_yes h3 h4 h5
        rw [q1, q2, q3] at h1
        exact h1
      have HS1 : Hid (rightB (s.take k1 ++ txP s b) = true) := Lib.hid hR1
      have hnl := hr.1
      rw [← hnl] at hk1 he1
      have hY : inS y 15 = true → opE s y = 0 ∧ opK s y = (n : Int) - ((askS y s).length : Int) ∧ opP s y = askP y s := fun h => by
        refine ⟨?_, ?_, ?_⟩
        · unfold opE; rw [hR, h]; rfl
        · unfold opK; rw [hR, h, hnl]; rfl
        · unfold opP; rw [hR, h]; rfl
      have hNo : inS y 15 = false → opE s y = 160 ∧ opK s y = 0 ∧ opP s y = [] := fun h => by
        have h1 : opE s y = 160 := by unfold opE; rw [hR, h]; rfl
        exact ⟨h1, op_off (by rw [h1]; decide)⟩
      have hp4 := askP_len y s
      have hsl := (askS_pre y s).length_le
      rw [← hnl] at hsl
      have hq : inS y 15 = true → rightB (askS y s ++ askP y s) = true ∧ stillB (askS y s ++ askP y s) y = true ∧ rightB (askS y s ++ askP y s ++ upL y) = true := fun h => ⟨ask_right hR, ask_still hR, up_right hR h⟩
      have hst := askS_take y s
      have HY := Lib.hid hY
      have HNO := Lib.hid hNo
      have HQ := Lib.hid hq
      have HST := Lib.hid hst
      have HNT : Hid (∀ W A2 c2, Calls Tryd.prog 24 #[.agg #[.int .i64 0, .slice A2 0 c2, .bool false]] W fun e w' => e = .returned (.bool true) ∧ Below W.heap.size W w') := Lib.hid fun W A2 c2 => by
        have := nothingC W 0 false A2 0 c2 [] ⟨rfl, fun j hj => absurd hj (Nat.not_lt_zero _)⟩ (by omega)
        rwa [show planB 0 0 false false [] [] = true from by decide] at this
      rw [hK1, ← hnl] at hD1
      have HN1 := Lib.hid hN1
      have HD1 := Lib.hid hD1
      have hnv : ¬ (n : Int) - (e1 : Int) < 0 := by omega
      have hnv2 : ¬ (n : Int) < (n : Int) - (e1 : Int) := by omega
      have hsb : (n : Int) - ((n : Int) - (e1 : Int)) = (e1 : Int) := by omega
      have hwr : IntKind.i64.wrap ((n : Int) - ((n : Int) - (e1 : Int))) = (e1 : Int) := by rw [IntKind.wrap_i64] <;> omega
      have hwe : IntKind.i64.wrap (e1 : Int) = (e1 : Int) := by rw [IntKind.wrap_i64] <;> omega
      have hwc : (0 : Int) ≤ (e1 : Int) ∧ (e1 : Int) ≤ (c : Int) := by omega
      have hec : e1 ≤ c := by omega
      clear hr ht hR hE hK1 hR1 hN1 hD1 hV hEr hY hNo hq hst hnl
      generalize txP s b = P1 at *
      obtain ⟨m1, hPm⟩ : ∃ m, P1.length = m := ⟨_, rfl⟩
      unfold Gives at HTX HTX2 HOP
      rw [hPm] at HTX hm1
      have HM1 := Lib.hid hPm
      clear hPm
      have HS2 : Hid (inS y 15 = true → rightB (askS y s ++ askP y s) = true) := Lib.hid fun h => (HQ.out h).1
      obtain ⟨k2, hk2⟩ : ∃ k, k = (askS y s).length := ⟨_, rfl⟩
      have hst2 : s.take k2 = askS y s := by rw [hk2]; exact HST.out
      rw [← hk2] at hsl
      obtain ⟨m3, hm3⟩ : ∃ m, m = (askP y s).length := ⟨_, rfl⟩
      rw [← hm3] at hp4
      have HOP1 : inS y 15 = true → Hid (∀ W, Below w.heap.size w W → Calls Tryd.prog 19 #[.slice A n c, .string y] W (fun e w' => ∃ A2 c2, e = .returned (.tuple #[.agg #[.int .i64 ((n : Int) - (k2 : Int)), .slice A2 m3 c2, .bool false], .int .i64 0]) ∧ Fl.Own w' W.heap.size (.slice A2 m3 c2) (askP y s) ∧ Below W.heap.size W w')) := fun h => Lib.hid fun W h2 => by
        have h1 := HOP.out W h2
        obtain ⟨q1, q2, q3⟩ := HY.out h
        rw [q1, q2, q3, ← hk2, ← hm3] at h1
        exact h1
      have HOP0 : inS y 15 = false → Hid (∀ W, Below w.heap.size w W → Calls Tryd.prog 19 #[.slice A n c, .string y] W (fun e w' => ∃ A2 c2, e = .returned (.tuple #[.agg #[.int .i64 0, .slice A2 0 c2, .bool false], .int .i64 160]) ∧ Fl.Own w' W.heap.size (.slice A2 0 c2) [] ∧ Below W.heap.size W w')) := fun h => Lib.hid fun W h2 => by
        have h1 := HOP.out W h2
        obtain ⟨q1, q2, q3⟩ := HNO.out h
        rw [q1, q2, q3] at h1
        exact h1
      have HPA : Hid (∀ W A2 c2 D, Below w.heap.size w W → Rd W A2 m1 P1 → Calls Tryd.prog 34 #[.slice A n c, .agg #[.int .i64 ((n : Int) - (k1 : Int)), .slice A2 m1 c2, .bool D], .string ⟨#[]⟩] W fun e w' =>
          ∃ A3 c3, e = .returned (.tuple #[.slice A3 (s.take k1 ++ P1).length c3, .bool true]) ∧ Fl.Own w' W.heap.size (.slice A3 (s.take k1 ++ P1).length c3) (s.take k1 ++ P1) ∧ Below W.heap.size W w') := Lib.hid fun W A2 c2 D h h2 => by
        have h1 := HPU.out W A2 m1 c2 k1 P1 D ⟨#[]⟩ h h2 hk1 (by omega)
        rwa [upL_nil, List.append_nil] at h1
      have HPB : Hid (∀ W A2 c2, Below w.heap.size w W → Rd W A2 m3 (askP y s) → Calls Tryd.prog 34 #[.slice A n c, .agg #[.int .i64 ((n : Int) - (k2 : Int)), .slice A2 m3 c2, .bool false], .string ⟨#[]⟩] W fun e w' =>
          ∃ A3 c3, e = .returned (.tuple #[.slice A3 (askS y s ++ askP y s).length c3, .bool true]) ∧ Fl.Own w' W.heap.size (.slice A3 (askS y s ++ askP y s).length c3) (askS y s ++ askP y s) ∧ Below W.heap.size W w') := Lib.hid fun W A2 c2 h h2 => by
        have h1 := HPU.out W A2 m3 c2 k2 (askP y s) false ⟨#[]⟩ h h2 hsl (by omega)
        rwa [upL_nil, List.append_nil, hst2] at h1
      have HPC : Hid (∀ W A2 c2, Below w.heap.size w W → Rd W A2 m3 (askP y s) → Calls Tryd.prog 34 #[.slice A n c, .agg #[.int .i64 ((n : Int) - (k2 : Int)), .slice A2 m3 c2, .bool false], .string y] W fun e w' =>
          ∃ A3 c3, e = .returned (.tuple #[.slice A3 (askS y s ++ askP y s ++ upL y).length c3, .bool true]) ∧ Fl.Own w' W.heap.size (.slice A3 (askS y s ++ askP y s ++ upL y).length c3) (askS y s ++ askP y s ++ upL y) ∧ Below W.heap.size W w') := Lib.hid fun W A2 c2 h h2 => by
        have h1 := HPU.out W A2 m3 c2 k2 (askP y s) false y h h2 hsl (by omega)
        rwa [hst2] at h1
      clear HPU HOP HY HNO HST hst2 hk2 hm3 hp4 hsl
      generalize askS y s ++ askP y s ++ upL y = S3 at *
      generalize askS y s ++ askP y s = S2 at *
      generalize askP y s = P3 at *
      generalize s.take k1 ++ P1 = S1 at *
      obtain ⟨q1, hq1⟩ : ∃ q, S1.length = q := ⟨_, rfl⟩
      obtain ⟨q2, hq2⟩ : ∃ q, S2.length = q := ⟨_, rfl⟩
      obtain ⟨q3, hq3⟩ : ∃ q, S3.length = q := ⟨_, rfl⟩
      rw [hq1] at HPA
      rw [hq2] at HPB
      rw [hq3] at HPC
      clear hq1 hq2 hq3
      cases hD : txD s b
      · rw [hD] at HTX HN1 HD1
        clear hD
        cases h15 : inS y 15
        · have HO := HOP0 h15
          clear HOP0 HOP1 HQ HS2
          have hs1 := HS1.out
          obtain ⟨hz1, hz2, hz3⟩ := HN1.out rfl
          have HT2 : Hid (∀ W A2 c2, Below w.heap.size w W → Fl.Own W w.heap.size (.slice A2 q1 c2) S1 → Calls Tryd.prog 31 #[.slice A2 q1 c2, .bool b] W (fun e w' => ∃ A3 c3, e = .returned (.tuple #[.agg #[.int .i64 0, .slice A3 0 c3, .bool false], .int .i64 0]) ∧ Fl.Own w' W.heap.size (.slice A3 0 c3) [] ∧ Below W.heap.size W w')) := Lib.hid fun W A2 c2 h1 h2 => by
            have h3 := HTX2.out W A2 q1 c2 S1 h1 h2 hs1
            rw [hz1, hz2, hz3] at h3
            exact h3
          clear hz1 hz2 hz3
          clear HTX2 HN1 HD1
          go_enter Tryd.func10, Tryd.ntmps10
          go_upto_region 4 with (first
            | (go_at_call 14; refine (longC _ _ _ _).mono ?_; rintro e wl ⟨rfl, rfl⟩; rw [hlong])
            | (go_at_call 15; refine HRC.out.mono ?_; rintro e w1 ⟨rfl, hb1⟩)
            | (go_at_call 31; refine (HTX.out _ hb1).mono ?_; rintro e w2 ⟨A2, c2, rfl, ho2, hb2⟩))
          obtain ⟨W2, hW2⟩ : ∃ W, W = w2.alloc (.cells #[.int .i64 ((n : Int) - (k1 : Int)), .slice A2 m1 c2, .bool false] 33) := ⟨_, rfl⟩
          have hbW2 : Below w.heap.size w W2 := hW2 ▸ (seq hb1 hb2).alloc (seq hb1 hb2).size _
          have hp2 : Pl W2 w2.heap.size (.int .i64 ((n : Int) - (k1 : Int))) (.slice A2 m1 c2) (.bool false) := hW2 ▸ Pl.new w2 _ _ _ _ rfl
          have hoP : Rd W2 A2 m1 P1 := (hW2 ▸ ho2.alloc (.cells #[.int .i64 ((n : Int) - (k1 : Int)), .slice A2 m1 c2, .bool false] 33) : Fl.Own W2 w1.heap.size (.slice A2 m1 c2) P1).rd
          rw [← hW2]
          clear hW2 ho2 hb2 hb1
          go_upto_region 7 with (first
            | (go_at_call 30; refine (HEN.out _ hbW2).mono ?_; rintro e w3 ⟨rfl, hb3⟩)
            | (go_at_call 12; refine (numC _ _).mono ?_; rintro e wn ⟨rfl, rfl⟩))
          have hbw3 := seq hbW2 hb3
          have hp3 := hp2.below hb3
          have e0 := hp3.c0
          have e1 := hp3.c1
          have e2 := hp3.c2
          go_upto_region 8 with (go_at_call 34; refine (HPA.out w3 A2 c2 false hbw3 (hoP.below hb3)).mono ?_; rintro e w4 ⟨A4, c4, rfl, ho4, hb4⟩)
          have hbw4 := seq hbw3 hb4
          have ho4w : Fl.Own w4 w.heap.size (.slice A4 q1 c4) S1 := own_mono ho4 hbw3.size
          clear e0 e1 e2
          go_upto_region 10 with (first
            | (go_at_call 15; have _z := hdone; refine (HRE.out w5 (seq hbw4 hb5)).mono ?_; rintro e w6 ⟨rfl, hb6⟩)
            | (go_at_call 15; refine (HRT.out w4 A4 q1 c4 S1 hbw4 ho4w hs1).mono ?_; rintro e w5 ⟨rfl, hb5⟩; have hdone := True.intro))
          have hbw6 := seq (seq hbw4 hb5) hb6
          have ho6 := ho4w.below (seq hb5 hb6)
          go_upto_region 11 with (go_at_call 31; refine (HT2.out w6 A4 c4 hbw6 ho6).mono ?_; rintro e w7 ⟨A7, c7, rfl, ho7, hb7⟩)
          obtain ⟨W7, hW7⟩ : ∃ W, W = w7.alloc (.cells #[.int .i64 0, .slice A7 0 c7, .bool false] 33) := ⟨_, rfl⟩
          have hb67 : Below w6.heap.size w6 W7 := hW7 ▸ hb7.alloc hb7.size _
          have hp7 : Pl W7 w7.heap.size (.int .i64 0) (.slice A7 0 c7) (.bool false) := hW7 ▸ Pl.new w7 _ _ _ _ rfl
          rw [← hW7]
          clear hW7 ho7 hb7
          have hbw7 := seq hbw6 hb67
          have hp27 := hp3.below (seq hb4 (seq (seq hb5 hb6) hb67))
          have f0 := hp27.c0
          have f1 := hp27.c1
          have f2 := hp27.c2
          have g0 := hp7.c0
          have g1 := hp7.c1
          have g2 := hp7.c2
          go_upto_region 13 with (first
            | (go_at_call 12; refine (numC _ _).mono ?_; rintro e wn ⟨rfl, rfl⟩)
            | (go_at_call 24; refine (HNT.out _ _ _).mono ?_; rintro e w8 ⟨rfl, hb8⟩; have hp28 := hp27.below hb8; have i0 := hp28.c0; have i1 := hp28.c1; have i2 := hp28.c2))
          have hbw8 := seq hbw7 hb8
          clear i0 i1 i2
          clear f0 f1 f2 g0 g1 g2
          go_upto_region 14 with (go_at_call 19; refine (HO.out w8 hbw8).mono ?_; rintro e w9 ⟨A9, c9, rfl, ho9, hb9⟩)
          obtain ⟨W9, hW9⟩ : ∃ W, W = w9.alloc (.cells #[.int .i64 0, .slice A9 0 c9, .bool false] 33) := ⟨_, rfl⟩
          have hb89 : Below w8.heap.size w8 W9 := hW9 ▸ hb9.alloc hb9.size _
          have hp9 : Pl W9 w9.heap.size (.int .i64 0) (.slice A9 0 c9) (.bool false) := hW9 ▸ Pl.new w9 _ _ _ _ rfl
          have hr9 : Rd W9 A9 0 [] := (hW9 ▸ ho9.alloc (.cells #[.int .i64 0, .slice A9 0 c9, .bool false] 33) : Fl.Own W9 w8.heap.size (.slice A9 0 c9) []).rd
          rw [← hW9]
          clear hW9 ho9 hb9
          have hbw9 := seq hbw8 hb89
          go_wp2_with (first
            | (go_at_call 12; refine (numC _ _).mono ?_; rintro e wn ⟨rfl, rfl⟩)
            | (go_at_call 17; refine (nIn y 15 _ (HT.out _ hbw9)).mono ?_; rintro e w10 ⟨rfl, hb10⟩; rw [h15])
            | (go_at_call 13; refine (awakeC _ (HT.out _ (seq hbw9 hb10))).mono ?_; rintro e wa ⟨rfl, hba⟩))
          go_ret
          exact ⟨rfl, seq (seq hbw9 hb10) hba⟩
        · have HO := HOP1 h15
          have hQ := HQ.out h15
          clear HOP0 HOP1 HQ HS2
          have hs1 := HS1.out
          obtain ⟨hz1, hz2, hz3⟩ := HN1.out rfl
          have HT2 : Hid (∀ W A2 c2, Below w.heap.size w W → Fl.Own W w.heap.size (.slice A2 q1 c2) S1 → Calls Tryd.prog 31 #[.slice A2 q1 c2, .bool b] W (fun e w' => ∃ A3 c3, e = .returned (.tuple #[.agg #[.int .i64 0, .slice A3 0 c3, .bool false], .int .i64 0]) ∧ Fl.Own w' W.heap.size (.slice A3 0 c3) [] ∧ Below W.heap.size W w')) := Lib.hid fun W A2 c2 h1 h2 => by
            have h3 := HTX2.out W A2 q1 c2 S1 h1 h2 hs1
            rw [hz1, hz2, hz3] at h3
            exact h3
          clear hz1 hz2 hz3
          clear HTX2 HN1 HD1
          go_enter Tryd.func10, Tryd.ntmps10
          go_upto_region 4 with (first
            | (go_at_call 14; refine (longC _ _ _ _).mono ?_; rintro e wl ⟨rfl, rfl⟩; rw [hlong])
            | (go_at_call 15; refine HRC.out.mono ?_; rintro e w1 ⟨rfl, hb1⟩)
            | (go_at_call 31; refine (HTX.out _ hb1).mono ?_; rintro e w2 ⟨A2, c2, rfl, ho2, hb2⟩))
          obtain ⟨W2, hW2⟩ : ∃ W, W = w2.alloc (.cells #[.int .i64 ((n : Int) - (k1 : Int)), .slice A2 m1 c2, .bool false] 33) := ⟨_, rfl⟩
          have hbW2 : Below w.heap.size w W2 := hW2 ▸ (seq hb1 hb2).alloc (seq hb1 hb2).size _
          have hp2 : Pl W2 w2.heap.size (.int .i64 ((n : Int) - (k1 : Int))) (.slice A2 m1 c2) (.bool false) := hW2 ▸ Pl.new w2 _ _ _ _ rfl
          have hoP : Rd W2 A2 m1 P1 := (hW2 ▸ ho2.alloc (.cells #[.int .i64 ((n : Int) - (k1 : Int)), .slice A2 m1 c2, .bool false] 33) : Fl.Own W2 w1.heap.size (.slice A2 m1 c2) P1).rd
          rw [← hW2]
          clear hW2 ho2 hb2 hb1
          go_upto_region 7 with (first
            | (go_at_call 30; refine (HEN.out _ hbW2).mono ?_; rintro e w3 ⟨rfl, hb3⟩)
            | (go_at_call 12; refine (numC _ _).mono ?_; rintro e wn ⟨rfl, rfl⟩))
          have hbw3 := seq hbW2 hb3
          have hp3 := hp2.below hb3
          have e0 := hp3.c0
          have e1 := hp3.c1
          have e2 := hp3.c2
          go_upto_region 8 with (go_at_call 34; refine (HPA.out w3 A2 c2 false hbw3 (hoP.below hb3)).mono ?_; rintro e w4 ⟨A4, c4, rfl, ho4, hb4⟩)
          have hbw4 := seq hbw3 hb4
          have ho4w : Fl.Own w4 w.heap.size (.slice A4 q1 c4) S1 := own_mono ho4 hbw3.size
          clear e0 e1 e2
          go_upto_region 10 with (first
            | (go_at_call 15; have _z := hdone; refine (HRE.out w5 (seq hbw4 hb5)).mono ?_; rintro e w6 ⟨rfl, hb6⟩)
            | (go_at_call 15; refine (HRT.out w4 A4 q1 c4 S1 hbw4 ho4w hs1).mono ?_; rintro e w5 ⟨rfl, hb5⟩; have hdone := True.intro))
          have hbw6 := seq (seq hbw4 hb5) hb6
          have ho6 := ho4w.below (seq hb5 hb6)
          go_upto_region 11 with (go_at_call 31; refine (HT2.out w6 A4 c4 hbw6 ho6).mono ?_; rintro e w7 ⟨A7, c7, rfl, ho7, hb7⟩)
          obtain ⟨W7, hW7⟩ : ∃ W, W = w7.alloc (.cells #[.int .i64 0, .slice A7 0 c7, .bool false] 33) := ⟨_, rfl⟩
          have hb67 : Below w6.heap.size w6 W7 := hW7 ▸ hb7.alloc hb7.size _
          have hp7 : Pl W7 w7.heap.size (.int .i64 0) (.slice A7 0 c7) (.bool false) := hW7 ▸ Pl.new w7 _ _ _ _ rfl
          rw [← hW7]
          clear hW7 ho7 hb7
          have hbw7 := seq hbw6 hb67
          have hp27 := hp3.below (seq hb4 (seq (seq hb5 hb6) hb67))
          have f0 := hp27.c0
          have f1 := hp27.c1
          have f2 := hp27.c2
          have g0 := hp7.c0
          have g1 := hp7.c1
          have g2 := hp7.c2
          go_upto_region 13 with (first
            | (go_at_call 12; refine (numC _ _).mono ?_; rintro e wn ⟨rfl, rfl⟩)
            | (go_at_call 24; refine (HNT.out _ _ _).mono ?_; rintro e w8 ⟨rfl, hb8⟩; have hp28 := hp27.below hb8; have i0 := hp28.c0; have i1 := hp28.c1; have i2 := hp28.c2))
          have hbw8 := seq hbw7 hb8
          clear i0 i1 i2
          clear f0 f1 f2 g0 g1 g2
          go_upto_region 14 with (go_at_call 19; refine (HO.out w8 hbw8).mono ?_; rintro e w9 ⟨A9, c9, rfl, ho9, hb9⟩)
          obtain ⟨W9, hW9⟩ : ∃ W, W = w9.alloc (.cells #[.int .i64 ((n : Int) - (k2 : Int)), .slice A9 m3 c9, .bool false] 33) := ⟨_, rfl⟩
          have hb89 : Below w8.heap.size w8 W9 := hW9 ▸ hb9.alloc hb9.size _
          have hp9 : Pl W9 w9.heap.size (.int .i64 ((n : Int) - (k2 : Int))) (.slice A9 m3 c9) (.bool false) := hW9 ▸ Pl.new w9 _ _ _ _ rfl
          have hr9 : Rd W9 A9 m3 P3 := (hW9 ▸ ho9.alloc (.cells #[.int .i64 ((n : Int) - (k2 : Int)), .slice A9 m3 c9, .bool false] 33) : Fl.Own W9 w8.heap.size (.slice A9 m3 c9) P3).rd
          rw [← hW9]
          clear hW9 ho9 hb9
          have hbw9 := seq hbw8 hb89
          have j0 := hp9.c0
          have j1 := hp9.c1
          have j2 := hp9.c2
          go_upto_region 17 with (first
            | (go_at_call 12; refine (numC _ _).mono ?_; rintro e wn ⟨rfl, rfl⟩)
            | (go_at_call 34; refine (HPB.out W9 A9 c9 hbw9 hr9).mono ?_; rintro e w10 ⟨A10, c10, rfl, ho10, hb10⟩))
          have hbw10 := seq hbw9 hb10
          have ho10w : Fl.Own w10 w.heap.size (.slice A10 q2 c10) S2 := own_mono ho10 hbw9.size
          clear j0 j1 j2
          go_upto_region 19 with (go_at_call 15; refine (HRT.out w10 A10 q2 c10 S2 hbw10 ho10w hQ.1).mono ?_; rintro e w11 ⟨rfl, hb11⟩)
          have hbw11 := seq hbw10 hb11
          go_upto_region 20 with (go_at_call 20; refine (HMY.out w11 A10 q2 c10 S2 hbw11 (ho10w.below hb11) hQ.1 h15 hQ.2.1).mono ?_; rintro e w12 ⟨rfl, hb12⟩)
          have hbw12 := seq hbw11 hb12
          have hb9x := seq hb10 (seq hb11 hb12)
          have hp12 := hp9.below hb9x
          have l0 := hp12.c0
          have l1 := hp12.c1
          have l2 := hp12.c2
          go_upto_region 21 with (go_at_call 34; refine (HPC.out w12 A9 c9 hbw12 (hr9.below hb9x)).mono ?_; rintro e w13 ⟨A13, c13, rfl, ho13, hb13⟩)
          have hbw13 := seq hbw12 hb13
          have ho13w : Fl.Own w13 w.heap.size (.slice A13 q3 c13) S3 := own_mono ho13 hbw12.size
          go_wp2_with (first
            | (go_at_call 12; refine (numC _ _).mono ?_; rintro e wn ⟨rfl, rfl⟩)
            | (go_at_call 15; refine (HRT.out w13 A13 q3 c13 S3 hbw13 ho13w hQ.2.2).mono ?_; rintro e w14 ⟨rfl, hb14⟩)
            | (go_at_call 13; refine (awakeC _ (HT.out _ (seq hbw13 hb14))).mono ?_; rintro e wa ⟨rfl, hba⟩))
          go_ret
          exact ⟨rfl, seq (seq hbw13 hb14) hba⟩
      · rw [hD] at HTX HN1 HD1
        clear hD
        cases h15 : inS y 15
        · have HO := HOP0 h15
          clear HOP0 HOP1 HQ HS2
          have hs1 := HS1.out
          obtain ⟨hz1, hz2⟩ := HD1.out rfl
          have hzk : ((n : Int) - (k1 : Int) != 0) = false := by rw [hz1]; rfl
          have hzm : m1 = 0 := by rw [← HM1.out, hz2]; rfl
          have hzm2 : ((m1 : Int) != 0) = false := by rw [hzm]; rfl
          have HT2 : Hid (∀ W A2 c2, Below w.heap.size w W → Fl.Own W w.heap.size (.slice A2 q1 c2) S1 → Calls Tryd.prog 31 #[.slice A2 q1 c2, .bool b] W (fun e w' => ∃ A3 c3, e = .returned (.tuple #[.agg #[.int .i64 (txK S1 b), .slice A3 (txP S1 b).length c3, .bool (txD S1 b)], .int .i64 0]) ∧ Fl.Own w' W.heap.size (.slice A3 (txP S1 b).length c3) (txP S1 b) ∧ Below W.heap.size W w')) := Lib.hid fun W A2 c2 h1 h2 => HTX2.out W A2 q1 c2 S1 h1 h2 hs1
          clear hz1 hz2 hzm
          generalize txK S1 b = K2 at *
          generalize txD S1 b = D2 at *
          generalize txP S1 b = P2 at *
          obtain ⟨m2, hm2⟩ : ∃ m, P2.length = m := ⟨_, rfl⟩
          rw [hm2] at HT2
          clear HTX2 HN1 HD1
          go_enter Tryd.func10, Tryd.ntmps10
          go_upto_region 4 with (first
            | (go_at_call 14; refine (longC _ _ _ _).mono ?_; rintro e wl ⟨rfl, rfl⟩; rw [hlong])
            | (go_at_call 15; refine HRC.out.mono ?_; rintro e w1 ⟨rfl, hb1⟩)
            | (go_at_call 31; refine (HTX.out _ hb1).mono ?_; rintro e w2 ⟨A2, c2, rfl, ho2, hb2⟩))
          obtain ⟨W2, hW2⟩ : ∃ W, W = w2.alloc (.cells #[.int .i64 ((n : Int) - (k1 : Int)), .slice A2 m1 c2, .bool true] 33) := ⟨_, rfl⟩
          have hbW2 : Below w.heap.size w W2 := hW2 ▸ (seq hb1 hb2).alloc (seq hb1 hb2).size _
          have hp2 : Pl W2 w2.heap.size (.int .i64 ((n : Int) - (k1 : Int))) (.slice A2 m1 c2) (.bool true) := hW2 ▸ Pl.new w2 _ _ _ _ rfl
          have hoP : Rd W2 A2 m1 P1 := (hW2 ▸ ho2.alloc (.cells #[.int .i64 ((n : Int) - (k1 : Int)), .slice A2 m1 c2, .bool true] 33) : Fl.Own W2 w1.heap.size (.slice A2 m1 c2) P1).rd
          rw [← hW2]
          clear hW2 ho2 hb2 hb1
          go_upto_region 7 with (first
            | (go_at_call 30; refine (HEN.out _ hbW2).mono ?_; rintro e w3 ⟨rfl, hb3⟩)
            | (go_at_call 12; refine (numC _ _).mono ?_; rintro e wn ⟨rfl, rfl⟩))
          have hbw3 := seq hbW2 hb3
          have hp3 := hp2.below hb3
          have e0 := hp3.c0
          have e1 := hp3.c1
          have e2 := hp3.c2
          go_upto_region 8 with (go_at_call 34; refine (HPA.out w3 A2 c2 true hbw3 (hoP.below hb3)).mono ?_; rintro e w4 ⟨A4, c4, rfl, ho4, hb4⟩)
          have hbw4 := seq hbw3 hb4
          have ho4w : Fl.Own w4 w.heap.size (.slice A4 q1 c4) S1 := own_mono ho4 hbw3.size
          clear e0 e1 e2
          go_upto_region 10 with (first
            | (go_at_call 15; have _z := hdone; refine (HRE.out w5 (seq hbw4 hb5)).mono ?_; rintro e w6 ⟨rfl, hb6⟩)
            | (go_at_call 15; refine (HRT.out w4 A4 q1 c4 S1 hbw4 ho4w hs1).mono ?_; rintro e w5 ⟨rfl, hb5⟩; have hdone := True.intro))
          have hbw6 := seq (seq hbw4 hb5) hb6
          have ho6 := ho4w.below (seq hb5 hb6)
          go_upto_region 11 with (go_at_call 31; refine (HT2.out w6 A4 c4 hbw6 ho6).mono ?_; rintro e w7 ⟨A7, c7, rfl, ho7, hb7⟩)
          obtain ⟨W7, hW7⟩ : ∃ W, W = w7.alloc (.cells #[.int .i64 K2, .slice A7 m2 c7, .bool D2] 33) := ⟨_, rfl⟩
          have hb67 : Below w6.heap.size w6 W7 := hW7 ▸ hb7.alloc hb7.size _
          have hp7 : Pl W7 w7.heap.size (.int .i64 K2) (.slice A7 m2 c7) (.bool D2) := hW7 ▸ Pl.new w7 _ _ _ _ rfl
          rw [← hW7]
          clear hW7 ho7 hb7
          have hbw7 := seq hbw6 hb67
          have hp27 := hp3.below (seq hb4 (seq (seq hb5 hb6) hb67))
          have f0 := hp27.c0
          have f1 := hp27.c1
          have f2 := hp27.c2
          have g0 := hp7.c0
          have g1 := hp7.c1
          have g2 := hp7.c2
          go_upto_region 13 with (go_at_call 12; refine (numC _ _).mono ?_; rintro e wn ⟨rfl, rfl⟩)
          have hbw8 := hbw7
          clear f0 f1 f2 g0 g1 g2
          go_upto_region 14 with (go_at_call 19; refine (HO.out W7 hbw8).mono ?_; rintro e w9 ⟨A9, c9, rfl, ho9, hb9⟩)
          obtain ⟨W9, hW9⟩ : ∃ W, W = w9.alloc (.cells #[.int .i64 0, .slice A9 0 c9, .bool false] 33) := ⟨_, rfl⟩
          have hb89 : Below W7.heap.size W7 W9 := hW9 ▸ hb9.alloc hb9.size _
          have hp9 : Pl W9 w9.heap.size (.int .i64 0) (.slice A9 0 c9) (.bool false) := hW9 ▸ Pl.new w9 _ _ _ _ rfl
          have hr9 : Rd W9 A9 0 [] := (hW9 ▸ ho9.alloc (.cells #[.int .i64 0, .slice A9 0 c9, .bool false] 33) : Fl.Own W9 W7.heap.size (.slice A9 0 c9) []).rd
          rw [← hW9]
          clear hW9 ho9 hb9
          have hbw9 := seq hbw8 hb89
          go_wp2_with (first
            | (go_at_call 12; refine (numC _ _).mono ?_; rintro e wn ⟨rfl, rfl⟩)
            | (go_at_call 17; refine (nIn y 15 _ (HT.out _ hbw9)).mono ?_; rintro e w10 ⟨rfl, hb10⟩; rw [h15])
            | (go_at_call 13; refine (awakeC _ (HT.out _ (seq hbw9 hb10))).mono ?_; rintro e wa ⟨rfl, hba⟩))
          go_ret
          exact ⟨rfl, seq (seq hbw9 hb10) hba⟩
        · have HO := HOP1 h15
          have hQ := HQ.out h15
          clear HOP0 HOP1 HQ HS2
          have hs1 := HS1.out
          obtain ⟨hz1, hz2⟩ := HD1.out rfl
          have hzk : ((n : Int) - (k1 : Int) != 0) = false := by rw [hz1]; rfl
          have hzm : m1 = 0 := by rw [← HM1.out, hz2]; rfl
          have hzm2 : ((m1 : Int) != 0) = false := by rw [hzm]; rfl
          have HT2 : Hid (∀ W A2 c2, Below w.heap.size w W → Fl.Own W w.heap.size (.slice A2 q1 c2) S1 → Calls Tryd.prog 31 #[.slice A2 q1 c2, .bool b] W (fun e w' => ∃ A3 c3, e = .returned (.tuple #[.agg #[.int .i64 (txK S1 b), .slice A3 (txP S1 b).length c3, .bool (txD S1 b)], .int .i64 0]) ∧ Fl.Own w' W.heap.size (.slice A3 (txP S1 b).length c3) (txP S1 b) ∧ Below W.heap.size W w')) := Lib.hid fun W A2 c2 h1 h2 => HTX2.out W A2 q1 c2 S1 h1 h2 hs1
          clear hz1 hz2 hzm
          generalize txK S1 b = K2 at *
          generalize txD S1 b = D2 at *
          generalize txP S1 b = P2 at *
          obtain ⟨m2, hm2⟩ : ∃ m, P2.length = m := ⟨_, rfl⟩
          rw [hm2] at HT2
          clear HTX2 HN1 HD1
          go_enter Tryd.func10, Tryd.ntmps10
          go_upto_region 4 with (first
            | (go_at_call 14; refine (longC _ _ _ _).mono ?_; rintro e wl ⟨rfl, rfl⟩; rw [hlong])
            | (go_at_call 15; refine HRC.out.mono ?_; rintro e w1 ⟨rfl, hb1⟩)
            | (go_at_call 31; refine (HTX.out _ hb1).mono ?_; rintro e w2 ⟨A2, c2, rfl, ho2, hb2⟩))
          obtain ⟨W2, hW2⟩ : ∃ W, W = w2.alloc (.cells #[.int .i64 ((n : Int) - (k1 : Int)), .slice A2 m1 c2, .bool true] 33) := ⟨_, rfl⟩
          have hbW2 : Below w.heap.size w W2 := hW2 ▸ (seq hb1 hb2).alloc (seq hb1 hb2).size _
          have hp2 : Pl W2 w2.heap.size (.int .i64 ((n : Int) - (k1 : Int))) (.slice A2 m1 c2) (.bool true) := hW2 ▸ Pl.new w2 _ _ _ _ rfl
          have hoP : Rd W2 A2 m1 P1 := (hW2 ▸ ho2.alloc (.cells #[.int .i64 ((n : Int) - (k1 : Int)), .slice A2 m1 c2, .bool true] 33) : Fl.Own W2 w1.heap.size (.slice A2 m1 c2) P1).rd
          rw [← hW2]
          clear hW2 ho2 hb2 hb1
          go_upto_region 7 with (first
            | (go_at_call 30; refine (HEN.out _ hbW2).mono ?_; rintro e w3 ⟨rfl, hb3⟩)
            | (go_at_call 12; refine (numC _ _).mono ?_; rintro e wn ⟨rfl, rfl⟩))
          have hbw3 := seq hbW2 hb3
          have hp3 := hp2.below hb3
          have e0 := hp3.c0
          have e1 := hp3.c1
          have e2 := hp3.c2
          go_upto_region 8 with (go_at_call 34; refine (HPA.out w3 A2 c2 true hbw3 (hoP.below hb3)).mono ?_; rintro e w4 ⟨A4, c4, rfl, ho4, hb4⟩)
          have hbw4 := seq hbw3 hb4
          have ho4w : Fl.Own w4 w.heap.size (.slice A4 q1 c4) S1 := own_mono ho4 hbw3.size
          clear e0 e1 e2
          go_upto_region 10 with (first
            | (go_at_call 15; have _z := hdone; refine (HRE.out w5 (seq hbw4 hb5)).mono ?_; rintro e w6 ⟨rfl, hb6⟩)
            | (go_at_call 15; refine (HRT.out w4 A4 q1 c4 S1 hbw4 ho4w hs1).mono ?_; rintro e w5 ⟨rfl, hb5⟩; have hdone := True.intro))
          have hbw6 := seq (seq hbw4 hb5) hb6
          have ho6 := ho4w.below (seq hb5 hb6)
          go_upto_region 11 with (go_at_call 31; refine (HT2.out w6 A4 c4 hbw6 ho6).mono ?_; rintro e w7 ⟨A7, c7, rfl, ho7, hb7⟩)
          obtain ⟨W7, hW7⟩ : ∃ W, W = w7.alloc (.cells #[.int .i64 K2, .slice A7 m2 c7, .bool D2] 33) := ⟨_, rfl⟩
          have hb67 : Below w6.heap.size w6 W7 := hW7 ▸ hb7.alloc hb7.size _
          have hp7 : Pl W7 w7.heap.size (.int .i64 K2) (.slice A7 m2 c7) (.bool D2) := hW7 ▸ Pl.new w7 _ _ _ _ rfl
          rw [← hW7]
          clear hW7 ho7 hb7
          have hbw7 := seq hbw6 hb67
          have hp27 := hp3.below (seq hb4 (seq (seq hb5 hb6) hb67))
          have f0 := hp27.c0
          have f1 := hp27.c1
          have f2 := hp27.c2
          have g0 := hp7.c0
          have g1 := hp7.c1
          have g2 := hp7.c2
          go_upto_region 13 with (go_at_call 12; refine (numC _ _).mono ?_; rintro e wn ⟨rfl, rfl⟩)
          have hbw8 := hbw7
          clear f0 f1 f2 g0 g1 g2
          go_upto_region 14 with (go_at_call 19; refine (HO.out W7 hbw8).mono ?_; rintro e w9 ⟨A9, c9, rfl, ho9, hb9⟩)
          obtain ⟨W9, hW9⟩ : ∃ W, W = w9.alloc (.cells #[.int .i64 ((n : Int) - (k2 : Int)), .slice A9 m3 c9, .bool false] 33) := ⟨_, rfl⟩
          have hb89 : Below W7.heap.size W7 W9 := hW9 ▸ hb9.alloc hb9.size _
          have hp9 : Pl W9 w9.heap.size (.int .i64 ((n : Int) - (k2 : Int))) (.slice A9 m3 c9) (.bool false) := hW9 ▸ Pl.new w9 _ _ _ _ rfl
          have hr9 : Rd W9 A9 m3 P3 := (hW9 ▸ ho9.alloc (.cells #[.int .i64 ((n : Int) - (k2 : Int)), .slice A9 m3 c9, .bool false] 33) : Fl.Own W9 W7.heap.size (.slice A9 m3 c9) P3).rd
          rw [← hW9]
          clear hW9 ho9 hb9
          have hbw9 := seq hbw8 hb89
          have j0 := hp9.c0
          have j1 := hp9.c1
          have j2 := hp9.c2
          go_upto_region 17 with (first
            | (go_at_call 12; refine (numC _ _).mono ?_; rintro e wn ⟨rfl, rfl⟩)
            | (go_at_call 34; refine (HPB.out W9 A9 c9 hbw9 hr9).mono ?_; rintro e w10 ⟨A10, c10, rfl, ho10, hb10⟩))
          have hbw10 := seq hbw9 hb10
          have ho10w : Fl.Own w10 w.heap.size (.slice A10 q2 c10) S2 := own_mono ho10 hbw9.size
          clear j0 j1 j2
          go_upto_region 19 with (go_at_call 15; refine (HRT.out w10 A10 q2 c10 S2 hbw10 ho10w hQ.1).mono ?_; rintro e w11 ⟨rfl, hb11⟩)
          have hbw11 := seq hbw10 hb11
          go_upto_region 20 with (go_at_call 20; refine (HMY.out w11 A10 q2 c10 S2 hbw11 (ho10w.below hb11) hQ.1 h15 hQ.2.1).mono ?_; rintro e w12 ⟨rfl, hb12⟩)
          have hbw12 := seq hbw11 hb12
          have hb9x := seq hb10 (seq hb11 hb12)
          have hp12 := hp9.below hb9x
          have l0 := hp12.c0
          have l1 := hp12.c1
          have l2 := hp12.c2
          go_upto_region 21 with (go_at_call 34; refine (HPC.out w12 A9 c9 hbw12 (hr9.below hb9x)).mono ?_; rintro e w13 ⟨A13, c13, rfl, ho13, hb13⟩)
          have hbw13 := seq hbw12 hb13
          have ho13w : Fl.Own w13 w.heap.size (.slice A13 q3 c13) S3 := own_mono ho13 hbw12.size
          go_wp2_with (first
            | (go_at_call 12; refine (numC _ _).mono ?_; rintro e wn ⟨rfl, rfl⟩)
            | (go_at_call 15; refine (HRT.out w13 A13 q3 c13 S3 hbw13 ho13w hQ.2.2).mono ?_; rintro e w14 ⟨rfl, hb14⟩)
            | (go_at_call 13; refine (awakeC _ (HT.out _ (seq hbw13 hb14))).mono ?_; rintro e wa ⟨rfl, hba⟩))
          go_ret
          exact ⟨rfl, seq (seq hbw13 hb14) hba⟩
end Go.Proofs.YtddgpkdhakjjaaaDoor.nestStays
