/- The reference's asks. -/
import Derived.Deep.Cut
import Derived.Deep.CutRange
import Derived.Test.YtddgpkdhakjjaaaDoorRp
set_option linter.unusedVariables false
set_option linter.unusedSimpArgs false
namespace Go.Proofs.YtddgpkdhakjjaaaDoor.Rq
open Go.Proofs.YtddgpkdhakjjaaaDoor.Np hiding is_li is_dt is_dd is_textarea is_a
open Go.RowKit Lb Fl Is Tp Wk Wp Wi Wo Pt Oc Pm Go.Proofs.YtddgpkdhakjjaaaDoor.Ask Rt Go.Proofs.YtddgpkdhakjjaaaDoor.Op Aw Lt En El Rn Ri Rj Rp

def rItS (pr : ByteArray → Bool) (s : List ByteArray) : List ByteArray := if 0 ≤ tm pr wallB s then s.take ((tm pr wallB s).toNat + 1) else innS s
def rItP (pr : ByteArray → Bool) (x : ByteArray) (s : List ByteArray) : List ByteArray := if 0 ≤ tm pr wallB s then [] else innP s ++ [x]
def rS (y : ByteArray) (s0 : List ByteArray) : List ByteArray :=
  match kd y with
  | 1 => plS (namedB s_table) (aS y s0)
  | 2 => plS cellsB (aS y s0)
  | 3 => plS colB (aS y s0)
  | 4 => plS trB (aS y s0)
  | _ => if is_li y then rItS listB (aS y s0) else if is_dt y || is_dd y then rItS (namedB s_dl) (aS y s0) else innS (aS y s0)
def rP (y : ByteArray) (s0 : List ByteArray) : List ByteArray :=
  match kd y with
  | 1 => plP (namedB s_table) [] [] (aS y s0)
  | 2 => plP cellsB [s_tbody, s_tr] [s_tr] (aS y s0)
  | 3 => plP colB [s_colgroup] [] (aS y s0)
  | 4 => plP trB [s_tbody] [] (aS y s0)
  | _ => if is_li y then rItP listB s_ul (aS y s0) else if is_dt y || is_dd y then rItP (namedB s_dl) s_dl (aS y s0) else innP (aS y s0)
theorem aS0_pre (s : List ByteArray) : aS0 s <+: s := by
  unfold aS0
  split
  · exact List.dropLast_prefix s
  · exact List.prefix_refl _
theorem aS1_pre (y : ByteArray) (s : List ByteArray) : aS1 y s <+: s := by
  unfold aS1
  split
  · exact wT_pre _ _
  · exact List.prefix_refl _
theorem aS2_pre (y : ByteArray) (s : List ByteArray) : aS2 y s <+: s := by
  unfold aS2
  split
  · exact wT_pre _ _
  · exact List.prefix_refl _
theorem aS3_pre (y : ByteArray) (s : List ByteArray) : aS3 y s <+: s := by
  unfold aS3
  split
  · exact wT_pre _ _
  · exact List.prefix_refl _
theorem aS_pre (y : ByteArray) (s : List ByteArray) : aS y s <+: s := (aS3_pre _ _).trans ((aS2_pre _ _).trans ((aS1_pre _ _).trans (aS0_pre s)))
theorem wT_at {t : Int} {s : List ByteArray} (h1 : -1 ≤ t) (h2 : t < s.length) (m : Nat) (h : t = m) : (wT t s).length = m := by
  unfold wT
  rw [if_pos (by omega), List.length_take]
  omega
theorem wT_no {t : Int} {s : List ByteArray} (h : ¬ 0 ≤ t) : wT t s = s := by unfold wT; rw [if_neg h]

/-! what a name is -/
theorem kdL_mem {y : ByteArray} : ∀ {l : List ByteArray}, kdL y l = true → y ∈ l
  | [], h => by cases h
  | x :: r, h => by
    unfold kdL at h
    simp at h
    rcases h with h | h
    · subst h; exact List.mem_cons_self ..
    · exact List.mem_cons_of_mem _ (kdL_mem h)
theorem kdL_not {y : ByteArray} : ∀ {l : List ByteArray}, kdL y l = false → ∀ x ∈ l, y ≠ x
  | [], _, x, hx => by cases hx
  | z :: r, h, x, hx => by
    unfold kdL at h
    simp at h
    rcases List.mem_cons.1 hx with rfl | hx
    · exact h.1
    · exact kdL_not h.2 x hx
theorem kd_1 {y : ByteArray} (h : kd y = 1) : y ∈ [s_caption, s_colgroup, s_thead, s_tbody, s_tfoot] := by
  unfold kd at h
  split at h
  · next h1 => exact kdL_mem h1
  · repeat' split at h
    all_goals cases h
theorem kd_2 {y : ByteArray} (h : kd y = 2) : y ∈ [s_td, s_th] := by
  unfold kd at h
  split at h
  · cases h
  · split at h
    · next h1 => exact kdL_mem h1
    · repeat' split at h
      all_goals cases h
theorem kd_3 {y : ByteArray} (h : kd y = 3) : y = s_col := by
  unfold kd at h
  split at h
  · cases h
  · split at h
    · cases h
    · split at h
      · next h1 => simpa using kdL_mem h1
      · repeat' split at h
        all_goals cases h
theorem kd_4 {y : ByteArray} (h : kd y = 4) : y = s_tr := by
  unfold kd at h
  split at h
  · cases h
  · split at h
    · cases h
    · split at h
      · cases h
      · split at h
        · next h1 => simpa using kdL_mem h1
        · cases h
theorem kd_0 {y : ByteArray} (h : kd y = 0) : ∀ x ∈ [s_caption, s_colgroup, s_thead, s_tbody, s_tfoot, s_td, s_th, s_col, s_tr], y ≠ x := by
  unfold kd at h
  split at h
  · cases h
  · split at h
    · cases h
    · split at h
      · cases h
      · split at h
        · cases h
        · next h1 h2 h3 h4 =>
          have h1 := kdL_not (by simpa using h1)
          have h2 := kdL_not (by simpa using h2)
          have h3 := kdL_not (by simpa using h3)
          have h4 := kdL_not (by simpa using h4)
          intro x hx
          simp only [List.mem_cons, List.not_mem_nil, or_false] at hx
          rcases hx with rfl | rfl | rfl | rfl | rfl | rfl | rfl | rfl | rfl
          · exact h1 _ (by simp)
          · exact h1 _ (by simp)
          · exact h1 _ (by simp)
          · exact h1 _ (by simp)
          · exact h1 _ (by simp)
          · exact h2 _ (by simp)
          · exact h2 _ (by simp)
          · exact h3 _ (by simp)
          · exact h4 _ (by simp)
/-- the tests, as the walk meets them -/
theorem tst {y a : ByteArray} {l : List UInt8} (h : a.toList = l) (hy : y ≠ a) : (y.toList == l) = false := by
  subst h
  exact toList_ne_of hy
theorem k1_facts {y : ByteArray} (h : kd y = 1) : (y.toList == [108, 105]) = false ∧ (y.toList == [100, 116]) = false ∧ (y.toList == [100, 100]) = false ∧ isB c_own y = true := by
  have := kd_1 h
  simp only [List.mem_cons, List.not_mem_nil, or_false] at this
  rcases this with rfl | rfl | rfl | rfl | rfl <;> decide +kernel
theorem k2_facts {y : ByteArray} (h : kd y = 2) : (y.toList == [108, 105]) = false ∧ (y.toList == [100, 116]) = false ∧ (y.toList == [100, 100]) = false ∧ isB c_own y = false ∧ (y.toList == [99, 111, 108]) = false ∧ (y.toList == [116, 114]) = false ∧ ((y.toList == [116, 100]) = false → (y.toList == [116, 104]) = true) := by
  have := kd_2 h
  simp only [List.mem_cons, List.not_mem_nil, or_false] at this
  rcases this with rfl | rfl <;> decide +kernel
theorem k3_facts {y : ByteArray} (h : kd y = 3) : (y.toList == [108, 105]) = false ∧ (y.toList == [100, 116]) = false ∧ (y.toList == [100, 100]) = false ∧ isB c_own y = false ∧ (y.toList == [99, 111, 108]) = true := by
  rw [kd_3 h]; decide +kernel
theorem k4_facts {y : ByteArray} (h : kd y = 4) : (y.toList == [108, 105]) = false ∧ (y.toList == [100, 116]) = false ∧ (y.toList == [100, 100]) = false ∧ isB c_own y = false ∧ (y.toList == [99, 111, 108]) = false ∧ (y.toList == [116, 114]) = true := by
  rw [kd_4 h]; decide +kernel
theorem k0_facts {y : ByteArray} (h : kd y = 0) : isB c_own y = false ∧ (y.toList == [99, 111, 108]) = false ∧ (y.toList == [116, 114]) = false ∧ (y.toList == [116, 100]) = false ∧ (y.toList == [116, 104]) = false := by
  have h0 := kd_0 h
  refine ⟨?_, tst (a := s_col) (by decide +kernel) (h0 _ (by simp)), tst (a := s_tr) (by decide +kernel) (h0 _ (by simp)), tst (a := s_td) (by decide +kernel) (h0 _ (by simp)), tst (a := s_th) (by decide +kernel) (h0 _ (by simp))⟩
  rw [isB_of f_own]
  simp only [List.any_cons, List.any_nil, Bool.or_false, Bool.or_eq_false_iff, decide_eq_false_iff_not]
  exact ⟨fun e => h0 _ (by simp) e.symm, fun e => h0 _ (by simp) e.symm, fun e => h0 _ (by simp) e.symm, fun e => h0 _ (by simp) e.symm, fun e => h0 _ (by simp) e.symm⟩

set_option maxHeartbeats 16000000 in
set_option maxRecDepth 100000 in
theorem asksQ (Q : Ending → World → Prop) (w : World) (A : Option Addr) (n c : Nat) (s : List ByteArray) (y : ByteArray) (hr : Rd w A n s) (hc : n ≤ c) (hc2 : c ≤ 9223372036854775807)
    (FIN : ∀ e w', Two w.heap.size A c (rS y s) (rP y s) w e w' → Q e w') :
    Calls Tryd.prog 46 #[.slice A n c, .string y] w Q := by
  have hlen := hr.1
  have hnb : n ≤ 9223372036854775807 := by omega
  have hp0 := aS0_pre s
  have hp1 := (aS1_pre y (aS0 s)).trans hp0
  have hp2 := (aS2_pre y (aS1 y (aS0 s))).trans hp1
  have hp3 := aS_pre y s
  have hRD : ∀ t, t <+: s → t.length ≤ n ∧ ∀ W, Below w.heap.size w W → Rd W A t.length t := fun t ht => ⟨by rw [hlen]; exact ht.length_le, fun W h => rd_pre ht (hr.below h)⟩
  have hAB : ∀ t, t <+: s → ∀ W, Below w.heap.size w W → ∀ some pr, some.size ≤ 2147483647 → isB some = pr → ∀ oth q, oth.size ≤ 2147483647 → isB oth = q →
      Calls Tryd.prog 59 #[.slice A t.length c, .string some, .string oth] W fun e w' => e = .returned (.int .i64 (tm pr q t)) ∧ Below W.heap.size W w' := by
    intro t ht W h some pr h1 h2 oth q h3 h4
    have := aboveC A t.length c t some oth W ((hRD t ht).2 W h) (by have := (hRD t ht).1; omega) h1 h3
    rwa [h2, h4] at this
  have hIS : ∀ W some pr, some.size ≤ 2147483647 → isB some = pr → Calls Tryd.prog 58 #[.string y, .string some] W fun e w' => e = .returned (.bool (pr y)) ∧ Below W.heap.size W w' := by
    intro W some pr h1 h2
    have := isC y some W h1
    rwa [h2] at this
  have HRD := Lib.hid hRD
  have HAB := Lib.hid hAB
  have HIS := Lib.hid hIS
  have HL := Lib.hid hlen
  have HF := Lib.hid FIN
  have HP0 := Lib.hid hp0
  have HP1 := Lib.hid hp1
  have HP2 := Lib.hid hp2
  have HP3 := Lib.hid hp3
  have hE0 : (0 < n) → ∃ x b off, A = some ⟨b, off, none⟩ ∧ topS s = x ∧ w.cell? ⟨b, off + (n - 1), none⟩ = some (.string x) := by
    intro h0
    have hks : n - 1 < s.length := by omega
    obtain ⟨b, off, e, _, hcx⟩ := hr.get hks
    refine ⟨s[n - 1], b, off, e, ?_, hcx w (Below.refl _ _)⟩
    unfold topS
    rw [List.getLastD_eq_getLast?, List.getLast?_eq_getElem?, ← hlen, List.getElem?_eq_getElem hks, Option.getD_some]
  have HE0 := Lib.hid hE0
  have HNIL : Hid (n = 0 → aS0 s = []) := Lib.hid (fun h => by
    have : s = [] := List.eq_nil_of_length_eq_zero (by omega)
    subst this
    unfold aS0; split <;> rfl)
  clear hRD hAB hIS hlen FIN hp0 hp1 hp2 hp3 hE0 hr
  go_enter Tryd.func46, Tryd.ntmps46
  go_upto_region 2 with fail
  go_cut [26] from 14 (fun s26 wx => w = wx ∧ s26 = .bool (decide (0 < n) && is_textarea (topS s)))
  case first =>
    by_cases h0 : 0 < n
    · obtain ⟨x, b, off, rfl, hx, hcx⟩ := HE0.out h0
      obtain ⟨m, rfl⟩ : ∃ m, n = m + 1 := ⟨n - 1, by omega⟩
      rw [Nat.add_sub_cancel] at hcx
      have h1 : (0 : Int) < ((m + 1 : Nat) : Int) := by omega
      have h2 : ((m + 1 : Nat) : Int) - 1 = (m : Int) := by omega
      have h3 : (m : Int) < ((m + 1 : Nat) : Int) := by omega
      cases htx : (x.toList == [116, 101, 120, 116, 97, 114, 101, 97])
      all_goals (
        go_wp2
        go_meet
        exact ⟨rfl, by rw [hx]; unfold is_textarea; rw [htx]; simp⟩)
    · have h1 : ¬ (0 : Int) < (n : Int) := by omega
      go_wp2
      go_meet
      exact ⟨rfl, by simp [h0]⟩
  case rest =>
  obtain ⟨rfl, rfl⟩ := hcut
  have HK0 : Hid (((decide (0 < n) && is_textarea (topS s)) = true → 0 < n ∧ (aS0 s).length = n - 1) ∧ ((decide (0 < n) && is_textarea (topS s)) = false → (aS0 s).length = n)) := Lib.hid (by
    refine ⟨fun h => ?_, fun h => ?_⟩
    · simp at h
      refine ⟨h.1, ?_⟩
      unfold aS0
      rw [h.2]
      simp only [if_true, List.length_dropLast]
      have := HL.out
      omega
    · rcases Nat.eq_zero_or_pos n with h0 | h0
      · rw [HNIL.out h0, h0]; rfl
      · simp [h0] at h
        unfold aS0
        rw [h]
        exact HL.out.symm)
  generalize (decide (0 < n) && is_textarea (topS s)) = tx at *
  go_upto_if 26 with fail
  go_cut [6] from 14 (fun s6 wx => w = wx ∧ s6 = .slice A (aS0 s).length c)
  case first =>
    cases tx
    · have hk := HK0.out.2 rfl
      go_wp2
      go_meet
      exact ⟨rfl, by rw [hk]⟩
    · obtain ⟨h0, hk⟩ := HK0.out.1 rfl
      obtain ⟨m, rfl⟩ : ∃ m, n = m + 1 := ⟨n - 1, by omega⟩
      have h2 : ((m + 1 : Nat) : Int) - 1 = (m : Int) := by omega
      have h3 : m ≤ c := by omega
      rw [Nat.add_sub_cancel] at hk
      go_wp2
      go_meet
      exact ⟨rfl, by rw [hk]⟩
  case rest =>
  obtain ⟨rfl, rfl⟩ := hcut
  clear HK0
  have hcur := (HRD.out _ HP0.out).1
  go_upto_if 33 with fail
  go_cut [6] from 14 (fun s6 wx => Below w.heap.size w wx ∧ s6 = .slice A (aS1 y (aS0 s)).length c)
  case first =>
    cases ha : (y.toList == [97])
    · go_wp2
      go_meet
      exact ⟨Below.refl _ _, by unfold aS1 is_a; rw [ha]; rfl⟩
    · have hv : aS1 y (aS0 s) = wT (tm (namedB s_a) cellB (aS0 s)) (aS0 s) := by unfold aS1 is_a; rw [ha]; rfl
      have HA := Lib.hid (HAB.out _ HP0.out w (Below.refl _ _) s_a _ (by decide) (one_B f_a) c_cells _ (by decide) cells_B)
      have h1 := tm_ge (namedB s_a) cellB (aS0 s)
      have h2 := tm_le (namedB s_a) cellB (aS0 s)
      by_cases h0 : 0 ≤ tm (namedB s_a) cellB (aS0 s)
      · obtain ⟨m, hm⟩ : ∃ m : Nat, tm (namedB s_a) cellB (aS0 s) = m := ⟨(tm (namedB s_a) cellB (aS0 s)).toNat, by omega⟩
        have hw := wT_at h1 h2 m hm
        rw [hm] at HA
        have hmc : m ≤ c := by omega
        go_wp2_with (go_at_call 59; refine HA.out.mono ?_; rintro e w3 ⟨rfl, hb3⟩)
        go_meet
        exact ⟨hb3, by rw [hv, hw]⟩
      · have hm : tm (namedB s_a) cellB (aS0 s) = -1 := by omega
        rw [hm] at HA
        go_wp2_with (go_at_call 59; refine HA.out.mono ?_; rintro e w3 ⟨rfl, hb3⟩)
        go_meet
        exact ⟨hb3, by rw [hv, wT_no (by omega)]⟩
  case rest =>
  obtain ⟨hbw, rfl⟩ := hcut
  have hcur := (HRD.out _ HP1.out).1
  go_upto_if 42 with (go_at_call 58; refine (HIS.out _ c_heads headB (by decide) heads_B).mono ?_; rintro e wh ⟨rfl, hbh⟩; have hbw := seq hbw hbh)
  go_cut [6] from 14 (fun s6 wx => Below w.heap.size w wx ∧ s6 = .slice A (aS2 y (aS1 y (aS0 s))).length c)
  case first =>
    cases ha : headB y
    · go_wp2
      go_meet
      exact ⟨hbw, by unfold aS2; rw [ha]; rfl⟩
    · have hv : aS2 y (aS1 y (aS0 s)) = wT (tm headB wallB (aS1 y (aS0 s))) (aS1 y (aS0 s)) := by unfold aS2; rw [ha]; rfl
      have HA := Lib.hid (HAB.out _ HP1.out _ hbw c_heads _ (by decide) heads_B c_walls _ (by decide) walls_B)
      have h1 := tm_ge headB wallB (aS1 y (aS0 s))
      have h2 := tm_le headB wallB (aS1 y (aS0 s))
      by_cases h0 : 0 ≤ tm headB wallB (aS1 y (aS0 s))
      · obtain ⟨m, hm⟩ : ∃ m : Nat, tm headB wallB (aS1 y (aS0 s)) = m := ⟨(tm headB wallB (aS1 y (aS0 s))).toNat, by omega⟩
        have hw := wT_at h1 h2 m hm
        rw [hm] at HA
        have hmc : m ≤ c := by omega
        go_wp2_with (go_at_call 59; refine HA.out.mono ?_; rintro e w3 ⟨rfl, hb3⟩)
        go_meet
        exact ⟨seq hbw hb3, by rw [hv, hw]⟩
      · have hm : tm headB wallB (aS1 y (aS0 s)) = -1 := by omega
        rw [hm] at HA
        go_wp2_with (go_at_call 59; refine HA.out.mono ?_; rintro e w3 ⟨rfl, hb3⟩)
        go_meet
        exact ⟨seq hbw hb3, by rw [hv, wT_no (by omega)]⟩
  case rest =>
  clear hbw hbh
  obtain ⟨hbw, rfl⟩ := hcut
  have hcur := (HRD.out _ HP2.out).1
  go_upto_if 51 with (go_at_call 45; refine (rIn y 6 _).mono ?_; rintro e wh ⟨rfl, hbh⟩; have hbw := seq hbw hbh)
  go_cut [6] from 14 (fun s6 wx => Below w.heap.size w wx ∧ s6 = .slice A (aS y s).length c)
  case first =>
    cases ha : inS y 6
    · go_wp2
      go_meet
      exact ⟨hbw, by unfold aS aS3; rw [ha]; rfl⟩
    · have hv : aS y s = noS (aS2 y (aS1 y (aS0 s))) := by unfold aS aS3; rw [ha]; rfl
      have HU := Lib.hid (unbC A _ c _ _ ((HRD.out _ HP2.out).2 _ hbw) (by omega) hc2)
      rw [← hv] at HU
      go_wp2_with (go_at_call 74; refine HU.out.mono ?_; rintro e w3 ⟨rfl, hb3⟩)
      go_meet
      exact ⟨seq hbw hb3, by rw [hv]⟩
  case rest =>
  clear hbw hbh hcur
  obtain ⟨hbw, rfl⟩ := hcut
  have hcur := (HRD.out _ HP3.out).1
  have HR3 := Lib.hid (HRD.out _ HP3.out).2
  have HAB3 := Lib.hid (HAB.out _ HP3.out)
  have HIN : Hid (∀ W, Below w.heap.size w W → Calls Tryd.prog 57 #[.slice A (aS y s).length c] W (Two w.heap.size A c (innS (aS y s)) (innP (aS y s)) W)) := Lib.hid fun W h => innerR w.heap.size _ A c _ W (HR3.out W h) (by omega) hc2 h.size
  have hFW : ∀ S P W e w', rS y s = S → rP y s = P → Below w.heap.size w W → Two w.heap.size A c S P W e w' → Q e w' := by
    rintro S P W e w' rfl rfl h ⟨A2, c2, h1, h2, h3⟩
    exact HF.out _ _ ⟨A2, c2, h1, h2, seq h h3⟩
  have HFW := Lib.hid hFW
  clear hFW
  have htl := tm_le listB wallB (aS y s)
  have htg := tm_ge listB wallB (aS y s)
  have hdl := tm_le (namedB s_dl) wallB (aS y s)
  have hdg := tm_ge (namedB s_dl) wallB (aS y s)
  have hip := innP_len (aS y s)
  obtain ⟨i0, hi, hz0, hz1, hz2⟩ := info_parts infoStr
  have HPL : Hid (∀ W, Below w.heap.size w W → ∀ AT AG nT cT nG cG T G (some : ByteArray) pr, Rd W AT nT T → Rd W AG nG G → Fr w.heap.size AT T → Fr w.heap.size AG G → nT ≤ 10 → some.size ≤ 2147483647 → isB some = pr → Calls Tryd.prog 75 #[.slice A (aS y s).length c, .string some, .slice AT nT cT, .slice AG nG cG] W (Two w.heap.size A c (plS pr (aS y s)) (plP pr T G (aS y s)) W)) :=
    Lib.hid fun W h AT AG nT cT nG cG T G sm pr h1 h2 h6 h7 h3 h4 h5 => placeC w.heap.size A AT AG _ c nT cT nG cG _ T G sm pr W (HR3.out W h) (by omega) hc2 h1 h2 h6 h7 h.size h3 h4 h5
  obtain ⟨a3, ha3⟩ : ∃ a3, aS y s = a3 := ⟨_, rfl⟩
  have HA3 := Lib.hid ha3
  rw [ha3] at HP3 hcur HR3 HAB3 HIN htl htg hdl hdg hip HPL
  simp only [ha3]
  clear ha3
  rcases kd_cases y with hk | hk | hk | hk | hk
  · obtain ⟨t1, t2, t3, t4⟩ := k1_facts hk
    have hIs := HIS.out
    go_wp2_with (first
      | (go_at_call 58; refine (hIs _ c_own _ (by decide) rfl).mono ?_; rintro e wi ⟨rfl, hbi⟩; rw [t4])
      | (go_at_call 75; refine (HPL.out _ (seq hbw hbi) none none 0 0 0 0 [] [] s_table _ (rd_nil _ _) (rd_nil _ _) (fr_none _ _) (fr_none _ _) (by omega) (by decide) (one_B f_table)).mono ?_; rintro e w3 ⟨A3, c3, rfl, hr3, hb3⟩))
    exact HFW.out _ _ _ _ _ (by unfold rS; rw [hk, HA3.out]; rfl) (by unfold rP; rw [hk, HA3.out]; rfl) (seq hbw hbi) ⟨A3, c3, rfl, hr3, hb3⟩
  · obtain ⟨t1, t2, t3, t4, t5, t6, t7⟩ := k2_facts hk
    have hIs := HIS.out
    have hF2 : ∀ W, Below w.heap.size w W → Calls Tryd.prog 75 #[.slice A a3.length c, .string c_td, .slice (some ⟨W.heap.size, 0, none⟩) 2 2, .slice (some ⟨W.heap.size + 1, 0, none⟩) 1 1] ((W.alloc (.cells #[.string s_tbody, .string s_tr] 9)).alloc (.cells #[.string s_tr] 9)) (Two w.heap.size A c (plS cellsB a3) (plP cellsB [s_tbody, s_tr] [s_tr] a3) ((W.alloc (.cells #[.string s_tbody, .string s_tr] 9)).alloc (.cells #[.string s_tr] 9))) := fun W h => by
      have hx := lit1 (W.alloc (.cells #[.string s_tbody, .string s_tr] 9)) s_tr
      rw [show (W.alloc (.cells #[.string s_tbody, .string s_tr] 9)).heap.size = W.heap.size + 1 from by simp] at hx
      exact HPL.out _ ((h.alloc h.size _).alloc (by have := h.size; simp; omega) _) _ _ 2 2 1 1 [s_tbody, s_tr] [s_tr] c_td _ ((lit2 W s_tbody s_tr).below ((Below.refl _ _).alloc (Nat.le_refl _) _)) hx (fr_lit _ _ h.size _) (fr_lit _ _ (Nat.le_succ_of_le h.size) _) (by omega) (by decide) cellsB_eq
    have HF2 := Lib.hid hF2
    clear hF2
    cases t8 : (y.toList == [116, 100])
    · have t9 := t7 t8
      clear t7
      go_wp2_with (first
        | (go_at_call 58; refine (hIs _ c_own _ (by decide) rfl).mono ?_; rintro e wi ⟨rfl, hbi⟩; rw [t4])
        | (go_at_call 75; refine (HF2.out wi (seq hbw hbi)).mono ?_; rintro e w3 ⟨A3, c3, rfl, hr3, hb3⟩))
      exact HFW.out _ _ _ _ _ (by unfold rS; rw [hk, HA3.out]; rfl) (by unfold rP; rw [hk, HA3.out]; rfl) (((seq hbw hbi).alloc (seq hbw hbi).size _).alloc (by have := (seq hbw hbi).size; simp; omega) _) ⟨A3, c3, rfl, hr3, hb3⟩
    · clear t7
      go_wp2_with (first
        | (go_at_call 58; refine (hIs _ c_own _ (by decide) rfl).mono ?_; rintro e wi ⟨rfl, hbi⟩; rw [t4])
        | (go_at_call 75; refine (HF2.out wi (seq hbw hbi)).mono ?_; rintro e w3 ⟨A3, c3, rfl, hr3, hb3⟩))
      exact HFW.out _ _ _ _ _ (by unfold rS; rw [hk, HA3.out]; rfl) (by unfold rP; rw [hk, HA3.out]; rfl) (((seq hbw hbi).alloc (seq hbw hbi).size _).alloc (by have := (seq hbw hbi).size; simp; omega) _) ⟨A3, c3, rfl, hr3, hb3⟩
  · obtain ⟨t1, t2, t3, t4, t5⟩ := k3_facts hk
    have hIs := HIS.out
    go_wp2_with (first
      | (go_at_call 58; refine (hIs _ c_own _ (by decide) rfl).mono ?_; rintro e wi ⟨rfl, hbi⟩; rw [t4])
      | (go_at_call 75; refine (HPL.out _ ((seq hbw hbi).alloc (seq hbw hbi).size (.cells #[.string s_colgroup] 9)) (some ⟨wi.heap.size, 0, none⟩) none 1 1 0 0 [s_colgroup] [] c_col _ (lit1 _ _) (rd_nil _ _) (fr_lit _ _ (seq hbw hbi).size _) (fr_none _ _) (by omega) (by decide) colB_eq).mono ?_; rintro e w3 ⟨A3, c3, rfl, hr3, hb3⟩))
    exact HFW.out _ _ _ _ _ (by unfold rS; rw [hk, HA3.out]; rfl) (by unfold rP; rw [hk, HA3.out]; rfl) ((seq hbw hbi).alloc (seq hbw hbi).size _) ⟨A3, c3, rfl, hr3, hb3⟩
  · obtain ⟨t1, t2, t3, t4, t5, t6⟩ := k4_facts hk
    have hIs := HIS.out
    go_wp2_with (first
      | (go_at_call 58; refine (hIs _ c_own _ (by decide) rfl).mono ?_; rintro e wi ⟨rfl, hbi⟩; rw [t4])
      | (go_at_call 75; refine (HPL.out _ ((seq hbw hbi).alloc (seq hbw hbi).size (.cells #[.string s_tbody] 9)) (some ⟨wi.heap.size, 0, none⟩) none 1 1 0 0 [s_tbody] [] c_tr _ (lit1 _ _) (rd_nil _ _) (fr_lit _ _ (seq hbw hbi).size _) (fr_none _ _) (by omega) (by decide) trB_eq).mono ?_; rintro e w3 ⟨A3, c3, rfl, hr3, hb3⟩))
    exact HFW.out _ _ _ _ _ (by unfold rS; rw [hk, HA3.out]; rfl) (by unfold rP; rw [hk, HA3.out]; rfl) ((seq hbw hbi).alloc (seq hbw hbi).size _) ⟨A3, c3, rfl, hr3, hb3⟩
  · obtain ⟨t4, t5, t6, t7, t8⟩ := k0_facts hk
    cases t1 : (y.toList == [108, 105])
    · cases t2 : (y.toList == [100, 116])
      · cases t3 : (y.toList == [100, 100])
        · have hIs := HIS.out
          have eS : rS y s = innS a3 := by unfold rS; rw [hk]; show (if is_li y then _ else _) = _; unfold is_li is_dt is_dd; rw [HA3.out]; simp [t1, t2, t3]
          have eP : rP y s = innP a3 := by unfold rP; rw [hk]; show (if is_li y then _ else _) = _; unfold is_li is_dt is_dd; rw [HA3.out]; simp [t1, t2, t3]
          go_wp2_with (first
            | (go_at_call 58; refine (hIs _ c_own _ (by decide) rfl).mono ?_; rintro e wi ⟨rfl, hbi⟩; rw [t4])
            | (go_at_call 57; refine (HIN.out _ (seq hbw hbi)).mono ?_; rintro e w3 ⟨A3, c3, rfl, hr3, hb3⟩))
          exact HFW.out _ _ _ _ _ eS eP (seq hbw hbi) ⟨A3, c3, rfl, hr3, hb3⟩
        · have eS : rS y s = rItS (namedB s_dl) a3 := by unfold rS; rw [hk]; show (if is_li y then _ else _) = _; unfold is_li is_dt is_dd; rw [HA3.out]; simp [t1, t2, t3]
          have eP : rP y s = rItP (namedB s_dl) s_dl a3 := by unfold rP; rw [hk]; show (if is_li y then _ else _) = _; unfold is_li is_dt is_dd; rw [HA3.out]; simp [t1, t2, t3]
          have HA := Lib.hid (HAB3.out _ hbw s_dl _ (by decide) (one_B f_dl) c_walls _ (by decide) walls_B)
          by_cases h0 : 0 ≤ tm (namedB s_dl) wallB a3
          · obtain ⟨m, hm⟩ : ∃ m : Nat, tm (namedB s_dl) wallB a3 = m := ⟨(tm (namedB s_dl) wallB a3).toNat, by omega⟩
            have e1 : rItS (namedB s_dl) a3 = a3.take (m + 1) := by unfold rItS; rw [if_pos h0, hm, Int.toNat_natCast]
            have e2 : rItP (namedB s_dl) s_dl a3 = [] := by unfold rItP; rw [if_pos h0]
            have e3 : (a3.take (m + 1)).length = m + 1 := by rw [List.length_take]; omega
            rw [hm] at HA hdl
            have hmc : m + 1 ≤ c := by omega
            have hmi : ((m : Int) + 1).toNat = m + 1 := by omega
            go_wp2_with (go_at_call 59; refine HA.out.mono ?_; rintro e w3 ⟨rfl, hb3⟩)
            exact HFW.out _ _ _ _ _ (eS.trans e1) (eP.trans e2) (seq hbw hb3) ⟨none, 0, by rw [e3]; rfl, ⟨rd_nil _ _, fr_none _ _⟩, Below.refl _ _⟩
          · have hm : tm (namedB s_dl) wallB a3 = -1 := by omega
            have e1 : rItS (namedB s_dl) a3 = innS a3 := by unfold rItS; rw [if_neg h0]
            have e2 : rItP (namedB s_dl) s_dl a3 = innP a3 ++ [s_dl] := by unfold rItP; rw [if_neg h0]
            rw [hm] at HA
            rw [e1] at eS
            rw [e2] at eP
            have HES := Lib.hid eS
            have HEP := Lib.hid eP
            clear eS eP e1 e2
            generalize innS a3 = S5 at *
            generalize innP a3 = P5 at *
            go_upto_region 22 with (first
              | (go_at_call 59; refine HA.out.mono ?_; rintro e w3 ⟨rfl, hb3⟩)
              | (go_at_call 57; refine (HIN.out _ (seq hbw hb3)).mono ?_; rintro e w4 ⟨A2, c2, rfl, ⟨hr4, hfr4⟩, hb4⟩))
            have hbw4 := seq (seq hbw hb3) hb4
            obtain ⟨B, hB⟩ : ∃ B, B = w4.heap.size := ⟨_, rfl⟩
            have ho5 : Fl.Own (w4.alloc (.cells #[] 9)) B (.slice (some ⟨w4.heap.size, 0, none⟩) 0 0) [] := own_lit (w := w4) (Nat.le_of_eq hB) [] (by simp)
            have hr5 := hr4.below ((Below.refl _ _).alloc (Nat.le_refl _) (.cells #[] 9))
            have hBw : w.heap.size ≤ B := by rw [hB]; exact hbw4.size
            have hb5 : Below w.heap.size w (w4.alloc (.cells #[] 9)) := hbw4.alloc hbw4.size _
            have hz5 : B ≤ (w4.alloc (.cells #[] 9)).heap.size := by rw [hB]; simp
            go_wp2_with (first
              | (at_builtin; refine wpList_append_src _ rfl (.tmp 82) (.tmp 83) 25 rfl B 9 i0 (.string ByteArray.empty) 1 16 Tryd.underlying25 hi hz0 hz1 hz2 rfl (by decide) _ _ _ rfl ho5 A2 P5.length c2 (P5.map Value.string) rfl (by simp) hr5.cells (by simp [Value.oneCell']) (len_max (by simp only [List.length_nil]; omega)) (len_by (by simp only [List.length_nil]; omega)) hz5 ?_; intro v6 w6 hown6 hgrow6 hrow6; obtain ⟨A6, m6, c6, rfl⟩ := slice_of hown6; have hb6 := hb5.grown hgrow6 (Nat.le_trans hBw hz5) (fun k hk => Nat.le_trans hBw (ho5.ge k hk)); have hz6 := Nat.le_trans hz5 hgrow6.size; have ho6 : Fl.Own w6 B (.slice A6 m6 c6) P5 := (by unfold Fl.Own; simpa using hown6); have ho7 : Fl.Own (w6.alloc (.cells #[.string s_dl] 9)) B (.slice A6 m6 c6) P5 := ho6.alloc _; have hb7 := hb6.alloc hb6.size (.cells #[.string s_dl] 9))
              | (at_builtin; refine wpList_append_src _ rfl (.tmp 84) (.tmp 86) 25 rfl B 9 i0 (.string ByteArray.empty) 1 16 Tryd.underlying25 hi hz0 hz1 hz2 rfl (by decide) _ _ _ rfl ho7 (some ⟨_, 0, none⟩) 1 1 [.string s_dl] rfl rfl (one_src _ _ _ _ (by simp)) (Lb.one_cell rfl) (len_max (by omega)) (len_by (by omega)) (le_alloc hz6 _) ?_; intro v8 w8 hown8 hgrow8 hrow8; obtain ⟨A8, m8, c8, rfl⟩ := slice_of hown8; have hb8 := hb7.grown hgrow8 hb7.size (fun k hk => Nat.le_trans hBw (ho7.ge k hk)); have ho8 : Fl.Own w8 B (.slice A8 m8 c8) (P5 ++ [s_dl]) := Own.push hown8))
            obtain ⟨A10, c10, h10'⟩ := ho8.form
            injection h10' with q1 q2 q3
            subst q1 q2 q3
            exact HFW.out _ _ _ _ _ HES.out HEP.out hb8 ⟨_, _, rfl, ⟨ho8.rd, fr_own ho8 hBw⟩, Below.refl _ _⟩
      · have eS : rS y s = rItS (namedB s_dl) a3 := by unfold rS; rw [hk]; show (if is_li y then _ else _) = _; unfold is_li is_dt is_dd; rw [HA3.out]; simp [t1, t2]
        have eP : rP y s = rItP (namedB s_dl) s_dl a3 := by unfold rP; rw [hk]; show (if is_li y then _ else _) = _; unfold is_li is_dt is_dd; rw [HA3.out]; simp [t1, t2]
        have HA := Lib.hid (HAB3.out _ hbw s_dl _ (by decide) (one_B f_dl) c_walls _ (by decide) walls_B)
        by_cases h0 : 0 ≤ tm (namedB s_dl) wallB a3
        · obtain ⟨m, hm⟩ : ∃ m : Nat, tm (namedB s_dl) wallB a3 = m := ⟨(tm (namedB s_dl) wallB a3).toNat, by omega⟩
          have e1 : rItS (namedB s_dl) a3 = a3.take (m + 1) := by unfold rItS; rw [if_pos h0, hm, Int.toNat_natCast]
          have e2 : rItP (namedB s_dl) s_dl a3 = [] := by unfold rItP; rw [if_pos h0]
          have e3 : (a3.take (m + 1)).length = m + 1 := by rw [List.length_take]; omega
          rw [hm] at HA hdl
          have hmc : m + 1 ≤ c := by omega
          have hmi : ((m : Int) + 1).toNat = m + 1 := by omega
          go_wp2_with (go_at_call 59; refine HA.out.mono ?_; rintro e w3 ⟨rfl, hb3⟩)
          exact HFW.out _ _ _ _ _ (eS.trans e1) (eP.trans e2) (seq hbw hb3) ⟨none, 0, by rw [e3]; rfl, ⟨rd_nil _ _, fr_none _ _⟩, Below.refl _ _⟩
        · have hm : tm (namedB s_dl) wallB a3 = -1 := by omega
          have e1 : rItS (namedB s_dl) a3 = innS a3 := by unfold rItS; rw [if_neg h0]
          have e2 : rItP (namedB s_dl) s_dl a3 = innP a3 ++ [s_dl] := by unfold rItP; rw [if_neg h0]
          rw [hm] at HA
          rw [e1] at eS
          rw [e2] at eP
          have HES := Lib.hid eS
          have HEP := Lib.hid eP
          clear eS eP e1 e2
          generalize innS a3 = S5 at *
          generalize innP a3 = P5 at *
          go_upto_region 22 with (first
            | (go_at_call 59; refine HA.out.mono ?_; rintro e w3 ⟨rfl, hb3⟩)
            | (go_at_call 57; refine (HIN.out _ (seq hbw hb3)).mono ?_; rintro e w4 ⟨A2, c2, rfl, ⟨hr4, hfr4⟩, hb4⟩))
          have hbw4 := seq (seq hbw hb3) hb4
          obtain ⟨B, hB⟩ : ∃ B, B = w4.heap.size := ⟨_, rfl⟩
          have ho5 : Fl.Own (w4.alloc (.cells #[] 9)) B (.slice (some ⟨w4.heap.size, 0, none⟩) 0 0) [] := own_lit (w := w4) (Nat.le_of_eq hB) [] (by simp)
          have hr5 := hr4.below ((Below.refl _ _).alloc (Nat.le_refl _) (.cells #[] 9))
          have hBw : w.heap.size ≤ B := by rw [hB]; exact hbw4.size
          have hb5 : Below w.heap.size w (w4.alloc (.cells #[] 9)) := hbw4.alloc hbw4.size _
          have hz5 : B ≤ (w4.alloc (.cells #[] 9)).heap.size := by rw [hB]; simp
          go_wp2_with (first
            | (at_builtin; refine wpList_append_src _ rfl (.tmp 82) (.tmp 83) 25 rfl B 9 i0 (.string ByteArray.empty) 1 16 Tryd.underlying25 hi hz0 hz1 hz2 rfl (by decide) _ _ _ rfl ho5 A2 P5.length c2 (P5.map Value.string) rfl (by simp) hr5.cells (by simp [Value.oneCell']) (len_max (by simp only [List.length_nil]; omega)) (len_by (by simp only [List.length_nil]; omega)) hz5 ?_; intro v6 w6 hown6 hgrow6 hrow6; obtain ⟨A6, m6, c6, rfl⟩ := slice_of hown6; have hb6 := hb5.grown hgrow6 (Nat.le_trans hBw hz5) (fun k hk => Nat.le_trans hBw (ho5.ge k hk)); have hz6 := Nat.le_trans hz5 hgrow6.size; have ho6 : Fl.Own w6 B (.slice A6 m6 c6) P5 := (by unfold Fl.Own; simpa using hown6); have ho7 : Fl.Own (w6.alloc (.cells #[.string s_dl] 9)) B (.slice A6 m6 c6) P5 := ho6.alloc _; have hb7 := hb6.alloc hb6.size (.cells #[.string s_dl] 9))
            | (at_builtin; refine wpList_append_src _ rfl (.tmp 84) (.tmp 86) 25 rfl B 9 i0 (.string ByteArray.empty) 1 16 Tryd.underlying25 hi hz0 hz1 hz2 rfl (by decide) _ _ _ rfl ho7 (some ⟨_, 0, none⟩) 1 1 [.string s_dl] rfl rfl (one_src _ _ _ _ (by simp)) (Lb.one_cell rfl) (len_max (by omega)) (len_by (by omega)) (le_alloc hz6 _) ?_; intro v8 w8 hown8 hgrow8 hrow8; obtain ⟨A8, m8, c8, rfl⟩ := slice_of hown8; have hb8 := hb7.grown hgrow8 hb7.size (fun k hk => Nat.le_trans hBw (ho7.ge k hk)); have ho8 : Fl.Own w8 B (.slice A8 m8 c8) (P5 ++ [s_dl]) := Own.push hown8))
          obtain ⟨A10, c10, h10'⟩ := ho8.form
          injection h10' with q1 q2 q3
          subst q1 q2 q3
          exact HFW.out _ _ _ _ _ HES.out HEP.out hb8 ⟨_, _, rfl, ⟨ho8.rd, fr_own ho8 hBw⟩, Below.refl _ _⟩
    · have eS : rS y s = rItS listB a3 := by unfold rS; rw [hk]; show (if is_li y then _ else _) = _; unfold is_li is_dt is_dd; rw [HA3.out]; simp [t1]
      have eP : rP y s = rItP listB s_ul a3 := by unfold rP; rw [hk]; show (if is_li y then _ else _) = _; unfold is_li is_dt is_dd; rw [HA3.out]; simp [t1]
      have HA := Lib.hid (HAB3.out _ hbw c_lists _ (by decide) lists_B c_walls _ (by decide) walls_B)
      by_cases h0 : 0 ≤ tm listB wallB a3
      · obtain ⟨m, hm⟩ : ∃ m : Nat, tm listB wallB a3 = m := ⟨(tm listB wallB a3).toNat, by omega⟩
        have e1 : rItS listB a3 = a3.take (m + 1) := by unfold rItS; rw [if_pos h0, hm, Int.toNat_natCast]
        have e2 : rItP listB s_ul a3 = [] := by unfold rItP; rw [if_pos h0]
        have e3 : (a3.take (m + 1)).length = m + 1 := by rw [List.length_take]; omega
        rw [hm] at HA htl
        have hmc : m + 1 ≤ c := by omega
        have hmi : ((m : Int) + 1).toNat = m + 1 := by omega
        go_wp2_with (go_at_call 59; refine HA.out.mono ?_; rintro e w3 ⟨rfl, hb3⟩)
        exact HFW.out _ _ _ _ _ (eS.trans e1) (eP.trans e2) (seq hbw hb3) ⟨none, 0, by rw [e3]; rfl, ⟨rd_nil _ _, fr_none _ _⟩, Below.refl _ _⟩
      · have hm : tm listB wallB a3 = -1 := by omega
        have e1 : rItS listB a3 = innS a3 := by unfold rItS; rw [if_neg h0]
        have e2 : rItP listB s_ul a3 = innP a3 ++ [s_ul] := by unfold rItP; rw [if_neg h0]
        rw [hm] at HA
        rw [e1] at eS
        rw [e2] at eP
        have HES := Lib.hid eS
        have HEP := Lib.hid eP
        clear eS eP e1 e2
        generalize innS a3 = S5 at *
        generalize innP a3 = P5 at *
        go_upto_region 22 with (first
          | (go_at_call 59; refine HA.out.mono ?_; rintro e w3 ⟨rfl, hb3⟩)
          | (go_at_call 57; refine (HIN.out _ (seq hbw hb3)).mono ?_; rintro e w4 ⟨A2, c2, rfl, ⟨hr4, hfr4⟩, hb4⟩))
        have hbw4 := seq (seq hbw hb3) hb4
        obtain ⟨B, hB⟩ : ∃ B, B = w4.heap.size := ⟨_, rfl⟩
        have ho5 : Fl.Own (w4.alloc (.cells #[] 9)) B (.slice (some ⟨w4.heap.size, 0, none⟩) 0 0) [] := own_lit (w := w4) (Nat.le_of_eq hB) [] (by simp)
        have hr5 := hr4.below ((Below.refl _ _).alloc (Nat.le_refl _) (.cells #[] 9))
        have hBw : w.heap.size ≤ B := by rw [hB]; exact hbw4.size
        have hb5 : Below w.heap.size w (w4.alloc (.cells #[] 9)) := hbw4.alloc hbw4.size _
        have hz5 : B ≤ (w4.alloc (.cells #[] 9)).heap.size := by rw [hB]; simp
        go_wp2_with (first
          | (at_builtin; refine wpList_append_src _ rfl (.tmp 82) (.tmp 83) 25 rfl B 9 i0 (.string ByteArray.empty) 1 16 Tryd.underlying25 hi hz0 hz1 hz2 rfl (by decide) _ _ _ rfl ho5 A2 P5.length c2 (P5.map Value.string) rfl (by simp) hr5.cells (by simp [Value.oneCell']) (len_max (by simp only [List.length_nil]; omega)) (len_by (by simp only [List.length_nil]; omega)) hz5 ?_; intro v6 w6 hown6 hgrow6 hrow6; obtain ⟨A6, m6, c6, rfl⟩ := slice_of hown6; have hb6 := hb5.grown hgrow6 (Nat.le_trans hBw hz5) (fun k hk => Nat.le_trans hBw (ho5.ge k hk)); have hz6 := Nat.le_trans hz5 hgrow6.size; have ho6 : Fl.Own w6 B (.slice A6 m6 c6) P5 := (by unfold Fl.Own; simpa using hown6); have ho7 : Fl.Own (w6.alloc (.cells #[.string s_ul] 9)) B (.slice A6 m6 c6) P5 := ho6.alloc _; have hb7 := hb6.alloc hb6.size (.cells #[.string s_ul] 9))
          | (at_builtin; refine wpList_append_src _ rfl (.tmp 84) (.tmp 86) 25 rfl B 9 i0 (.string ByteArray.empty) 1 16 Tryd.underlying25 hi hz0 hz1 hz2 rfl (by decide) _ _ _ rfl ho7 (some ⟨_, 0, none⟩) 1 1 [.string s_ul] rfl rfl (one_src _ _ _ _ (by simp)) (Lb.one_cell rfl) (len_max (by omega)) (len_by (by omega)) (le_alloc hz6 _) ?_; intro v8 w8 hown8 hgrow8 hrow8; obtain ⟨A8, m8, c8, rfl⟩ := slice_of hown8; have hb8 := hb7.grown hgrow8 hb7.size (fun k hk => Nat.le_trans hBw (ho7.ge k hk)); have ho8 : Fl.Own w8 B (.slice A8 m8 c8) (P5 ++ [s_ul]) := Own.push hown8))
        obtain ⟨A10, c10, h10'⟩ := ho8.form
        injection h10' with q1 q2 q3
        subst q1 q2 q3
        exact HFW.out _ _ _ _ _ HES.out HEP.out hb8 ⟨_, _, rfl, ⟨ho8.rd, fr_own ho8 hBw⟩, Below.refl _ _⟩
theorem asksC (w : World) (A : Option Addr) (n c : Nat) (s : List ByteArray) (y : ByteArray) (hr : Rd w A n s) (hc : n ≤ c) (hc2 : c ≤ 9223372036854775807) :
    Calls Tryd.prog 46 #[.slice A n c, .string y] w (Two w.heap.size A c (rS y s) (rP y s) w) := asksQ _ w A n c s y hr hc hc2 fun _ _ h => h
end Go.Proofs.YtddgpkdhakjjaaaDoor.Rq
