/- What else is wrong with a policy: the program's closed, schemesRight, dropRight, limitsRight. -/
import Derived.Test.YteikagdinecfoaaGreatDoorEr
import Derived.Test.YteikagdinecfoaaGreatDoorNd
set_option linter.unusedVariables false
set_option linter.unusedSimpArgs false
namespace Go.Proofs.YteikagdinecfoaaGreatDoor.Sd
open Go.RowKit Lb Gr Pd Fl Go.Proofs.YteikagdinecfoaaGreatDoor.Pm Bk Is Sl Ha Rm Rn Ro Go.Proofs.YteikagdinecfoaaGreatDoor.Ck Go.Proofs.YteikagdinecfoaaGreatDoor.Lk Go.Proofs.YteikagdinecfoaaGreatDoor.Nd Go.Proofs.YteikagdinecfoaaGreatDoor.Th Go.Proofs.YteikagdinecfoaaGreatDoor.Er
attribute [local go_sem ↓] Go.wp_at_zero Go.wp_at_succ

def codeI (b : Bool) (c : Int) : Int := if b then 0 else c
/-- what the rounds so far have told -/
def acc (b : Bool) (c : Int) : Value := .int .i64 (codeI b c)
theorem acc_t (c : Int) : acc true c = .int .i64 0 := rfl
theorem acc_f (c : Int) : acc false c = .int .i64 c := rfl
/-- of a list in which each one is looked at with those ahead of it -/
def onceAll (ok : ByteArray → Bool) (l : List ByteArray) (k : Nat) : Bool := onceFrom ok [] (l.take k)
theorem onceFrom_app (ok : ByteArray → Bool) : ∀ (a b c : List ByteArray), onceFrom ok a (b ++ c) = (onceFrom ok a b && onceFrom ok (a ++ b) c)
  | a, [], c => by simp [onceFrom]
  | a, s :: t, c => by
    simp only [List.cons_append, onceFrom]
    rw [onceFrom_app ok (a ++ [s]) t c, List.append_assoc]
    simp [Bool.and_assoc]
theorem onceAll_succ {ok : ByteArray → Bool} {l : List ByteArray} {k : Nat} (h : k < l.length) : onceAll ok l (k + 1) = (onceAll ok l k && (ok l[k] && !hasT (l.take k) l[k])) := by
  unfold onceAll
  rw [List.take_succ_eq_append_getElem h, onceFrom_app]
  simp [onceFrom]

set_option maxHeartbeats 8000000 in
set_option maxRecDepth 100000 in
theorem schemesRightC (x : Vs) (p : PolD) (w : World) (hn : NevT w) (h : RdP w 0 w.heap.size x p) (hok : OkT p.schemes) : Calls Tryz.prog 72 #[polV x p] w fun e w' => e = .returned (.int .i64 (schI p)) ∧ Below w.heap.size w w' := by
  obtain ⟨A1, c1, A2, c2, A3, c3, A4, c4, rfl, q1, q2, q3, q4, q5, q6, q7, q8⟩ := h.form
  have HRD : Hid (∀ W, Below w.heap.size w W → kdW.rd W 0 w.heap.size (.slice A3 p.schemes.length c3) p.schemes) := Lib.hid fun W hW => kdW.stay h.2.2.1 (stay_below hW (Nat.le_refl _))
  obtain ⟨hl, hw⟩ := hok
  have HM : Hid (∀ W k (hk : k < p.schemes.length), Below w.heap.size w W → Calls Tryz.prog 132 #[.string p.schemes[k]] W fun e w' => e = .returned (.int .i64 (schCode (schemeB p.schemes[k]))) ∧ Below W.heap.size W w') :=
    Lib.hid fun W k hk hW => checkC p.schemes[k] W (hn.below hW) (hw k hk)
  have HC : Hid (∀ W k (hk : k < p.schemes.length), Below w.heap.size w W → Calls Tryz.prog 87 #[.slice A3 k c3, .string p.schemes[k]] W fun e w' => e = .returned (.bool (hasT (p.schemes.take k) p.schemes[k])) ∧ W = w') :=
    Lib.hid fun W k hk hW => libContains (rdW_take (kdW.stay h.2.2.1 (stay_below hW (Nat.le_refl _))) (Nat.le_of_lt hk)) (by omega) p.schemes[k]
  have HB : Hid (schI p = codeI (onceAll schemeB p.schemes p.schemes.length) 143) := Lib.hid (by unfold schI codeI onceAll schOk; rw [List.take_length])
  have H0 : Hid (onceAll schemeB p.schemes 0 = true) := Lib.hid rfl
  clear h hw hn
  unfold polV
  go_enter Tryz.func72, Tryz.ntmps72
  go_wp2
  go_loopw [2, 8] (fun v2 i wr => ∃ k : Nat, k ≤ p.schemes.length ∧ i = .int .i64 k ∧ v2 = acc (onceAll schemeB p.schemes k) 143 ∧ Bl wr w.heap.size 29 [.slice A1 p.els.length c1, .slice A2 p.glob.length c2, .slice A3 p.schemes.length c3, .bool p.rel, .slice A4 p.drop.length c4, .int .i64 p.depth, .int .i64 p.window] ∧ Below w.heap.size w wr) (fun _ i _ => p.schemes.length - (intOf i).toNat)
  case atStart => exact ⟨0, by omega, rfl, by rw [H0.out]; rfl, Bl.new w _ _ rfl, (Below.refl _ _).alloc (Nat.le_refl _) _⟩
  case round =>
    obtain ⟨k, hk, rfl, hv2, m1, hnx⟩ := hrel
    have HV2 := Lib.hid hv2
    clear hv2
    by_cases hlt : k < p.schemes.length
    · obtain ⟨b, off, rfl, hb1, hb2, hcell⟩ := rdW_at (HRD.out _ hnx) hlt
      have z0 := m1.cell 2 rfl
      have hz9 := hnx.size
      have hk0 : (0 : Int) ≤ (k : Int) := by omega
      have hkc : k ≤ c3 := by omega
      have hkc2 : (k : Int) ≤ (c3 : Int) := by omega
      have hsu := Lib.hid (onceAll_succ (ok := schemeB) hlt)
      go_upto_region 4 with fail
      cases hin : schemeB p.schemes[k]
      · have hr : Hid (onceAll schemeB p.schemes (k + 1) = false) := Lib.hid (by rw [hsu.out, hin]; simp)
        have HI2 : Hid (∀ W, Below w.heap.size w W → Calls Tryz.prog 132 #[.string p.schemes[k]] W fun e w' => e = .returned (.int .i64 120) ∧ Below W.heap.size W w') := Lib.hid fun W hW => by
          have := HM.out W k hlt hW
          rw [hin] at this; exact this
        clear hin
        go_wp2_with (first | (go_at_call 132; refine (HI2.out _ (by exact hnx)).mono ?_; rintro e w1 ⟨rfl, hb3⟩; have m3 := m1.below hb3; have z1 := m3.cell 2 rfl))
        go_roundw
        case rel => exact ⟨k + 1, by omega, by go_num, by rw [hr.out]; rfl, m3, hnx.trans (hb3.mono hnx.size)⟩
        case measure => simp [intOf] <;> omega
      · have HI2 : Hid (∀ W, Below w.heap.size w W → Calls Tryz.prog 132 #[.string p.schemes[k]] W fun e w' => e = .returned (.int .i64 0) ∧ Below W.heap.size W w') := Lib.hid fun W hW => by
          have := HM.out W k hlt hW
          rw [hin] at this; exact this
        cases hha : hasT (p.schemes.take k) p.schemes[k]
        · have hr : Hid (onceAll schemeB p.schemes (k + 1) = onceAll schemeB p.schemes k) := Lib.hid (by rw [hsu.out, hin, hha]; simp)
          have HH2 : Hid (∀ W, Below w.heap.size w W → Calls Tryz.prog 87 #[.slice (some ⟨b, off, none⟩) k c3, .string p.schemes[k]] W fun e w' => e = .returned (.bool false) ∧ W = w') := Lib.hid fun W hW => hha ▸ HC.out W k hlt hW
          clear hha hin
          go_wp2_with (first
              | (go_at_call 132; refine (HI2.out _ (by exact hnx)).mono ?_; rintro e w1 ⟨rfl, hb3⟩; have hb4 := hnx.trans (hb3.mono hnx.size); have m3 := m1.below hb3; have z1 := m3.cell 2 rfl)
              | (go_at_call 87; refine (HH2.out _ (by exact hb4)).mono ?_; rintro e w2 ⟨rfl, rfl⟩))
          go_roundw
          case rel => exact ⟨k + 1, by omega, by go_num, by rw [hr.out]; exact HV2.out, m3, hb4⟩
          case measure => simp [intOf] <;> omega
        · have hr : Hid (onceAll schemeB p.schemes (k + 1) = false) := Lib.hid (by rw [hsu.out, hin, hha]; simp)
          have HH2 : Hid (∀ W, Below w.heap.size w W → Calls Tryz.prog 87 #[.slice (some ⟨b, off, none⟩) k c3, .string p.schemes[k]] W fun e w' => e = .returned (.bool true) ∧ W = w') := Lib.hid fun W hW => hha ▸ HC.out W k hlt hW
          clear hha hin
          go_wp2_with (first
              | (go_at_call 132; refine (HI2.out _ (by exact hnx)).mono ?_; rintro e w1 ⟨rfl, hb3⟩; have hb4 := hnx.trans (hb3.mono hnx.size); have m3 := m1.below hb3; have z1 := m3.cell 2 rfl)
              | (go_at_call 87; refine (HH2.out _ (by exact hb4)).mono ?_; rintro e w2 ⟨rfl, rfl⟩))
          go_roundw
          case rel => exact ⟨k + 1, by omega, by go_num, by rw [hr.out]; rfl, m3, hb4⟩
          case measure => simp [intOf] <;> omega
    · obtain rfl : k = p.schemes.length := by omega
      go_wp2
      go_ret
      exact ⟨by rw [HV2.out, HB.out]; rfl, hnx⟩

set_option maxHeartbeats 8000000 in
set_option maxRecDepth 100000 in
theorem dropRightC (x : Vs) (p : PolD) (w : World) (h : RdP w 0 w.heap.size x p) (hok : p.drop.length ≤ 9223372036854775807 ∧ p.els.length ≤ 9223372036854775807) : Calls Tryz.prog 73 #[polV x p] w fun e w' => e = .returned (.int .i64 (dropI p)) ∧ Below w.heap.size w w' := by
  obtain ⟨A1, c1, A2, c2, A3, c3, A4, c4, rfl, q1, q2, q3, q4, q5, q6, q7, q8⟩ := h.form
  have HRD : Hid (∀ W, Below w.heap.size w W → kdW.rd W 0 w.heap.size (.slice A4 p.drop.length c4) p.drop) := Lib.hid fun W hW => kdW.stay h.2.2.2 (stay_below hW (Nat.le_refl _))
  obtain ⟨hl, hl2⟩ := hok
  have HT : Hid (∀ W k (hk : k < p.drop.length), Calls Tryz.prog 133 #[.string p.drop[k]] W fun e w' => e = .returned (.bool (tagB p.drop[k])) ∧ W = w') := Lib.hid fun W k hk => Go.Proofs.YteikagdinecfoaaGreatDoor.Fm.nTagName _ W
  have HH : Hid (∀ W k (hk : k < p.drop.length), Below w.heap.size w W → Calls Tryz.prog 93 #[.agg #[.slice A1 p.els.length c1, .slice A2 p.glob.length c2, .slice A3 p.schemes.length c3, .bool p.rel, .slice A4 p.drop.length c4, .int .i64 p.depth, .int .i64 p.window], .string p.drop[k]] W fun e w' => e = .returned (.bool (hasE p.els p.drop[k])) ∧ Below W.heap.size W w') :=
    Lib.hid fun W k hk hW => hasC A1 A2 A3 A4 p.els.length c1 _ c2 _ c3 _ c4 p.rel p.depth p.window p.drop[k] p.els W (kdE.wide (kdE.stay h.1 (stay_below hW (Nat.le_refl _))) (Nat.le_refl _) hW.size) hl2
  have HC : Hid (∀ W k (hk : k < p.drop.length), Below w.heap.size w W → Calls Tryz.prog 87 #[.slice A4 k c4, .string p.drop[k]] W fun e w' => e = .returned (.bool (hasT (p.drop.take k) p.drop[k])) ∧ W = w') :=
    Lib.hid fun W k hk hW => libContains (rdW_take (kdW.stay h.2.2.2 (stay_below hW (Nat.le_refl _))) (Nat.le_of_lt hk)) (by omega) p.drop[k]
  obtain ⟨ok, hok⟩ : ∃ ok : ByteArray → Bool, ok = fun n => tagB n && !hasE p.els n := ⟨_, rfl⟩
  have HOK : Hid (∀ n, ok n = (tagB n && !hasE p.els n)) := Lib.hid (by intro n; rw [hok])
  have HB : Hid (dropI p = codeI (onceAll ok p.drop p.drop.length) 140) := Lib.hid (by unfold dropI codeI onceAll dropOk; rw [List.take_length, hok])
  have H0 : Hid (onceAll ok p.drop 0 = true) := Lib.hid rfl
  clear h hok
  unfold polV
  go_enter Tryz.func73, Tryz.ntmps73
  go_wp2
  go_loopw [2, 8] (fun v2 i wr => ∃ k : Nat, k ≤ p.drop.length ∧ i = .int .i64 k ∧ v2 = acc (onceAll ok p.drop k) 140 ∧ Bl wr w.heap.size 29 [.slice A1 p.els.length c1, .slice A2 p.glob.length c2, .slice A3 p.schemes.length c3, .bool p.rel, .slice A4 p.drop.length c4, .int .i64 p.depth, .int .i64 p.window] ∧ Below w.heap.size w wr) (fun _ i _ => p.drop.length - (intOf i).toNat)
  case atStart => exact ⟨0, by omega, rfl, by rw [H0.out]; rfl, Bl.new w _ _ rfl, (Below.refl _ _).alloc (Nat.le_refl _) _⟩
  case round =>
    obtain ⟨k, hk, rfl, hv2, m1, hnx⟩ := hrel
    have HV2 := Lib.hid hv2
    clear hv2
    by_cases hlt : k < p.drop.length
    · obtain ⟨b, off, rfl, hb1, hb2, hcell⟩ := rdW_at (HRD.out _ hnx) hlt
      have hrg := m1.range
      have z0 := m1.cell 0 rfl
      have z1 := m1.cell 1 rfl
      have z2 := m1.cell 2 rfl
      have z3 := m1.cell 3 rfl
      have z4 := m1.cell 4 rfl
      have z5 := m1.cell 5 rfl
      have z6 := m1.cell 6 rfl
      have hz9 := hnx.size
      have hk0 : (0 : Int) ≤ (k : Int) := by omega
      have hkc : k ≤ c4 := by omega
      have hkc2 : (k : Int) ≤ (c4 : Int) := by omega
      have hsu := Lib.hid (onceAll_succ (ok := ok) hlt)
      go_upto_region 4 with fail
      cases hin : tagB p.drop[k]
      · have hr : Hid (onceAll ok p.drop (k + 1) = false) := Lib.hid (by rw [hsu.out, HOK.out, hin]; simp)
        have HI2 : Hid (∀ W, Calls Tryz.prog 133 #[.string p.drop[k]] W fun e w' => e = .returned (.bool false) ∧ W = w') := Lib.hid fun W => hin ▸ HT.out W k hlt
        clear hin hrg
        go_wp2_with (first | (go_at_call 133; refine (HI2.out _).mono ?_; rintro e w1 ⟨rfl, rfl⟩))
        go_roundw
        case rel => exact ⟨k + 1, by omega, by go_num, by rw [hr.out]; rfl, m1, hnx⟩
        case measure => simp [intOf] <;> omega
      · have HI2 : Hid (∀ W, Calls Tryz.prog 133 #[.string p.drop[k]] W fun e w' => e = .returned (.bool true) ∧ W = w') := Lib.hid fun W => hin ▸ HT.out W k hlt
        cases hhe : hasE p.els p.drop[k]
        · have HE2 : Hid (∀ W, Below w.heap.size w W → Calls Tryz.prog 93 #[.agg #[.slice A1 p.els.length c1, .slice A2 p.glob.length c2, .slice A3 p.schemes.length c3, .bool p.rel, .slice (some ⟨b, off, none⟩) p.drop.length c4, .int .i64 p.depth, .int .i64 p.window], .string p.drop[k]] W fun e w' => e = .returned (.bool false) ∧ Below W.heap.size W w') := Lib.hid fun W hW => hhe ▸ HH.out W k hlt hW
          cases hha : hasT (p.drop.take k) p.drop[k]
          · have hr : Hid (onceAll ok p.drop (k + 1) = onceAll ok p.drop k) := Lib.hid (by rw [hsu.out, HOK.out, hin, hhe, hha]; simp)
            have HH2 : Hid (∀ W, Below w.heap.size w W → Calls Tryz.prog 87 #[.slice (some ⟨b, off, none⟩) k c4, .string p.drop[k]] W fun e w' => e = .returned (.bool false) ∧ W = w') := Lib.hid fun W hW => hha ▸ HC.out W k hlt hW
            clear hha hhe hin hrg
            go_wp2_with (first
                | (go_at_call 133; refine (HI2.out _).mono ?_; rintro e w1 ⟨rfl, rfl⟩)
                | (go_at_call 93; refine (HE2.out _ (by exact hnx)).mono ?_; rintro e w1 ⟨rfl, hb3⟩; have hb4 := hnx.trans (hb3.mono hnx.size); have m3 := m1.below hb3; have y0 := m3.cell 0 rfl; have y1 := m3.cell 1 rfl; have y2 := m3.cell 2 rfl; have y3 := m3.cell 3 rfl; have y4 := m3.cell 4 rfl; have y5 := m3.cell 5 rfl; have y6 := m3.cell 6 rfl)
                | (go_at_call 87; refine (HH2.out _ (by exact hb4)).mono ?_; rintro e w2 ⟨rfl, rfl⟩))
            go_roundw
            case rel => exact ⟨k + 1, by omega, by go_num, by rw [hr.out]; exact HV2.out, m3, hb4⟩
            case measure => simp [intOf] <;> omega
          · have hr : Hid (onceAll ok p.drop (k + 1) = false) := Lib.hid (by rw [hsu.out, HOK.out, hin, hhe, hha]; simp)
            have HH2 : Hid (∀ W, Below w.heap.size w W → Calls Tryz.prog 87 #[.slice (some ⟨b, off, none⟩) k c4, .string p.drop[k]] W fun e w' => e = .returned (.bool true) ∧ W = w') := Lib.hid fun W hW => hha ▸ HC.out W k hlt hW
            clear hha hhe hin hrg
            go_wp2_with (first
                | (go_at_call 133; refine (HI2.out _).mono ?_; rintro e w1 ⟨rfl, rfl⟩)
                | (go_at_call 93; refine (HE2.out _ (by exact hnx)).mono ?_; rintro e w1 ⟨rfl, hb3⟩; have hb4 := hnx.trans (hb3.mono hnx.size); have m3 := m1.below hb3; have y0 := m3.cell 0 rfl; have y1 := m3.cell 1 rfl; have y2 := m3.cell 2 rfl; have y3 := m3.cell 3 rfl; have y4 := m3.cell 4 rfl; have y5 := m3.cell 5 rfl; have y6 := m3.cell 6 rfl)
                | (go_at_call 87; refine (HH2.out _ (by exact hb4)).mono ?_; rintro e w2 ⟨rfl, rfl⟩))
            go_roundw
            case rel => exact ⟨k + 1, by omega, by go_num, by rw [hr.out]; rfl, m3, hb4⟩
            case measure => simp [intOf] <;> omega
        · have hr : Hid (onceAll ok p.drop (k + 1) = false) := Lib.hid (by rw [hsu.out, HOK.out, hin, hhe]; simp)
          have HE2 : Hid (∀ W, Below w.heap.size w W → Calls Tryz.prog 93 #[.agg #[.slice A1 p.els.length c1, .slice A2 p.glob.length c2, .slice A3 p.schemes.length c3, .bool p.rel, .slice (some ⟨b, off, none⟩) p.drop.length c4, .int .i64 p.depth, .int .i64 p.window], .string p.drop[k]] W fun e w' => e = .returned (.bool true) ∧ Below W.heap.size W w') := Lib.hid fun W hW => hhe ▸ HH.out W k hlt hW
          clear hhe hin hrg
          go_wp2_with (first
              | (go_at_call 133; refine (HI2.out _).mono ?_; rintro e w1 ⟨rfl, rfl⟩)
              | (go_at_call 93; refine (HE2.out _ (by exact hnx)).mono ?_; rintro e w1 ⟨rfl, hb3⟩; have hb4 := hnx.trans (hb3.mono hnx.size); have m3 := m1.below hb3; have y0 := m3.cell 0 rfl; have y1 := m3.cell 1 rfl; have y2 := m3.cell 2 rfl; have y3 := m3.cell 3 rfl; have y4 := m3.cell 4 rfl; have y5 := m3.cell 5 rfl; have y6 := m3.cell 6 rfl))
          go_roundw
          case rel => exact ⟨k + 1, by omega, by go_num, by rw [hr.out]; rfl, m3, hb4⟩
          case measure => simp [intOf] <;> omega
    · obtain rfl : k = p.drop.length := by omega
      go_wp2
      go_ret
      exact ⟨by rw [HV2.out, HB.out]; rfl, hnx⟩
end Go.Proofs.YteikagdinecfoaaGreatDoor.Sd
