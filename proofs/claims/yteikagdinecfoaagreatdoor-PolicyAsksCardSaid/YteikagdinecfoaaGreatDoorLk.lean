/- Schemes: the program's link.Check. -/
import Derived.Test.YteikagdinecfoaaGreatDoorCls
import Derived.Test.YteikagdinecfoaaGreatDoorForms
import Derived.Test.YteikagdinecfoaaGreatDoorPm
import Derived.Test.YteikagdinecfoaaGreatDoorIn
set_option linter.unusedVariables false
set_option linter.unusedSimpArgs false
namespace Go.Proofs.YteikagdinecfoaaGreatDoor.Lk
open Go.RowKit Lb Pd Lw Is

/-- a byte of a scheme -/
def schB (c : UInt8) : Bool := ((Cls.up (c.toNat : Int) || Cls.lo (c.toNat : Int)) || Cls.dg (c.toNat : Int)) || ((c.toNat : Int) == 43) || ((c.toNat : Int) == 45) || ((c.toNat : Int) == 46)
set_option maxHeartbeats 1000000 in
set_option maxRecDepth 100000 in
theorem schemeByteC (c : UInt8) (w : World) : Calls Tryz.prog 181 #[.int .u8 (c.toNat : Int)] w fun e w' => e = .returned (.bool (schB c)) ∧ w = w' := by
  have hc := c.toNat_lt
  obtain ⟨n, hn⟩ : ∃ n, n = c.toNat := ⟨_, rfl⟩
  unfold schB
  rw [← hn] at hc ⊢
  have hw : IntKind.i32.wrap (n : Int) = (n : Int) := by rw [IntKind.wrap_i32] <;> omega
  obtain ⟨x, hx⟩ : ∃ x, x = (Cls.up (n : Int) || Cls.lo (n : Int)) := ⟨_, rfl⟩
  obtain ⟨y, hy⟩ : ∃ y, y = Cls.dg (n : Int) := ⟨_, rfl⟩
  have HX : Hid (∀ W, Calls Tryz.prog 222 #[.int .i32 (n : Int)] W fun e w' => e = .returned (.bool x) ∧ W = w') := Lib.hid fun W => hx ▸ Cls.nLetter _ W
  have HY : Hid (∀ W, Calls Tryz.prog 200 #[.int .i32 (n : Int)] W fun e w' => e = .returned (.bool y) ∧ W = w') := Lib.hid fun W => hy ▸ Cls.nDigit _ W
  rw [← hx, ← hy]
  clear hx hy hn
  cases x
  · cases y
    · cases h1 : ((n : Int) == 43)
      · cases h2 : ((n : Int) == 45)
        · cases h3 : ((n : Int) == 46)
          · go_enter Tryz.func181, Tryz.ntmps181
            go_wp2_with (first | (go_at_call 222; refine (HX.out _).mono ?_; rintro e w' ⟨rfl, rfl⟩) | (go_at_call 200; refine (HY.out _).mono ?_; rintro e w' ⟨rfl, rfl⟩))
            go_ret
            exact ⟨rb (by simp [*]), rfl⟩
          · go_enter Tryz.func181, Tryz.ntmps181
            go_wp2_with (first | (go_at_call 222; refine (HX.out _).mono ?_; rintro e w' ⟨rfl, rfl⟩) | (go_at_call 200; refine (HY.out _).mono ?_; rintro e w' ⟨rfl, rfl⟩))
            go_ret
            exact ⟨rb (by simp [*]), rfl⟩
        · go_enter Tryz.func181, Tryz.ntmps181
          go_wp2_with (first | (go_at_call 222; refine (HX.out _).mono ?_; rintro e w' ⟨rfl, rfl⟩) | (go_at_call 200; refine (HY.out _).mono ?_; rintro e w' ⟨rfl, rfl⟩))
          go_ret
          exact ⟨rb (by simp [*]), rfl⟩
      · go_enter Tryz.func181, Tryz.ntmps181
        go_wp2_with (first | (go_at_call 222; refine (HX.out _).mono ?_; rintro e w' ⟨rfl, rfl⟩) | (go_at_call 200; refine (HY.out _).mono ?_; rintro e w' ⟨rfl, rfl⟩))
        go_ret
        exact ⟨rb (by simp [*]), rfl⟩
    · go_enter Tryz.func181, Tryz.ntmps181
      go_wp2_with (first | (go_at_call 222; refine (HX.out _).mono ?_; rintro e w' ⟨rfl, rfl⟩) | (go_at_call 200; refine (HY.out _).mono ?_; rintro e w' ⟨rfl, rfl⟩))
      go_ret
      exact ⟨rb (by simp [*]), rfl⟩
  · go_enter Tryz.func181, Tryz.ntmps181
    go_wp2_with (first | (go_at_call 222; refine (HX.out _).mono ?_; rintro e w' ⟨rfl, rfl⟩) | (go_at_call 200; refine (HY.out _).mono ?_; rintro e w' ⟨rfl, rfl⟩))
    go_ret
    exact ⟨rb (by simp [*]), rfl⟩

/-- what may not be a scheme -/
def neverL : List ByteArray := [str [106, 97, 118, 97, 115, 99, 114, 105, 112, 116], str [100, 97, 116, 97], str [118, 98, 115, 99, 114, 105, 112, 116], str [98, 108, 111, 98], str [102, 105, 108, 101], str [102, 105, 108, 101, 115, 121, 115, 116, 101, 109], str [97, 98, 111, 117, 116]]
theorem nev_at {m : Nat} (h : m < 7) : (#[.string (str [106, 97, 118, 97, 115, 99, 114, 105, 112, 116]), .string (str [100, 97, 116, 97]), .string (str [118, 98, 115, 99, 114, 105, 112, 116]), .string (str [98, 108, 111, 98]), .string (str [102, 105, 108, 101]), .string (str [102, 105, 108, 101, 115, 121, 115, 116, 101, 109]), .string (str [97, 98, 111, 117, 116])] : Array Value)[m]? = some (.string (neverL[m]'(by show m < 7; exact h))) := by
  have e : (#[.string (str [106, 97, 118, 97, 115, 99, 114, 105, 112, 116]), .string (str [100, 97, 116, 97]), .string (str [118, 98, 115, 99, 114, 105, 112, 116]), .string (str [98, 108, 111, 98]), .string (str [102, 105, 108, 101]), .string (str [102, 105, 108, 101, 115, 121, 115, 116, 101, 109]), .string (str [97, 98, 111, 117, 116])] : Array Value) = (neverL.map Value.string).toArray := rfl
  rw [e, List.getElem?_toArray, List.getElem?_map, List.getElem?_eq_getElem (show m < neverL.length from h)]; rfl
def NevT (w : World) : Prop := ∀ j (h : j < 7), w.cell? ⟨1, j, none⟩ = some (.string (neverL[j]'(by show j < 7; exact h)))
theorem NevT.below {w w' : World} (h : NevT w) (hb : Below w.heap.size w w') : NevT w' := fun j hj => by
  have h1 := h j hj
  rw [← h1]
  refine hb.cell (p := ⟨1, j, none⟩) ?_
  exact World.block_lt_of_cell? w _ h1
def schCode (b : Bool) : Int := if b then 0 else 120
def schemeB (s : ByteArray) : Bool := decide (1 ≤ s.size) && decide (s.size ≤ 100) && smB (s.data.toList.headD 0) && decide (s = lowS s) && s.data.toList.all schB && !hasT neverL s
set_option maxHeartbeats 4000000 in
set_option maxRecDepth 100000 in
theorem checkC (s : ByteArray) (w : World) (hn : NevT w) (hsz : s.size ≤ maxLen) : Calls Tryz.prog 132 #[.string s] w fun e w' => e = .returned (.int .i64 (schCode (schemeB s))) ∧ Below w.heap.size w w' := by
  have hsl := size_len s
  by_cases h0 : s.size = 0
  · have hw : Hid (schemeB s = false) := Lib.hid (by unfold schemeB; rw [h0]; rfl)
    have e0 := toList_nil h0
    go_enter Tryz.func132, Tryz.ntmps132
    go_wp2
    go_ret
    exact ⟨ri (by rw [hw.out]; rfl), Below.refl _ _⟩
  · have e0 := toList_ne (s := s) (by omega)
    have e1 := isEmpty_ne (s := s) (by omega)
    by_cases h1 : 100 < s.size
    · have hw : Hid (schemeB s = false) := Lib.hid (by unfold schemeB; have : ¬ s.size ≤ 100 := by omega
                                                       simp [this])
      go_enter Tryz.func132, Tryz.ntmps132
      go_wp2
      go_ret
      exact ⟨ri (by rw [hw.out]; rfl), Below.refl _ _⟩
    · have hh := head_at (s := s) (by omega)
      have hpos : 0 < s.size := by omega
      cases hsm : smB s[0]
      · have hw : Hid (schemeB s = false) := Lib.hid (by unfold schemeB; rw [hh, hsm]; simp)
        have hf := smB_f hsm
        clear hsm hh
        by_cases h2 : (s[0].toNat : Int) < 97
        · go_enter Tryz.func132, Tryz.ntmps132
          go_wp2
          go_ret
          exact ⟨ri (by rw [hw.out]; rfl), Below.refl _ _⟩
        · have h3 : (122 : Int) < s[0].toNat := by omega
          go_enter Tryz.func132, Tryz.ntmps132
          go_wp2
          go_ret
          exact ⟨ri (by rw [hw.out]; rfl), Below.refl _ _⟩
      · obtain ⟨t1, t2⟩ := smB_t hsm
        have h2 : ¬ (s[0].toNat : Int) < 97 := by omega
        have h3 : ¬ (122 : Int) < s[0].toNat := by omega
        have HL : Hid (Calls Tryz.prog 160 #[.string s] w fun e w' => e = .returned (.string (lowS s)) ∧ Below w.heap.size w w') := Lib.hid (nLower s w hsz)
        by_cases hlo : s = lowS s
        · have HW : Hid (schemeB s = (s.data.toList.all schB && !hasT neverL s)) := Lib.hid (by
            unfold schemeB
            rw [hh, hsm, decide_eq_true hlo, decide_eq_true (by omega : 1 ≤ s.size), decide_eq_true (by omega : s.size ≤ 100)]
            rfl)
          have HN : Hid (∀ W, Below w.heap.size w W → NevT W) := Lib.hid fun W h => hn.below h
          rw [← hlo] at HL
          have HLO := Lib.hid hlo
          clear hsm hh hn hlo t1 t2
          go_enter Tryz.func132, Tryz.ntmps132
          go_upto_region 4 with (go_at_call 160; refine HL.out.mono ?_; rintro e w1 ⟨rfl, hb1⟩)
          have hnt := HN.out _ hb1
          have n0 := hnt 0 (by omega)
          have n1 := hnt 1 (by omega)
          have n2 := hnt 2 (by omega)
          have n3 := hnt 3 (by omega)
          have n4 := hnt 4 (by omega)
          have n5 := hnt 5 (by omega)
          have n6 := hnt 6 (by omega)
          simp only [neverL, List.getElem_cons_zero, List.getElem_cons_succ] at n0 n1 n2 n3 n4 n5 n6
          clear hnt HL
          go_loopw [31] (fun i wr => ∃ k : Nat, k ≤ s.size ∧ i = .int .i64 k ∧ wr = w1 ∧ Hid (∀ j (hj : j < k) (h : j < s.size), schB s[j] = true)) (fun i _ => s.size - (intOf i).toNat)
          case atStart => exact ⟨0, by omega, rfl, rfl, Lib.hid (fun j hj => by omega)⟩
          case round =>
            obtain ⟨k, hk, rfl, rfl, hall⟩ := hrel
            by_cases hlt : k < s.size
            · cases hb : schB s[k]
              · have hw : Hid (schemeB s = false) := Lib.hid (by
                  rw [HW.out]
                  have : s.data.toList.all schB = false := by
                    rw [List.all_eq_false]
                    exact ⟨s[k], by rw [at_list]; exact List.getElem_mem _, by rw [hb]; decide⟩
                  rw [this]; rfl)
                have HB : Hid (∀ W, Calls Tryz.prog 181 #[.int .u8 (s[k].toNat : Int)] W fun e w' => e = .returned (.bool false) ∧ W = w') := Lib.hid fun W => hb ▸ schemeByteC s[k] W
                clear hb
                go_wp2_with (go_at_call 181; refine (HB.out _).mono ?_; rintro e w' ⟨rfl, rfl⟩)
                go_ret
                exact ⟨ri (by rw [hw.out]; rfl), hb1⟩
              · have HB : Hid (∀ W, Calls Tryz.prog 181 #[.int .u8 (s[k].toNat : Int)] W fun e w' => e = .returned (.bool true) ∧ W = w') := Lib.hid fun W => hb ▸ schemeByteC s[k] W
                have HBB := Lib.hid hb
                clear hb
                go_wp2_with (go_at_call 181; refine (HB.out _).mono ?_; rintro e w' ⟨rfl, rfl⟩)
                go_roundw
                case rel => exact ⟨k + 1, by omega, by go_num, (by first | rfl | trivial), Lib.hid (fun j hj h => by
                  by_cases e : j = k
                  · subst e; exact HBB.out
                  · exact hall.out j (by omega) h)⟩
                case measure => simp [intOf] <;> omega
            · have HW2 : Hid (schemeB s = !hasT neverL s) := Lib.hid (by
                rw [HW.out]
                have : s.data.toList.all schB = true := by
                  rw [List.all_eq_true]
                  intro c hc
                  obtain ⟨j, hj, rfl⟩ := List.getElem_of_mem hc
                  have hj' : j < s.size := by rw [← size_len]; exact hj
                  have := hall.out j (by omega) hj'
                  rw [at_list] at this
                  exact this
                rw [this]; rfl)
              clear hall HW
              go_wp2
              go_loopw [41] (fun i wx => ∃ k : Nat, k ≤ 7 ∧ i = .int .i64 k ∧ wx = wr ∧ Hid (∀ j (hj : j < k) (h : j < neverL.length), neverL[j] ≠ s)) (fun i _ => 7 - (intOf i).toNat)
              case atStart => exact ⟨0, by omega, rfl, rfl, Lib.hid (fun j hj => by omega)⟩
              case round =>
                obtain ⟨m, hm, rfl, rfl, hnone⟩ := hrel
                by_cases hlt2 : m < 7
                · have hb3 : (m : Int) < (7 : Int) := by omega
                  have hb0 : (0 : Int) ≤ (m : Int) := by omega
                  obtain ⟨i0, hi, hz0, hz1, hz2⟩ := info_parts Fl.infoStr
                  have hidx := fun W => run_index_arr (P := Tryz.prog) (w := W) (kd := .i64) (i := (m : Int)) (cs := #[.string (str [106, 97, 118, 97, 115, 99, 114, 105, 112, 116]), .string (str [100, 97, 116, 97]), .string (str [118, 98, 115, 99, 114, 105, 112, 116]), .string (str [98, 108, 111, 98]), .string (str [102, 105, 108, 101]), .string (str [102, 105, 108, 101, 115, 121, 115, 116, 101, 109]), .string (str [97, 98, 111, 117, 116])]) (x := .string (neverL[m]'(by show m < 7; exact hlt2))) Tryz.underlying176 hi hz1 (aggStr W) hb0 hb3 (by rw [Int.toNat_natCast]; exact nev_at hlt2)
                  by_cases he : s = neverL[m]'(by show m < 7; exact hlt2)
                  · have hw : Hid (schemeB s = false) := Lib.hid (by
                      rw [HW2.out, hasT_iff.2 (by rw [he]; exact List.getElem_mem _)]; rfl)
                    have q1 := toList_eq_of he
                    have HE := Lib.hid he
                    clear he
                    go_wp2
                    go_ret
                    exact ⟨ri (by rw [hw.out]; rfl), hb1⟩
                  · have q1 := toList_ne_of he
                    have HE := Lib.hid he
                    clear he
                    go_wp2
                    go_roundw
                    case rel => exact ⟨m + 1, by omega, by go_num, (by first | rfl | trivial), Lib.hid (fun j hj h => by
                      by_cases e : j = m
                      · subst e; exact fun h9 => HE.out h9.symm
                      · exact hnone.out j (by omega) h)⟩
                    case measure => simp [intOf] <;> omega
                · have hw : Hid (schemeB s = true) := Lib.hid (by
                    rw [HW2.out]
                    have : hasT neverL s = false := by
                      rw [Bool.eq_false_iff]
                      intro h
                      obtain ⟨j, hj, e⟩ := List.getElem_of_mem (hasT_iff.1 h)
                      exact hnone.out j (by have : neverL.length = 7 := rfl
                                            omega) hj e
                    rw [this]; rfl)
                  go_wp2
                  go_ret
                  exact ⟨ri (by rw [hw.out]; rfl), hb1⟩
        · have hw : Hid (schemeB s = false) := Lib.hid (by unfold schemeB; rw [decide_eq_false hlo]; simp)
          have q1 := toList_ne_of hlo
          have q2 := toList_bne_of hlo
          clear hsm hh t1 t2
          go_enter Tryz.func132, Tryz.ntmps132
          go_wp2_with (go_at_call 160; refine HL.out.mono ?_; rintro e w1 ⟨rfl, hb1⟩)
          go_ret
          exact ⟨ri (by rw [hw.out]; rfl), hb1⟩
end Go.Proofs.YteikagdinecfoaaGreatDoor.Lk
