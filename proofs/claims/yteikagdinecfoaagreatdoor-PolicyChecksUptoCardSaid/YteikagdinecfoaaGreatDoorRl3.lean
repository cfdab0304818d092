/- The reference's decimal: a number's digits. -/
import Derived.Test.YteikagdinecfoaaGreatDoorRl2
import Derived.WalkSpells
set_option linter.unusedVariables false
set_option linter.unusedSimpArgs false
namespace Go.Proofs.YteikagdinecfoaaGreatDoor.Rl3
open Go.RowKit Lb Gr Pd Fl Go.Proofs.YteikagdinecfoaaGreatDoor.Pm Bk Go.Proofs.YteikagdinecfoaaGreatDoor.Rl2
attribute [local go_sem ↓] Go.wp_at_zero Go.wp_at_succ

/-- the digits that are still to come -/
def pre (u : Nat) : List UInt8 := if u = 0 then [] else Lib.decDigits u
theorem dec_step (u : Nat) : Lib.decDigits u = pre (u / 10) ++ [UInt8.ofNat (48 + u % 10)] := by
  rw [Lib.decDigits]
  by_cases h : u < 10
  · rw [dif_pos h, Nat.mod_eq_of_lt h, Nat.div_eq_of_lt h]; rfl
  · rw [dif_neg h]
    unfold pre
    rw [if_neg (by omega)]
def digS : ByteArray := ⟨#[48, 49, 50, 51, 52, 53, 54, 55, 56, 57]⟩
theorem dig_at (d : Nat) (h : d < 10) : digS.extract d (d + 1) = str [UInt8.ofNat (48 + d)] := by
  match d, h with
  | 0, _ => rfl
  | 1, _ => rfl
  | 2, _ => rfl
  | 3, _ => rfl
  | 4, _ => rfl
  | 5, _ => rfl
  | 6, _ => rfl
  | 7, _ => rfl
  | 8, _ => rfl
  | 9, _ => rfl
/-- where a round stands -/
def St (n m : Nat) (s : List UInt8) : Prop := (m = n ∧ s = []) ∨ (pre m ++ s = Lib.decDigits n ∧ s ≠ [])
theorem St.next {n m : Nat} {s : List UInt8} (h : St n m s) (hm : 0 < m ∨ s = []) : St n (m / 10) (UInt8.ofNat (48 + m % 10) :: s) := by
  refine .inr ⟨?_, by simp⟩
  rcases h with ⟨rfl, rfl⟩ | ⟨h1, h2⟩
  · exact (dec_step m).symm
  · rw [← h1]
    have hp : 0 < m := hm.resolve_right h2
    have e : pre m = Lib.decDigits m := by unfold pre; rw [if_neg (by omega)]
    rw [e, dec_step m]
    simp
theorem St.done {n m : Nat} {s : List UInt8} (h : St n m s) (hm : m = 0) (hs : s ≠ []) : s = Lib.decDigits n := by
  subst hm
  rcases h with ⟨_, h⟩ | ⟨h1, _⟩
  · exact absurd h hs
  · simpa [pre] using h1

set_option maxHeartbeats 4000000 in
set_option maxRecDepth 100000 in
theorem rDecC (n : Nat) (hn : n ≤ 1000000000000) (w : World) : Calls Tryz.prog 77 #[.int .i64 n] w fun e w' => e = .returned (.string (str (Lib.decDigits n))) ∧ w = w' := by
  obtain ⟨fin, hfin⟩ : ∃ f, f = str (Lib.decDigits n) := ⟨_, rfl⟩
  rw [← hfin]
  have HF := Lib.hid hfin
  clear hfin
  go_enter Tryz.func77, Tryz.ntmps77
  go_wp2
  go_loopw [0, 3] (fun v s wr => ∃ (m : Nat) (x : ByteArray), m ≤ n ∧ v = .int .i64 m ∧ s = .string x ∧ Hid (St n m x.data.toList ∧ x.size + m ≤ n + 1) ∧ wr = w) (fun v s _ => (intOf v).toNat + (match s with | .string b => if b.size = 0 then 1 else 0 | _ => 0))
  case atStart => exact ⟨n, ⟨#[]⟩, Nat.le_refl _, rfl, rfl, Lib.hid ⟨.inl ⟨rfl, rfl⟩, by show 0 + n ≤ n + 1; omega⟩, rfl⟩
  case round =>
    obtain ⟨m, x, hm, rfl, rfl, hst, rfl⟩ := hrel
    have hxl := size_len x
    have hxs := hst.out.2
    obtain ⟨d, hd⟩ : ∃ d, d = m % 10 := ⟨_, rfl⟩
    have hd10 : d < 10 := by rw [hd]; exact Nat.mod_lt _ (by decide)
    obtain ⟨y, hy⟩ : ∃ y, y = digS.extract d (d + 1) := ⟨_, rfl⟩
    have hyd := hy.trans (dig_at d hd10)
    obtain ⟨z, hz⟩ : ∃ z, z = str ([UInt8.ofNat (48 + d)] ++ x.data.toList) := ⟨_, rfl⟩
    have hadd := addS hyd (str_of x).symm (by rw [List.length_append, hxl]; simp; omega)
    have hzl : z.data.toList = UInt8.ofNat (48 + d) :: x.data.toList := by rw [hz]; rfl
    have hzs : z.size = x.size + 1 := by rw [← size_len, hzl, List.length_cons, hxl]
    have hX : ({ data := #[48, 49, 50, 51, 52, 53, 54, 55, 56, 57] } : ByteArray).extract d (d + 1) = y := hy.symm
    rw [← hz] at hadd
    have hmod : (m : Int) % 10 = (d : Int) := by omega
    have hd0 : (0 : Int) ≤ (d : Int) := by omega
    have hd1 : (d : Int) < 10 := by omega
    have hd2 : (d : Int) + 1 ≤ 10 := by omega
    obtain ⟨q, hqm⟩ : ∃ q, q = m / 10 := ⟨_, rfl⟩
    have hq : (m : Int) / 10 = (q : Int) := by omega
    have hqn : q ≤ n := by omega
    have hqlt : 0 < m → q < m := by omega
    have hnx : Hid (0 < m ∨ x.data.toList = [] → St n q z.data.toList ∧ z.size + q ≤ n + 1) := Lib.hid (fun hgo => by
      refine ⟨by rw [hzl, hd, hqm]; exact hst.out.1.next hgo, ?_⟩
      have := hst.out.2
      rcases hgo with h | h
      · omega
      · rw [h] at hxl; simp at hxl; omega)
    have hq2 : (m : Int).tdiv 10 = (q : Int) := by rw [Int.tdiv_eq_ediv_of_nonneg (by omega)]; omega
    have hq3 : IntKind.i64.wrap (q : Int) = (q : Int) := by rw [IntKind.wrap_i64]; omega
    have hq0 : (0 : Int) ≤ (q : Int) := by omega
    have HQL := Lib.hid hqlt
    clear hqlt
    have hmb : (m : Int) ≤ 1000000000000 := by omega
    have HDM := Lib.hid hd
    have HZS := Lib.hid hzs
    have HXL := Lib.hid hxl
    have HQM := Lib.hid hqm
    clear hy hyd hz hzl hd hzs hxl hqm
    rcases Nat.eq_zero_or_pos m with hmz | hp
    · have hnp : ¬ (0 : Int) < (m : Int) := by omega
      rcases Nat.eq_zero_or_pos x.size with h0 | h0
      · have e0 := toList_nil h0
        have HN := Lib.hid (hnx.out (.inr (by have := HXL.out; rw [h0] at this; exact List.eq_nil_of_length_eq_zero this)))
        have HX0 := Lib.hid h0
        subst hmz
        obtain rfl : d = 0 := HDM.out
        obtain rfl : q = 0 := HQM.out
        rw [Nat.zero_add] at hX
        clear h0 hmod hd0 hd1 hd2 hq hq2 hq3 hq0 hnp hmb
        go_wp2
        go_roundw
        case rel => exact ⟨0, z, by omega, by go_num, rfl, HN, (by first | rfl | trivial)⟩
        case measure => have := HZS.out; have := HX0.out; simp [intOf, HZS.out, HX0.out] <;> omega
      · have e0 := toList_ne (s := x) h0
        have e1 := isEmpty_ne (s := x) h0
        have hdone : Hid (x = fin) := Lib.hid (by
          rw [HF.out, ← hst.out.1.done hmz (fun e => by have := HXL.out; rw [e] at this; simp at this; omega), str_of])
        clear hmz
        go_wp2
        go_ret
        exact ⟨by rw [hdone.out]; exact rfl, rfl⟩
    · have hp' : (0 : Int) < (m : Int) := by omega
      have HN := Lib.hid (hnx.out (.inl hp))
      go_wp2
      go_roundw
      case rel => exact ⟨q, z, hqn, rfl, rfl, HN, (by first | rfl | trivial)⟩
      case measure => have := HZS.out; have := HQL.out hp; simp [intOf, HZS.out] <;> (try split) <;> omega
end Go.Proofs.YteikagdinecfoaaGreatDoor.Rl3
