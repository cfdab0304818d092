/- Package utf, as far as it is asked here: how many bytes the rune at the beginning of some bytes takes, and what it is; whether bytes are valid. No condition but that the bytes lie where they are read. -/
import Derived.Test.YtejpdbiiikcmmaaGreatDoorCm
import Derived.BigRegion
import Derived.Deep.QuietTactic
import Derived.Deep.DrawnRows
import Derived.OwnWalk
import Derived.WalkMore
import Derived.Deep.Cut
import Derived.Deep.CutRange
import Derived.Deep.RegionWith
import Derived.Deep.RegionHeld3
set_option linter.unusedVariables false
set_option linter.unusedSimpArgs false
namespace Go.Proofs.YtejpdbiiikcmmaaGreatDoor.Ub
open Go.RowKit Lb
attribute [local go_sem ↓] Go.wp_at_zero Go.wp_at_succ

/-! ### plain -/
def bM (c : Nat) : Int := if c < 128 then 0 else if 194 ≤ c ∧ c ≤ 223 then 1 else if c = 224 then 2 else if c = 237 then 2 else if 225 ≤ c ∧ c ≤ 239 then 2 else if c = 240 then 3 else if 241 ≤ c ∧ c ≤ 243 then 3 else if c = 244 then 3 else -1
def bL (c : Nat) : Nat := if c < 128 then 0 else if 194 ≤ c ∧ c ≤ 223 then 128 else if c = 224 then 160 else if c = 237 then 128 else if 225 ≤ c ∧ c ≤ 239 then 128 else if c = 240 then 144 else if 241 ≤ c ∧ c ≤ 243 then 128 else if c = 244 then 128 else 0
def bH (c : Nat) : Nat := if c < 128 then 0 else if 194 ≤ c ∧ c ≤ 223 then 191 else if c = 224 then 191 else if c = 237 then 159 else if 225 ≤ c ∧ c ≤ 239 then 191 else if c = 240 then 191 else if 241 ≤ c ∧ c ≤ 243 then 191 else if c = 244 then 143 else 0
/-- k bytes more: how many in all, and what they are (0: a whole rune, 1: wrong, 2: begun) -/
def scanU (l : List UInt8) : Nat → Nat → Nat → Nat → Nat × Int
  | 0, i, _, _ => (i, 0)
  | k + 1, i, lo, hi => if l.length ≤ i then (i, 2) else if (l.getD i 0).toNat < lo ∨ hi < (l.getD i 0).toNat then (i, 1) else scanU l k (i + 1) 128 191
def readU (l : List UInt8) : Nat × Int :=
  if bM (l.getD 0 0).toNat < 0 then (1, 1) else scanU l (bM (l.getD 0 0).toNat).toNat 1 (bL (l.getD 0 0).toNat) (bH (l.getD 0 0).toNat)
theorem scanU_ge (l : List UInt8) : ∀ k i lo hi, i ≤ (scanU l k i lo hi).1
  | 0, i, _, _ => Nat.le_refl _
  | k + 1, i, lo, hi => by
    unfold scanU
    split
    · exact Nat.le_refl _
    · split
      · exact Nat.le_refl _
      · exact Nat.le_trans (Nat.le_succ i) (scanU_ge l k (i + 1) 128 191)
theorem scanU_le (l : List UInt8) : ∀ k i lo hi, i ≤ l.length → (scanU l k i lo hi).1 ≤ l.length
  | 0, i, _, _, h => h
  | k + 1, i, lo, hi, h => by
    unfold scanU
    split
    · exact h
    · split
      · exact h
      · exact scanU_le l k (i + 1) 128 191 (by omega)
theorem readU_ge (l : List UInt8) : 1 ≤ (readU l).1 := by
  unfold readU
  split
  · exact Nat.le_refl _
  · exact scanU_ge l _ 1 _ _
theorem readU_le {l : List UInt8} (h : 0 < l.length) : (readU l).1 ≤ l.length := by
  unfold readU
  split
  · exact h
  · exact scanU_le l _ 1 _ _ h
def validF : Nat → List UInt8 → Bool
  | 0, _ => true
  | f + 1, l => if l.isEmpty then true else if (readU l).2 = 0 then validF f (l.drop (readU l).1) else false
def validB (l : List UInt8) : Bool := validF l.length l
theorem validF_fuel : ∀ (f g : Nat) (l : List UInt8), l.length ≤ f → l.length ≤ g → validF f l = validF g l
  | 0, 0, _, _, _ => rfl
  | 0, g + 1, l, h, _ => by
    have := List.eq_nil_of_length_eq_zero (Nat.le_zero.1 h)
    subst this
    rfl
  | f + 1, 0, l, _, h => by
    have := List.eq_nil_of_length_eq_zero (Nat.le_zero.1 h)
    subst this
    rfl
  | f + 1, g + 1, l, h1, h2 => by
    unfold validF
    have := readU_ge l
    split
    · rfl
    · split
      · exact validF_fuel f g _ (by simp; omega) (by simp; omega)
      · rfl
theorem valid_nil : validB [] = true := rfl
theorem valid_go {l : List UInt8} (h : 0 < l.length) (hr : (readU l).2 = 0) : validB l = validB (l.drop (readU l).1) := by
  have h1 := readU_ge l
  have h2 := readU_le h
  unfold validB
  obtain ⟨n, hn⟩ : ∃ n, l.length = n + 1 := ⟨l.length - 1, by omega⟩
  rw [hn]
  conv => lhs; unfold validF
  rw [if_neg (by cases l <;> simp_all), if_pos hr]
  exact validF_fuel _ _ _ (by simp; omega) (by simp)
theorem valid_no {l : List UInt8} (h : 0 < l.length) (hr : (readU l).2 ≠ 0) : validB l = false := by
  unfold validB
  obtain ⟨n, hn⟩ : ∃ n, l.length = n + 1 := ⟨l.length - 1, by omega⟩
  rw [hn]
  unfold validF
  rw [if_neg (by cases l <;> simp_all), if_neg hr]

/-! ### the program -/
def bndV (c : Nat) : Value := .tuple #[.int .i64 (bM c), .int .u8 (bL c), .int .u8 (bH c)]
set_option maxHeartbeats 4000000 in
set_option maxRecDepth 100000 in
theorem boundsC (c : Nat) (hc : c < 256) (w : World) : Calls Tryz.prog 269 #[.int .u8 c] w fun e w' => e = .returned (bndV c) ∧ w = w' := by
  by_cases h0 : c < 128
  · have HB := Lib.hid (show bndV c = .tuple #[.int .i64 (0), .int .u8 0, .int .u8 0] by unfold bndV bM bL bH; simp (disch := omega) only [if_pos, if_neg]; rfl)
    rw [HB.out]
    go_enter Tryz.func269, Tryz.ntmps269
    go_wp2
    go_ret3
    exact ⟨rfl, rfl⟩
  by_cases h1 : 194 ≤ c ∧ c ≤ 223
  · have HB := Lib.hid (show bndV c = .tuple #[.int .i64 (1), .int .u8 128, .int .u8 191] by unfold bndV bM bL bH; simp (disch := omega) only [if_pos, if_neg]; rfl)
    rw [HB.out]
    have k1 : 194 ≤ c := h1.1
    have k2 : c ≤ 223 := h1.2
    have k3 : 128 ≤ c := by omega
    go_enter Tryz.func269, Tryz.ntmps269
    go_wp2
    go_ret3
    exact ⟨rfl, rfl⟩
  by_cases h2 : c = 224
  · subst h2
    have HB := Lib.hid (show bndV 224 = .tuple #[.int .i64 (2), .int .u8 160, .int .u8 191] from rfl)
    rw [HB.out]
    show Calls Tryz.prog _ #[.int .u8 224] w _
    go_enter Tryz.func269, Tryz.ntmps269
    go_wp2
    go_ret3
    exact ⟨rfl, rfl⟩
  by_cases h3 : c = 237
  · subst h3
    have HB := Lib.hid (show bndV 237 = .tuple #[.int .i64 (2), .int .u8 128, .int .u8 159] from rfl)
    rw [HB.out]
    show Calls Tryz.prog _ #[.int .u8 237] w _
    go_enter Tryz.func269, Tryz.ntmps269
    go_wp2
    go_ret3
    exact ⟨rfl, rfl⟩
  by_cases h4 : 225 ≤ c ∧ c ≤ 239
  · have HB := Lib.hid (show bndV c = .tuple #[.int .i64 (2), .int .u8 128, .int .u8 191] by unfold bndV bM bL bH; simp (disch := omega) only [if_pos, if_neg]; rfl)
    rw [HB.out]
    have k1 : 128 ≤ c := by omega
    have k2 : 223 < c := by omega
    have k3 : 194 ≤ c := by omega
    have k4 : 225 ≤ c := by omega
    have k5 : c ≤ 239 := by omega
    have e224 : ((c : Int) == 224) = false := by simp; omega
    have e237 : ((c : Int) == 237) = false := by simp; omega
    have e240 : ((c : Int) == 240) = false := by simp; omega
    have e244 : ((c : Int) == 244) = false := by simp; omega
    go_enter Tryz.func269, Tryz.ntmps269
    go_wp2
    go_ret3
    exact ⟨rfl, rfl⟩
  by_cases h5 : c = 240
  · subst h5
    have HB := Lib.hid (show bndV 240 = .tuple #[.int .i64 (3), .int .u8 144, .int .u8 191] from rfl)
    rw [HB.out]
    show Calls Tryz.prog _ #[.int .u8 240] w _
    go_enter Tryz.func269, Tryz.ntmps269
    go_wp2
    go_ret3
    exact ⟨rfl, rfl⟩
  by_cases h6 : 241 ≤ c ∧ c ≤ 243
  · have HB := Lib.hid (show bndV c = .tuple #[.int .i64 (3), .int .u8 128, .int .u8 191] by unfold bndV bM bL bH; simp (disch := omega) only [if_pos, if_neg]; rfl)
    rw [HB.out]
    have k1 : 128 ≤ c := by omega
    have k2 : 223 < c := by omega
    have k3 : 239 < c := by omega
    have k4 : 241 ≤ c := by omega
    have k5 : c ≤ 243 := by omega
    have k6 : 194 ≤ c := by omega
    have k7 : 225 ≤ c := by omega
    have e224 : ((c : Int) == 224) = false := by simp; omega
    have e237 : ((c : Int) == 237) = false := by simp; omega
    have e240 : ((c : Int) == 240) = false := by simp; omega
    have e244 : ((c : Int) == 244) = false := by simp; omega
    go_enter Tryz.func269, Tryz.ntmps269
    go_wp2
    go_ret3
    exact ⟨rfl, rfl⟩
  by_cases h7 : c = 244
  · subst h7
    have HB := Lib.hid (show bndV 244 = .tuple #[.int .i64 (3), .int .u8 128, .int .u8 143] from rfl)
    rw [HB.out]
    show Calls Tryz.prog _ #[.int .u8 244] w _
    go_enter Tryz.func269, Tryz.ntmps269
    go_wp2
    go_ret3
    exact ⟨rfl, rfl⟩
  have HB := Lib.hid (show bndV c = .tuple #[.int .i64 (-1), .int .u8 0, .int .u8 0] by unfold bndV bM bL bH; simp (disch := omega) only [if_pos, if_neg]; rfl)
  rw [HB.out]
  have k1 : 128 ≤ c := by omega
  have e224 : ((c : Int) == 224) = false := by simp; omega
  have e237 : ((c : Int) == 237) = false := by simp; omega
  have e240 : ((c : Int) == 240) = false := by simp; omega
  have e244 : ((c : Int) == 244) = false := by simp; omega
  by_cases j1 : c < 194
  · go_enter Tryz.func269, Tryz.ntmps269
    have j2 : c < 225 := by omega
    have j3 : c < 241 := by omega
    go_wp2
    go_ret3
    exact ⟨rfl, rfl⟩
  · have j2 : 244 < c := by omega
    have j3 : 194 ≤ c := by omega
    have j4 : 223 < c := by omega
    have j5 : 225 ≤ c := by omega
    have j6 : 239 < c := by omega
    have j7 : 241 ≤ c := by omega
    have j8 : 243 < c := by omega
    go_enter Tryz.func269, Tryz.ntmps269
    go_wp2
    go_ret3
    exact ⟨rfl, rfl⟩

theorem drw (w : World) (n : Nat) : Below w.heap.size w (w.drewN n) := ⟨rfl, rfl, rfl, Nat.le_refl _, fun _ _ => rfl⟩
theorem bM_cases (c : Nat) : bM c = -1 ∨ bM c = 0 ∨ bM c = 1 ∨ bM c = 2 ∨ bM c = 3 := by
  unfold bM
  repeat' split
  all_goals simp
theorem bL_lt (c : Nat) : bL c < 256 := by
  unfold bL
  repeat' split
  all_goals omega
theorem bH_lt (c : Nat) : bH c < 256 := by
  unfold bH
  repeat' split
  all_goals omega

theorem readU_neg {l : List UInt8} {c : Nat} (hc : (l.getD 0 0).toNat = c) (h : bM c = -1) : readU l = (1, 1) := by
  unfold readU
  rw [hc, h]
  rfl
theorem readU_pos {l : List UInt8} {c k : Nat} (hc : (l.getD 0 0).toNat = c) (h : bM c = (k : Int)) : readU l = scanU l k 1 (bL c) (bH c) := by
  unfold readU
  rw [hc, h, if_neg (by omega)]
  rfl
theorem scan_end {l : List UInt8} {k i lo hi : Nat} (h : l.length ≤ i) : scanU l (k + 1) i lo hi = (i, 2) := by unfold scanU; rw [if_pos h]
theorem scan_bad {l : List UInt8} {k i lo hi : Nat} (h : i < l.length) (hb : l[i].toNat < lo ∨ hi < l[i].toNat) : scanU l (k + 1) i lo hi = (i, 1) := by
  unfold scanU
  rw [if_neg (by omega), if_pos (by simpa [List.getD, List.getElem?_eq_getElem h] using hb)]
theorem scan_go {l : List UInt8} {k i lo hi : Nat} (h : i < l.length) (h1 : lo ≤ l[i].toNat) (h2 : l[i].toNat ≤ hi) : scanU l (k + 1) i lo hi = scanU l k (i + 1) 128 191 := by
  conv => lhs; unfold scanU
  rw [if_neg (by omega), if_neg (by simp [List.getD, List.getElem?_eq_getElem h]; omega)]
set_option maxHeartbeats 8000000 in
set_option maxRecDepth 100000 in
theorem readC (w : World) (b off cap : Nat) (l : List UInt8) (h0 : 0 < l.length) (hm : l.length ≤ maxLen) (hc : ∀ j (hj : j < l.length), w.cell? ⟨b, off + j, none⟩ = some (.int .u8 (l[j].toNat : Int))) :
    Calls Tryz.prog 216 #[.slice (some ⟨b, off, none⟩) l.length cap] w fun e w' => (∃ r : Int, e = .returned (.tuple #[.int .i32 r, .int .i64 (readU l).1, .int .i64 (readU l).2])) ∧ Below w.heap.size w w' := by
  have g0 := hc 0 h0
  rw [Nat.add_zero] at g0
  have hlt := l[0].toNat_lt
  have hgd : (l.getD 0 0).toNat = l[0].toNat := by simp [List.getD, List.getElem?_eq_getElem h0]
  obtain ⟨c, hcd⟩ : ∃ c, c = l[0].toNat := ⟨_, rfl⟩
  rw [← hcd] at g0 hgd hlt
  have hmm : l.length ≤ 9223372036854775807 := hm
  have HB := Lib.hid (fun W => boundsC c hlt W)
  have HC := Lib.hid hc
  clear hcd hc
  rcases bM_cases c with hb | hb | hb
  · have HR := Lib.hid (readU_neg hgd hb)
    have hv : bndV c = .tuple #[.int .i64 (-1), .int .u8 (bL c), .int .u8 (bH c)] := by unfold bndV; rw [hb]
    rw [HR.out]
    rw [hv] at HB
    clear hv hb hgd
    go_enter Tryz.func216, Tryz.ntmps216
    go_wp2_with (go_at_call 269; refine (HB.out _).mono ?_; rintro e w1 ⟨rfl, rfl⟩)
    go_ret3
    exact ⟨⟨_, rfl⟩, Below.refl _ _⟩
  · have HR := Lib.hid (show readU l = (1, 0) from by rw [readU_pos (k := 0) hgd hb]; rfl)
    have hv : bndV c = .tuple #[.int .i64 0, .int .u8 (bL c), .int .u8 (bH c)] := by unfold bndV; rw [hb]
    rw [HR.out]
    rw [hv] at HB
    clear hv hb hgd
    go_enter Tryz.func216, Tryz.ntmps216
    go_wp2_with (go_at_call 269; refine (HB.out _).mono ?_; rintro e w1 ⟨rfl, rfl⟩)
    go_ret3
    exact ⟨⟨_, rfl⟩, Below.refl _ _⟩
  · obtain ⟨m, hm1, hm2, hb⟩ : ∃ m : Nat, 1 ≤ m ∧ m ≤ 3 ∧ bM c = (m : Int) := by
      rcases hb with hb | hb | hb
      · exact ⟨1, by omega, by omega, hb⟩
      · exact ⟨2, by omega, by omega, hb⟩
      · exact ⟨3, by omega, by omega, hb⟩
    have HR := Lib.hid (readU_pos (k := m) hgd hb)
    have hv : bndV c = .tuple #[.int .i64 m, .int .u8 (bL c), .int .u8 (bH c)] := by unfold bndV; rw [hb]
    rw [hv] at HB
    have hl1 := bL_lt c
    have hl2 := bH_lt c
    clear hv hb hgd
    generalize bL c = lo at *
    generalize bH c = hi at *
    have hmz : ((m : Int) == 0) = false := by simp; omega
    go_enter Tryz.func216, Tryz.ntmps216
    go_upto_region 6 with (go_at_call 269; refine (HB.out _).mono ?_; rintro e w1 ⟨rfl, rfl⟩)
    go_quiet (fail)
    go_wp2
    go_loopw [6, 7, 8, 9] (fun vlo vhi vr vi wr => ∃ (i k lo' hi' : Nat) (r : Int), vlo = .int .u8 lo' ∧ vhi = .int .u8 hi' ∧ vr = .int .i32 r ∧ vi = .int .i64 i ∧ 1 ≤ i ∧ i ≤ l.length ∧ i + k = m + 1 ∧ Hid (readU l = scanU l k i lo' hi') ∧ Hid (∀ j (hj : j < l.length), wr.cell? ⟨b, off + j, none⟩ = some (.int .u8 (l[j].toNat : Int))) ∧ Below w.heap.size w wr) (fun _ _ _ vi _ => m + 1 - (intOf vi).toNat)
    case atStart => exact ⟨1, m, lo, hi, _, rfl, rfl, rfl, rfl, Nat.le_refl _, h0, by omega, HR, Lib.hid HC.out, drw _ _⟩
    case round =>
      obtain ⟨i, k, lo', hi', r, rfl, rfl, rfl, rfl, hi1, hi2, hik, hsc, hcw, hbw⟩ := hrel
      rcases Nat.eq_zero_or_pos k with hk | hk
      · subst hk
        have hq := Lib.hid (hsc.out.trans (show scanU l 0 i lo' hi' = (i, 0) from rfl))
        obtain rfl : i = m + 1 := by omega
        go_wp2
        go_ret3
        rw [hq.out]
        exact ⟨⟨_, by rfl⟩, hbw⟩
      · obtain ⟨k, rfl⟩ : ∃ k', k = k' + 1 := ⟨k - 1, by omega⟩
        have him : i ≤ m := by omega
        by_cases hil : i = l.length
        · have hq := Lib.hid (hsc.out.trans (scan_end (k := k) (lo := lo') (hi := hi') (by omega)))
          have he : ((i : Int) == (l.length : Int)) = true := by simp; omega
          go_wp2
          go_ret3
          rw [hq.out]
          exact ⟨⟨_, rfl⟩, hbw⟩
        · have hlt2 : i < l.length := by omega
          have he : ((i : Int) == (l.length : Int)) = false := by simp; omega
          have g := hcw.out i hlt2
          have hx := l[i].toNat_lt
          have HW1 : Hid (l[i].toNat < lo' ∨ hi' < l[i].toNat → readU l = (i, 1)) := Lib.hid (fun h => hsc.out.trans (scan_bad hlt2 h))
          have HW2 : Hid (lo' ≤ l[i].toNat → l[i].toNat ≤ hi' → readU l = scanU l k (i + 1) 128 191) := Lib.hid (fun h1 h2 => hsc.out.trans (scan_go hlt2 h1 h2))
          generalize l[i].toNat = x at g hx HW1 HW2
          by_cases hx1 : x < lo'
          · have hq := Lib.hid (HW1.out (.inl hx1))
            go_wp2
            go_ret3
            rw [hq.out]
            exact ⟨⟨_, rfl⟩, hbw⟩
          · have hx3 : lo' ≤ x := by omega
            by_cases hx2 : hi' < x
            · have hq := Lib.hid (HW1.out (.inr hx2))
              go_wp2
              go_ret3
              rw [hq.out]
              exact ⟨⟨_, rfl⟩, hbw⟩
            · have hx4 : x ≤ hi' := by omega
              have hq := Lib.hid (HW2.out hx3 hx4)
              go_wp2
              go_roundw
              case rel => exact ⟨i + 1, k, 128, 191, _, rfl, rfl, rfl, by go_num, by omega, by omega, by omega, hq, hcw, hbw⟩
              case measure => simp [intOf] <;> omega

end Go.Proofs.YtejpdbiiikcmmaaGreatDoor.Ub
