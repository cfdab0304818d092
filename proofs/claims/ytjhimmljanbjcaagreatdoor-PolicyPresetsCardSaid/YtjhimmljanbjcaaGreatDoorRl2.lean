/- The reference's lineOf, decimal: a rule's line, a number's digits. -/
import Derived.Deep.RegionHeld3
import Derived.WalkLawsBesides
import Derived.Laws.Concat
import Derived.Test.YtjhimmljanbjcaaGreatDoorPp
import Derived.Test.YtjhimmljanbjcaaGreatDoorCk
set_option linter.unusedVariables false
set_option linter.unusedSimpArgs false
namespace Go.Proofs.YtjhimmljanbjcaaGreatDoor.Rl2
open Go.RowKit Lb Gr Pd Fl Go.Proofs.YtjhimmljanbjcaaGreatDoor.Pm Bk Go.Proofs.YtjhimmljanbjcaaGreatDoor.Sl Go.Proofs.YtjhimmljanbjcaaGreatDoor.Rz Go.Proofs.YtjhimmljanbjcaaGreatDoor.Pl
attribute [local go_sem ↓] Go.wp_at_zero Go.wp_at_succ

theorem str_add (a b : List UInt8) : str a ++ str b = str (a ++ b) := by unfold str; rw [ByteArray.mk_append_mk]; try simp
/-- two texts put together, as the walk wants it -/
theorem addS {a b : List UInt8} {x y : ByteArray} (hx : x = str a) (hy : y = str b) (h : (a ++ b).length ≤ 4611686018427387904) (W : World) : (Op.stringOp .add x y).run Tryz.prog W = .ok (.string (str (a ++ b))) W := by
  subst hx hy
  rw [← str_add]
  refine run_string_add_sum W _ _ ?_
  rw [str_size, str_size]
  rw [List.length_append] at h
  omega
/-- a line's words, each with a blank ahead -/
def tailW (l : List ByteArray) : List UInt8 := l.flatMap fun x => 32 :: x.data.toList
theorem lineL_cons (x : ByteArray) (l : List ByteArray) : lineL (x :: l) = x.data.toList ++ tailW l ++ [10] := by
  unfold lineL tailW
  rw [List.map_cons, Lib.join_cons]
  unfold Lib.joinTail
  rw [List.map_map, List.flatMap_def]
  rfl
/-- the line, the first k of the words -/
def linK (wd : ByteArray) (r : RuleD) (k : Nat) : List UInt8 := wd.data.toList ++ tailW (r.name :: kindN r.kind.toNat :: r.words.take k)
theorem linK_0 (wd : ByteArray) (r : RuleD) : linK wd r 0 = wd.data.toList ++ [32] ++ r.name.data.toList ++ [32] ++ (kindN r.kind.toNat).data.toList := by
  unfold linK tailW; simp
theorem linK_succ (wd : ByteArray) (r : RuleD) {k : Nat} (h : k < r.words.length) : linK wd r (k + 1) = linK wd r k ++ ([32] ++ (r.words[k]).data.toList) := by
  unfold linK tailW; rw [List.flatMap_cons, List.flatMap_cons, List.flatMap_cons, List.flatMap_cons, List.take_succ_eq_append_getElem h, List.flatMap_append]; simp
theorem linK_end (wd : ByteArray) (r : RuleD) : linK wd r r.words.length ++ [10] = sayL wd r := by
  unfold linK sayL; rw [lineL_cons, List.take_length]
theorem linK_le (wd : ByteArray) (r : RuleD) (k : Nat) : (linK wd r k).length ≤ (sayL wd r).length := by
  unfold sayL
  rw [lineL_cons]
  unfold linK tailW
  have h : ((r.words.take k).flatMap fun x => (32 : UInt8) :: x.data.toList).length ≤ (r.words.flatMap fun x => (32 : UInt8) :: x.data.toList).length := by
    conv => rhs; rw [← List.take_append_drop k r.words, List.flatMap_append]
    simp
  simp only [List.flatMap_cons, List.length_append, List.length_cons] at h ⊢
  omega

set_option maxHeartbeats 4000000 in
set_option maxRecDepth 100000 in
theorem rLineC (wd : ByteArray) (r : RuleD) (u : Value) (w : World) (h : kdW.rd w 0 w.heap.size u r.words) (h0 : 0 ≤ r.kind) (h9 : r.kind < 9) (hsz : (sayL wd r).length ≤ 4611686018427387904) : Calls Tryz.prog 72 #[.string wd, ruV r u] w fun e w' => e = .returned (.string (str (sayL wd r))) ∧ Below w.heap.size w w' := by
  obtain ⟨A, c, rfl, hc1, hc2⟩ := rdW_form h
  have hm : maxLen = 9223372036854775807 := rfl
  have hlen : (r.words.length : Int) ≤ 9223372036854775807 := by omega
  have HRD : Hid (∀ W, Below w.heap.size w W → kdW.rd W 0 w.heap.size (.slice A r.words.length c) r.words) := Lib.hid fun W hW => rd_below h hW (Nat.le_refl _)
  have HKN : Hid (∀ W, Calls Tryz.prog 127 #[.int .i64 r.kind] W fun e w' => e = .returned (.string (kindN r.kind.toNat)) ∧ Below W.heap.size W w') := Lib.hid fun W => by
    have h1 := rKindC r.kind.toNat (by omega) W
    rw [Int.toNat_of_nonneg h0] at h1
    have h2 : kindN r.kind.toNat = kindsL[r.kind.toNat]'(by rw [kinds_len]; omega) := by unfold kindN; rw [List.getD_eq_getElem?_getD, List.getElem?_eq_getElem (by rw [kinds_len]; omega), Option.getD_some]
    rw [h2]
    exact h1
  have l0 := linK_le wd r 0
  have HL0 := linK_0 wd r
  have hz := congrArg List.length HL0
  simp only [List.length_append, List.length_cons, List.length_nil] at hz
  have HA1 : Hid (∀ W, (Op.stringOp .add wd ⟨#[32]⟩).run Tryz.prog W = .ok (.string (str (wd.data.toList ++ [32]))) W) := Lib.hid fun W => addS (str_of _).symm rfl (by simp only [List.length_append, List.length_cons, List.length_nil]; omega) W
  have HA2 : Hid (∀ W, (Op.stringOp .add (str (wd.data.toList ++ [32])) r.name).run Tryz.prog W = .ok (.string (str (wd.data.toList ++ [32] ++ r.name.data.toList))) W) := Lib.hid fun W => addS rfl (str_of _).symm (by simp only [List.length_append, List.length_cons, List.length_nil]; omega) W
  have HA3 : Hid (∀ W, (Op.stringOp .add (str (wd.data.toList ++ [32] ++ r.name.data.toList)) ⟨#[32]⟩).run Tryz.prog W = .ok (.string (str (wd.data.toList ++ [32] ++ r.name.data.toList ++ [32]))) W) := Lib.hid fun W => addS rfl rfl (by simp only [List.length_append, List.length_cons, List.length_nil]; omega) W
  have HA4 : Hid (∀ W, (Op.stringOp .add (str (wd.data.toList ++ [32] ++ r.name.data.toList ++ [32])) (kindN r.kind.toNat)).run Tryz.prog W = .ok (.string (str (linK wd r 0))) W) := Lib.hid fun W => by rw [HL0]; exact addS rfl (str_of _).symm (by simp only [List.length_append, List.length_cons, List.length_nil]; omega) W
  have HAW : Hid (∀ k (h : k < r.words.length) W, (Op.stringOp .add ⟨#[32]⟩ r.words[k]).run Tryz.prog W = .ok (.string (str ([32] ++ (r.words[k]).data.toList))) W) := Lib.hid fun k hk W => addS rfl (str_of _).symm (by
    have h1 := linK_le wd r (k + 1)
    rw [linK_succ wd r hk, List.length_append] at h1
    omega) W
  have HAS : Hid (∀ k (h : k < r.words.length) W, (Op.stringOp .add (str (linK wd r k)) (str ([32] ++ (r.words[k]).data.toList))).run Tryz.prog W = .ok (.string (str (linK wd r (k + 1)))) W) := Lib.hid fun k hk W => by
    rw [linK_succ wd r hk]
    exact addS rfl rfl (by
      have h1 := linK_le wd r (k + 1)
      rw [linK_succ wd r hk] at h1
      omega) W
  have HAE : Hid (∀ W, (Op.stringOp .add (str (linK wd r r.words.length)) ⟨#[10]⟩).run Tryz.prog W = .ok (.string (str (sayL wd r))) W) := Lib.hid fun W => by
    rw [← linK_end]
    exact addS rfl rfl (by rw [linK_end]; exact hsz) W
  clear hz HL0 l0
  generalize str (wd.data.toList ++ [32]) = s1 at HA1 HA2
  generalize str (wd.data.toList ++ [32] ++ r.name.data.toList) = s2 at HA2 HA3
  generalize str (wd.data.toList ++ [32] ++ r.name.data.toList ++ [32]) = s3 at HA3 HA4
  generalize kindN r.kind.toNat = kn at HA4 HKN
  obtain ⟨sk, hsk⟩ : ∃ sk : Nat → ByteArray, ∀ k, sk k = str (linK wd r k) := ⟨_, fun _ => rfl⟩
  obtain ⟨wk, hwk⟩ : ∃ wk : ByteArray → ByteArray, ∀ k, wk k = str ([32] ++ k.data.toList) := ⟨_, fun _ => rfl⟩
  obtain ⟨fin, hfin⟩ : ∃ f, f = str (sayL wd r) := ⟨_, rfl⟩
  simp only [← hsk, ← hwk, ← hfin] at HA4 HAW HAS HAE ⊢
  unfold ruV
  clear h hc1 hc2 hm h0 h9 hsk hwk hfin hsz
  obtain ⟨nm, kd, ws⟩ := r
  simp only at *
  obtain ⟨W0, hW0⟩ : ∃ W, W = w.alloc (.cells #[.string nm, .int .i64 kd, .slice A ws.length c] 50) := ⟨_, rfl⟩
  have hb0 : Below w.heap.size w W0 := hW0 ▸ (Below.refl _ _).alloc (Nat.le_refl _) _
  have k0 : Bl W0 w.heap.size 50 [.string nm, .int .i64 kd, .slice A ws.length c] := hW0 ▸ Bl.new w _ _ rfl
  have g0 := k0.cell 0 rfl
  have g1 := k0.cell 1 rfl
  have g2 := k0.cell 2 rfl
  have hz0 := hb0.size
  have HX0 := Lib.hid hW0
  clear hW0
  have ha1 := HA1.out
  have ha2 := HA2.out
  have ha3 := HA3.out
  have ha4 := HA4.out
  go_enter Tryz.func72, Tryz.ntmps72
  go_upto_region 1 with fail
  rw [← HX0.out]
  go_region_held3 (fun W' => W'.cell? ⟨w.heap.size, 0, none⟩ = some (.string nm) ∧ W'.cell? ⟨w.heap.size, 1, none⟩ = some (.int .i64 kd))
    (first | exact ⟨g0, g1⟩ | exact HS.out)
    (first | (go_at_call 127; refine (HKN.out _).mono ?_; rintro e w1 ⟨rfl, hb1⟩; have h1 : Below W0.heap.size W0 w1 := (drw W0 1).trans hb1; have HS : Hid (w1.cell? ⟨w.heap.size, 0, none⟩ = some (.string nm) ∧ w1.cell? ⟨w.heap.size, 1, none⟩ = some (.int .i64 kd)) := Lib.hid ⟨(k0.below h1).cell 0 rfl, (k0.below h1).cell 1 rfl⟩))
  have hw1 := hb0.trans (h1.mono hz0)
  have j2 := (k0.below h1).cell 2 rfl
  clear g0 g1 g2 ha1 ha2 ha3 ha4
  go_wp2
  go_loopw [5, 21] (fun s i wr => ∃ k : Nat, k ≤ ws.length ∧ i = .int .i64 k ∧ s = .string (sk k) ∧ Below w.heap.size w wr) (fun _ i _ => ws.length - (intOf i).toNat)
  case atStart => exact ⟨0, by omega, rfl, rfl, hw1⟩
  case round =>
    obtain ⟨k, hk, rfl, rfl, hnx⟩ := hrel
    by_cases hlt : k < ws.length
    · obtain ⟨b, off, rfl, _, hb2, hcx⟩ := rdW_at (HRD.out _ hnx) hlt
      have e1 := HAW.out k hlt
      have e2 := HAS.out k hlt
      generalize wk ws[k] = wk1 at *
      generalize ws[k] = wkk at *
      have hk0 : (0 : Int) ≤ (k : Int) := by omega
      have hk1 : (k : Int) < (ws.length : Int) := by omega
      go_wp2
      go_roundw
      case rel => exact ⟨k + 1, by omega, by go_num, rfl, hnx⟩
      case measure => simp [intOf] <;> omega
    · obtain rfl : k = ws.length := by omega
      have e1 := HAE.out
      go_wp2
      go_ret
      exact ⟨rfl, hnx⟩
end Go.Proofs.YtjhimmljanbjcaaGreatDoor.Rl2
