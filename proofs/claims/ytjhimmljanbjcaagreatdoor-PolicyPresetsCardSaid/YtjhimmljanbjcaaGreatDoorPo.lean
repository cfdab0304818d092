/- A rule in a policy's text: the program's ruleOf, the reference's ruleIn. -/
import Derived.Test.YtjhimmljanbjcaaGreatDoorPn
import Derived.Test.YtjhimmljanbjcaaGreatDoorCn
import Derived.Test.YtjhimmljanbjcaaGreatDoorRa
import Derived.Test.YtjhimmljanbjcaaGreatDoorCk
import Derived.Test.YtjhimmljanbjcaaGreatDoorTt
import Derived.WalkSpells
import Derived.Deep.RegionHeld3
set_option linter.unusedVariables false
set_option linter.unusedSimpArgs false
namespace Go.Proofs.YtjhimmljanbjcaaGreatDoor.Po
open Go.RowKit Lb Gr Pd Fl Go.Proofs.YtjhimmljanbjcaaGreatDoor.Pm Bk Is Ea Lc Go.Proofs.YtjhimmljanbjcaaGreatDoor.Sl Go.Proofs.YtjhimmljanbjcaaGreatDoor.Ck Go.Proofs.YtjhimmljanbjcaaGreatDoor.Ow Go.Proofs.YtjhimmljanbjcaaGreatDoor.Tr Pt Pn
attribute [local go_sem ↓] Go.wp_at_zero Go.wp_at_succ

/-- behind the first k of a row -/
theorem rdW_drop {w : World} {lo hi b off n c k : Nat} {l : List ByteArray} (h : kdW.rd w lo hi (.slice (some ⟨b, off, none⟩) n c) l) (hk : k ≤ l.length) : kdW.rd w lo hi (.slice (some ⟨b, off + k, none⟩) (n - k) (c - k)) (l.drop k) := by
  obtain ⟨A', c', hv, h1, h2, h3⟩ := h
  injection hv with e1 e2 e3
  subst e1 e2 e3
  refine ⟨some ⟨b, off + k, none⟩, c - k, by rw [List.length_drop], by rw [List.length_drop]; omega, by omega, fun hp => ?_⟩
  obtain ⟨b', off', e, hl, hh, hc⟩ := h3 (by simp at hp ⊢; omega)
  injection e with e
  injection e with e1 e2
  subst e1 e2
  refine ⟨b, off + k, rfl, hl, hh, fun j u hu => ?_⟩
  rw [Nat.add_assoc]
  refine hc (k + j) u ?_
  rw [List.map_drop, List.getElem?_drop] at hu
  exact hu
theorem kindIdx {w : World} {lo hi c : Nat} {A : Option Addr} (h : kdW.rd w lo hi (.slice A 9 c) kindsL) (x : ByteArray) : Calls Tryz.prog 134 #[.slice A 9 c, .string x] w fun e w' => e = .returned (.int .i64 (kindZ x)) ∧ w' = w := by
  obtain ⟨b, off, rfl, _, _, hc⟩ := rdW_cells h (by decide)
  refine (Tryz.slices_Index_string b off 9 c kindsL x w (by decide) (by decide) hc).mono ?_
  rintro e w' ⟨rfl, rfl⟩
  exact ⟨rfl, rfl⟩

/-- what ruleOf gives -/
def RuOf (l : List ByteArray) (w : World) (e : Ending) (w' : World) : Prop :=
  ∃ r u G, e = .returned (.tuple #[.agg #[.string r.name, .int .i64 r.kind, u], .bool (ruleO l).isSome]) ∧ kdW.own w' w.heap.size u r.words G ∧ (∀ r', ruleO l = some r' → r = r') ∧ Below w.heap.size w w'
set_option maxHeartbeats 4000000 in
set_option maxRecDepth 100000 in
theorem ruleOfC (l : List ByteArray) (v : Value) (w : World) (h : kdW.rd w 0 w.heap.size v l) (hl : l.length * 16 ≤ 140737488355328) : Calls Tryz.prog 130 #[v] w (RuOf l w) := by
  obtain ⟨j0, hj', jw0, jw1, jw2⟩ := info_parts infoStr
  obtain ⟨A, c, rfl, hc1, hc2⟩ := rdW_form h
  have k1 : Bl (w.alloc (.cells #[.string ByteArray.empty, .int .i64 0, .slice none 0 0] 50)) w.heap.size 50 [.string ByteArray.empty, .int .i64 0, .slice none 0 0] := Bl.new w _ _ rfl
  have hb0 : Below w.heap.size w (w.alloc (.cells #[.string ByteArray.empty, .int .i64 0, .slice none 0 0] 50)) := (Below.refl _ _).alloc (Nat.le_refl _) _
  match l, h, hl, hc1 with
  | [], h, hl, hc1 =>
    go_enter Tryz.func130, Tryz.ntmps130
    go_wp2
    refine bodyPost_ret (res_cell2 Tryz.results130 rfl k1 Tryz.underlying50 rfl (by kernel_rfl)) rfl ?_
    exact ⟨ru0, .slice none 0 0, [], rfl, ⟨World.ownsRow_nil _ _ _ _, rfl⟩, fun r' h => (by cases h), hb0⟩
  | [n], h, hl, hc1 =>
    go_enter Tryz.func130, Tryz.ntmps130
    go_wp2
    refine bodyPost_ret (res_cell2 Tryz.results130 rfl k1 Tryz.underlying50 rfl (by kernel_rfl)) rfl ?_
    exact ⟨ru0, .slice none 0 0, [], rfl, ⟨World.ownsRow_nil _ _ _ _, rfl⟩, fun r' h => (by cases h), hb0⟩
  | n :: k :: ws, h, hl, hc1 =>
    obtain ⟨b, off, rfl, _, hb2, hx0⟩ := rdW_at h (i := 0) (by simp)
    obtain ⟨b', off', hA', _, _, hx1⟩ := rdW_at h (i := 1) (by simp)
    injection hA' with hA'
    injection hA' with e1 e2
    subst e1 e2
    have hx0' : w.cell? ⟨b, off, none⟩ = some (.string n) := by simpa using hx0
    have hx1' : w.cell? ⟨b, off + 1, none⟩ = some (.string k) := by simpa using hx1
    obtain ⟨m, hm⟩ : ∃ m, m = ws.length := ⟨_, rfl⟩
    obtain ⟨c2, rfl⟩ : ∃ c2, c = c2 + 2 := ⟨c - 2, by simp at hc1; omega⟩
    have hmc : m ≤ c2 := by simp at hc1; omega
    have hl2 : m * 16 ≤ 140737488355328 := by simp at hl; omega
    have hlen : (n :: k :: ws).length = m + 2 := by simp [hm]
    have hmm : maxLen = 9223372036854775807 := rfl
    have hDR : Hid (∀ W, Below w.heap.size w W → kdW.rd W 0 w.heap.size (.slice (some ⟨b, off + 2, none⟩) m c2) ws) := Lib.hid fun W hW => by
      have h1 := rdW_drop (rd_below h hW (Nat.le_refl _)) (k := 2) (by simp)
      rw [hlen] at h1
      exact h1
    have HM := Lib.hid hm
    have hro : ruleO (n :: k :: ws) = if 0 ≤ kindZ k ∧ (kindZ k = 7 ∨ ws = []) then some ⟨n, kindZ k, ws⟩ else none := rfl
    have HRO := Lib.hid hro
    have HZ := kindZ_le k
    rw [hlen]
    obtain ⟨N, hN⟩ : ∃ N, N = m + 2 := ⟨_, rfl⟩
    obtain ⟨C, hC⟩ : ∃ C, C = c2 + 2 := ⟨_, rfl⟩
    rw [← hN, ← hC]
    have n1 : (2 : Int) ≤ (N : Int) := by omega
    have n2 : (N : Int) ≤ (C : Int) := by omega
    have n3 : ((N : Int) - 2).toNat = m := by omega
    have n4 : ((C : Int) - 2).toNat = c2 := by omega
    have n5 : N - 2 = m := by omega
    have n6 : C - 2 = c2 := by omega
    have n7 : (C : Int) ≤ 9223372036854775807 := by omega
    have n8 : (1 : Int) < (N : Int) := by omega
    have n9 : (0 : Int) < (N : Int) := by omega
    have HN := Lib.hid hN
    have HC := Lib.hid hC
    have N3 := Lib.hid (And.intro n3 (And.intro n4 (And.intro n5 n6)))
    obtain ⟨W0, hW0⟩ : ∃ W, W = w.alloc (.cells #[.string ⟨#[]⟩, .int .i64 0, .slice none 0 0] 50) := ⟨_, rfl⟩
    have k1 : Bl W0 w.heap.size 50 [.string ⟨#[]⟩, .int .i64 0, .slice none 0 0] := hW0 ▸ Bl.new w _ _ rfl
    have hb0 : Below w.heap.size w W0 := hW0 ▸ (Below.refl _ _).alloc (Nat.le_refl _) _
    have hz0 := hb0.size
    have HW0 : Hid (∀ W, Below W0.heap.size W0 W → W.cell? ⟨b, off, none⟩ = some (.string n) ∧ W.cell? ⟨b, off + 1, none⟩ = some (.string k)) := Lib.hid fun W hW => by
      have h9 : Below w.heap.size w W := hb0.trans (hW.mono hz0)
      exact ⟨(h9.cell (p := ⟨b, off, none⟩) hb2).trans hx0', (h9.cell (p := ⟨b, off + 1, none⟩) hb2).trans hx1'⟩
    obtain ⟨y0, y1⟩ := HW0.out _ (Below.refl _ _)
    have hd0 : Below W0.heap.size W0 W0.drew := drw W0 1
    have HKI : Hid (∀ W, Calls Tryz.prog 59 #[] W fun e w' => ∃ A G, e = .returned (.slice A 9 9) ∧ kdW.own w' W.heap.size (.slice A 9 9) kindsL G ∧ Below W.heap.size W w') := Lib.hid fun W => kindsC W
    obtain ⟨z, hz⟩ : ∃ z, z = kindZ k := ⟨_, rfl⟩
    have HIX : Hid (∀ W A, kdW.rd W 0 W.heap.size (.slice A 9 9) kindsL → Calls Tryz.prog 134 #[.slice A 9 9, .string k] W fun e w' => e = .returned (.int .i64 z) ∧ w' = W) := Lib.hid fun W A hr => by rw [hz]; exact kindIdx hr k
    rw [← hz] at HZ
    obtain ⟨hz1, hz2⟩ := HZ
    have HZE := Lib.hid hz
    have HX0 := Lib.hid hW0
    have hi1 : (0 : Int) ≤ (m : Int) := by omega
    clear h hx0 hx1 hx0' hx1' hm hlen hro hz hW0 hmm hc1 hc2 hl hN hC n3 n4 n5 n6
    obtain ⟨okb, hokb⟩ : ∃ o, o = (ruleO (n :: k :: ws)).isSome := ⟨_, rfl⟩
    have HOK := Lib.hid hokb
    clear hokb
    go_enter Tryz.func130, Tryz.ntmps130
    go_upto_region 3 with fail
    rw [← HX0.out]
    go_region_held3 (fun W' => W'.cell? ⟨b, off + 1, none⟩ = some (.string k))
      (first | exact y1 | exact HS.out)
      (first
      | (go_at_call 59; refine (HKI.out _).mono ?_; rintro e w1 ⟨A9, G9, rfl, ho9, hb1⟩; have h1 : Below W0.heap.size W0 w1 := hd0.trans hb1; have HS := Lib.hid (HW0.out _ h1).2; have hrk := kdW.read (lo := 0) (hi := w1.heap.size) ho9 (Nat.zero_le _) (Nat.le_refl _))
      | (go_at_call 134; refine (HIX.out _ _ hrk).mono ?_; rintro e wh ⟨rfl, h7⟩; obtain rfl := h7.symm))
    have hz1' := h1.size
    have x0 := (HW0.out _ h1).1
    have k11 := k1.below h1
    have hk1l := k1.lt
    clear y0 y1 hrk
    go_upto_region 5 with fail
    obtain ⟨W2, hW2⟩ : ∃ W, W = w1.alloc (.cells #[.string n, .int .i64 z, .slice none 0 0] 50) := ⟨_, rfl⟩
    have hb2' : Below w1.heap.size w1 W2 := hW2 ▸ (Below.refl _ _).alloc (Nat.le_refl _) _
    have k5 : Bl W2 w1.heap.size 50 [.string n, .int .i64 z, .slice none 0 0] := hW2 ▸ Bl.new w1 _ _ rfl
    have k12 := k11.below hb2'
    have h2 : Below W0.heap.size W0 W2 := h1.trans (hb2'.mono hz1')
    have hw2 : Below w.heap.size w W2 := hb0.trans (h2.mono hz0)
    rw [← hW2]
    have HX2 := Lib.hid hW2
    have g0 := k5.cell 0 rfl
    have g1 := k5.cell 1 rfl
    have g2 := k5.cell 2 rfl
    have hz2' := hb2'.size
    clear hW2 x0
    by_cases hz7 : z = 7
    · have hob : Hid ((ruleO (n :: k :: ws)).isSome = true) := Lib.hid (by
        rw [HRO.out, ← HZE.out, if_pos ⟨by omega, .inl hz7⟩]; rfl)
      have hrr : Hid (∀ r', ruleO (n :: k :: ws) = some r' → (⟨n, 7, ws⟩ : RuleD) = r') := Lib.hid (fun r' hr => by
        rw [HRO.out, ← HZE.out, hz7, if_pos ⟨by decide, .inl rfl⟩] at hr
        exact Option.some.inj hr)
      subst hz7
      have hsrc := rd_src (hDR.out _ hw2)
      have hm1 := HM.out
      have r1 : 0 + m ≤ maxLen := by unfold maxLen; omega
      have r2 : (0 + m) * 16 ≤ 140737488355328 := by omega
      have hnil := World.ownsRow_nil W2 W2.heap.size 9 1
      have n3 := N3.out.1
      have n4 := N3.out.2.1
      have n5 := N3.out.2.2.1
      have n6 := N3.out.2.2.2
      clear hm1
      have hm1 := HM.out
      by_cases hc0 : c2 = 0
      · have hcn : C = 2 := by have := HC.out; omega
        have hcn2 : (C : Int) = 2 := by omega
        have hws : ws = [] := List.eq_nil_of_length_eq_zero (by omega)
        subst hws
        have hsrc : 0 < (([] : List ByteArray).map Value.string).length → ∃ b' off', (some ⟨b, off, none⟩ : Option Addr) = some ⟨b', off', none⟩ ∧ ∀ j u, (([] : List ByteArray).map Value.string)[j]? = some u → W2.cell? ⟨b', off' + j, none⟩ = some u := fun h => by simp at h
        have hm00 : m = 0 := by simpa using hm1
        subst hc0 hm00
        have hN2 : N = 2 := HN.out
        have hC2 : C = 2 := HC.out
        clear n1 n2 n3 n4 n5 n6 n7 n8 n9 hcn hcn2 hm1
        subst hN2 hC2
        go_upto_region 6 with fail
        go_region_law (first
          | (refine step_append_src _ (by rfl) (.tmp 24) (.tmp 26) 24 (by rfl) W2.heap.size 9 j0 _ 1 16 Tryz.underlying24 hj' jw0 jw1 jw2 rfl (by decide) (.slice none 0 0) 0 [] (by rfl) (by exact World.ownsRow_nil _ _ _ _) (some ⟨b, off, none⟩) 0 0 (([] : List ByteArray).map Value.string) (by rfl) (by rw [List.length_map, Nat.mul_one]; exact HM.out.symm) (by exact hsrc) (by simp [Value.oneCell']) r1 r2 (by simp) ?_; intro v9 w9 hown9 hgrow9 hrow9; rw [Nat.zero_add, List.nil_append] at hown9; obtain ⟨A6, c6, rfl, _⟩ := own_slice hown9; have k9 := (k5.drew 1).of (hgrow9.block _ k5.lt (by simp [Value.ownBlock])); have q2 := k9.cell 2 rfl; have q3 := k9.fz 2))
        have k12d := (k12.drew 1).of (hgrow9.block _ k12.lt (by simp [Value.ownBlock]))
        have hb9 : Below w.heap.size w w9 := hw2.drew.grown hgrow9 hw2.size (fun j hj => by cases hj)
        have hs9 := hgrow9.size
        have hk5l := k5.lt
        have k10 := k9.set 2 (.slice A6 0 c6)
        have k13 := k12d.other (p := ⟨w1.heap.size, 2, none⟩) (by show w.heap.size ≠ w1.heap.size; omega) (.slice A6 0 c6)
        have hf9 : Fr [w1.heap.size] w9 (w9.setCell ⟨w1.heap.size, 2, none⟩ (.slice A6 0 c6)) := Fr.setCell _ ⟨w1.heap.size, 2, none⟩ _ (.inl (by simp))
        obtain ⟨W9, hW9⟩ : ∃ W, W = w9.setCell ⟨w1.heap.size, 2, none⟩ (.slice A6 0 c6) := ⟨_, rfl⟩
        rw [← hW9] at k10 k13 hf9
        have e0 := k10.cell 0 rfl
        have e1 := k10.cell 1 rfl
        have e2 := k10.cell 2 rfl
        have j4 := k13.three (.string n) (.int .i64 7) (.slice A6 0 c6)
        obtain ⟨s0, s1, s2, s3, s4, s5⟩ := k13.store3 (.string n) (.int .i64 7) (.slice A6 0 c6)
        have hfr := Fr.set3 W9 w.heap.size (.string n) (.int .i64 7) (.slice A6 0 c6)
        have HFR := Lib.hid hfr
        have HO9 := Lib.hid hown9
        have HG9 := Lib.hid hgrow9
        have HHm := HM
        clear hfr hown9 hgrow9 hrow9 q2 q3 g0 g1 g2
        have hs2 : W2.drew.heap.size = W2.heap.size := rfl
        rw [← hW9]
        have HW9 := Lib.hid hW9
        clear hW9
        go_wp2
        refine bodyPost_ret (res_cell2 Tryz.results130 rfl j4 Tryz.underlying50 rfl (by kernel_rfl)) rfl ?_
        have ho := HO9.out
        have hge := own_ge2 ho
        have how : Own w9 W2.heap.size (.slice A6 0 c6) [] := by
          have h9 := ho
          exact h9
        have hoF := own_F how
        have hwz := hw2.size
        refine ⟨⟨n, 7, []⟩, .slice A6 0 c6, _, by rw [hob.out]; exact rfl, kdW.low (kdW.keep (kdW.keep hoF hf9.size fun x hx => hf9.block x (kdW.ge hoF x hx).2 ?_) HFR.out.size fun x hx => HFR.out.block x ?_ ?_) hwz, hrr.out, (hb9.trans (hf9.below hb9.size (by simp; omega))).trans (HFR.out.below (Nat.le_trans hb9.size hf9.size) (by simp))⟩
        · have := (kdW.ge hoF x hx).1; simp; omega
        · have := (kdW.ge hoF x hx).2; have := hf9.size; omega
        · have := (kdW.ge hoF x hx).1; simp; omega
      · have hcn : ¬ C = 2 := by have := HC.out; omega
        have hcn2 : ¬ (C : Int) = 2 := by have := HC.out; omega
        clear hc0 hm1
        go_upto_region 6 with fail
        go_region_law (first
          | (refine step_append_src _ (by rfl) (.tmp 24) (.tmp 26) 24 (by rfl) W2.heap.size 9 j0 _ 1 16 Tryz.underlying24 hj' jw0 jw1 jw2 rfl (by decide) (.slice none 0 0) 0 [] (by rfl) (by exact World.ownsRow_nil _ _ _ _) (some ⟨b, off + 2, none⟩) m c2 (ws.map Value.string) (by rfl) (by rw [List.length_map, Nat.mul_one]; exact HM.out.symm) (by exact hsrc) (by simp [Value.oneCell']) r1 r2 (by simp) ?_; intro v9 w9 hown9 hgrow9 hrow9; rw [Nat.zero_add, List.nil_append] at hown9; obtain ⟨A6, c6, rfl, _⟩ := own_slice hown9; have k9 := (k5.drew 1).of (hgrow9.block _ k5.lt (by simp [Value.ownBlock])); have q2 := k9.cell 2 rfl; have q3 := k9.fz 2))
        have k12d := (k12.drew 1).of (hgrow9.block _ k12.lt (by simp [Value.ownBlock]))
        have hb9 : Below w.heap.size w w9 := hw2.drew.grown hgrow9 hw2.size (fun j hj => by cases hj)
        have hs9 := hgrow9.size
        have hk5l := k5.lt
        have k10 := k9.set 2 (.slice A6 m c6)
        have k13 := k12d.other (p := ⟨w1.heap.size, 2, none⟩) (by show w.heap.size ≠ w1.heap.size; omega) (.slice A6 m c6)
        have hf9 : Fr [w1.heap.size] w9 (w9.setCell ⟨w1.heap.size, 2, none⟩ (.slice A6 m c6)) := Fr.setCell _ ⟨w1.heap.size, 2, none⟩ _ (.inl (by simp))
        obtain ⟨W9, hW9⟩ : ∃ W, W = w9.setCell ⟨w1.heap.size, 2, none⟩ (.slice A6 m c6) := ⟨_, rfl⟩
        rw [← hW9] at k10 k13 hf9
        have e0 := k10.cell 0 rfl
        have e1 := k10.cell 1 rfl
        have e2 := k10.cell 2 rfl
        have j4 := k13.three (.string n) (.int .i64 7) (.slice A6 m c6)
        obtain ⟨s0, s1, s2, s3, s4, s5⟩ := k13.store3 (.string n) (.int .i64 7) (.slice A6 m c6)
        have hfr := Fr.set3 W9 w.heap.size (.string n) (.int .i64 7) (.slice A6 m c6)
        have HFR := Lib.hid hfr
        have HO9 := Lib.hid hown9
        have HG9 := Lib.hid hgrow9
        have HHm := HM
        clear hfr hown9 hgrow9 hrow9 q2 q3 g0 g1 g2
        have hs2 : W2.drew.heap.size = W2.heap.size := rfl
        rw [← hW9]
        have HW9 := Lib.hid hW9
        clear hW9
        go_wp2
        refine bodyPost_ret (res_cell2 Tryz.results130 rfl j4 Tryz.underlying50 rfl (by kernel_rfl)) rfl ?_
        have ho := HO9.out
        have hge := own_ge2 ho
        have how : Own w9 W2.heap.size (.slice A6 m c6) ws := by
          have h9 := ho
          rw [HHm.out] at h9 ⊢
          exact h9
        have hoF := own_F how
        have hwz := hw2.size
        refine ⟨⟨n, 7, ws⟩, .slice A6 m c6, _, by rw [hob.out]; exact rfl, kdW.low (kdW.keep (kdW.keep hoF hf9.size fun x hx => hf9.block x (kdW.ge hoF x hx).2 ?_) HFR.out.size fun x hx => HFR.out.block x ?_ ?_) hwz, hrr.out, (hb9.trans (hf9.below hb9.size (by simp; omega))).trans (HFR.out.below (Nat.le_trans hb9.size hf9.size) (by simp))⟩
        · have := (kdW.ge hoF x hx).1; simp; omega
        · have := (kdW.ge hoF x hx).2; have := hf9.size; omega
        · have := (kdW.ge hoF x hx).1; simp; omega
    · have e7 : (z == 7) = false := by simpa using hz7
      have hrr : Hid (∀ r', ruleO (n :: k :: ws) = some r' → (⟨n, z, []⟩ : RuleD) = r') := Lib.hid (fun r' hr => by
        rw [HRO.out, ← HZE.out] at hr
        split at hr
        · rename_i hcond
          have hws : ws = [] := hcond.2.resolve_left hz7
          subst hws
          exact Option.some.inj hr
        · cases hr)
      have j4 := k12.three (.string n) (.int .i64 z) (.slice none 0 0)
      obtain ⟨s0, s1, s2, s3, s4, s5⟩ := k12.store3 (.string n) (.int .i64 z) (.slice none 0 0)
      have hfr := Fr.set3 W2 w.heap.size (.string n) (.int .i64 z) (.slice none 0 0)
      have HFR := Lib.hid hfr
      clear hfr
      by_cases hzn : z < 0
      · have hob : Hid ((ruleO (n :: k :: ws)).isSome = false) := Lib.hid (by
          rw [HRO.out, ← HZE.out, if_neg (fun h => absurd h.1 (by omega))]; rfl)
        go_wp2
        refine bodyPost_ret (res_cell2 Tryz.results130 rfl j4 Tryz.underlying50 rfl (by kernel_rfl)) rfl ?_
        exact ⟨⟨n, z, []⟩, .slice none 0 0, [], by rw [hob.out]; exact rfl, ⟨World.ownsRow_nil _ _ _ _, rfl⟩, hrr.out, hw2.trans (HFR.out.below hw2.size (by simp))⟩
      · have hzn2 : ¬ z < 0 := hzn
        by_cases hm0 : m = 0
        · have hob : Hid ((ruleO (n :: k :: ws)).isSome = true) := Lib.hid (by
            have hws : ws = [] := List.eq_nil_of_length_eq_zero (by rw [← HM.out]; exact hm0)
            rw [HRO.out, ← HZE.out, if_pos ⟨by omega, .inr hws⟩]; rfl)
          have b1 : ((N : Int) == 2) = true := by have := HN.out; simp; omega
          clear hm0
          go_wp2
          refine bodyPost_ret (res_cell2 Tryz.results130 rfl j4 Tryz.underlying50 rfl (by kernel_rfl)) rfl ?_
          exact ⟨⟨n, z, []⟩, .slice none 0 0, [], by rw [hob.out]; exact rfl, ⟨World.ownsRow_nil _ _ _ _, rfl⟩, hrr.out, hw2.trans (HFR.out.below hw2.size (by simp))⟩
        · have hob : Hid ((ruleO (n :: k :: ws)).isSome = false) := Lib.hid (by
            have hws : ws ≠ [] := fun e => hm0 (by rw [HM.out, e]; rfl)
            rw [HRO.out, ← HZE.out, if_neg (fun h => h.2.elim hz7 hws)]; rfl)
          have b1 : ((N : Int) == 2) = false := by have := HN.out; simp; omega
          clear hm0
          go_wp2
          refine bodyPost_ret (res_cell2 Tryz.results130 rfl j4 Tryz.underlying50 rfl (by kernel_rfl)) rfl ?_
          exact ⟨⟨n, z, []⟩, .slice none 0 0, [], by rw [hob.out]; exact rfl, ⟨World.ownsRow_nil _ _ _ _, rfl⟩, hrr.out, hw2.trans (HFR.out.below hw2.size (by simp))⟩
end Go.Proofs.YtjhimmljanbjcaaGreatDoor.Po

/- Rules by their texts: the program's attrs. -/
set_option linter.unusedVariables false
set_option linter.unusedSimpArgs false
namespace Go.Proofs.YtjhimmljanbjcaaGreatDoor.At
open Go.RowKit Lb Gr Pd Fl Go.Proofs.YtjhimmljanbjcaaGreatDoor.Pm Bk Is Go.Proofs.YtjhimmljanbjcaaGreatDoor.Sl Go.Proofs.YtjhimmljanbjcaaGreatDoor.Ck Go.Proofs.YtjhimmljanbjcaaGreatDoor.Ow Pt Pn Po
attribute [local go_sem ↓] Go.wp_at_zero Go.wp_at_succ
/-- a text that says a rule -/
structure Txt (t : ByteArray) (r : RuleD) : Prop where
  size : t.size < 4294967281
  asc : t.data.toList.all (fun b => decide (b.toNat < 128)) = true
  lib : Lib.fields t.data.toList = fieldsL t.data.toList
  rule : ruleO (fieldsS t) = some r
  len : (fieldsS t).length * 16 ≤ 140737488355328
set_option maxHeartbeats 4000000 in
set_option maxRecDepth 100000 in
theorem attrsC (l : List ByteArray) (rs : List RuleD) (v : Value) (w : World) (ht : Tab w) (h : kdW.rd w 0 w.heap.size v l) (hlr : rs.length = l.length) (hr : ∀ i (hi : i < l.length), Txt l[i] (rs[i]'(by omega))) (hz : l.length * 48 ≤ 140737488355328) :
    Calls Tryz.prog 75 #[v] w fun e w' => ∃ v' F, e = .returned v' ∧ kdR.own w' w.heap.size v' rs F ∧ Below w.heap.size w w' := by
  obtain ⟨i0, hi, hz0, hz1, hz2⟩ := info_parts infoRule
  obtain ⟨A, c, rfl, hc1, hc2⟩ := rdW_form h
  have HF : Hid (∀ W i (hi : i < l.length), Below w.heap.size w W → Calls Tryz.prog 74 #[.string l[i]] W fun e w' => ∃ A n c, e = .returned (.slice A n c) ∧ kdW.rd w' 0 w'.heap.size (.slice A n c) (fieldsS l[i]) ∧ Below W.heap.size W w') :=
    Lib.hid fun W i hi hb => (libFieldsC l[i] W (ht.below hb) (hr i hi).size (hr i hi).asc (hr i hi).lib).mono fun e w' ⟨A, c, G, he, ho, hb⟩ => ⟨A, _, c, he, kdW.read ho (Nat.zero_le _) (Nat.le_refl _), hb⟩
  have HRO : Hid (∀ W i (hi : i < l.length) v, kdW.rd W 0 W.heap.size v (fieldsS l[i]) → Calls Tryz.prog 130 #[v] W fun e w' => ∃ u G, e = .returned (.tuple #[.agg #[.string (rs[i]'(by omega)).name, .int .i64 (rs[i]'(by omega)).kind, u], .bool true]) ∧ kdW.own w' W.heap.size u (rs[i]'(by omega)).words G ∧ Below W.heap.size W w') :=
    Lib.hid fun W i hi v hv => (ruleOfC _ v W hv (hr i hi).len).mono fun e w' ⟨r0, u, G, he, ho, hq, hb⟩ => by
      obtain rfl := hq _ (hr i hi).rule
      rw [(hr i hi).rule] at he
      exact ⟨u, G, he, ho, hb⟩
  have HRD : Hid (∀ W, Below w.heap.size w W → kdW.rd W 0 w.heap.size (.slice A l.length c) l) := Lib.hid fun W hW => rd_below h hW (Nat.le_refl _)
  obtain ⟨n, hn⟩ : ∃ n, n = l.length := ⟨_, rfl⟩
  have hni : (n : Int) ≤ 9223372036854775807 := by omega
  rw [← hn] at hz hlr HRD
  rw [← hn]
  have HN := Lib.hid hn
  have HLR := Lib.hid hlr
  clear h hr ht hn hlr hc1 hc2
  go_enter Tryz.func75, Tryz.ntmps75
  go_wp2
  go_loopw [3, 10] (fun v3 i wr => ∃ (k : Nat) (T : List (It RuleD)), k ≤ n ∧ i = .int .i64 k ∧ Hid (T.map (·.a) = rs.take k ∧ wr.ownsRow w.heap.size 50 3 v3 T.length (fmR.cells T) ∧ (∀ t ∈ T, kdW.own wr w.heap.size t.v t.a.words t.G) ∧ (v3.ownBlock.toList ++ outG T).Nodup) ∧ Below w.heap.size w wr) (fun _ i _ => n - (intOf i).toNat)
  case atStart => exact ⟨0, [], by omega, rfl, Lib.hid ⟨rfl, World.ownsRow_nil _ _ _ _, by simp, by simp [Value.ownBlock, outG]⟩, Below.refl _ _⟩
  case round =>
    obtain ⟨k, T, hk, rfl, hown, hnx⟩ := hrel
    by_cases hlt : k < n
    · have hkl : k < l.length := by have := HN.out; omega
      have hkr : k < rs.length := by have := HLR.out; omega
      obtain ⟨b, off, rfl, hb1, hb2, hx⟩ := rdW_at (HRD.out _ hnx) (i := k) hkl
      have hzz := hnx.size
      have hTl := Go.Proofs.YtjhimmljanbjcaaGreatDoor.Ru.map_take hown.out.1 (by omega)
      have g1 : T.length + 1 ≤ maxLen := by unfold maxLen; omega
      have g2 : (T.length + 1) * 48 ≤ 140737488355328 := by omega
      have HTL := Lib.hid hTl
      clear hTl
      obtain ⟨t, hte⟩ : ∃ t, t = l[k] := ⟨_, rfl⟩
      obtain ⟨r, hre⟩ : ∃ r, r = rs[k] := ⟨_, rfl⟩
      have HF1 : Hid (∀ W, Below w.heap.size w W → Calls Tryz.prog 74 #[.string t] W fun e w' => ∃ A n c, e = .returned (.slice A n c) ∧ kdW.rd w' 0 w'.heap.size (.slice A n c) (fieldsS t) ∧ Below W.heap.size W w') := Lib.hid (by rw [hte]; exact fun W hW => HF.out W k hkl hW)
      have HR1 : Hid (∀ W v, kdW.rd W 0 W.heap.size v (fieldsS t) → Calls Tryz.prog 130 #[v] W fun e w' => ∃ u G, e = .returned (.tuple #[.agg #[.string r.name, .int .i64 r.kind, u], .bool true]) ∧ kdW.own w' W.heap.size u r.words G ∧ Below W.heap.size W w') := Lib.hid (by rw [hte, hre]; exact fun W v hv => HRO.out W k hkl v hv)
      rw [← hte] at hx
      have HRE := Lib.hid hre
      clear hte hre
      go_upto_region 6 with (first
        | (go_at_call 74; refine (HF1.out _ hnx).mono ?_; rintro e w1 ⟨A1, n1, c1, rfl, hr1, hb1'⟩; have HRR := Lib.hid hr1; clear hr1)
        | (go_at_call 130; refine (HR1.out _ _ HRR.out).mono ?_; rintro e w2 ⟨u2, G, rfl, ho2, hb2'⟩; obtain ⟨A2, c3, rfl, _⟩ := own_slice ho2.1))
      obtain ⟨W3, hW3⟩ : ∃ W, W = w2.alloc (.cells #[.string r.name, .int .i64 r.kind, .slice A2 r.words.length c3] 50) := ⟨_, rfl⟩
      have hb3 : Below wr.heap.size wr W3 := hW3 ▸ (hb1'.trans (hb2'.mono hb1'.size)).alloc (Nat.le_trans hb1'.size hb2'.size) _
      have hz3 := hb3.size
      have kx : Bl W3 w2.heap.size 50 [.string r.name, .int .i64 r.kind, .slice A2 r.words.length c3] := hW3 ▸ Bl.new w2 _ _ rfl
      have x0 := kx.cell 0 rfl
      have x1 := kx.cell 1 rfl
      have x2 := kx.cell 2 rfl
      have ho3 : Hid (kdW.own W3 wr.heap.size (.slice A2 r.words.length c3) r.words G) := Lib.hid (kdW.low (kdW.keep ho2 (by rw [hW3]; simp) (fun k hk => by rw [hW3]; exact Below.heap_alloc _ _ _ (kdW.ge ho2 k hk).2)) hb1'.size)
      have how := own_stay hown.out.2.1 (w' := W3) (fun k hk => hb3.block k (own_ge2 hown.out.2.1 k hk).2)
      have HW3 := Lib.hid hW3
      rw [← hW3]
      clear hW3 ho2
      go_wp2_with (at_builtin; refine wpList_append_src _ rfl (.tmp 20) (.tmp 22) 23 rfl w.heap.size 50 i0 _ 3 48 Tryz.underlying23 hi hz0 hz1 hz2 rfl (by decide) _ _ _ rfl (how.alloc _) (some ⟨W3.heap.size, 0, none⟩) 1 1 [.string r.name, .int .i64 r.kind, .slice A2 r.words.length c3] rfl rfl (news_src W3 _ _) (by simp [Value.oneCell']) g1 g2 (by simp; omega) ?_; intro v9 w9 hown9 hgrow9 hrow9)
      have hp := fmR.push (t := ⟨r, .slice A2 r.words.length c3, G⟩) hown.out.2.1 hown.out.2.2.1 hown.out.2.2.2 hb3 hzz ho3.out hown9 hgrow9 hrow9
      obtain ⟨T2, hT2, ho9, hs9, hF9, hn9⟩ := hp
      have hb9 : Below w.heap.size w w9 := ((hnx.trans (hb3.mono hzz)).alloc (by omega) _).grown hgrow9 (by simp; omega) (fun j hj => (hown.out.2.1.lt j hj).1)
      have hrel2 : Hid (T2.map (·.a) = rs.take (k + 1) ∧ w9.ownsRow w.heap.size 50 3 v9 T2.length (fmR.cells T2) ∧ (∀ t ∈ T2, kdW.own w9 w.heap.size t.v t.a.words t.G) ∧ (v9.ownBlock.toList ++ outG T2).Nodup) := Lib.hid ⟨by rw [hT2, hown.out.1, List.take_succ_eq_append_getElem hkr, HRE.out], ho9, hs9, hF9 ▸ hn9⟩
      clear hT2 ho9 hs9 hF9 hn9 hown9 hgrow9 hrow9
      go_wp2
      go_roundw
      case rel => exact ⟨k + 1, T2, by omega, by go_num, hrel2, hb9⟩
      case measure => simp [intOf] <;> omega
    · obtain rfl : k = n := by omega
      have hrl : rs.take k = rs := List.take_of_length_le (by have := HLR.out; omega)
      have HRL := Lib.hid hrl
      clear hrl
      go_wp2
      go_ret
      obtain ⟨h1, h2, h3, h4⟩ := hown.out
      exact ⟨_, _, rfl, ⟨T, by rw [h1, HRL.out], h2, h3, rfl, h4⟩, hnx⟩
end Go.Proofs.YtjhimmljanbjcaaGreatDoor.At
