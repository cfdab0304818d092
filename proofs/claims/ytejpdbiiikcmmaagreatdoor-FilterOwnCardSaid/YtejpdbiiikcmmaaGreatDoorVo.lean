/- filter.start of the tag of FilterOwn: href at a slash stays, id does not. -/
import Derived.Test.YtejpdbiiikcmmaaGreatDoorVl
import Derived.Test.YtejpdbiiikcmmaaGreatDoorLv
import Derived.Deep.RegionHeld
set_option linter.unusedVariables false
set_option linter.unusedSimpArgs false
namespace Go.Proofs.YtejpdbiiikcmmaaGreatDoor.Vo
open Go.RowKit Lb Gr Pd Fl Fpl Kf Mp Is Go.Proofs.YtejpdbiiikcmmaaGreatDoor.Pm Bk Lc Ck Ea Fi Lv Vm
attribute [local go_sem ↓] Go.wp_at_zero Go.wp_at_succ
def idT : ByteArray := str [105, 100]
theorem infoAt2 : (Tryz.prog.info? 48).map (fun i => (i.zero, i.size, i.bytes)) = some (some (.agg #[.string ByteArray.empty, .string ByteArray.empty]), 2, 32) := by kernel_rfl
/-- what the maps hold, in any world behind -/
theorem maps {w : World} {g base em gm dm : Nat} {sv : Value} {E : List (ElD × Nat)} (hD : FilD w g base em gm dm sv E polP ByteArray.empty 0) : ∃ B, lookL aT (E.map fun x => (x.1.name, Value.map (some x.2))) = some (.map (some B)) ∧ ∀ W, Below w.heap.size w W → (∃ Av cv, MapS W B [(hrefT, .agg #[.string hrefT, .int .i64 5, .slice Av 0 cv])]) ∧ MapS W gm [] := by
  rcases look_fnd aT E with h | ⟨x, hx, h1, h2⟩
  · rw [hD.eq, fnd_a] at h; cases h.2
  · refine ⟨x.2, h1, fun W hW => ?_⟩
    have hd := hD.below hW
    rw [hD.eq, fnd_a] at h2
    injection h2 with h2
    constructor
    · obtain ⟨lo, hi, _, _, _, L, hL, hm, hrd⟩ := hd.els x hx
      rw [← h2] at hL
      cases L with
      | nil => simp at hL
      | cons y r =>
        cases r with
        | cons z r => simp at hL
        | nil =>
          have hy : y.1 = ⟨hrefT, 5, []⟩ := by simpa using hL
          have hr2 := hrd y (List.mem_cons_self ..)
          rw [hy] at hr2
          obtain ⟨Av, cv, hv, _⟩ := rdW_form hr2
          refine ⟨Av, cv, ?_⟩
          rw [List.map_cons, List.map_nil, hy, hv] at hm
          exact hm
    · obtain ⟨lo, hi, _, _, _, L, hL, hm, _⟩ := hd.glob
      have : L = [] := by
        cases L with
        | nil => rfl
        | cons a r => simp [polP] at hL
      subst this
      exact hm
set_option maxHeartbeats 16000000 in
set_option maxRecDepth 100000 in
theorem startOwn (g base : Nat) (nm : ByteArray) (bA : Nat) (w : World) (em gm dm : Nat) (sv : Value) (E : List (ElD × Nat)) (hD : FilD w g base em gm dm sv E polP ByteArray.empty 0)
    (h0 : w.cell? ⟨bA, 0, none⟩ = some (.string hrefT)) (h1 : w.cell? ⟨bA, 1, none⟩ = some (.string slT)) (h2 : w.cell? ⟨bA, 2, none⟩ = some (.string idT)) (h3 : w.cell? ⟨bA, 3, none⟩ = some (.string nm)) :
    Calls Tryz.prog 58 #[.pointer (some ⟨g, 0, none⟩), .agg #[.int .i64 1, .string aT, .string ByteArray.empty, .slice (some ⟨bA, 0, none⟩) 2 2, .bool false, .int .i64 0, .int .i64 0, .int .i64 0]] w fun e w' => ∃ u f x off c, e = .returned (.tuple #[u, f]) ∧ w'.ownsRow w.heap.size 39 8 u 1 [.int .i64 1, .string aT, .string ByteArray.empty, .slice (some ⟨x, off, none⟩) 1 c, .bool false, .int .i64 0, .int .i64 0, .int .i64 0] ∧ w'.cell? ⟨x, off, none⟩ = some (.string hrefT) ∧ w.heap.size ≤ x ∧ FilD w' g base em gm dm sv E polP ByteArray.empty 0 ∧ Below w.heap.size w w' := by
  obtain ⟨B, hl0, hmaps⟩ := maps hD
  obtain ⟨A6, c6, rfl⟩ : ∃ A c, sv = .slice A 0 c := by
    obtain ⟨lo, hi, _, h⟩ := hD.sch
    obtain ⟨A, c, h, _⟩ := rdW_form h
    exact ⟨A, c, h⟩
  obtain ⟨i1, hi1, hz1, hz2, hz3⟩ := info_parts infoTok2
  obtain ⟨j1, hj1, hw1, hw2, hw3⟩ := info_parts infoFin2
  obtain ⟨m1, hm1, hv1, hv2, hv3⟩ := info_parts infoAt2
  have HL0 := Lib.hid hl0
  have HMP := Lib.hid hmaps
  have hbl := World.block_lt_of_cell? (a := ⟨bA, 0, none⟩) _ h0
  have HCX : Hid (∀ W, Below w.heap.size w W → W.cell? ⟨bA, 0, none⟩ = some (.string hrefT) ∧ W.cell? ⟨bA, 1, none⟩ = some (.string slT) ∧ W.cell? ⟨bA, 2, none⟩ = some (.string idT) ∧ W.cell? ⟨bA, 3, none⟩ = some (.string nm)) := Lib.hid fun W hW => by
    have h := hW.block bA hbl
    exact ⟨(World.cell?_of_block (a := ⟨bA, 0, none⟩) h).trans h0, (World.cell?_of_block (a := ⟨bA, 1, none⟩) h).trans h1, (World.cell?_of_block (a := ⟨bA, 2, none⟩) h).trans h2, (World.cell?_of_block (a := ⟨bA, 3, none⟩) h).trans h3⟩
  have HT : Hid (∀ W v, Calls Tryz.prog 117 #[.agg #[.string hrefT, .int .i64 5, v], .slice A6 0 c6, .bool true, .string slT] W fun e w' => e = .returned (.tuple #[.string slT, .bool true, .int .i64 0]) ∧ Below W.heap.size W w') := Lib.hid fun W v => tidyS A6 c6 hrefT v W
  clear hl0 hmaps h0 h1 h2 h3
  obtain ⟨W0, hW0⟩ : ∃ W, W = w.alloc (.cells #[.int .i64 1, .string aT, .string ByteArray.empty, .slice (some ⟨bA, 0, none⟩) 2 2, .bool false, .int .i64 0, .int .i64 0, .int .i64 0] 39) := ⟨_, rfl⟩
  have hb0 : Below w.heap.size w W0 := hW0 ▸ (Below.refl _ _).alloc (Nat.le_refl _) _
  have k0 : Bl W0 w.heap.size 39 [.int .i64 1, .string aT, .string ByteArray.empty, .slice (some ⟨bA, 0, none⟩) 2 2, .bool false, .int .i64 0, .int .i64 0, .int .i64 0] := hW0 ▸ Bl.new w _ _ rfl
  have d0 := hD.below hb0
  have HX := Lib.hid hW0
  clear hW0
  have y1 := k0.cell 1 rfl
  have x0 := d0.blk.cell 0 rfl
  have hlk : ∀ n, (Instr.lookup 72 (.map (some em)) (.string aT) true).run Tryz.prog (W0.drewN n) = .ok (.tuple #[.map (some B), .bool true]) (W0.drewN n) := fun n => by
    have h2 := run_look (P := Tryz.prog) (w := W0.drewN n) Tryz.underlying72 Tryz.underlying9 (d0.below (drw W0 n)).emm aT (z := .map none) (Tryz.zeroValue73 _) true
    rw [HL0.out] at h2
    exact h2
  have hlk0 := hlk 0
  go_enter Tryz.func58, Tryz.ntmps58
  go_upto_region 1 with fail
  rw [← HX.out]
  go_quiet (fail)
  go_upto_region 8 with fail
  obtain ⟨W1, hW1⟩ : ∃ X, X = W0.drewN nq := ⟨_, rfl⟩
  rw [← hW1]
  have hb01 : Below W0.heap.size W0 W1 := hW1 ▸ drw W0 nq
  clear hW1 hlk hlk0
  have kd1 := k0.below hb01
  have hcc : Below w.heap.size w W1 := hb0.trans (hb01.mono hb0.size)
  have r1 := kd1.cell 1 rfl
  have r3 := kd1.cell 3 rfl
  have r5 := kd1.cell 5 rfl
  have r6 := kd1.cell 6 rfl
  have r7 := kd1.cell 7 rfl
  clear y1 x0
  obtain ⟨W2, hW2⟩ : ∃ X, X = W1.alloc (.cells #[.int .i64 1, .string aT, .string ByteArray.empty, .slice none 0 0, .bool false, .int .i64 0, .int .i64 0, .int .i64 0] 39) := ⟨_, rfl⟩
  have hb2 : Below W1.heap.size W1 W2 := hW2 ▸ (Below.refl _ _).alloc (Nat.le_refl _) _
  have k2 : Bl W2 W1.heap.size 39 [.int .i64 1, .string aT, .string ByteArray.empty, .slice none 0 0, .bool false, .int .i64 0, .int .i64 0, .int .i64 0] := hW2 ▸ Bl.new W1 _ _ rfl
  have HX2 := Lib.hid hW2
  clear hW2
  have kd2 := kd1.below hb2
  have hc2 := hcc.trans (hb2.mono hcc.size)
  have hW1s := hcc.size
  go_upto_region 9 with fail
  rw [show (ByteArray.mk #[]) = ByteArray.empty from rfl]
  rw [← HX2.out]
  have t3 := kd2.cell 3 rfl
  go_wp2
  go_loopw [5, 81] (fun f i wr => (wr = W2 ∧ i = .int .i64 0 ∧ f = .slice none 0 0) ∨ (i = .int .i64 1 ∧ f = .slice none 0 0 ∧ ∃ v, Hid (Below w.heap.size w wr) ∧ Hid (Bl wr W1.heap.size 39 [.int .i64 1, .string aT, .string ByteArray.empty, v, .bool false, .int .i64 0, .int .i64 0, .int .i64 0]) ∧ Hid (wr.ownsRow (W1.heap.size + 1) 48 2 v 1 [.string hrefT, .string slT]) ∧ Hid (Bl wr w.heap.size 39 [.int .i64 1, .string aT, .string ByteArray.empty, .slice (some ⟨bA, 0, none⟩) 2 2, .bool false, .int .i64 0, .int .i64 0, .int .i64 0])) ∨ (i = .int .i64 2 ∧ ∃ v, Hid (Below w.heap.size w wr) ∧ Hid (Bl wr W1.heap.size 39 [.int .i64 1, .string aT, .string ByteArray.empty, v, .bool false, .int .i64 0, .int .i64 0, .int .i64 0]) ∧ Hid (wr.ownsRow (W1.heap.size + 1) 48 2 v 1 [.string hrefT, .string slT]))) (fun _ i _ => 2 - (intOf i).toNat)
  case atStart => exact .inl ⟨rfl, rfl, rfl⟩
  case round =>
    rcases hrel with ⟨rfl, rfl, rfl⟩ | ⟨rfl, rfl, v, hbw, hbl1, hrow, htk⟩ | ⟨rfl, v, hbw, hbl1, hrow⟩
    · obtain ⟨w2, rfl⟩ : ∃ Y, Y = wr := ⟨_, rfl⟩
      obtain ⟨e0, e1, e2, e3⟩ := HCX.out _ hc2
      obtain ⟨⟨Av, cv, hm1'⟩, hm2'⟩ := HMP.out _ hc2
      obtain ⟨W3, hW3⟩ : ∃ W, W = w2.alloc (.cells #[.string hrefT, .string slT] 48) := ⟨_, rfl⟩
      have hb3 : Below w2.heap.size w2 W3 := hW3 ▸ (Below.refl _ _).alloc (Nat.le_refl _) _
      have k3 : Bl W3 w2.heap.size 48 [.string hrefT, .string slT] := hW3 ▸ Bl.new w2 _ _ rfl
      have HX3 := Lib.hid hW3
      clear hW3
      have hq3 := hc2.trans (hb3.mono hc2.size)
      have z0 := k3.cell 0 rfl
      have hlk3 := run_look (P := Tryz.prog) (w := W3) Tryz.underlying73 Tryz.underlying9 (hm1'.below hb3) hrefT (z := .agg #[.string ⟨#[]⟩, .int .i64 0, .slice none 0 0]) (Tryz.zeroValue51 W3) true
      rw [show lookL hrefT [(hrefT, Value.agg #[.string hrefT, .int .i64 5, .slice Av 0 cv])] = some (.agg #[.string hrefT, .int .i64 5, .slice Av 0 cv]) from by unfold lookL; rw [if_pos rfl]] at hlk3
      simp only [Option.getD_some, Option.isSome_some, if_true] at hlk3
      go_upto_region 12 with fail
      rw [← HX3.out]
      go_upto_region 13 with fail
      obtain ⟨W4, hW4⟩ : ∃ W, W = W3.alloc (.cells #[.string hrefT, .int .i64 5, .slice Av 0 cv] 51) := ⟨_, rfl⟩
      have hb4 : Below W3.heap.size W3 W4 := hW4 ▸ (Below.refl _ _).alloc (Nat.le_refl _) _
      have k4 : Bl W4 W3.heap.size 51 [.string hrefT, .int .i64 5, .slice Av 0 cv] := hW4 ▸ Bl.new W3 _ _ rfl
      have HX4 := Lib.hid hW4
      clear hW4
      rw [← HX4.out]
      have hq4 := hq3.trans (hb4.mono hq3.size)
      have hk3 := k3.below hb4
      have hk2 := (k2.below hb3).below hb4
      have hkT := (kd2.below hb3).below hb4
      go_upto_region 17 with fail
      have qd := (drw W4 1)
      have hq4d := hq4.trans (qd.mono hq4.size)
      have ka := hk3.below qd
      have kr := k4.below qd
      have kL := hk2.below qd
      have kT := hkT.below qd
      have kg := (hD.below hq4d).blk
      have g3 := kg.cell 3 rfl
      have g4 := kg.cell 4 rfl
      have p0 := kr.cell 0 rfl
      have p1 := kr.cell 1 rfl
      have p2 := kr.cell 2 rfl
      have p3 := ka.cell 1 rfl
      go_region_held3 (fun W' => W'.cell? ⟨g, 3, none⟩ = some (.slice A6 0 c6) ∧ W'.cell? ⟨g, 4, none⟩ = some (.bool true) ∧ W'.cell? ⟨W3.heap.size, 0, none⟩ = some (.string hrefT) ∧ W'.cell? ⟨W3.heap.size, 1, none⟩ = some (.int .i64 5) ∧ W'.cell? ⟨W3.heap.size, 2, none⟩ = some (.slice Av 0 cv) ∧ W'.cell? ⟨w2.heap.size, 1, none⟩ = some (.string slT))
        (first | exact ⟨g3, g4, p0, p1, p2, p3⟩ | exact ⟨s3, s4, s0, s1, s2, s5⟩)
        (first | (go_at_call 117; refine (HT.out _ _).mono ?_; rintro e w5 ⟨rfl, hb5⟩; have hq5 := hq4d.trans (hb5.mono hq4d.size); have kg5 := (hD.below hq5).blk; have s3 := kg5.cell 3 rfl; have s4 := kg5.cell 4 rfl; have kr5 := kr.below hb5; have ka5 := ka.below hb5; have kL5 := kL.below hb5; have kT5 := kT.below hb5; have s0 := kr5.cell 0 rfl; have s1 := kr5.cell 1 rfl; have s2 := kr5.cell 2 rfl; have s5 := ka5.cell 1 rfl))
      all_goals (
        have u0 := ka5.cell 0 rfl
        have u3 := kL5.cell 3 rfl
        go_upto_region 20 with fail
        go_upto_region 21 with (at_builtin; refine wpList_append_src _ rfl (.tmp 145) (.tmp 150) 35 rfl w5.heap.size 48 m1 _ 2 32 Tryz.underlying35 hm1 hv1 hv2 hv3 rfl (by decide) _ 0 [] rfl (World.ownsRow_nil _ _ _ _) (some ⟨w5.heap.size, 0, none⟩) 1 1 [.string hrefT, .string slT] rfl rfl (news_src w5 _ _) (by simp [Value.oneCell']) (by decide) (by decide) (by simp) ?_; intro v9 w9 hown9 hgrow9 hrow9; obtain ⟨A9, c9, rfl, hcl9⟩ := own_slice hown9; have hgn : (w5.alloc (.cells #[.string hrefT, .string slT] 48)).grownBy w9 none := hgrow9; have hb59 : Below w5.heap.size w5 w9 := (((Below.refl _ _).alloc (Nat.le_refl _) _).trans ((Fr.of_grown hgn).below (by simp) (by simp))); have kL9 := kL5.below hb59; have o3 := kL9.cell 3 rfl; have o4 := kL9.fz 3)
        have hlt5 := kL5.lt
        have hwz := hq5.size
        have hf10 := Fr.setCell (F := [W1.heap.size]) w9 ⟨W1.heap.size, 3, none⟩ (.slice A9 1 c9) (.inl (by simp))
        have kL10 := kL9.set 3 (.slice A9 1 c9)
        have hq9 := hq5.trans (hb59.mono hwz)
        have hq10 := hq9.trans (hf10.below hq9.size (by simp; omega))
        have own10 := own_low (own_stay (w' := w9.setCell ⟨W1.heap.size, 3, none⟩ (.slice A9 1 c9)) hown9 fun y hy => hf10.block y (own_ge2 hown9 y hy).2 (by have := (own_ge2 hown9 y hy).1; simp; omega)) (show W1.heap.size + 1 ≤ w5.heap.size by omega)
        have kT10 := (kT5.below hb59).of (hf10.block w.heap.size (kT5.below hb59).lt (by simp; have := kd1.lt; omega))
        clear hlt5 hwz
        go_wp2
        go_roundw
        case rel => exact .inr (.inl ⟨rfl, rfl, _, Lib.hid hq10, Lib.hid kL10, Lib.hid own10, Lib.hid kT10⟩)
        case measure => decide)
    · obtain ⟨w2, rfl⟩ : ∃ Y, Y = wr := ⟨_, rfl⟩
      obtain ⟨e0, e1, e2, e3⟩ := HCX.out _ hbw.out
      obtain ⟨⟨Av, cv, hm1'⟩, hm2'⟩ := HMP.out _ hbw.out
      obtain ⟨W3, hW3⟩ : ∃ W, W = w2.alloc (.cells #[.string idT, .string nm] 48) := ⟨_, rfl⟩
      have hb3 : Below w2.heap.size w2 W3 := hW3 ▸ (Below.refl _ _).alloc (Nat.le_refl _) _
      have k3 : Bl W3 w2.heap.size 48 [.string idT, .string nm] := hW3 ▸ Bl.new w2 _ _ rfl
      have HX3 := Lib.hid hW3
      clear hW3
      have hq2 := hbw.out
      have hq3 := hq2.trans (hb3.mono hq2.size)
      have z0 := k3.cell 0 rfl
      have hlk3 := run_look (P := Tryz.prog) (w := W3) Tryz.underlying73 Tryz.underlying9 (hm1'.below hb3) idT (z := .agg #[.string ⟨#[]⟩, .int .i64 0, .slice none 0 0]) (Tryz.zeroValue51 W3) true
      rw [show lookL idT [(hrefT, Value.agg #[.string hrefT, .int .i64 5, .slice Av 0 cv])] = none from by unfold lookL; rw [if_neg (show ¬ idT = hrefT by decide +kernel)]; rfl] at hlk3
      simp only [Option.getD_none, Option.isSome_none, if_true] at hlk3
      go_upto_region 12 with fail
      rw [← HX3.out]
      go_upto_region 13 with fail
      obtain ⟨W4, hW4⟩ : ∃ W, W = W3.alloc (.cells #[.string ⟨#[]⟩, .int .i64 0, .slice none 0 0] 51) := ⟨_, rfl⟩
      have hb4 : Below W3.heap.size W3 W4 := hW4 ▸ (Below.refl _ _).alloc (Nat.le_refl _) _
      have k4 : Bl W4 W3.heap.size 51 [.string ⟨#[]⟩, .int .i64 0, .slice none 0 0] := hW4 ▸ Bl.new W3 _ _ rfl
      have HX4 := Lib.hid hW4
      clear hW4
      rw [← HX4.out]
      have hq4 := hq3.trans (hb4.mono hq3.size)
      have hk3 := k3.below hb4
      have hkT := (htk.out.below hb3).below hb4
      have hkL := (hbl1.out.below hb3).below hb4
      go_upto_region 14 with fail
      have qd : Below W4.heap.size W4 W4.drew := drw W4 1
      have hq4d := hq4.trans (qd.mono hq4.size)
      have ka := hk3.below qd
      have kr := k4.below qd
      have kg := (hD.below hq4d).blk
      have n1 : g ≠ W3.heap.size := by have := hD.blk.lt; have := hq3.size; omega
      have n2 : w2.heap.size ≠ W3.heap.size := by have := k3.lt; omega
      have hmD := ((hm2'.below hb3).below hb4).below qd
      have HLG : Hid (∀ W, MapS W gm [] → (Instr.lookup 73 (.map (some gm)) (.string idT) true).run Tryz.prog W = .ok (.tuple #[.agg #[.string ⟨#[]⟩, .int .i64 0, .slice none 0 0], .bool false]) W) := Lib.hid fun W hW => run_look (P := Tryz.prog) (w := W) Tryz.underlying73 Tryz.underlying9 hW idT (z := .agg #[.string ⟨#[]⟩, .int .i64 0, .slice none 0 0]) (Tryz.zeroValue51 W) true
      obtain ⟨V0, hV0⟩ : ∃ Y, Y = W4.drew := ⟨_, rfl⟩
      refine wp_region_held_drew (S := fun W => W.cell? ⟨g, 1, none⟩ = some (.map (some gm)) ∧ W.cell? ⟨w2.heap.size, 0, none⟩ = some (.string idT) ∧ MapS W gm []) (by kernel_rfl) ⟨kg.cell 1 rfl, ka.cell 0 rfl, hmD⟩ (fun hHeld => ?_)
      clear hHeld
      rw [← hV0] at kg ka kr hmD hq4d qd ⊢
      clear hV0
      have g1 := kg.cell 1 rfl
      have p3 := ka.cell 0 rfl
      obtain ⟨q0, q1, q2, q3, q4, q5⟩ := kr.store3 (.string ⟨#[]⟩) (.int .i64 0) (.slice none 0 0)
      have kg' := kg.oth3 n1 (.string ⟨#[]⟩) (.int .i64 0) (.slice none 0 0)
      have ka' := ka.oth3 n2 (.string ⟨#[]⟩) (.int .i64 0) (.slice none 0 0)
      have hgmne : gm ≠ W3.heap.size := by have := hm2'.lt; have := hb3.size; omega
      have hf3 := Fr.set3 V0 W3.heap.size (.string ⟨#[]⟩) (.int .i64 0) (.slice none 0 0)
      have hm' := MapS.stay hmD (hf3.block gm hmD.lt (by simp; exact hgmne))
      have g1' := kg'.cell 1 rfl
      have p3' := ka'.cell 0 rfl
      refine wpAnyH_take (i := 0) (oi := _) (v := ?v1) rfl (by kernel_rfl) (by kernel_rfl) (by kernel_rfl) (fun _ _ _ h => h) (Or.inl ⟨by kernel_rfl, ?y1⟩) (⟨g1, p3, hmD⟩) ?r1
      case y1 => (intro w hSw; (try dsimp only at hSw); (first | (go_simp; done) | (go_simp; with_reducible rfl)))
      (try simp only [List.getElem_toArray, List.getElem_cons_succ, List.getElem_cons_zero, Act.put, List.setIfInBounds_toArray, List.set_cons_zero, List.set_cons_succ])
      refine wpAnyH_take (i := 1) (oi := _) (v := ?v2) rfl (by kernel_rfl) (by kernel_rfl) (by kernel_rfl) (fun _ _ _ h => h) (Or.inl ⟨by kernel_rfl, ?y2⟩) (⟨g1, p3, hmD⟩) ?r2
      case y2 => (intro w hSw; (try dsimp only at hSw); (first | (go_simp; done) | (go_simp; with_reducible rfl)))
      (try simp only [List.getElem_toArray, List.getElem_cons_succ, List.getElem_cons_zero, Act.put, List.setIfInBounds_toArray, List.set_cons_zero, List.set_cons_succ])
      refine wpAnyH_take (i := 2) (oi := _) (v := ?v3) rfl (by kernel_rfl) (by kernel_rfl) (by kernel_rfl) (fun _ _ _ h => h) (Or.inl ⟨by kernel_rfl, ?y3⟩) (⟨g1, p3, hmD⟩) ?r3
      case y3 => (intro w hSw; (try dsimp only at hSw); (first | (go_simp; done) | (go_simp; with_reducible rfl)))
      (try simp only [List.getElem_toArray, List.getElem_cons_succ, List.getElem_cons_zero, Act.put, List.setIfInBounds_toArray, List.set_cons_zero, List.set_cons_succ])
      refine wpAnyH_take (i := 3) (oi := _) (v := ?v4) rfl (by kernel_rfl) (by kernel_rfl) (by kernel_rfl) (fun _ _ _ h => h) (Or.inl ⟨by kernel_rfl, ?y4⟩) (⟨g1, p3, hmD⟩) ?r4
      case y4 => (intro w hSw; (try dsimp only at hSw); (first | (go_simp; done) | (go_simp; with_reducible rfl)))
      (try simp only [List.getElem_toArray, List.getElem_cons_succ, List.getElem_cons_zero, Act.put, List.setIfInBounds_toArray, List.set_cons_zero, List.set_cons_succ])
      refine wpAnyH_take (i := 4) (oi := _) (v := ?v5) rfl (by kernel_rfl) (by kernel_rfl) (by kernel_rfl) (fun _ _ _ h => h) (Or.inl ⟨by kernel_rfl, ?y5⟩) (⟨g1, p3, hmD⟩) ?r5
      case y5 => (intro w hSw; (try dsimp only at hSw); (first | (go_simp; done) | (go_simp; with_reducible rfl)))
      (try simp only [List.getElem_toArray, List.getElem_cons_succ, List.getElem_cons_zero, Act.put, List.setIfInBounds_toArray, List.set_cons_zero, List.set_cons_succ])
      refine wpAnyH_take (i := 5) (oi := _) (v := ?v6) rfl (by kernel_rfl) (by kernel_rfl) (by kernel_rfl) (fun _ _ _ h => h) (Or.inl ⟨by kernel_rfl, ?y6⟩) (⟨g1, p3, hmD⟩) ?r6
      case y6 => (intro w hSw; (try dsimp only at hSw); (first | (go_simp; done) | (go_simp; with_reducible rfl)))
      (try simp only [List.getElem_toArray, List.getElem_cons_succ, List.getElem_cons_zero, Act.put, List.setIfInBounds_toArray, List.set_cons_zero, List.set_cons_succ])
      refine wpAnyH_take (i := 6) (oi := _) (v := ?v7) rfl (by kernel_rfl) (by kernel_rfl) (by kernel_rfl) (fun _ _ _ h => h) (Or.inl ⟨by kernel_rfl, ?y7⟩) (⟨g1, p3, hmD⟩) ?r7
      case y7 => (intro w hSw; (try dsimp only at hSw); have hlkw := HLG.out w hSw.2.2; (first | (go_simp; done) | (go_simp; with_reducible rfl)))
      (try simp only [List.getElem_toArray, List.getElem_cons_succ, List.getElem_cons_zero, Act.put, List.setIfInBounds_toArray, List.set_cons_zero, List.set_cons_succ])
      refine wpAnyH_take (i := 7) (oi := _) (v := ?v8) rfl (by kernel_rfl) (by kernel_rfl) (by kernel_rfl) (fun _ _ _ h => h) (Or.inl ⟨by kernel_rfl, ?y8⟩) (⟨g1, p3, hmD⟩) ?r8
      case y8 => (intro w hSw; (try dsimp only at hSw); (first | (go_simp; done) | (go_simp; with_reducible rfl)))
      (try simp only [List.getElem_toArray, List.getElem_cons_succ, List.getElem_cons_zero, Act.put, List.setIfInBounds_toArray, List.set_cons_zero, List.set_cons_succ])
      refine wpAnyH_take (i := 8) (oi := _) (v := ?v9) rfl (by kernel_rfl) (by kernel_rfl) (by kernel_rfl) (fun _ _ _ h => h) (Or.inl ⟨by kernel_rfl, ?y9⟩) (⟨g1, p3, hmD⟩) ?r9
      case y9 => (intro w hSw; (try dsimp only at hSw); (first | (go_simp; done) | (go_simp; with_reducible rfl)))
      (try simp only [List.getElem_toArray, List.getElem_cons_succ, List.getElem_cons_zero, Act.put, List.setIfInBounds_toArray, List.set_cons_zero, List.set_cons_succ])
      refine wpAnyH_take (i := 9) (oi := _) (v := ?v10) rfl (by kernel_rfl) (by kernel_rfl) (by kernel_rfl) (fun _ _ _ h => h) (Or.inl ⟨by kernel_rfl, ?y10⟩) (⟨g1, p3, hmD⟩) ?r10
      case y10 => (intro w hSw; (try dsimp only at hSw); (first | (go_simp; done) | (go_simp; with_reducible rfl)))
      (try simp only [List.getElem_toArray, List.getElem_cons_succ, List.getElem_cons_zero, Act.put, List.setIfInBounds_toArray, List.set_cons_zero, List.set_cons_succ])
      refine wpAnyH_ready (rs := [10]) (by kernel_rfl) (by simp) ?_
      refine AllReadyH.cons (o := _) rfl (fun K hK => ?_) AllReadyH.nil
      go_simp
      refine hK.out _ _ ⟨g1', p3', hm'⟩ (fun hHeld => ?_)
      clear hK K hHeld
      (try simp only [List.getElem_toArray, List.getElem_cons_succ, List.getElem_cons_zero, Act.put, List.setIfInBounds_toArray, List.set_cons_zero, List.set_cons_succ])
      refine wpAnyH_take (i := 11) (oi := _) (v := ?v11) rfl (by kernel_rfl) (by kernel_rfl) (by kernel_rfl) (fun _ _ _ h => h) (Or.inl ⟨by kernel_rfl, ?y11⟩) (⟨g1', p3', hm'⟩) ?r11
      case y11 => (intro w hSw; (try dsimp only at hSw); (first | (go_simp; done) | (go_simp; with_reducible rfl)))
      (try simp only [List.getElem_toArray, List.getElem_cons_succ, List.getElem_cons_zero, Act.put, List.setIfInBounds_toArray, List.set_cons_zero, List.set_cons_succ])
      refine wpAnyH_done (by kernel_rfl) ?_ _
      obtain ⟨V1, hV1⟩ : ∃ Y, Y = ((V0.setCell ⟨W3.heap.size, 0, none⟩ (.string ⟨#[]⟩)).setCell ⟨W3.heap.size, 1, none⟩ (.int .i64 0)).setCell ⟨W3.heap.size, 2, none⟩ (.slice none 0 0) := ⟨_, rfl⟩
      rw [← hV1] at hf3 ⊢
      rw [← hV1] at ka'
      clear hV1
      have hkT1 : Bl V1 w.heap.size 39 [.int .i64 1, .string aT, .string ByteArray.empty, .slice (some ⟨bA, 0, none⟩) 2 2, .bool false, .int .i64 0, .int .i64 0, .int .i64 0] := (hkT.below qd).of (hf3.block _ (hkT.below qd).lt (by have := htk.out.lt; have := hb3.size; simp; omega))
      have hkL1 : Bl V1 W1.heap.size 39 [.int .i64 1, .string aT, .string ByteArray.empty, v, .bool false, .int .i64 0, .int .i64 0, .int .i64 0] := (hkL.below qd).of (hf3.block _ (hkL.below qd).lt (by have := hbl1.out.lt; have := hb3.size; simp; omega))
      have hrow1 : V1.ownsRow (W1.heap.size + 1) 48 2 v 1 [.string hrefT, .string slT] := own_stay hrow.out fun y hy => by
        have h9 := (own_ge2 hrow.out y hy).2
        have := hb3.size
        have := hb4.size
        have := qd.size
        exact (((hf3.block y (by omega) (by simp; omega)).trans (qd.block y (by omega))).trans (hb4.block y (by omega))).trans (hb3.block y h9)
      have hq5 : Below w.heap.size w V1 := hq4d.trans (hf3.below hq4d.size (by have := hq3.size; simp; omega))
      have u0 := ka'.cell 0 rfl
      have u5 := hkT1.cell 5 rfl
      have u6 := hkT1.cell 6 rfl
      have u7 := hkT1.cell 7 rfl
      clear hgmne n1 n2
      go_wp2_with (at_builtin; refine wpList_append_src _ rfl (.tmp 106) (.tmp 112) 29 rfl V1.heap.size 64 j1 _ 5 48 Tryz.underlying29 hj1 hw1 hw2 hw3 rfl (by decide) _ 0 [] rfl (World.ownsRow_nil _ _ _ _) (some ⟨V1.heap.size, 0, none⟩) 1 1 [.int .i64 0, .int .i64 0, .int .i64 0, .int .i64 2, .string idT] rfl rfl (news_src V1 _ _) (by simp [Value.oneCell']) (by decide) (by decide) (by simp) ?_; intro v9 w9 hown9 hgrow9 hrow9)
      have hgn : (V1.alloc (.cells #[.int .i64 0, .int .i64 0, .int .i64 0, .int .i64 2, .string idT] 64)).grownBy w9 none := hgrow9
      have hb59 : Below V1.heap.size V1 w9 := (((Below.refl _ _).alloc (Nat.le_refl _) _).trans ((Fr.of_grown hgn).below (by simp) (by simp)))
      go_roundw
      case rel => exact .inr (.inr ⟨rfl, v, Lib.hid (hq5.trans (hb59.mono hq5.size)), Lib.hid (hkL1.below hb59), Lib.hid (own_stay hrow1 fun y hy => hb59.block y (own_ge2 hrow1 y hy).2)⟩)
      case measure => decide
    · obtain ⟨w2, rfl⟩ : ∃ Y, Y = wr := ⟨_, rfl⟩
      obtain ⟨A9, c9, rfl, _⟩ := own_slice hrow.out
      obtain ⟨x, off, rfl, hx⟩ := own_srcV hrow.out (by decide)
      have hx0 := hx 0 _ rfl
      have hx1 := hx 1 _ rfl
      rw [Nat.add_zero] at hx0
      have hxge : w.heap.size ≤ x := by
        have h9 := own_ge2 hrow.out x (by simp [Value.ownBlock])
        omega
      have hdw := hD.below hbw.out
      have HLEN : Hid (∀ W, Below w2.heap.size w2 W → Calls Tryz.prog 118 #[.agg #[.int .i64 1, .string aT, .string ByteArray.empty, .slice (some ⟨x, off, none⟩) 1 c9, .bool false, .int .i64 0, .int .i64 0, .int .i64 0]] W fun e w' => e = .returned (.int .i64 12) ∧ Below W.heap.size W w') := Lib.hid fun W hW => by
        have hxl := World.block_lt_of_cell? (a := ⟨x, off, none⟩) _ hx0
        exact length1C x off c9 W ((World.cell?_of_block (a := ⟨x, off, none⟩) (hW.block x hxl)).trans hx0) ((World.cell?_of_block (a := ⟨x, off + 1, none⟩) (hW.block x hxl)).trans hx1)
      have hxl := World.block_lt_of_cell? (a := ⟨x, off, none⟩) _ hx0
      go_upto_region 22 with fail
      have kk2 := hbl1.out.below (drw w2 1)
      have a0 := kk2.cell 0 rfl
      have a1 := kk2.cell 1 rfl
      have a2 := kk2.cell 2 rfl
      have a3 := kk2.cell 3 rfl
      have a4 := kk2.cell 4 rfl
      have a5 := kk2.cell 5 rfl
      have a6 := kk2.cell 6 rfl
      have a7 := kk2.cell 7 rfl
      have hd2 := hdw.below (drw w2 1)
      have b5 := hd2.blk.cell 5 rfl
      have hz := hbw.out.size
      have hcd := hbw.out.trans ((drw w2 1).mono hz)
      go_region_held3 (fun W' => W'.cell? ⟨g, 5, none⟩ = some (.int .i64 100) ∧ W'.cell? ⟨W1.heap.size, 0, none⟩ = some (.int .i64 1) ∧ W'.cell? ⟨W1.heap.size, 1, none⟩ = some (.string aT) ∧ W'.cell? ⟨W1.heap.size, 2, none⟩ = some (.string ByteArray.empty) ∧ W'.cell? ⟨W1.heap.size, 3, none⟩ = some (.slice (some ⟨x, off, none⟩) 1 c9) ∧ W'.cell? ⟨W1.heap.size, 4, none⟩ = some (.bool false) ∧ W'.cell? ⟨W1.heap.size, 5, none⟩ = some (.int .i64 0) ∧ W'.cell? ⟨W1.heap.size, 6, none⟩ = some (.int .i64 0) ∧ W'.cell? ⟨W1.heap.size, 7, none⟩ = some (.int .i64 0))
        (first | exact ⟨b5, a0, a1, a2, a3, a4, a5, a6, a7⟩ | exact ⟨s5, s0, s1, s2, s3, s4, s51, s6, s7⟩)
        (first | (go_at_call 118; refine (HLEN.out _ (drw w2 1)).mono ?_; rintro e w4 ⟨rfl, hb4⟩; have d4 := hd2.below hb4; have k4 := kk2.below hb4; have s5 := d4.blk.cell 5 rfl; have s0 := k4.cell 0 rfl; have s1 := k4.cell 1 rfl; have s2 := k4.cell 2 rfl; have s3 := k4.cell 3 rfl; have s4 := k4.cell 4 rfl; have s51 := k4.cell 5 rfl; have s6 := k4.cell 6 rfl; have s7 := k4.cell 7 rfl; have hc4 := hcd.trans (hb4.mono hcd.size)))
      all_goals (
        go_wp2_with (at_builtin; refine wpList_append_src _ rfl (.tmp 169) (.tmp 171) 28 rfl w4.heap.size 39 i1 _ 8 96 Tryz.underlying28 hi1 hz1 hz2 hz3 rfl (by decide) _ 0 [] rfl (World.ownsRow_nil _ _ _ _) (some ⟨w4.heap.size, 0, none⟩) 1 1 [.int .i64 1, .string aT, .string ByteArray.empty, .slice (some ⟨x, off, none⟩) 1 c9, .bool false, .int .i64 0, .int .i64 0, .int .i64 0] rfl rfl (news_src w4 _ _) (by simp [Value.oneCell']) (by decide) (by decide) (by simp) ?_; intro v9 w9 hown9 hgrow9 hrow9; obtain ⟨A9, c8, rfl, hcl9⟩ := own_slice hown9)
        go_ret2
        have hgn : (w4.alloc (.cells #[.int .i64 1, .string aT, .string ByteArray.empty, .slice (some ⟨x, off, none⟩) 1 c9, .bool false, .int .i64 0, .int .i64 0, .int .i64 0] 39)).grownBy w9 none := hgrow9
        have hb49 : Below w4.heap.size w4 w9 := (((Below.refl _ _).alloc (Nat.le_refl _) _).trans ((Fr.of_grown hgn).below (by simp) (by simp)))
        have hxx : w9.cell? ⟨x, off, none⟩ = some (.string hrefT) := (World.cell?_of_block (a := ⟨x, off, none⟩) ((hb49.block x (Nat.lt_of_lt_of_le (show x < w2.drew.heap.size from hxl) hb4.size)).trans (hb4.block x hxl))).trans hx0
        exact ⟨_, _, x, off, c9, rfl, own_low hown9 hc4.size, hxx, hxge, d4.below hb49, hc4.trans (hb49.mono hc4.size)⟩)
end Go.Proofs.YtejpdbiiikcmmaaGreatDoor.Vo
