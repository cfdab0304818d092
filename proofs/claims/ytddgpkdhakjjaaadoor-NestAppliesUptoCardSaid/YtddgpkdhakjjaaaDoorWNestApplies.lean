/- NestApplies: any plan on any stack. Where the arguments are of bulk at most 1048576. (The walk.) -/
import Derived.Deep.Cut
import Derived.Deep.RegionHeld3
import Derived.Test.YtddgpkdhakjjaaaDoorAp
import Derived.Test.YtddgpkdhakjjaaaDoorAw
set_option linter.unusedVariables false
set_option linter.unusedSimpArgs false
namespace Go.Proofs.YtddgpkdhakjjaaaDoor.nestApplies
open Go.RowKit Lb Fl Is Tp Np Wk Wp Wi Wo Pt Oc Go.Proofs.YtddgpkdhakjjaaaDoor.Ask Rt Go.Proofs.YtddgpkdhakjjaaaDoor.Op Aw Lt Lw Sp Ap

theorem same_self (l : List ByteArray) : sameL l l = true := by unfold sameL; simp
theorem rd_grown {W W' : World} {A : Option Addr} {n : Nat} {l : List ByteArray} {row : Option Nat} (h : Rd W A n l) (hg : W.grownBy W' row) (hne : ∀ b off sp, A = some ⟨b, off, sp⟩ → l ≠ [] → some b ≠ row) : Rd W' A n l := by
  refine ⟨h.1, fun j hj => ?_⟩
  obtain ⟨b1, off, e, hlt, hc⟩ := h.2 j hj
  have h0 := hc W (Below.refl _ _)
  have hln : l ≠ [] := by intro e; rw [e] at hj; exact absurd hj (Nat.not_lt_zero _)
  have h1 := hg.cell (a := ⟨b1, off + j, none⟩) h0 (hne _ _ _ e hln)
  exact ⟨b1, off, e, Nat.lt_of_lt_of_le hlt hg.size, fun w' hw => (hw.cell (p := ⟨b1, off + j, none⟩) (Nat.lt_of_lt_of_le hlt hg.size)).trans h1⟩
theorem grown_below {w W W' : World} {B n c : Nat} {A : Option Addr} {l : List ByteArray} (hb : Below w.heap.size w W) (ho : Fl.Own W B (.slice A n c) l) (hB : w.heap.size ≤ B) (hg : W.grownBy W' (Value.slice A n c).ownBlock) : Below w.heap.size w W' :=
  hb.grown hg hb.size (fun k hk => Nat.le_trans hB (ho.ge k hk))
theorem fr_own {B n c : Nat} {W : World} {A : Option Addr} {P : List ByteArray} (h : Fl.Own W B (.slice A n c) P) : ∀ b off sp, A = some ⟨b, off, sp⟩ → B ≤ b ∧ b < W.heap.size := fun b off sp e => by
  subst e
  exact ⟨h.ge b rfl, own_lt h b rfl⟩
/-- behind the statement that makes the second plan -/
def Cutd (w1 X : World) (b0 : Nat) (K : Int) (A2 : Option Addr) (m c2 : Nat) (d : Bool) (ins : List ByteArray) (s6 : Value) (wx : World) : Prop :=
  ∃ hbx A3 c3, s6 = .pointer (some ⟨hbx, 0, none⟩) ∧ Pl wx hbx (.int .i64 K) (.slice A3 m c3) (.bool d) ∧ Pl wx b0 (.int .i64 K) (.slice A2 m c2) (.bool d) ∧
    Fl.Own wx w1.heap.size (.slice A3 m c3) ins ∧ Below X.heap.size X wx ∧ (w1.heap.size ≤ hbx ∧ (Value.slice A3 m c3).ownBlock ≠ some hbx) ∧ Below w1.heap.size w1 wx
theorem cutd_new {w1 w2 X : World} {b0 : Nat} {K : Int} {A2 A3 : Option Addr} {m c2 c3 : Nat} {d : Bool} {ins : List ByteArray} (hb : Below X.heap.size X w2) (hb1 : Below w1.heap.size w1 w2) (ho : Fl.Own w2 w1.drew.heap.size (.slice A3 m c3) ins)
    (HP : ∀ W, Below X.heap.size X W → Pl W b0 (.int .i64 K) (.slice A2 m c2) (.bool d)) : Cutd w1 X b0 K A2 m c2 d ins (.pointer (some ⟨w2.heap.size, 0, none⟩)) (w2.alloc (.cells #[.int .i64 K, .slice A3 m c3, .bool d] 33)) :=
  ⟨w2.heap.size, A3, c3, rfl, Pl.new w2 _ _ _ _ rfl, HP _ (hb.alloc hb.size _), ho.alloc _, hb.alloc hb.size _, ⟨hb1.size, fun e => absurd (own_lt ho _ e) (Nat.lt_irrefl _)⟩, hb1.alloc hb1.size _⟩
theorem cutd_set {w1 w2 X : World} {b0 : Nat} {K : Int} {A2 A3 : Option Addr} {m c2 c3 : Nat} {d : Bool} {ins : List ByteArray} {x0 x1 x2 : Value} {Z : Obj} (hb : Below X.heap.size X w2) (hb1 : Below w1.heap.size w1 w2) (hpz : Pl w2 w1.heap.size x0 x1 x2) (ho : Fl.Own w2 (w1.alloc Z).drew.heap.size (.slice A3 m c3) ins)
    (HP : ∀ W, Below X.heap.size X W → Pl W b0 (.int .i64 K) (.slice A2 m c2) (.bool d)) (hx1 : X.heap.size ≤ w1.heap.size) : Cutd w1 X b0 K A2 m c2 d ins (.pointer (some ⟨w1.heap.size, 0, none⟩)) (((w2.setCell ⟨w1.heap.size, 0, none⟩ (.int .i64 K)).setCell ⟨w1.heap.size, 1, none⟩ (.slice A3 m c3)).setCell ⟨w1.heap.size, 2, none⟩ (.bool d)) := by
  have hap : (Value.slice A3 m c3).ownBlock ≠ some w1.heap.size := by
    intro e
    have := ho.ge _ e
    have h2 : (w1.alloc Z).drew.heap.size = w1.heap.size + 1 := by show (w1.alloc Z).heap.size = _; simp
    omega
  have hz : w1.heap.size ≤ (w1.alloc Z).drew.heap.size := by show _ ≤ (w1.alloc Z).heap.size; simp
  have hbs := ((hb.setCell (p := ⟨w1.heap.size, 0, none⟩) hx1 (.int .i64 K)).setCell (p := ⟨w1.heap.size, 1, none⟩) hx1 (.slice A3 m c3)).setCell (p := ⟨w1.heap.size, 2, none⟩) hx1 (.bool d)
  exact ⟨w1.heap.size, A3, c3, rfl, ((hpz.set0 _).set1 _).set2 _, HP _ hbs, ((((own_mono ho hz).other' hap).other' hap).other' hap), hbs, ⟨Nat.le_refl _, hap⟩,
    ((hb1.setCell (p := ⟨w1.heap.size, 0, none⟩) (Nat.le_refl _) (.int .i64 K)).setCell (p := ⟨w1.heap.size, 1, none⟩) (Nat.le_refl _) (.slice A3 m c3)).setCell (p := ⟨w1.heap.size, 2, none⟩) (Nat.le_refl _) (.bool d)⟩
set_option maxHeartbeats 8000000 in
set_option maxRecDepth 100000 in
theorem walkNo (w : World) (ht : Tab w) (A A2 : Option Addr) (n c m c2 : Nat) (K : Int) (d : Bool) (s ins : List ByteArray) (hr : Rd w A n s) (hr2 : Rd w A2 m ins) (hn : n ≤ 1048576) (hm : m ≤ 1048576) (hK : K < 0 ∨ (n : Int) < K) :
    Calls Tryd.prog 7 #[.slice A n c, .agg #[.int .i64 K, .slice A2 m c2, .bool d]] w fun e w' => e = .returned (.bool true) ∧ Below w.heap.size w w' := by
  obtain ⟨X, hX⟩ : ∃ X, X = w.alloc (.cells #[.int .i64 K, .slice A2 m c2, .bool d] 33) := ⟨_, rfl⟩
  have hb0 : Below w.heap.size w X := hX ▸ (Below.refl _ _).alloc (Nat.le_refl _) _
  have hp0 : Pl X w.heap.size (.int .i64 K) (.slice A2 m c2) (.bool d) := hX ▸ Pl.new w _ _ _ _ rfl
  have HT : Hid (∀ W, Below X.heap.size X W → Tab W) := Lib.hid fun W h => ht.below (seq hb0 h)
  have HO1 := Lib.hid (ownL A n c s X (hr.below hb0) (by omega))
  have HO2 : Hid (∀ W, Below X.heap.size X W → Calls Tryd.prog 18 #[.slice A2 m c2] W fun e w' => ∃ A3 c3, e = .returned (.slice A3 m c3) ∧ Fl.Own w' W.heap.size (.slice A3 m c3) ins ∧ Below W.heap.size W w') := Lib.hid fun W h => ownL A2 m c2 ins W (hr2.below (seq hb0 h)) (by omega)
  have HP : Hid (∀ W, Below X.heap.size X W → Pl W w.heap.size (.int .i64 K) (.slice A2 m c2) (.bool d)) := Lib.hid fun W h => hp0.below h
  have HAP : Hid (∀ W A3 A4 m4 c3 c4, Calls Tryd.prog 28 #[.slice A3 n c3, .agg #[.int .i64 K, .slice A4 m4 c4, .bool d]] W fun e w' => e = .returned (.tuple #[.slice none 0 0, .int .i64 1]) ∧ Below W.heap.size W w') := Lib.hid fun W A3 A4 m4 c3 c4 => applyNo W A3 A4 n c3 m4 c4 K d hK
  have HX := Lib.hid hX
  have HB := Lib.hid hb0
  clear hX hb0 hp0 hr hr2 ht
  by_cases hK1 : K < 0
  all_goals (
    try have hK2 : (n : Int) < K := by omega
    go_enter Tryd.func7, Tryd.ntmps7
    go_upto_region 2 with (go_at_call 18; rw [← HX.out]; refine HO1.out.mono ?_; rintro e w1 ⟨Ag, cg, rfl, hog, hb1⟩)
    go_cut [6] from 12 (fun s6 wx => Cutd w1 X w.heap.size K A2 m c2 d ins s6 wx)
    case first =>
      have hbd := seq hb1 (Go.Proofs.YtddgpkdhakjjaaaDoor.Ask.drw w1)
      have hbz : Below X.heap.size X (w1.alloc (.cells #[.int .i64 0, .slice none 0 0, .bool false] 33)).drew := seq (hb1.alloc hb1.size _) (Go.Proofs.YtddgpkdhakjjaaaDoor.Ask.drw _)
      have hpz : Pl (w1.alloc (.cells #[.int .i64 0, .slice none 0 0, .bool false] 33)).drew w1.heap.size (.int .i64 0) (.slice none 0 0) (.bool false) := (Pl.new w1 _ _ _ _ rfl).below (Go.Proofs.YtddgpkdhakjjaaaDoor.Ask.drw _)
      have hpd := HP.out _ hbd
      have e0 := hpd.c0
      have e1 := hpd.c1
      have e2 := hpd.c2
      have hpd2 := HP.out _ hbz
      have i0 := hpd2.c0
      have i1 := hpd2.c1
      have i2 := hpd2.c2
      have HB1 := Lib.hid hb1
      have hne1 : w.heap.size ≠ w1.heap.size := by have h1 := hb1.size; have h2 := (HP.out X (Below.refl _ _)).lt; omega
      go_region_held3 (fun W' => W'.cell? ⟨w.heap.size, 0, none⟩ = some (.int .i64 K) ∧ W'.cell? ⟨w.heap.size, 1, none⟩ = some (.slice A2 m c2) ∧ W'.cell? ⟨w.heap.size, 2, none⟩ = some (.bool d))
        (first | exact ⟨e0, e1, e2⟩ | exact ⟨i0, i1, i2⟩ | exact ⟨q0, q1, q2⟩ | exact ⟨z0, z1, z2⟩ | exact ⟨n0, n1, n2⟩ | exact ⟨m0, m1, m2⟩)
        (first
          | (go_at_call 18; refine (HO2.out _ (by first | exact hbd | exact hbz)).mono ?_; rintro e w2 ⟨A3, c3, rfl, hoh, hb2⟩; have hb2x : Below X.heap.size X w2 := (by first | exact seq hbd hb2 | exact seq hbz hb2); have hb12 : Below w1.heap.size w1 w2 := (by first | exact seq (Go.Proofs.YtddgpkdhakjjaaaDoor.Ask.drw w1) hb2 | exact seq (seq ((Below.refl _ _).alloc (Nat.le_refl _) _) (Go.Proofs.YtddgpkdhakjjaaaDoor.Ask.drw _)) hb2); have hp2 := HP.out _ hb2x; have q0 := hp2.c0; have q1 := hp2.c1; have q2 := hp2.c2; have hp2z := HP.out _ (hb2x.alloc hb2x.size (.cells #[.int .i64 0, .slice none 0 0, .bool false] 33)); have z0 := hp2z.c0; have z1 := hp2z.c1; have z2 := hp2z.c2; have s0 := (by first | exact (hpz.below hb2).c0 | exact True.intro); have s1 := (by first | exact (hpz.below hb2).fz 0 | exact True.intro); have s2 := (by first | exact ((hpz.below hb2).set0 (.int .i64 K)).c1 | exact True.intro); have s3 := (by first | exact ((hpz.below hb2).set0 (.int .i64 K)).fz 1 | exact True.intro); have s4 := (by first | exact (((hpz.below hb2).set0 (.int .i64 K)).set1 (.slice A3 m c3)).c2 | exact True.intro); have s5 := (by first | exact (((hpz.below hb2).set0 (.int .i64 K)).set1 (.slice A3 m c3)).fz 2 | exact True.intro); have hn2 := HP.out _ (hb2x.alloc hb2x.size (.cells #[.int .i64 K, .slice A3 m c3, .bool d] 33)); have n0 := hn2.c0; have n1 := hn2.c1; have n2 := hn2.c2; have hsx := hp2.other (p := ⟨w1.heap.size, 0, none⟩) hne1 (.int .i64 K); have hsy := hsx.other (p := ⟨w1.heap.size, 1, none⟩) hne1 (.slice A3 m c3); have hsz := hsy.other (p := ⟨w1.heap.size, 2, none⟩) hne1 (.bool d); have m0 := hsz.c0; have m1 := hsz.c1; have m2 := hsz.c2))
      all_goals (
        go_wp2_with fail
        go_meet
        first
          | exact cutd_new hb2x hb12 hoh HP.out
          | exact cutd_set hb2x hb12 (hpz.below hb2) hoh HP.out hb1.size)
    case rest =>
      obtain ⟨hbx, A3, c3, rfl, hpH, hpO, hoh, hb3x, hB3, hb13⟩ := hcut
      have hp3 := hpO
      have u0 := hpH.c0
      have u1 := hpH.c1
      have u2 := hpH.c2
      have t0 := hpO.c0
      have t1 := hpO.c1
      have t2 := hpO.c2
      go_wp2_with (first
        | (go_at_call 28; refine (HAP.out _ _ _ _ _ _).mono ?_; rintro e w4 ⟨rfl, hb4⟩; have hb4x := seq hb3x hb4; have hp4 := HP.out _ hb4x; have r0 := hp4.c0)
        | (go_at_call 12; refine (numC _ _).mono ?_; rintro e wn ⟨rfl, rfl⟩)
        | (go_at_call 13; refine (awakeC _ (HT.out _ hb4x)).mono ?_; rintro e wa ⟨rfl, hba⟩))
      go_ret
      exact ⟨rfl, seq HB.out (seq hb4x hba)⟩)
set_option maxHeartbeats 8000000 in
set_option maxRecDepth 100000 in
theorem walkYes (w : World) (ht : Tab w) (A A2 : Option Addr) (n c m c2 k : Nat) (d : Bool) (s ins : List ByteArray) (hr : Rd w A n s) (hr2 : Rd w A2 m ins) (hn : n ≤ 1048576) (hm : m ≤ 1048576) (hk : k ≤ n) (hc : n ≤ c) (hcc : c ≤ 1048576) :
    Calls Tryd.prog 7 #[.slice A n c, .agg #[.int .i64 ((n : Int) - (k : Int)), .slice A2 m c2, .bool d]] w fun e w' => e = .returned (.bool true) ∧ Below w.heap.size w w' := by
  obtain ⟨X, hX⟩ : ∃ X, X = w.alloc (.cells #[.int .i64 ((n : Int) - (k : Int)), .slice A2 m c2, .bool d] 33) := ⟨_, rfl⟩
  have hb0 : Below w.heap.size w X := hX ▸ (Below.refl _ _).alloc (Nat.le_refl _) _
  have hp0 : Pl X w.heap.size (.int .i64 ((n : Int) - (k : Int))) (.slice A2 m c2) (.bool d) := hX ▸ Pl.new w _ _ _ _ rfl
  have HT : Hid (∀ W, Below X.heap.size X W → Tab W) := Lib.hid fun W h => ht.below (seq hb0 h)
  have HO1 := Lib.hid (ownL A n c s X (hr.below hb0) (by omega))
  have HO2 : Hid (∀ W, Below X.heap.size X W → Calls Tryd.prog 18 #[.slice A2 m c2] W fun e w' => ∃ A3 c3, e = .returned (.slice A3 m c3) ∧ Fl.Own w' W.heap.size (.slice A3 m c3) ins ∧ Below W.heap.size W w') := Lib.hid fun W h => ownL A2 m c2 ins W (hr2.below (seq hb0 h)) (by omega)
  have HP : Hid (∀ W, Below X.heap.size X W → Pl W w.heap.size (.int .i64 ((n : Int) - (k : Int))) (.slice A2 m c2) (.bool d)) := Lib.hid fun W h => hp0.below h
  have HAP : Hid (∀ W A3 A4 c3 c4, Rd W A3 n s → Rd W A4 m ins → n ≤ c3 → c3 ≤ 9223372036854775807 → Calls Tryd.prog 28 #[.slice A3 n c3, .agg #[.int .i64 ((n : Int) - (k : Int)), .slice A4 m c4, .bool d]] W fun e w' => ∃ A5 c5, e = .returned (.tuple #[.slice A5 (k + m) c5, .int .i64 0]) ∧ Fl.Own w' W.heap.size (.slice A5 (k + m) c5) (s.take k ++ ins) ∧ Below W.heap.size W w') :=
    Lib.hid fun W A3 A4 c3 c4 h1 h2 h3 h4 => applyYes W A3 A4 n c3 m c4 k s ins d h1 h2 h3 h4 hk (by omega) (by omega)
  have HRA : Hid (∀ W, Below X.heap.size X W → Calls Tryd.prog 29 #[.slice A n c, .agg #[.int .i64 ((n : Int) - (k : Int)), .slice A2 m c2, .bool d]] W fun e w' => ∃ A5 c5, e = .returned (.slice A5 (k + m) c5) ∧ Fl.Own w' W.heap.size (.slice A5 (k + m) c5) (s.take k ++ ins) ∧ Below W.heap.size W w') :=
    Lib.hid fun W h => rApplyC W A A2 n c m c2 k s ins d (hr.below (seq hb0 h)) (hr2.below (seq hb0 h)) hc (by omega) hk (by omega) (by omega)
  have HSM : Hid (∀ W A3 A4 c3 c4 q l, Rd W A3 q l → Rd W A4 q l → q ≤ 9223372036854775807 → Calls Tryd.prog 23 #[.slice A3 q c3, .slice A4 q c4] W fun e w' => e = .returned (.bool true) ∧ Below W.heap.size W w') := Lib.hid fun W A3 A4 c3 c4 q l h1 h2 h3 => by
    have := lSame (c := c3) (d := c4) W h1 h2 h3 h3
    rwa [same_self] at this
  have HRS : Hid (∀ W, Below X.heap.size X W → Rd W A n s) := Lib.hid fun W h => hr.below (seq hb0 h)
  have HRI : Hid (∀ W, Below X.heap.size X W → Rd W A2 m ins) := Lib.hid fun W h => hr2.below (seq hb0 h)
  have hlen : (s.take k ++ ins).length = k + m := by
    have h1 := hr.1
    have h2 := hr2.1
    rw [List.length_append, List.length_take]; omega
  obtain ⟨q, hq⟩ : ∃ q, k + m = q := ⟨_, rfl⟩
  have hq2 : q ≤ 2097152 := by omega
  rw [hq] at HAP HRA hlen
  have HLEN := Lib.hid hlen
  obtain ⟨i0, hi, hz0, hz1, hz2⟩ := info_parts infoStr
  have hK1 : ¬ (n : Int) - (k : Int) < 0 := by omega
  have hK2 : ¬ (n : Int) < (n : Int) - (k : Int) := by omega
  clear hlen hq
  have HX := Lib.hid hX
  have HB := Lib.hid hb0
  clear hX hb0 hp0 hr hr2 ht
  all_goals (
    go_enter Tryd.func7, Tryd.ntmps7
    go_upto_region 2 with (go_at_call 18; rw [← HX.out]; refine HO1.out.mono ?_; rintro e w1 ⟨Ag, cg, rfl, hog, hb1⟩)
    go_cut [6] from 12 (fun s6 wx => Cutd w1 X w.heap.size ((n : Int) - (k : Int)) A2 m c2 d ins s6 wx)
    case first =>
      have hbd := seq hb1 (Go.Proofs.YtddgpkdhakjjaaaDoor.Ask.drw w1)
      have hbz : Below X.heap.size X (w1.alloc (.cells #[.int .i64 0, .slice none 0 0, .bool false] 33)).drew := seq (hb1.alloc hb1.size _) (Go.Proofs.YtddgpkdhakjjaaaDoor.Ask.drw _)
      have hpz : Pl (w1.alloc (.cells #[.int .i64 0, .slice none 0 0, .bool false] 33)).drew w1.heap.size (.int .i64 0) (.slice none 0 0) (.bool false) := (Pl.new w1 _ _ _ _ rfl).below (Go.Proofs.YtddgpkdhakjjaaaDoor.Ask.drw _)
      have hpd := HP.out _ hbd
      have e0 := hpd.c0
      have e1 := hpd.c1
      have e2 := hpd.c2
      have hpd2 := HP.out _ hbz
      have i0 := hpd2.c0
      have i1 := hpd2.c1
      have i2 := hpd2.c2
      have HB1 := Lib.hid hb1
      have hne1 : w.heap.size ≠ w1.heap.size := by have h1 := hb1.size; have h2 := (HP.out X (Below.refl _ _)).lt; omega
      go_region_held3 (fun W' => W'.cell? ⟨w.heap.size, 0, none⟩ = some (.int .i64 ((n : Int) - (k : Int))) ∧ W'.cell? ⟨w.heap.size, 1, none⟩ = some (.slice A2 m c2) ∧ W'.cell? ⟨w.heap.size, 2, none⟩ = some (.bool d))
        (first | exact ⟨e0, e1, e2⟩ | exact ⟨i0, i1, i2⟩ | exact ⟨q0, q1, q2⟩ | exact ⟨z0, z1, z2⟩ | exact ⟨n0, n1, n2⟩ | exact ⟨m0, m1, m2⟩)
        (first
          | (go_at_call 18; refine (HO2.out _ (by first | exact hbd | exact hbz)).mono ?_; rintro e w2 ⟨A3, c3, rfl, hoh, hb2⟩; have hb2x : Below X.heap.size X w2 := (by first | exact seq hbd hb2 | exact seq hbz hb2); have hb12 : Below w1.heap.size w1 w2 := (by first | exact seq (Go.Proofs.YtddgpkdhakjjaaaDoor.Ask.drw w1) hb2 | exact seq (seq ((Below.refl _ _).alloc (Nat.le_refl _) _) (Go.Proofs.YtddgpkdhakjjaaaDoor.Ask.drw _)) hb2); have hp2 := HP.out _ hb2x; have q0 := hp2.c0; have q1 := hp2.c1; have q2 := hp2.c2; have hp2z := HP.out _ (hb2x.alloc hb2x.size (.cells #[.int .i64 0, .slice none 0 0, .bool false] 33)); have z0 := hp2z.c0; have z1 := hp2z.c1; have z2 := hp2z.c2; have s0 := (by first | exact (hpz.below hb2).c0 | exact True.intro); have s1 := (by first | exact (hpz.below hb2).fz 0 | exact True.intro); have s2 := (by first | exact ((hpz.below hb2).set0 (.int .i64 ((n : Int) - (k : Int)))).c1 | exact True.intro); have s3 := (by first | exact ((hpz.below hb2).set0 (.int .i64 ((n : Int) - (k : Int)))).fz 1 | exact True.intro); have s4 := (by first | exact (((hpz.below hb2).set0 (.int .i64 ((n : Int) - (k : Int)))).set1 (.slice A3 m c3)).c2 | exact True.intro); have s5 := (by first | exact (((hpz.below hb2).set0 (.int .i64 ((n : Int) - (k : Int)))).set1 (.slice A3 m c3)).fz 2 | exact True.intro); have hn2 := HP.out _ (hb2x.alloc hb2x.size (.cells #[.int .i64 ((n : Int) - (k : Int)), .slice A3 m c3, .bool d] 33)); have n0 := hn2.c0; have n1 := hn2.c1; have n2 := hn2.c2; have hsx := hp2.other (p := ⟨w1.heap.size, 0, none⟩) hne1 (.int .i64 ((n : Int) - (k : Int))); have hsy := hsx.other (p := ⟨w1.heap.size, 1, none⟩) hne1 (.slice A3 m c3); have hsz := hsy.other (p := ⟨w1.heap.size, 2, none⟩) hne1 (.bool d); have m0 := hsz.c0; have m1 := hsz.c1; have m2 := hsz.c2))
      all_goals (
        go_wp2_with fail
        go_meet
        first
          | exact cutd_new hb2x hb12 hoh HP.out
          | exact cutd_set hb2x hb12 (hpz.below hb2) hoh HP.out hb1.size)
    case rest =>
      obtain ⟨hbx, A3, c3, rfl, hpH, hpO, hoh, hb3x, hB3, hb13⟩ := hcut
      have hp3 := hpO
      have u0 := hpH.c0
      have u1 := hpH.c1
      have u2 := hpH.c2
      have t0 := hpO.c0
      have t1 := hpO.c1
      have t2 := hpO.c2
      obtain ⟨hcg, hcg2⟩ := own_cap hog
      have hogc := hog.rd.below hb13
      have hzXc : X.heap.size ≤ w1.heap.size := hb1.size
      have hz1c : w1.heap.size ≤ wc.heap.size := hb13.size
      have hzwX := HB.out.size
      go_upto_region 6 with (go_at_call 28; refine (HAP.out wc Ag A3 cg c3 hogc hoh.rd hcg hcg2).mono ?_; rintro e w4 ⟨As, cs, rfl, hos, hb4⟩; have a0 := (hpO.below hb4).c0; have a1 := (hpO.below hb4).c1; have a2 := (hpO.below hb4).c2; have a3 := (hpH.below hb4).c0; have a4 := (hpH.below hb4).c1; have a5 := (hpH.below hb4).c2)
      have hb4x := seq hb3x hb4
      go_upto_region 7 with (go_at_call 28; refine (HAP.out w4 Ag A3 cg c3 (hogc.below hb4) (hoh.rd.below hb4) hcg hcg2).mono ?_; rintro e w5 ⟨At, ct, rfl, hot, hb5⟩; have b0 := (hpO.below (seq hb4 hb5)).c0; have b1 := (hpO.below (seq hb4 hb5)).c1; have b2 := (hpO.below (seq hb4 hb5)).c2)
      have hb5x := seq hb4x hb5
      go_upto_region 8 with (go_at_call 29; refine (HRA.out w5 hb5x).mono ?_; rintro e w6 ⟨Aw, cw, rfl, how, hb6⟩)
      have hb6x := seq hb5x hb6
      have hb46 := seq hb5 hb6
      go_upto_region 10 with (first
        | (go_at_call 12; refine (numC _ _).mono ?_; rintro e wn ⟨rfl, rfl⟩)
        | (go_at_call 23; refine (HSM.out w6 As Aw cs cw q _ (hos.rd.below hb46) how.rd (by omega)).mono ?_; rintro e w7 ⟨rfl, hb7⟩))
      have hb7x := seq hb6x hb7
      have hb47 := seq hb46 hb7
      have hbc7 := seq hb4 hb47
      have hos7 := hos.below hb47
      have hkb : ∀ j, (Value.slice As q cs).ownBlock = some j → wc.heap.size ≤ j ∧ j < w4.heap.size := fun j hj => ⟨hos.ge j hj, own_lt hos j hj⟩
      go_upto_region 11 with (go_at_call 27; refine (spoilC wc.heap.size q cs As _ w7 hos7 HLEN.out.symm (by omega)).mono ?_; rintro e w8 ⟨rfl, hg8, hs8, l8, hl8, ho8⟩)
      have hb8x : Below X.heap.size X w8 := hb7x.grown hg8 hb7x.size (fun j hj => Nat.le_trans hb3x.size (hkb j hj).1)
      have ho8a : Fl.Own (w8.alloc (.cells #[.string ⟨#[109, 111, 114, 101]⟩] 9)) wc.heap.size (.slice As q cs) l8 := ho8.alloc _
      have hz8 : wc.heap.size ≤ w8.heap.size := by have := hbc7.size; omega
      clear hs8
      have HL8 := Lib.hid hl8
      clear hl8
      go_upto_region 12 with (at_builtin; refine wpList_append_src _ rfl (.tmp 69) (.tmp 70) 25 rfl wc.heap.size 9 i0 (.string ByteArray.empty) 1 16 Tryd.underlying25 hi hz0 hz1 hz2 rfl (by decide) _ _ _ rfl ho8a (some ⟨_, 0, none⟩) 1 1 [.string ⟨#[109, 111, 114, 101]⟩] rfl rfl (one_src _ _ _ _ (by first | rfl | simp)) (Lb.one_cell rfl) (by have := HL8.out; unfold maxLen; omega) (by have := HL8.out; omega) (le_alloc hz8 _) ?_; intro v9 w9 hown9 hgrow9 hrow9; obtain ⟨A9, m9, c9, hv9⟩ := slice_of hown9; subst hv9)
      have ho9 : Fl.Own w9 wc.heap.size (.slice A9 m9 c9) (l8 ++ [⟨#[109, 111, 114, 101]⟩]) := Own.push hown9
      obtain ⟨A10, c10, h10⟩ := ho9.form
      injection h10 with r1 r2 r3
      rw [List.length_append, HL8.out, List.length_singleton] at r2
      subst r2
      have hne : ∀ b, (b < wc.heap.size ∨ w4.heap.size ≤ b) → some b ≠ (Value.slice As q cs).ownBlock := fun b hb e => by
        have := hkb b e.symm
        omega
      have hkp : ∀ A' m' l', Rd w7 A' m' l' → (∀ b off sp, A' = some ⟨b, off, sp⟩ → b < wc.heap.size ∨ w4.heap.size ≤ b) → Rd w9 A' m' l' := fun A' m' l' h1 h2 =>
        rd_grown ((rd_grown h1 hg8 (fun b off sp e _ => hne b (h2 b off sp e))).below ((Below.refl _ _).alloc (Nat.le_refl _) _)) hgrow9 (fun b off sp e _ => hne b (h2 b off sp e))
      have hb9x : Below X.heap.size X w9 := (hb8x.alloc hb8x.size _).grown hgrow9 (hb8x.alloc hb8x.size (.cells #[.string ⟨#[109, 111, 114, 101]⟩] 9)).size (fun j hj => Nat.le_trans hb3x.size (hkb j hj).1)
      have hz45 : w4.heap.size ≤ w5.heap.size := hb5.size
      have ht9 := hkp At q _ (hot.rd.below (seq hb6 hb7)) (fun b off sp e => .inr (fr_own hot b off sp e).1)
      have hw9 := hkp Aw q _ (how.rd.below hb7) (fun b off sp e => .inr (Nat.le_trans hz45 (fr_own how b off sp e).1))
      have hg9 := hkp Ag n s (hogc.below hbc7) (fun b off sp e => .inl (Nat.lt_of_lt_of_le (fr_own hog b off sp e).2 hz1c))
      have hh9 := hkp A3 m ins (hoh.rd.below hbc7) (fun b off sp e => .inl (fr_own hoh b off sp e).2)
      have hs9 := HRS.out _ hb9x
      have hp9 := HRI.out _ hb9x
      have hlt := hpH.lt
      have hpH9 := Pl_grow (Pl.below (Pl_grow (hpH.below hbc7) hg8 (hne _ (.inl hlt))) ((Below.refl _ _).alloc (Nat.le_refl _) (.cells #[.string ⟨#[109, 111, 114, 101]⟩] 9))) hgrow9 (hne _ (.inl hlt))
      have hpO9 := HP.out _ hb9x
      have hwq : IntKind.i64.wrap ((q : Int) + 1) = (q : Int) + 1 := by rw [IntKind.wrap_i64]; omega
      have hbF := hb9x
      clear hkp hne hown9 hgrow9 hrow9 ho9 ho8a ho8 hg8 hos7 hkb a0 a1 a2 a3 a4 a5 b0 b1 b2
      go_wp2_with (first
        | (go_at_call 23; refine (HSM.out _ _ _ _ _ _ _ (by first | exact ht9 | exact hg9 | exact hh9) (by first | exact hw9 | exact hs9 | exact hp9) (by omega)).mono ?_; rintro e wz ⟨rfl, hbz⟩; have ht9 := ht9.below hbz; have hw9 := hw9.below hbz; have hg9 := hg9.below hbz; have hs9 := hs9.below hbz; have hh9 := hh9.below hbz; have hp9 := hp9.below hbz; have hpH9 := hpH9.below hbz; have hpO9 := hpO9.below hbz; have hbF := seq hbF hbz; have v1 := hpH9.c1; have v2 := hpO9.c1)
        | (go_at_call 13; refine (awakeC _ (HT.out _ hbF)).mono ?_; rintro e wa ⟨rfl, hba⟩))
      go_ret
      exact ⟨rfl, seq HB.out (seq hbF hba)⟩)

theorem walk (w : World) (ht : Tab w) (A A2 : Option Addr) (n c m c2 : Nat) (K : Int) (d : Bool) (s ins : List ByteArray) (hr : Rd w A n s) (hr2 : Rd w A2 m ins) (hc : n ≤ c) (hcc : c ≤ 1048576) (hm : m ≤ 1048576) :
    Calls Tryd.prog 7 #[.slice A n c, .agg #[.int .i64 K, .slice A2 m c2, .bool d]] w fun e w' => e = .returned (.bool true) ∧ Below w.heap.size w w' := by
  by_cases h : K < 0 ∨ (n : Int) < K
  · exact walkNo w ht A A2 n c m c2 K d s ins hr hr2 (by omega) hm h
  · obtain ⟨k, hK, hk⟩ : ∃ k : Nat, K = (n : Int) - (k : Int) ∧ k ≤ n := ⟨n - K.toNat, by omega, by omega⟩
    subst hK
    exact walkYes w ht A A2 n c m c2 k d s ins hr hr2 (by omega) hm hk hc hcc
end Go.Proofs.YtddgpkdhakjjaaaDoor.nestApplies
