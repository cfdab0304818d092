/- nest: Apply, of the program and of the reference. -/
import Derived.Deep.RegionLaw
import Derived.Test.YtddgpkdhakjjaaaDoorSp
set_option linter.unusedVariables false
set_option linter.unusedSimpArgs false
namespace Go.Proofs.YtddgpkdhakjjaaaDoor.Ap
open Go.RowKit Lb Fl Is Tp Np Wk Wp Wi Wo Pt Oc Go.Proofs.YtddgpkdhakjjaaaDoor.Ask Rt Go.Proofs.YtddgpkdhakjjaaaDoor.Op Aw Lt Lw Sp

theorem Pl_grow {W W' : World} {b : Nat} {u v x : Value} {row : Option Nat} (h : Pl W b u v x) (hg : W.grownBy W' row) (hne : some b ≠ row) : Pl W' b u v x := (hg.block b h.lt hne).trans h
theorem own_app {w1 : World} {B : Nat} {v' : Value} {p l : List ByteArray} (h : w1.ownsRow B 9 1 v' (p.length + l.length) (p.map Value.string ++ l.map Value.string)) : Fl.Own w1 B v' (p ++ l) := by
  unfold Fl.Own
  rw [List.length_append, List.map_append]
  exact h

set_option maxHeartbeats 3200000 in
set_option maxRecDepth 100000 in
theorem applyNo (w : World) (A A2 : Option Addr) (n c m c2 : Nat) (K : Int) (d : Bool) (h : K < 0 ∨ (n : Int) < K) :
    Calls Tryd.prog 28 #[.slice A n c, .agg #[.int .i64 K, .slice A2 m c2, .bool d]] w fun e w' => e = .returned (.tuple #[.slice none 0 0, .int .i64 1]) ∧ Below w.heap.size w w' := by
  have hb := (Below.refl w.heap.size w).alloc (Nat.le_refl _) (.cells #[.int .i64 K, .slice A2 m c2, .bool d] 33)
  have HB := Lib.hid hb
  clear hb
  by_cases h1 : K < 0
  · go_enter Tryd.func28, Tryd.ntmps28
    go_wp2
    go_ret2
    exact ⟨rfl, HB.out⟩
  · have h2 : (n : Int) < K := by omega
    go_enter Tryd.func28, Tryd.ntmps28
    go_wp2
    go_ret2
    exact ⟨rfl, HB.out⟩

set_option maxHeartbeats 6400000 in
set_option maxRecDepth 100000 in
theorem applyYes (w : World) (A A2 : Option Addr) (n c m c2 k : Nat) (s ins : List ByteArray) (d : Bool) (hr : Rd w A n s) (hi2 : Rd w A2 m ins) (hc : n ≤ c) (hc2 : c ≤ 9223372036854775807) (hk : k ≤ n) (hn : n ≤ 100000000) (hm : m ≤ 100000000) :
    Calls Tryd.prog 28 #[.slice A n c, .agg #[.int .i64 ((n : Int) - (k : Int)), .slice A2 m c2, .bool d]] w fun e w' => ∃ A3 c3, e = .returned (.tuple #[.slice A3 (k + m) c3, .int .i64 0]) ∧ Fl.Own w' w.heap.size (.slice A3 (k + m) c3) (s.take k ++ ins) ∧ Below w.heap.size w w' := by
  obtain ⟨i0, hi, hz0, hz1, hz2⟩ := info_parts infoStr
  obtain ⟨X, hX⟩ : ∃ X, X = w.alloc (.cells #[.int .i64 ((n : Int) - (k : Int)), .slice A2 m c2, .bool d] 33) := ⟨_, rfl⟩
  have hb0 : Below w.heap.size w X.drew := seq (hX ▸ (Below.refl _ _).alloc (Nat.le_refl _) _) (drw _)
  have hp0 : Pl X.drew w.heap.size (.int .i64 ((n : Int) - (k : Int))) (.slice A2 m c2) (.bool d) := hX ▸ (Pl.new w _ _ _ _ rfl).below (drw _)
  have e0 := hp0.c0
  have e1 := hp0.c1
  have hlk : k = (s.take k).length := by have := hr.1; rw [List.length_take]; omega
  have hCl := cloneC (c := c) X.drew (rd_take (hr.below hb0) hk) (by omega)
  have hir := hi2.below hb0
  have hml := hi2.1
  have h1 : ¬ (n : Int) - (k : Int) < 0 := by omega
  have h2 : ¬ (n : Int) < (n : Int) - (k : Int) := by omega
  have h3 : (n : Int) - ((n : Int) - (k : Int)) = (k : Int) := by omega
  have hkc : k ≤ c := by omega
  have hwr : IntKind.i64.wrap ((n : Int) - ((n : Int) - (k : Int))) = (k : Int) := by rw [IntKind.wrap_i64]; omega
  have hwk : IntKind.i64.wrap (k : Int) = (k : Int) := by rw [IntKind.wrap_i64]; omega
  have hwc : (0 : Int) ≤ (k : Int) ∧ (k : Int) ≤ (c : Int) := by omega
  have HCL := Lib.hid hCl
  have HIR := Lib.hid hir
  have HX := Lib.hid hX
  have HB := Lib.hid hb0
  have HP := Lib.hid hp0
  have HLK := Lib.hid hlk
  have HML := Lib.hid hml
  have hzx : w.heap.size ≤ X.drew.heap.size := hb0.size
  clear hCl hir hX hb0 hp0 hlk hr hi2 hml
  go_enter Tryd.func28, Tryd.ntmps28
  go_wp2_with fail
  rw [← HX.out]
  go_region_law (first
    | ((refine step_src (by rfl) (.tmp 23) (.tmp 25) 25 (by rfl) X.drew.heap.size 9 i0 (.string ByteArray.empty) 1 16 Tryd.underlying25 hi hz0 hz1 hz2 rfl (by decide) _ _ _ (by rfl) ho1 A2 m c2 (ins.map Value.string) (by rfl) (by simp [HML.out]) (HIR.out.below hb1).cells (by simp [Value.oneCell']) (by unfold maxLen; rw [← HLK.out]; omega) (by rw [← HLK.out]; omega) hb1.size ?_; intro v' w2 hown' hgrow hrow; obtain ⟨A', m', c', rfl⟩ := slice_of hown'; rw [HML.out] at hown'; have ho2 := own_app hown'; have hb2 := (HB.out.trans (hb1.mono hzx)).grown hgrow (Nat.le_trans hzx hb1.size) (fun j hj => Nat.le_trans hzx (ho1.ge j hj))))
    | ((go_simp; refine HCL.out.mono ?_; rintro e w1 ⟨A1, c1, rfl, ho1, hb1⟩; have q0 := (HP.out.below hb1).c0; have q1 := (HP.out.below hb1).c1)))
  all_goals (
    obtain ⟨A7, c7, h7⟩ := ho2.form
    injection h7 with r1 r2 r3
    have hlen : (s.take k ++ ins).length = k + m := by rw [List.length_append, ← HLK.out, ← HML.out]
    rw [hlen] at r2
    subst r1 r2 r3
    go_wp2
    go_ret2
    exact ⟨_, _, rfl, own_mono ho2 hzx, hb2⟩)

set_option maxHeartbeats 6400000 in
set_option maxRecDepth 100000 in
theorem rApplyC (w : World) (A A2 : Option Addr) (n c m c2 k : Nat) (s ins : List ByteArray) (d : Bool) (hr : Rd w A n s) (hi2 : Rd w A2 m ins) (hc : n ≤ c) (hc2 : c ≤ 9223372036854775807) (hk : k ≤ n) (hn : n ≤ 100000000) (hm : m ≤ 100000000) :
    Calls Tryd.prog 29 #[.slice A n c, .agg #[.int .i64 ((n : Int) - (k : Int)), .slice A2 m c2, .bool d]] w fun e w' => ∃ A3 c3, e = .returned (.slice A3 (k + m) c3) ∧ Fl.Own w' w.heap.size (.slice A3 (k + m) c3) (s.take k ++ ins) ∧ Below w.heap.size w w' := by
  obtain ⟨i0, hi, hz0, hz1, hz2⟩ := info_parts infoStr
  obtain ⟨X, hX⟩ : ∃ X, X = w.alloc (.cells #[.int .i64 ((n : Int) - (k : Int)), .slice A2 m c2, .bool d] 33) := ⟨_, rfl⟩
  have hb0 : Below w.heap.size w X := hX ▸ (Below.refl _ _).alloc (Nat.le_refl _) _
  have hp0 : Pl X w.heap.size (.int .i64 ((n : Int) - (k : Int))) (.slice A2 m c2) (.bool d) := hX ▸ Pl.new w _ _ _ _ rfl
  have hbd : Below X.heap.size X X.drew := drw _
  have hby : Below X.heap.size X (X.alloc (.cells #[] 9)).drew := seq ((Below.refl _ _).alloc (Nat.le_refl _) _) (drw _)
  have e0 := (hp0.below hbd).c0
  have e1 := (hp0.below hbd).c1
  have hpy := hp0.below hby
  have f0 := hpy.c0
  have f1 := hpy.c1
  have hlk : k = (s.take k).length := by have := hr.1; rw [List.length_take]; omega
  have hrk := rd_take (hr.below (seq hb0 hby)) hk
  have hir := hi2.below (seq hb0 hby)
  have hml := hi2.1
  have hxs : X.heap.size = w.heap.size + 1 := by rw [hX]; simp
  have ho0 : Fl.Own (X.alloc (.cells #[] 9)).drew (w.heap.size + 1) (.slice (some ⟨X.heap.size, 0, none⟩) 0 0) [] := (own_lit (w := X) (Nat.le_of_eq hxs.symm) [] (by simp)).below (drw _)
  have hzy : w.heap.size + 1 ≤ (X.alloc (.cells #[] 9)).drew.heap.size := hxs ▸ hby.size
  have h3 : (n : Int) - ((n : Int) - (k : Int)) = (k : Int) := by omega
  have hkc : k ≤ c := by omega
  have hwr : IntKind.i64.wrap ((n : Int) - ((n : Int) - (k : Int))) = (k : Int) := by rw [IntKind.wrap_i64]; omega
  have hwk : IntKind.i64.wrap (k : Int) = (k : Int) := by rw [IntKind.wrap_i64]; omega
  have hwc : (0 : Int) ≤ (k : Int) ∧ (k : Int) ≤ (c : Int) := by omega
  have HRK := Lib.hid hrk
  have HIR := Lib.hid hir
  have HX := Lib.hid hX
  have HB := Lib.hid hb0
  have HBY := Lib.hid hby
  have HP := Lib.hid hpy
  have HLK := Lib.hid hlk
  have HML := Lib.hid hml
  have HO0 := Lib.hid ho0
  have HI2 := Lib.hid hi2
  clear hrk hir hX hb0 hp0 hpy hlk hr hi2 hml ho0 hby hbd hxs
  generalize s.take k = p at *
  go_enter Tryd.func29, Tryd.ntmps29
  go_wp2_with fail
  rw [← HX.out]
  go_region_law (first
    | ((refine step_src (by rfl) (.tmp 13) (.tmp 15) 25 (by rfl) (w.heap.size + 1) 9 i0 (.string ByteArray.empty) 1 16 Tryd.underlying25 hi hz0 hz1 hz2 rfl (by decide) _ _ _ (by rfl) ho1 A2 m c2 (ins.map Value.string) (by rfl) (by simp [HML.out]) hir1.cells (by simp [Value.oneCell']) (by unfold maxLen; rw [← HLK.out]; omega) (by rw [← HLK.out]; omega) hz1' ?_; intro v' w2 hown' hgrow hrow; obtain ⟨A', m', c', rfl⟩ := slice_of hown'; rw [HML.out] at hown'; have ho2 := own_app hown'; have hb2 := hbw1.grown hgrow hbw1.size (fun j hj => Nat.le_of_succ_le (ho1.ge j hj))))
    | ((refine step_src (by rfl) (.tmp 5) (.tmp 12) 25 (by rfl) (w.heap.size + 1) 9 i0 (.string ByteArray.empty) 1 16 Tryd.underlying25 hi hz0 hz1 hz2 rfl (by decide) _ _ _ (by rfl) HO0.out A k c (p.map Value.string) (by rfl) (by rw [List.length_map, ← HLK.out]; omega) HRK.out.cells (by simp [Value.oneCell']) (by unfold maxLen; simp only [List.length_nil]; omega) (by simp only [List.length_nil]; omega) hzy ?_; intro v' w1 hown' hgrow hrow; obtain ⟨A', m', c', rfl⟩ := slice_of hown'; have ho1 : Fl.Own w1 (w.heap.size + 1) (.slice A' m' c') p := (by have h9 := hown'; rw [HLK.out] at h9; exact own_app (p := []) (l := p) h9); have hP1 := Pl_grow HP.out hgrow (fun e => absurd (HO0.out.ge _ e.symm) (by omega)); have q0 := hP1.c0; have q1 := hP1.c1; have hbw1 : Below w.heap.size w w1 := (seq HB.out HBY.out).grown hgrow (seq HB.out HBY.out).size (fun j hj => Nat.le_of_succ_le (HO0.out.ge j hj)); have hz1' := Nat.le_trans hzy hgrow.size; have hir1 := HI2.out.below hbw1)))
  all_goals (
    obtain ⟨A7, c7, h7⟩ := ho2.form
    injection h7 with r1 r2 r3
    have hlen : (p ++ ins).length = k + m := by rw [List.length_append, ← HLK.out, ← HML.out]
    rw [hlen] at r2
    subst r1 r2 r3
    go_wp2
    go_ret
    exact ⟨_, _, rfl, own_mono ho2 (Nat.le_succ _), hb2⟩)
end Go.Proofs.YtddgpkdhakjjaaaDoor.Ap
