/- A line of a policy's text: the reference's line. (under way) -/
import Derived.Test.YteikagdinecfoaaGreatDoorRw
import Derived.Test.YteikagdinecfoaaGreatDoorSp
set_option linter.unusedVariables false
set_option linter.unusedSimpArgs false
namespace Go.Proofs.YteikagdinecfoaaGreatDoor.Rx
open Go.RowKit Lb Gr Pd Fl Go.Proofs.YteikagdinecfoaaGreatDoor.Pm Bk Is Go.Proofs.YteikagdinecfoaaGreatDoor.Sl Go.Proofs.YteikagdinecfoaaGreatDoor.Ck Go.Proofs.YteikagdinecfoaaGreatDoor.Ow Go.Proofs.YteikagdinecfoaaGreatDoor.Rz Go.Proofs.YteikagdinecfoaaGreatDoor.Dp Pt Pn Po Rw
attribute [local go_sem ↓] Go.wp_at_zero Go.wp_at_succ
/-- the reference's reader in memory: the policy's block g, the block h of what was seen, the rows from B on -/
structure St (w : World) (B g h : Nat) (x : Vs) (st : RS) (F : List Nat) : Prop where
  own : OwnP w B x st.p F
  bg : Bl w g 29 [x.e, x.g, x.s, .bool st.p.rel, x.d, .int .i64 st.p.depth, .int .i64 st.p.window]
  bh : Bl w h 129 [.bool st.sd, .bool st.sw, .bool st.sr]
  gh : g < h
  hB : h < B
  size : B ≤ w.heap.size
/-- what a line leaves as it stood: all that lies below B, but for the reader's two blocks -/
structure Kpt (w : World) (B g h : Nat) (w' : World) : Prop where
  below : Below g w w'
  old : ∀ k, k < B → k ≠ g → k ≠ h → w'.heap[k]? = w.heap[k]?
theorem Kpt.size {w w' : World} {B g h : Nat} (hk : Kpt w B g h w') : w.heap.size ≤ w'.heap.size := hk.below.size
theorem Kpt.trans {w w1 w2 : World} {B g h : Nat} (h1 : Kpt w B g h w1) (h2 : Kpt w1 B g h w2) : Kpt w B g h w2 :=
  ⟨h1.below.trans h2.below, fun k a b c => (h2.old k a b c).trans (h1.old k a b c)⟩
theorem Kpt.of {w w' : World} {B g h : Nat} (hg : g ≤ B) (hB : B ≤ w.heap.size) (hb : Below w.heap.size w w') : Kpt w B g h w' :=
  ⟨hb.mono (Nat.le_trans hg hB), fun k hk _ _ => hb.block k (Nat.lt_of_lt_of_le hk hB)⟩
theorem Kpt.fr {w w' : World} {B g h : Nat} (hg : g ≤ w.heap.size) (hgh : g ≤ h) (hB : B ≤ w.heap.size) (hf : Fr [g, h] w w') : Kpt w B g h w' :=
  ⟨hf.below hg (by simp; omega), fun k hk h1 h2 => hf.block k (Nat.lt_of_lt_of_le hk hB) (by simp; omega)⟩
/-- what a line leaves -/
def LineR (w : World) (B g h : Nat) (st : RS) (ws : List ByteArray) (e : Ending) (w' : World) : Prop :=
  Kpt w B g h w' ∧ match lineO st ws with
    | none => e = .returned (.bool false)
    | some st' => e = .returned (.bool true) ∧ ∃ x' F', St w' B g h x' st' F'
theorem St.kpt {w : World} {B g h : Nat} {x : Vs} {st : RS} {F : List Nat} (hs : St w B g h x st F) {w' : World} (hb : Below w.heap.size w w') : Kpt w B g h w' :=
  Kpt.of (by have := hs.gh; have := hs.hB; omega) hs.size hb
theorem line_empty {st : RS} {ws : List ByteArray} (h : hasT ws ByteArray.empty = true) : lineO st ws = none := by
  unfold lineO; rw [if_pos h]
theorem LineR.no {w w' : World} {B g h : Nat} {st : RS} {ws : List ByteArray} (hb : Kpt w B g h w') (hn : lineO st ws = none) : LineR w B g h st ws (.returned (.bool false)) w' :=
  ⟨hb, by rw [hn]⟩
theorem LineR.yes {w w' : World} {B g h : Nat} {st st' : RS} {ws : List ByteArray} {x' : Vs} {F' : List Nat} (hb : Kpt w B g h w') (hn : lineO st ws = some st') (hs : St w' B g h x' st' F') : LineR w B g h st ws (.returned (.bool true)) w' :=
  ⟨hb, by rw [hn]; exact ⟨rfl, x', F', hs⟩⟩
/-- two stores: one into the policy's block, one into what was seen -/
theorem St.two {w : World} {B g h : Nat} {x : Vs} {st : RS} {F : List Nat} (hs : St w B g h x st F) (i j : Nat) (u z : Value) :
    Kpt w B g h ((w.setCell ⟨g, i, none⟩ u).setCell ⟨h, j, none⟩ z) ∧ OwnP ((w.setCell ⟨g, i, none⟩ u).setCell ⟨h, j, none⟩ z) B x st.p F ∧ B ≤ ((w.setCell ⟨g, i, none⟩ u).setCell ⟨h, j, none⟩ z).heap.size ∧
    Bl ((w.setCell ⟨g, i, none⟩ u).setCell ⟨h, j, none⟩ z) g 29 ([x.e, x.g, x.s, .bool st.p.rel, x.d, .int .i64 st.p.depth, .int .i64 st.p.window].set i u) ∧
    Bl ((w.setCell ⟨g, i, none⟩ u).setCell ⟨h, j, none⟩ z) h 129 ([.bool st.sd, .bool st.sw, .bool st.sr].set j z) := by
  have h1 := hs.gh
  have h2 := hs.hB
  have h3 := hs.size
  have hf : Fr [g, h] w ((w.setCell ⟨g, i, none⟩ u).setCell ⟨h, j, none⟩ z) := (Fr.setCell w ⟨g, i, none⟩ u (.inl (by simp))).trans (Fr.setCell _ ⟨h, j, none⟩ z (.inl (by simp)))
  refine ⟨Kpt.fr (by omega) (by omega) h3 hf, hs.own.keep hf.size fun k hk => ?_, Nat.le_trans h3 hf.size, ?_, ?_⟩
  · have h4 := hs.own.ge k hk
    exact hf.block k h4.2 (by simp; omega)
  · exact (hs.bg.set i u).other (p := ⟨h, j, none⟩) (by show g ≠ h; omega) z
  · exact (hs.bh.other (p := ⟨g, i, none⟩) (by show h ≠ g; omega) u).set j z
set_option maxHeartbeats 4000000 in
set_option maxRecDepth 100000 in
/-- a line with an empty word in it -/
theorem rLineE (w : World) (B g h : Nat) (x : Vs) (st : RS) (F : List Nat) (v : Value) (ws : List ByteArray) (hs : St w B g h x st F) (hv : kdW.rd w 0 w.heap.size v ws) (he : hasT ws ByteArray.empty = true) :
    Calls Tryz.prog 116 #[.pointer (some ⟨g, 0, none⟩), .pointer (some ⟨h, 0, none⟩), v] w (LineR w B g h st ws) := by
  have HHS : Hid (Calls Tryz.prog 56 #[v, .string ByteArray.empty] w fun e w' => e = .returned (.bool (hasT ws ByteArray.empty)) ∧ w = w') := Lib.hid ((rHasC ws v ByteArray.empty w hv).mono fun e w' h => ⟨h.1, h.2.symm⟩)
  have hq : Hid (hasT ws ByteArray.empty = true) := Lib.hid he
  have hno := Lib.hid (line_empty (st := st) he)
  have HS := Lib.hid hs
  clear hs hv he
  go_enter Tryz.func116, Tryz.ntmps116
  go_wp2_with (go_at_call 56; refine HHS.out.mono ?_; rintro e w1 ⟨rfl, rfl⟩; rw [hq.out])
  go_ret
  exact LineR.no (HS.out.kpt (Below.refl _ _)) hno.out
set_option maxHeartbeats 4000000 in
set_option maxRecDepth 100000 in
/-- 'relative', alone, not seen before -/
theorem rLineRel (w : World) (B g h : Nat) (x : Vs) (st : RS) (F : List Nat) (v : Value) (hs : St w B g h x st F) (hv : kdW.rd w 0 w.heap.size v [wRel]) (he : hasT [wRel] ByteArray.empty = false) (hr : st.sr = false) :
    Calls Tryz.prog 116 #[.pointer (some ⟨g, 0, none⟩), .pointer (some ⟨h, 0, none⟩), v] w (LineR w B g h st [wRel]) := by
  have HHS : Hid (Calls Tryz.prog 56 #[v, .string ByteArray.empty] w fun e w' => e = .returned (.bool (hasT [wRel] ByteArray.empty)) ∧ w = w') := Lib.hid ((rHasC [wRel] v ByteArray.empty w hv).mono fun e w' h => ⟨h.1, h.2.symm⟩)
  have hq : Hid (hasT [wRel] ByteArray.empty = false) := Lib.hid he
  have hno : Hid (lineO st [wRel] = some { st with p := { st.p with rel := true }, sr := true }) := Lib.hid (by
    unfold lineO; rw [if_neg (by rw [he]; decide)]; simp [hr])
  obtain ⟨A, c, rfl, hc1, hc2⟩ := rdW_form hv
  obtain ⟨b, off, rfl, _, hb2, hx0⟩ := rdW_at hv (i := 0) (by simp)
  have hx0' : w.cell? ⟨b, off, none⟩ = some (.string ⟨#[114, 101, 108, 97, 116, 105, 118, 101]⟩) := by
    have h9 : w.cell? ⟨b, off, none⟩ = some (.string wRel) := by simpa using hx0
    exact h9
  have HS := Lib.hid hs
  have k3 := hs.bh.cell 2 rfl
  have k4 := hs.bh.fz 2
  have k5 := hs.bg.fz 3
  have k6 := hs.bg.cell 3 rfl
  have hne : ¬ g = h := by have := hs.gh; omega
  have hne2 : ¬ h = g := by have := hs.gh; omega
  rw [hr] at k3
  clear hs hv he hx0
  go_enter Tryz.func116, Tryz.ntmps116
  go_wp2_with (go_at_call 56; refine HHS.out.mono ?_; rintro e w1 ⟨rfl, rfl⟩; rw [hq.out])
  go_ret
  refine LineR.yes (x' := x) (F' := F) ?_ hno.out ?_
  · exact (HS.out.two 3 2 _ _).1
  · obtain ⟨_, a1, a2, a3, a4⟩ := HS.out.two 3 2 (.bool true) (.bool true)
    exact ⟨a1, a3, a4, HS.out.gh, HS.out.hB, a2⟩
set_option maxHeartbeats 4000000 in
set_option maxRecDepth 100000 in
/-- 'relative', alone, seen before -/
theorem rLineRel2 (w : World) (B g h : Nat) (x : Vs) (st : RS) (F : List Nat) (v : Value) (hs : St w B g h x st F) (hv : kdW.rd w 0 w.heap.size v [wRel]) (he : hasT [wRel] ByteArray.empty = false) (hr : st.sr = true) :
    Calls Tryz.prog 116 #[.pointer (some ⟨g, 0, none⟩), .pointer (some ⟨h, 0, none⟩), v] w (LineR w B g h st [wRel]) := by
  have HHS : Hid (Calls Tryz.prog 56 #[v, .string ByteArray.empty] w fun e w' => e = .returned (.bool (hasT [wRel] ByteArray.empty)) ∧ w = w') := Lib.hid ((rHasC [wRel] v ByteArray.empty w hv).mono fun e w' h => ⟨h.1, h.2.symm⟩)
  have hq : Hid (hasT [wRel] ByteArray.empty = false) := Lib.hid he
  have hno : Hid (lineO st [wRel] = none) := Lib.hid (by
    unfold lineO; rw [if_neg (by rw [he]; decide)]; simp [hr])
  obtain ⟨A, c, rfl, hc1, hc2⟩ := rdW_form hv
  obtain ⟨b, off, rfl, _, hb2, hx0⟩ := rdW_at hv (i := 0) (by simp)
  have hx0' : w.cell? ⟨b, off, none⟩ = some (.string ⟨#[114, 101, 108, 97, 116, 105, 118, 101]⟩) := by
    have h9 : w.cell? ⟨b, off, none⟩ = some (.string wRel) := by simpa using hx0
    exact h9
  have HS := Lib.hid hs
  have k3 := hs.bh.cell 2 rfl
  have k4 := hs.bh.fz 2
  have k5 := hs.bg.fz 3
  have k6 := hs.bg.cell 3 rfl
  have hne : ¬ g = h := by have := hs.gh; omega
  have hne2 : ¬ h = g := by have := hs.gh; omega
  rw [hr] at k3
  clear hs hv he hx0
  go_enter Tryz.func116, Tryz.ntmps116
  go_wp2_with (go_at_call 56; refine HHS.out.mono ?_; rintro e w1 ⟨rfl, rfl⟩; rw [hq.out])
  go_ret
  exact LineR.no (HS.out.kpt (Below.refl _ _)) hno.out
end Go.Proofs.YteikagdinecfoaaGreatDoor.Rx
