/- NamesSets: every name in every set, the lists, one by one, left anywhere. For every text and numbers, no condition. (The walk.) -/
import Derived.Deep.Cut
import Derived.Test.YtknpppppjmhomaaDoorNl
import Derived.Test.YtknpppppjmhomaaDoorStr
import Derived.Test.YtknpppppjmhomaaDoorMisc
import Derived.Test.YtknpppppjmhomaaDoorLv2
import Derived.Laws.OwnMore
import Derived.Sort.CutIn
import Derived.Test.YtknpppppjmhomaaDoorAwake
set_option linter.unusedVariables false
set_option linter.unusedSimpArgs false
namespace Go.Proofs.YtknpppppjmhomaaDoor.namesSets
open Go.RowKit Lb Fl Is Aw Nl Al Rl Ms St Go.Shelf Go.Proofs.YtknpppppjmhomaaDoor.So

attribute [local go_sem] Oper.semAt_some
theorem resS : Tryd.f9.results = #[.cell 6 4] := rfl
/-- what lies in memory behind the lists -/
def Ph (w : World) (t : Int) (b5 b6 b12 : Nat) (L : List ByteArray) (v8 v10 vw : Value) (wx : World) : Prop :=
  Below w.heap.size w wx ∧ Bv 3 wx b5 (.int .i64 t) ∧ Bv 4 wx b6 (.bool false) ∧ Bv 25 wx b12 vw ∧ Fl.Own wx w.heap.size v10 L ∧ Fl.Own wx w.heap.size vw L
def Ph8 (w : World) (v8 : Value) (n : Nat) (wx : World) : Prop := ∃ lx : List ByteArray, lx.length = n ∧ Fl.Own wx w.heap.size v8 lx
def Sep (w : World) (b5 b6 b12 : Nat) (v8 v10 vw : Value) : Prop := w.heap.size ≤ b5 ∧ w.heap.size ≤ b6 ∧ w.heap.size ≤ b12 ∧ b5 ≠ b6 ∧ b5 ≠ b12 ∧ b6 ≠ b12 ∧ ∀ g, v8.ownBlock = some g → w.heap.size ≤ g ∧ g ≠ b5 ∧ g ≠ b6 ∧ g ≠ b12 ∧ v10.ownBlock ≠ some g ∧ vw.ownBlock ≠ some g
def Mid (w : World) (t : Int) (b5 b6 b12 : Nat) (L : List ByteArray) (v8 v10 : Value) (wx : World) : Prop :=
  ∃ A c, Ph w t b5 b6 b12 L v8 v10 (.slice A L.length c) wx ∧ Ph8 w v8 L.length wx ∧ Sep w b5 b6 b12 v8 v10 (.slice A L.length c)
def oob (k : Int) : Bool := decide (k < 0) || decide (16 ≤ k)
theorem oob_t {k : Int} (h : oob k = true) : ¬ (0 ≤ k ∧ k < 16) := by simp [oob] at h; omega
theorem oob_f {k : Int} (h : oob k = false) : 0 ≤ k ∧ k < 16 := by simp [oob] at h; omega
theorem Ph.below {w : World} {t : Int} {b5 b6 b12 : Nat} {L : List ByteArray} {v8 v10 vw : Value} {wx wy : World} (h : Ph w t b5 b6 b12 L v8 v10 vw wx) (hb : Below wx.heap.size wx wy) : Ph w t b5 b6 b12 L v8 v10 vw wy :=
  ⟨seq h.1 hb, h.2.1.below hb, h.2.2.1.below hb, h.2.2.2.1.below hb, h.2.2.2.2.1.below hb, h.2.2.2.2.2.below hb⟩
theorem Ph.kept {w : World} {t : Int} {b5 b6 b12 : Nat} {L : List ByteArray} {v8 v10 vw : Value} {wx wy : World} {row : Option Nat} (h : Ph w t b5 b6 b12 L v8 v10 vw wx) (hg : wx.grownBy wy row) (hr : ∀ r, row = some r → w.heap.size ≤ r ∧ ∃ o : Obj, wx.heap[r]? = some o ∧ o.isCells = false) : Ph w t b5 b6 b12 L v8 v10 vw wy :=
  ⟨h.1.grown hg h.1.size (fun k e => (hr k e).1), h.2.1.grown hg (fun e => by obtain ⟨_, o, h1, h2⟩ := hr _ e.symm; exact h.2.1.is h1 h2 rfl), h.2.2.1.grown hg (fun e => by obtain ⟨_, o, h1, h2⟩ := hr _ e.symm; exact h.2.2.1.is h1 h2 rfl),
   h.2.2.2.1.grown hg (fun e => by obtain ⟨_, o, h1, h2⟩ := hr _ e.symm; exact h.2.2.2.1.is h1 h2 rfl), own_kept h.2.2.2.2.1 hg (fun r e => (hr r e).2), own_kept h.2.2.2.2.2 hg (fun r e => (hr r e).2)⟩
theorem Ph.put {w : World} {t : Int} {b5 b6 b12 : Nat} {L : List ByteArray} {v8 v10 vw : Value} {wx : World} (h : Ph w t b5 b6 b12 L v8 v10 vw wx) {b : Nat} (s0 : w.heap.size ≤ b) (s1 : b5 ≠ b) (s2 : b6 ≠ b) (s3 : b12 ≠ b) (s4 : v10.ownBlock ≠ some b) (s5 : vw.ownBlock ≠ some b) (u : Value) : Ph w t b5 b6 b12 L v8 v10 vw (wx.setCell ⟨b, 0, none⟩ u) :=
  ⟨h.1.setCell (p := ⟨b, 0, none⟩) s0 _, h.2.1.other s1 _, h.2.2.1.other s2 _, h.2.2.2.1.other s3 _, Fl.Own.other' h.2.2.2.2.1 s4, Fl.Own.other' h.2.2.2.2.2 s5⟩
theorem zip_snoc {L : List ByteArray} {pre : List (Nat × ByteArray)} {x : Nat × ByteArray} (h : pre = zip L pre.length) (hl : pre.length < L.length) (h1 : x.1 = pre.length) (h2 : x.2 = L[pre.length]) : pre ++ [x] = zip L (pre ++ [x]).length := by
  rw [List.length_append, List.length_singleton, zip_succ, ← h, List.getD_eq_getElem?_getD, List.getElem?_eq_getElem hl, Option.getD_some, ← h2, ← h1]
theorem zip_not {L : List ByteArray} {pre : List (Nat × ByteArray)} {x : Nat × ByteArray} (hl : pre.length < L.length) (h : ¬ (x.1 = pre.length ∧ x.2 = L[pre.length])) : pre ++ [x] ≠ zip L (pre ++ [x]).length := by
  rw [List.length_append, List.length_singleton, zip_succ]
  intro e
  have h1 := List.append_inj_right e (by rw [zip_len])
  rw [List.getD_eq_getElem?_getD, List.getElem?_eq_getElem hl, Option.getD_some] at h1
  injection h1 with h1
  exact h ⟨by rw [h1], by rw [h1]⟩
theorem Ph.set {w : World} {t : Int} {b5 b6 b12 : Nat} {L : List ByteArray} {v8 v10 vw : Value} {wx : World} (h : Ph w t b5 b6 b12 L v8 v10 vw wx) (hs : Sep w b5 b6 b12 v8 v10 vw) {g : Nat} (hg : v8.ownBlock = some g) (j : Nat) (u : Value) : Ph w t b5 b6 b12 L v8 v10 vw (wx.setCell ⟨g, j, none⟩ u) := by
  obtain ⟨_, _, _, _, _, _, hs⟩ := hs
  obtain ⟨s0, s1, s2, s3, s4, s5⟩ := hs g hg
  exact ⟨h.1.setCell (p := ⟨g, j, none⟩) s0 _, h.2.1.other (by exact fun e => s1 e.symm) _, h.2.2.1.other (by exact fun e => s2 e.symm) _, h.2.2.2.1.other (by exact fun e => s3 e.symm) _, Fl.Own.other' h.2.2.2.2.1 s4, Fl.Own.other' h.2.2.2.2.2 s5⟩

set_option maxHeartbeats 8000000 in
set_option maxRecDepth 100000 in
theorem walk (s : ByteArray) (k t : Int) (w : World) (ht : Tab w) : Calls Tryd.prog 9 #[.string s, .int .i64 k, .int .i64 t] w fun e w' => e = .returned (.bool true) ∧ Below w.heap.size w w' := by
  have hro : Fence.wide.round = none := rfl
  have HT : Hid (∀ W, Below w.heap.size w W → Tab W) := Lib.hid fun W h => ht.below h
  have HL : Hid (∀ W, Tab W → CallsIn Fence.wide 8 Tryd.prog 46 #[.int .i64 k] W fun e w' => ∃ A c, e = .returned (.tuple #[.slice A (allL k).length c, .int .i64 (errK k)]) ∧ Fl.Own w' W.heap.size (.slice A (allL k).length c) (allL k) ∧ Below W.heap.size W w') := Lib.hid fun W h => (callsIn_wide (n := 8)).2 (nListC k W h)
  have HI : Hid (∀ W, Tab W → CallsIn Fence.wide 8 Tryd.prog 47 #[.string s, .int .i64 k] W fun e w' => e = .returned (.bool (inS s k)) ∧ Below W.heap.size W w') := Lib.hid fun W h => (callsIn_wide (n := 8)).2 (nIn s k W h)
  have HRI : Hid (∀ W, CallsIn Fence.wide 8 Tryd.prog 48 #[.string s, .int .i64 k] W fun e w' => e = .returned (.bool (inS s k)) ∧ Below W.heap.size W w') := Lib.hid fun W => (callsIn_wide (n := 8)).2 (rIn s k W)
  have HAW : Hid (∀ W, Tab W → CallsIn Fence.wide 8 Tryd.prog 14 #[] W fun e w' => e = .returned (.bool true) ∧ Below W.heap.size W w') := Lib.hid fun W h => (callsIn_wide (n := 8)).2 (awake W h)
  have hall := all_len k
  have hRL : 0 ≤ k → k < 16 → ∀ W, CallsIn Fence.wide 8 Tryd.prog 49 #[.int .i64 k] W fun e w' => RetS W (allL k) e w' := fun h0 h1 W => (callsIn_wide (n := 8)).2 (rListA h0 h1 W)
  have hL0 : ¬ (0 ≤ k ∧ k < 16) → allL k = [] := fun h => by unfold allL; rw [if_neg h]
  have HST := Lib.hid (fun (n : Nat) (hn : 2 ≤ n) (Bs : Nat) (Kp : World → World → Prop) (Safe : World → Nat → Prop) (hkp : Al.Leaves Kp Safe) (w : World) (ht : Tab w) hBl hBs hsafe => allStops n hn Bs k Kp Safe hkp w ht hBl hBs hsafe)
  generalize allL k = L at *
  have HRL := Lib.hid hRL
  have HL0 := Lib.hid hL0
  have EY := Lib.hid (@errK_y k)
  have EN := Lib.hid (@errK_n k)
  clear ht hRL hL0
  refine (callsIn_wide (n := 9)).1 ?_
  refine callsIn_of_wp_marks Tryd.func9 rfl trivial ?_ hro
  simp only [Tryd.ntmps9, List.size_toArray, List.length_cons, List.length_nil, Nat.reduceAdd, Nat.reduceSub, Array.replicate_succ, Array.replicate_zero, List.push_toArray, List.append_toArray, List.nil_append, List.cons_append]
  gi_upto_region 2 with fail
  obtain ⟨X, hX⟩ : ∃ X, X = (w.alloc (.cells #[.int .i64 t] 3)).alloc (.cells #[.bool false] 4) := ⟨_, rfl⟩
  have h50 : Bv 3 (w.alloc (.cells #[.int .i64 t] 3)) w.heap.size (.int .i64 t) := Bv.new w _ _ rfl
  have h60 : Bv 4 X (w.heap.size + 1) (.bool false) := hX ▸ Bv.new _ _ _ (by simp)
  have h5 : Bv 3 X w.heap.size (.int .i64 t) := hX ▸ h50.below ((Below.refl _ _).alloc (Nat.le_refl _) _)
  have hbX : Below w.heap.size w X := hX ▸ ((Below.refl _ _).alloc (Nat.le_refl _) _).alloc (by simp) _
  have hzX : X.heap.size = w.heap.size + 2 := by rw [hX]; simp
  rw [show (w.alloc (.cells #[.int .i64 t] 3)).alloc (.cells #[.bool false] 4) = X from hX.symm]
  have H5 := Lib.hid h5
  have H6 := Lib.hid h60
  have HZX := Lib.hid hzX
  clear hX h50 h60 h5 hzX
  gi_upto_region 3 with (refine ⟨trivial, ?_⟩; gi_at_call 46; refine (HL.out _ (HT.out _ hbX)).mono ?_; rintro e w1 ⟨A8, c8, rfl, ho8, hb1⟩)
  have hb01 := seq hbX hb1
  gi_upto_region 4 with (refine ⟨trivial, ?_⟩; gi_at_call 46; refine (HL.out _ (HT.out _ hb01)).mono ?_; rintro e w2 ⟨A10, c10, rfl, ho10, hb2⟩)
  have hb02 := seq hb01 hb2
  gi_upto_region 7 with (first
    | (refine ⟨trivial, ?_⟩; gi_at_call 47; refine (HI.out _ (HT.out _ hb02)).mono ?_; rintro e w3 ⟨rfl, hb3⟩; have hb03 := seq hb02 hb3)
    | (refine ⟨trivial, ?_⟩; gi_at_call 48; refine (HRI.out _).mono ?_; rintro e w4 ⟨rfl, hb4⟩; have hb04 := seq hb03 hb4))
  obtain ⟨Y, hY⟩ : ∃ Y, Y = w4.alloc (.cells #[.slice none 0 0] 25) := ⟨_, rfl⟩
  have hbY : Below w4.heap.size w4 Y := hY ▸ (Below.refl _ _).alloc (Nat.le_refl _) _
  obtain ⟨b12, hb12⟩ : ∃ b12, b12 = w4.heap.size := ⟨_, rfl⟩
  have h12 : Bv 25 Y b12 (.slice none 0 0) := hY ▸ Bv.new w4 _ _ hb12.symm
  rw [show w4.alloc (.cells #[.slice none 0 0] 25) = Y from hY.symm, ← hb12]
  have hb24 : Below w2.heap.size w2 Y := seq (seq hb3 hb4) hbY
  have hz1 := hb1.size
  have hz2 := hb2.size
  have hz3 := hb3.size
  have hz4 := hb4.size
  have hzX := HZX.out
  have hbl : w.heap.size + 2 ≤ b12 := by omega
  have HO8 : Hid (Fl.Own Y X.heap.size (.slice A8 L.length c8) L) := Lib.hid ((ho8.below hb2).below hb24)
  have HO10 : Hid (Fl.Own Y w1.heap.size (.slice A10 L.length c10) L) := Lib.hid (ho10.below hb24)
  have H5 : Hid (Bv 3 Y w.heap.size (.int .i64 t)) := Lib.hid (((H5.out.below hb1).below hb2).below hb24)
  have H6 : Hid (Bv 4 Y (w.heap.size + 1) (.bool false)) := Lib.hid (((H6.out.below hb1).below hb2).below hb24)
  have H12 := Lib.hid h12
  have hbY0 := seq hb04 hbY
  have hg8 : ∀ g, (Value.slice A8 L.length c8).ownBlock = some g → X.heap.size ≤ g ∧ g < w1.heap.size := fun g h => ho8.lt g h
  have hg10 : ∀ g, (Value.slice A10 L.length c10).ownBlock = some g → w1.heap.size ≤ g ∧ g < w2.heap.size := fun g h => ho10.lt g h
  have G10 : Hid (∀ g, (Value.slice A10 L.length c10).ownBlock = some g → g ≠ b12) := Lib.hid fun g h => by have := hg10 g h; omega
  have G8 : Hid (∀ g, (Value.slice A8 L.length c8).ownBlock = some g → g ≠ b12) := Lib.hid fun g h => by have := hg8 g h; omega
  have hYb : b12 < Y.heap.size := h12.lt
  have HSAME : Hid (∀ W A n c B m d, Fl.Rd W A n L → Fl.Rd W B m L → CallsIn Fence.wide 8 Tryd.prog 18 #[.slice A n c, .slice B m d] W fun e w' => e = .returned (.bool true) ∧ Below W.heap.size W w') := Lib.hid fun W A n c B m d h1 h2 => by
    have e : sameL L L = true := by unfold sameL; simp
    have h3 := h1.len
    have h4 := h2.len
    have := lSame (c := c) (d := d) W h1 h2 (by omega) (by omega)
    rw [e] at this
    exact (callsIn_wide (n := 8)).2 this
  have HSEP : Hid (∀ vw : Value, (∀ g, vw.ownBlock = some g → b12 ≤ g) → Sep w w.heap.size (w.heap.size + 1) b12 (.slice A8 L.length c8) (.slice A10 L.length c10) vw) := Lib.hid fun vw hvw =>
    ⟨by omega, by omega, by omega, by omega, by omega, by omega, fun g hg => by
      have h1 := hg8 g hg
      refine ⟨by omega, by omega, by omega, by omega, fun e => ?_, fun e => ?_⟩
      · have := hg10 g e; omega
      · have := hvw g e; omega⟩
  clear hg8 hg10 hY hbY h12 ho8 ho10 hb1 hb2 hb3 hb4 hb01 hb02 hb03 hb04 hb24 HI HRI HL hbX hb12
  gi_upto_region 7 with fail
  gi_cut [8, 9, 10, 11, 12, 41] from 18 (fun s8 s9 s10 s11 s12 s41 wx => Y = wx ∧ s8 = .slice A8 L.length c8 ∧ s9 = .int .i64 (errK k) ∧ s10 = .slice A10 L.length c10 ∧ s11 = .int .i64 (errK k) ∧ s12 = .pointer (some ⟨b12, 0, none⟩) ∧ s41 = .bool (oob k))
  case first =>
    by_cases h0 : k < 0
    · have ho : oob k = true := by simp [oob, h0]
      have HOB := Lib.hid ho
      clear ho
      gi_wp2
      gi_meet
      case rel => exact ⟨rfl, rfl, rfl, rfl, rfl, rfl, congrArg Value.bool HOB.out.symm⟩
    · by_cases h1 : (16 : Int) ≤ k
      · have ho : oob k = true := by simp [oob, h1]
        have HOB := Lib.hid ho
        clear ho
        gi_wp2
        gi_meet
        case rel => exact ⟨rfl, rfl, rfl, rfl, rfl, rfl, congrArg Value.bool HOB.out.symm⟩
      · have ho : oob k = false := by simp [oob, h0, h1] <;> omega
        have HOB := Lib.hid ho
        clear ho
        gi_wp2
        gi_meet
        case rel => exact ⟨rfl, rfl, rfl, rfl, rfl, rfl, congrArg Value.bool HOB.out.symm⟩
  case rest =>
  obtain ⟨rfl, rfl, rfl, rfl, rfl, rfl, rfl⟩ := hcut
  gi_upto_if 41 with fail
  gi_cut [] from 18 (fun wx => Mid w t w.heap.size (w.heap.size + 1) b12 L (.slice A8 L.length c8) (.slice A10 L.length c10) wx)
  case first =>
    cases hob : oob k
    · have hk := oob_f hob
      have HRL1 := Lib.hid (HRL.out hk.1 hk.2)
      have he0 : (errK k != 0) = false := by rw [EY.out hk]; rfl
      have hc12 := H12.out.c
      have hf12 := H12.out.f
      clear hk
      gi_upto_region 11 with (refine ⟨trivial, ?_⟩; gi_at_call 49; refine (HRL1.out _).mono ?_; rintro e w5 ⟨A5, c5, rfl, ho5, hb5⟩; have h12 := H12.out.below hb5; have hc5 := h12.c; have hf5 := h12.f)
      have hzY := hb5.size
      have hlt5 := ho5.lt
      obtain ⟨Z, hZ⟩ : ∃ Z, Z = w5.setCell ⟨b12, 0, none⟩ (.slice A5 L.length c5) := ⟨_, rfl⟩
      rw [show w5.setCell ⟨b12, 0, none⟩ (.slice A5 L.length c5) = Z from hZ.symm]
      have hP : Ph w t w.heap.size (w.heap.size + 1) b12 L (.slice A8 L.length c8) (.slice A10 L.length c10) (.slice A5 L.length c5) Z := by
        rw [hZ]
        refine ⟨(seq hbY0 hb5).setCell (p := ⟨b12, 0, none⟩) (by show w.heap.size ≤ b12; omega) _, (H5.out.below hb5).other (by show w.heap.size ≠ b12; omega) _, (H6.out.below hb5).other (by show w.heap.size + 1 ≠ b12; omega) _, h12.set _, ?_, ?_⟩
        · exact own_mono (Fl.Own.other' (HO10.out.below hb5) (fun e => G10.out _ e rfl)) (by omega)
        · exact own_mono (Fl.Own.other' ho5 (fun e => by have h := hlt5 _ e; simp at h; omega)) (by omega)
      have hP8 : Fl.Own Z w.heap.size (.slice A8 L.length c8) L := by
        rw [hZ]
        exact own_mono (Fl.Own.other' (HO8.out.below hb5) (fun e => G8.out _ e rfl)) (by omega)
      have hsep := HSEP.out (.slice A5 L.length c5) (fun g h => by have h := hlt5 _ h; omega)
      have hcz := hP.2.2.2.1.c
      have HP := Lib.hid hP
      have HP8 := Lib.hid hP8
      have HSP := Lib.hid hsep
      clear hZ hP hP8 hsep hlt5 hc5 hf5 hc12 hf12 h12 ho5
      gi_wp2_with (refine ⟨trivial, ?_⟩; gi_at_call 18; refine (HSAME.out _ _ _ _ _ _ _ HP8.out.rd HP.out.2.2.2.2.2.rd).mono ?_; rintro e w6 ⟨rfl, hb6⟩)
      gi_meet
      case rel => exact ⟨A5, c5, HP.out.below hb6, ⟨L, rfl, HP8.out.below hb6⟩, HSP.out⟩
    · have hk := oob_t hob
      have hL := HL0.out hk
      have he1 : (errK k != 41) = false := by rw [EN.out hk]; rfl
      have hl0 : ((L.length : Int) != 0) = false := by rw [hL]; rfl
      have hq := HO8.out
      have hq10 := HO10.out
      have hm : Mid w t w.heap.size (w.heap.size + 1) b12 L (.slice A8 L.length c8) (.slice A10 L.length c10) Y := by
        refine ⟨none, 0, ⟨hbY0, H5.out, H6.out, ?_, own_mono hq10 (by omega), ?_⟩, ⟨L, rfl, own_mono hq (by omega)⟩, HSEP.out _ (fun g h => by cases h)⟩
        · rw [hL]; exact H12.out
        · rw [hL]; exact Fl.Own.nil _ _
      have HM := Lib.hid hm
      clear hq hq10 hm hL hk
      gi_wp2
      gi_meet
      case rel => exact HM.out
  case rest =>
    obtain ⟨AW, cW, hP, hP8, hsep⟩ := hcut
    obtain ⟨b5, hb5⟩ : ∃ b5, b5 = w.heap.size := ⟨_, rfl⟩
    obtain ⟨b6, hb6⟩ : ∃ b6, b6 = w.heap.size + 1 := ⟨_, rfl⟩
    have hP' : Ph w t b5 b6 b12 L (.slice A8 L.length c8) (.slice A10 L.length c10) (.slice AW L.length cW) wc := by rw [hb5, hb6]; exact hP
    have hsep' : Sep w b5 b6 b12 (.slice A8 L.length c8) (.slice A10 L.length c10) (.slice AW L.length cW) := by rw [hb5, hb6]; exact hsep
    rw [← hb6]
    have hbb : b5 < b6 ∧ b6 < b12 := by omega
    have HP := Lib.hid hP'
    have HP8 := Lib.hid hP8
    have HSP := Lib.hid hsep'
    rw [show (Value.pointer (some ⟨w.heap.size, 0, none⟩)) = Value.pointer (some ⟨b5, 0, none⟩) from by rw [hb5]]
    have hwb : w.heap.size ≤ b5 := by omega
    clear hP hP8 hsep hP' hsep' hb5 hb6 HO8 HO10 H5 H6 H12 HSEP G8 G10 hbY0 hYb HZX hbl hz1 hz2 hz3 hz4 hzX HL0 EY EN HRL
    obtain ⟨sp, hsp⟩ : ∃ sp : ByteArray, sp = ⟨#[115, 112, 111, 105, 108, 116]⟩ := ⟨_, rfl⟩
    have HSPO := Lib.hid hsp
    clear hsp
    gi_upto_region 14 with fail
    gi_loopw [69] (fun i wr => ∃ j : Nat, j ≤ L.length ∧ i = .int .i64 j ∧ Hid (Ph w t b5 b6 b12 L (.slice A8 L.length c8) (.slice A10 L.length c10) (.slice AW L.length cW) wr) ∧ Hid (Ph8 w (.slice A8 L.length c8) L.length wr)) (fun i _ => L.length - (intOf i).toNat)
    case atStart => exact ⟨0, Nat.zero_le _, rfl, HP, HP8⟩
    case round =>
      clear HP HP8
      obtain ⟨j, hj, rfl, HP, HP8⟩ := hrel
      by_cases hlt : j < L.length
      · obtain ⟨lx, hlx, hown⟩ := HP8.out
        have hjx : j < lx.length := by omega
        obtain ⟨g, rfl, hg1, hg2, hfz, hcl, hst⟩ := hown.store hjx sp
        have HPn := Lib.hid (HP.out.set HSP.out (g := g) rfl j (.string sp))
        have HQn : Hid (Ph8 w (.slice (some ⟨g, 0, none⟩) L.length c8) L.length (wr.setCell ⟨g, j, none⟩ (.string sp))) := Lib.hid ⟨_, by rw [List.length_set]; exact hlx, hst⟩
        rw [HSPO.out] at HPn HQn
        have hb3 : (j : Int) < (L.length : Int) := by omega
        have hb0 : (0 : Int) ≤ (j : Int) := by omega
        clear hst hown hg1 hg2 hlx
        gi_wp2
        go_roundw
        case rel => exact ⟨j + 1, by omega, by go_num, HPn, HQn⟩
        case measure => simp [intOf] <;> omega
      · obtain rfl : j = L.length := by omega
        have hc12 := HP.out.2.2.2.1.c
        gi_upto_region 20 with (refine ⟨trivial, ?_⟩; gi_at_call 18; refine (HSAME.out _ _ _ _ _ _ _ HP.out.2.2.2.2.1.rd HP.out.2.2.2.2.2.rd).mono ?_; rintro e w7 ⟨rfl, hb7⟩)
        have HP := Lib.hid (HP.out.below hb7)
        clear hc12 HP8 hb7
        gi_upto_region 21 with fail
        obtain ⟨X0, hX0⟩ : ∃ X0, X0 = w7.alloc (.cells #[.int .i64 0] 3) := ⟨_, rfl⟩
        obtain ⟨b14, hb14⟩ : ∃ b14, b14 = w7.heap.size := ⟨_, rfl⟩
        have hbX0 : Below w7.heap.size w7 X0 := hX0 ▸ (Below.refl _ _).alloc (Nat.le_refl _) _
        have h14 : Bv 3 X0 b14 (.int .i64 0) := hX0 ▸ Bv.new _ _ _ hb14.symm
        have hq12 := HP.out.2.2.2.1.lt
        have hq : b12 < b14 := by omega
        rw [show w7.alloc (.cells #[.int .i64 0] 3) = X0 from hX0.symm, ← hb14]
        have HPX := Lib.hid (HP.out.below hbX0)
        have H14 := Lib.hid h14
        clear hX0 hb14 hbX0 h14 hq12 HP
        refine wpIn_loop_rounds 3 ?_
        have hc14 := H14.out.c
        have hf14 := H14.out.f
        rw [roundsIn_succ]
        gi_upto_region 24 with fail
        obtain ⟨Y1, hY1⟩ : ∃ Y1, Y1 = X0.alloc (.cells #[.int .i64 0] 3) := ⟨_, rfl⟩
        obtain ⟨b15, hb15⟩ : ∃ b15, b15 = X0.heap.size := ⟨_, rfl⟩
        have hbY1 : Below X0.heap.size X0 Y1 := hY1 ▸ (Below.refl _ _).alloc (Nat.le_refl _) _
        have h15 : Bv 3 Y1 b15 (.int .i64 0) := hY1 ▸ Bv.new _ _ _ hb15.symm
        have hG10 : ∀ g, (Value.slice A10 L.length c10).ownBlock = some g → g ≠ b15 := fun g h => by have h1 := HPX.out.2.2.2.2.1.lt g h; omega
        have hGW : ∀ g, (Value.slice AW L.length cW).ownBlock = some g → g ≠ b15 := fun g h => by have h1 := HPX.out.2.2.2.2.2.lt g h; omega
        have HG := Lib.hid (And.intro hG10 hGW)
        have h14y := H14.out.below hbY1
        have hPy := HPX.out.below hbY1
        have h14l := H14.out.lt
        rw [show X0.alloc (.cells #[.int .i64 0] 3) = Y1 from hY1.symm, ← hb15]
        have hq15 : b14 < b15 := by omega

        have H15 := Lib.hid h15
        have H14y := Lib.hid h14y
        have HPy := Lib.hid hPy
        clear hY1 hb15 hbY1 hc14 hf14 h15 h14y hPy hG10 hGW
        gi_cut [85] from 18 (fun s85 wx => s85 = .func (.func 74) #[] #[.pointer (some ⟨Y1.heap.size, 0, none⟩)] ∧ wx = Y1.alloc (.cells #[.int .i64 k] 22))
        case first =>
          gi_wp2_with (refine ⟨trivial, ?_⟩; gi_at_call 50; refine (allIn _ (by omega) _ _).mono ?_; rintro e w2 ⟨rfl, rfl⟩)
          gi_meet
          case rel => exact ⟨rfl, rfl⟩
        case rest =>
          obtain ⟨rfl, hwc⟩ := hcut
          obtain ⟨bS, hbS⟩ : ∃ bS, bS = Y1.heap.size := ⟨_, rfl⟩
          have hcs : wc.cell? ⟨bS, 0, none⟩ = some (.int .i64 k) := by rw [hwc, hbS, World.cell?_alloc_new]; rfl
          have hbwc : Below Y1.heap.size Y1 wc := hwc ▸ (Below.refl _ _).alloc (Nat.le_refl _) _
          have h15w := H15.out.below hbwc
          have h14w := H14y.out.below hbwc
          have hPw := HPy.out.below hbwc
          have hzw : bS < wc.heap.size := by rw [hwc, hbS]; simp
          have hz15 := h15w.lt
          rw [← hbS]
          have hww0 : w.heap.size ≤ wc.heap.size := hPw.1.size
          have HC := Lib.hid (And.intro hcs (And.intro h15w (And.intro h14w hPw)))
          clear hwc hbS hbwc hcs h15w h14w hPw
          gi_wp2
          refine wpIn_rangeFunc_ownG hro (by omega) (gf := 74) (lb := #[.pointer (some ⟨bS, 0, none⟩)]) rfl trivial (enters_of Tryd.func74 (by kernel_rfl) rfl)
            (HST.out 8 (by omega) bS (KpN b15) (fun _ g => g ≠ b15) (leavesN b15) wc (HT.out _ HC.out.2.2.2.1) hzw HC.out.1 (fun W2 h g hg => by show g ≠ b15; omega)) kpN_t (fun W l o o' _ h1 h2 _ => kpN_put W l o o' h1 h2) (Below.refl _ _) (fun _ => rfl)
            (fun pre W => Bv 3 W b15 (.int .i64 (pre.length : Int)) ∧ Bv 3 W b14 (.int .i64 0) ∧ Ph w t b5 b6 b12 L (.slice A8 L.length c8) (.slice A10 L.length c10) (.slice AW L.length cW) W ∧ pre = zip L pre.length)
            (fun cd pre W => (cd = .ret ∧ pre ≠ zip L pre.length) ∨ (cd = .exit 4 ∧ (pre.length : Int) = t ∧ Bv 3 W b15 (.int .i64 (pre.length : Int)) ∧ Bv 3 W b14 (.int .i64 0) ∧ Ph w t b5 b6 b12 L (.slice A8 L.length c8) (.slice A10 L.length c10) (.slice AW L.length cW) W))
            (fun pre W W' row hs hg hrow => ⟨hs.1.grown hg (fun e => by obtain ⟨_, o, h1, h2⟩ := hrow _ e.symm; exact hs.1.is h1 h2 rfl), hs.2.1.grown hg (fun e => by obtain ⟨_, o, h1, h2⟩ := hrow _ e.symm; exact hs.2.1.is h1 h2 rfl), hs.2.2.1.kept hg (fun r e => ⟨by have := (hrow r e).1; omega, (hrow r e).2⟩), hs.2.2.2⟩)
            (fun cd pre W W' row hs hg hrow => by
              rcases hs with hs | ⟨h1, h2, h3, h4, h5⟩
              · exact .inl hs
              · exact .inr ⟨h1, h2, h3.grown hg (fun e => by obtain ⟨_, o, q1, q2⟩ := hrow _ e.symm; exact h3.is q1 q2 rfl), h4.grown hg (fun e => by obtain ⟨_, o, q1, q2⟩ := hrow _ e.symm; exact h4.is q1 q2 rfl), h5.kept hg (fun r e => ⟨by have := (hrow r e).1; omega, (hrow r e).2⟩)⟩)
            ⟨HC.out.2.1, HC.out.2.2.1, HC.out.2.2.2, rfl⟩
            (fun x => { tmps := #[.string s, .int .i64 k, .int .i64 t, undef, undef, .pointer (some ⟨b5, 0, none⟩), .pointer (some ⟨b6, 0, none⟩), .int .i64 k, .slice A8 L.length c8, .int .i64 (errK k), .slice A10 L.length c10, .int .i64 (errK k), .pointer (some ⟨b12, 0, none⟩), u13, .pointer (some ⟨b14, 0, none⟩), .pointer (some ⟨b15, 0, none⟩), .int .i64 (x.1 : Int), .string x.2, u18, u19, u20, u21, u22, u23, u24, u25, u26, u27, u28, u29, u30, u31, u32, u33, u34, u35, u36, u37, u38, u39, u40, u41, u42, u43, u44, u45, u46, u47, u48, u49, u50, u51, u52, u53, u54, u55, u56, u57, u58, u59, u60, u61, u62, u63, u64, u65, u66, u67, u68, u69, u70, u71, u72, u73, u74, u75, u76, u77, u78, u79, u80, u81, u82, u83, u84, .func (.func 74) #[] #[.pointer (some ⟨bS, 0, none⟩)], .int .i64 (x.1 : Int), .string x.2, u88, u89, u90, u91, u92, u93, u94, u95, u96, u97, u98, u99, u100, u101, u102, u103, u104, u105, u106, u107, u108, u109, u110, u111, u112, u113, u114, u115, u116, u117, u118, u119, u120, u121, u122, u123, u124, u125, u126, u127, u128], defers := [] }) ?assign4 ?body4 ?done4 ?stop4
          case assign4 =>
            intro l x W K hK
            gi_wp2
            exact hK
          case body4 =>
            rintro lp pre x W ⟨hn, h14, hph, hpre⟩ hlen
            obtain ⟨bq, oq, rfl, _, hcx⟩ := hph.2.2.2.2.2.rd.get hlen
            have hcw := hcx W (Below.refl _ _)
            have hcn := hn.c
            have hfn := hn.f
            have hc14 := h14.c
            have hc12 := hph.2.2.2.1.c
            have hc5 := hph.2.1.c
            have hc6 := hph.2.2.1.c
            have hf6 := hph.2.2.1.f
            have hb0 : (0 : Int) ≤ (pre.length : Int) := by omega
            have hb3 : (pre.length : Int) < (L.length : Int) := by omega
            have hb4 : ¬ (L.length : Int) ≤ (pre.length : Int) := by omega
            have n14 : b14 ≠ b15 := by omega
            have n5 : b5 ≠ b15 := by omega
            have HLN : Hid (((pre ++ [x]).length : Int) = (pre.length : Int) + 1) := Lib.hid (by simp)

            have HN1 : Hid (Bv 3 (W.setCell ⟨b15, 0, none⟩ (.int .i64 ((pre.length : Int) + 1))) b15 (.int .i64 ((pre.length : Int) + 1))) := Lib.hid (hn.set _)
            have HQ : Hid (Bv 3 (W.setCell ⟨b15, 0, none⟩ (.int .i64 ((pre.length : Int) + 1))) b14 (.int .i64 0) ∧ Ph w t b5 b6 b12 L (.slice A8 L.length c8) (.slice A10 L.length c10) (.slice (some ⟨bq, oq, none⟩) L.length cW) (W.setCell ⟨b15, 0, none⟩ (.int .i64 ((pre.length : Int) + 1)))) := Lib.hid ⟨h14.other n14 _, hph.put (by omega) n5 (by omega) (by omega) (fun e => HG.out.1 _ e rfl) (fun e => HG.out.2 _ e rfl) _⟩
            by_cases e : x.1 = pre.length ∧ x.2 = L[pre.length]
            · have q1 : ((x.1 : Int) != (pre.length : Int)) = false := by rw [e.1]; simp
              have he := toList_eq_of e.2
              have he2 := toList_beq_of e.2
              have HF := Lib.hid (And.intro hpre (And.intro hlen e))
              obtain ⟨y, hy⟩ : ∃ y, y = L[pre.length] := ⟨_, rfl⟩
              rw [← hy] at hcw he he2
              clear hy hpre e hcx hn h14 hph hc6 hf6
              by_cases e3 : (pre.length : Int) + 1 = t
              · have q3 : (((pre.length : Int) + 1) == t) = true := by rw [beq_iff_eq]; exact e3
                have E3 := Lib.hid e3
                clear e3
                gi_wp2
                exact ⟨(KeepsOthers.setCell _ _ _).from _, .inr ⟨rfl, by rw [HLN.out]; exact E3.out, by rw [HLN.out]; exact HN1.out, HQ.out.1, HQ.out.2⟩⟩
              · have q3 : (((pre.length : Int) + 1) == t) = false := by rw [beq_eq_false_iff_ne]; exact e3
                clear e3
                gi_wp2
                refine ⟨(KeepsOthers.setCell _ _ _).from _, kpN_set _ _ _, ?_, HQ.out.1, HQ.out.2, zip_snoc HF.out.1 HF.out.2.1 HF.out.2.2.1 HF.out.2.2.2⟩
                rw [HLN.out]
                exact HN1.out
            · have hzn := Lib.hid (zip_not hlen e)
              by_cases e1 : x.1 = pre.length
              · have e2 : ¬ x.2 = L[pre.length] := fun h => e ⟨e1, h⟩
                have q1 : ((x.1 : Int) != (pre.length : Int)) = false := by rw [e1]; simp
                have he := toList_ne_of e2
                have he2 := toList_bne_of e2
                obtain ⟨y, hy⟩ : ∃ y, y = L[pre.length] := ⟨_, rfl⟩
                rw [← hy] at hcw he he2
                clear hy hpre e e1 e2 hcx hn h14 hph HN1 HQ
                gi_wp2
                exact ⟨(KeepsOthers.setCell _ _ _).from _, .inl ⟨rfl, hzn.out⟩⟩
              · have q1 : ((x.1 : Int) != (pre.length : Int)) = true := by rw [bne_iff_ne]; omega
                clear hpre e e1 hcx hn h14 hph HN1 HQ
                gi_wp2
                exact ⟨(KeepsOthers.setCell _ _ _).from _, .inl ⟨rfl, hzn.out⟩⟩
          case done4 =>
            rintro D ys W hD0 rfl ⟨hn, h14, hph, hpre⟩ hK
            rw [zip_len] at hn
            have hcn := hn.c
            have hc14 := h14.c
            have hf14 := h14.f
            have hc12 := hph.2.2.2.1.c
            have hc5 := hph.2.1.c
            clear hpre
            gi_wp2
            clear hcn hc14 hf14 hc12 hc5 h14
            obtain ⟨X1, hX1⟩ : ∃ X1, X1 = W.alloc (.cells #[.int .i64 1] 3) := ⟨_, rfl⟩
            obtain ⟨b14, hb14⟩ : ∃ b14, b14 = W.heap.size := ⟨_, rfl⟩
            have hbX1 : Below W.heap.size W X1 := hX1 ▸ (Below.refl _ _).alloc (Nat.le_refl _) _
            have h14 : Bv 3 X1 b14 (.int .i64 1) := hX1 ▸ Bv.new _ _ _ hb14.symm
            have hq12 := hph.2.2.2.1.lt
            have hq : b12 < b14 := by omega
            have hDl := (Array.getElem?_eq_some_iff.1 hK).1
            have hDX := (hbX1.block D hDl).trans hK
            have hDX1 := (Array.getElem?_eq_some_iff.1 hDX).1
            rw [show W.alloc (.cells #[.int .i64 1] 3) = X1 from hX1.symm, ← hb14]
            have HPX := Lib.hid (hph.below hbX1)
            have H14 := Lib.hid h14
            have HDX := Lib.hid hDX
            clear hX1 hb14 hbX1 h14 hq12 hph hn hK hDX HC HG hDl
            have hc14 := H14.out.c
            have hf14 := H14.out.f
            rw [roundsIn_succ]
            gi_upto_region 24 with fail
            obtain ⟨Y1, hY1⟩ : ∃ Y1, Y1 = X1.alloc (.cells #[.int .i64 0] 3) := ⟨_, rfl⟩
            obtain ⟨b15, hb15⟩ : ∃ b15, b15 = X1.heap.size := ⟨_, rfl⟩
            have hbY1 : Below X1.heap.size X1 Y1 := hY1 ▸ (Below.refl _ _).alloc (Nat.le_refl _) _
            have h15 : Bv 3 Y1 b15 (.int .i64 0) := hY1 ▸ Bv.new _ _ _ hb15.symm
            have hG10 : ∀ g, (Value.slice A10 L.length c10).ownBlock = some g → g ≠ b15 := fun g h => by have h1 := HPX.out.2.2.2.2.1.lt g h; omega
            have hGW : ∀ g, (Value.slice AW L.length cW).ownBlock = some g → g ≠ b15 := fun g h => by have h1 := HPX.out.2.2.2.2.2.lt g h; omega
            have HG := Lib.hid (And.intro hG10 hGW)
            have h14y := H14.out.below hbY1
            have hPy := HPX.out.below hbY1
            have h14l := H14.out.lt
            rw [show X1.alloc (.cells #[.int .i64 0] 3) = Y1 from hY1.symm, ← hb15]
            have hq15 : b14 < b15 := by omega
            have hD15 : D < b15 := by omega
            have H15 := Lib.hid h15
            have H14y := Lib.hid h14y
            have HPy := Lib.hid hPy
            have HDy := Lib.hid ((hbY1.block D hDX1).trans HDX.out)
            clear hY1 hb15 hbY1 hc14 hf14 h15 h14y hPy hG10 hGW
            gi_cut [85] from 18 (fun s85 wx => s85 = .func (.func 74) #[] #[.pointer (some ⟨Y1.heap.size, 0, none⟩)] ∧ wx = Y1.alloc (.cells #[.int .i64 k] 22))
            case first =>
              gi_wp2_with (refine ⟨trivial, ?_⟩; gi_at_call 50; refine (allIn _ (by omega) _ _).mono ?_; rintro e w2 ⟨rfl, rfl⟩)
              gi_meet
              case rel => exact ⟨rfl, rfl⟩
            case rest =>
              obtain ⟨rfl, hwc⟩ := hcut
              obtain ⟨bS, hbS⟩ : ∃ bS, bS = Y1.heap.size := ⟨_, rfl⟩
              have hcs : wc.cell? ⟨bS, 0, none⟩ = some (.int .i64 k) := by rw [hwc, hbS, World.cell?_alloc_new]; rfl
              have hbwc : Below Y1.heap.size Y1 wc := hwc ▸ (Below.refl _ _).alloc (Nat.le_refl _) _
              have h15w := H15.out.below hbwc
              have h14w := H14y.out.below hbwc
              have hPw := HPy.out.below hbwc
              have hzw : bS < wc.heap.size := by rw [hwc, hbS]; simp
              have hz15 := h15w.lt
              rw [← hbS]
              have hww : w.heap.size ≤ wc.heap.size := hPw.1.size
              have HC := Lib.hid (And.intro hcs (And.intro h15w (And.intro h14w hPw)))
              have HDw := Lib.hid ((hbwc.block D (by have := (Array.getElem?_eq_some_iff.1 HDy.out).1; omega)).trans HDy.out)
              have hDwc : D < wc.heap.size := (Array.getElem?_eq_some_iff.1 HDw.out).1
              clear hwc hbS hbwc hcs h15w h14w hPw
              gi_wp2
              refine wpIn_rangeFunc_ownG hro (by omega) (gf := 74) (lb := #[.pointer (some ⟨bS, 0, none⟩)]) rfl trivial (enters_of Tryd.func74 (by kernel_rfl) rfl)
                (HST.out 8 (by omega) bS (KpN b15) (fun _ g => g ≠ b15) (leavesN b15) wc (HT.out _ HC.out.2.2.2.1) hzw HC.out.1 (fun W2 h g hg => by show g ≠ b15; omega)) kpN_t (fun W l o o' _ h1 h2 _ => kpN_put W l o o' h1 h2) (Below.refl _ _) (fun _ => rfl)
                (fun pre W => Bv 3 W b15 (.int .i64 (pre.length : Int)) ∧ Bv 3 W b14 (.int .i64 1) ∧ Ph w t b5 b6 b12 L (.slice A8 L.length c8) (.slice A10 L.length c10) (.slice AW L.length cW) W ∧ pre = zip L pre.length ∧ W.heap[D]? = some (.deferred (some [])))
                (fun cd pre W => cd = .ret ∧ pre ≠ zip L pre.length)
                (fun pre W W' row hs hg hrow => ⟨hs.1.grown hg (fun e => by obtain ⟨_, o, h1, h2⟩ := hrow _ e.symm; exact hs.1.is h1 h2 rfl), hs.2.1.grown hg (fun e => by obtain ⟨_, o, h1, h2⟩ := hrow _ e.symm; exact hs.2.1.is h1 h2 rfl), hs.2.2.1.kept hg (fun r e => ⟨by have := (hrow r e).1; omega, (hrow r e).2⟩), hs.2.2.2.1, (hg.block D (Array.getElem?_eq_some_iff.1 hs.2.2.2.2).1 (fun e => by have := (hrow D e.symm).1; omega)).trans hs.2.2.2.2⟩)
                (fun cd pre W W' row hs hg hrow => hs)
                ⟨HC.out.2.1, HC.out.2.2.1, HC.out.2.2.2, rfl, HDw.out⟩
                (fun x => { tmps := #[.string s, .int .i64 k, .int .i64 t, undef, undef, .pointer (some ⟨b5, 0, none⟩), .pointer (some ⟨b6, 0, none⟩), .int .i64 k, .slice A8 L.length c8, .int .i64 (errK k), .slice A10 L.length c10, .int .i64 (errK k), .pointer (some ⟨b12, 0, none⟩), u13, .pointer (some ⟨b14, 0, none⟩), .pointer (some ⟨b15, 0, none⟩), .int .i64 (x.1 : Int), .string x.2, u18, u19, u20, u21, u22, u23, u24, u25, u26, u27, u28, u29, u30, u31, u32, u33, u34, u35, u36, u37, u38, u39, u40, u41, u42, u43, u44, u45, u46, u47, u48, u49, u50, u51, u52, u53, u54, u55, u56, u57, u58, u59, u60, u61, u62, u63, u64, u65, u66, u67, u68, u69, u70, u71, u72, u73, u74, u75, u76, u77, u78, u79, u80, u81, u82, u83, u84, .func (.func 74) #[] #[.pointer (some ⟨bS, 0, none⟩)], .int .i64 (x.1 : Int), .string x.2, u88, u89, u90, u91, u92, u93, u94, u95, u96, u97, u98, u99, u100, u101, u102, u103, u104, u105, u106, u107, u108, u109, u110, u111, u112, u113, u114, u115, u116, u117, u118, u119, u120, u121, u122, u123, u124, u125, u126, u127, u128], defers := [] }) ?assign1 ?body1 ?done1 ?stop1
              case assign1 =>
                intro l x W K hK
                gi_wp2
                exact hK
              case body1 =>
                rintro lp pre x W ⟨hn, h14, hph, hpre, hd1⟩ hlen
                obtain ⟨bq, oq, rfl, _, hcx⟩ := hph.2.2.2.2.2.rd.get hlen
                have hcw := hcx W (Below.refl _ _)
                have hcn := hn.c
                have hfn := hn.f
                have hc14 := h14.c
                have hc12 := hph.2.2.2.1.c
                have hc5 := hph.2.1.c
                have hc6 := hph.2.2.1.c
                have hf6 := hph.2.2.1.f
                have hb0 : (0 : Int) ≤ (pre.length : Int) := by omega
                have hb3 : (pre.length : Int) < (L.length : Int) := by omega
                have hb4 : ¬ (L.length : Int) ≤ (pre.length : Int) := by omega
                have n14 : b14 ≠ b15 := by omega
                have n5 : b5 ≠ b15 := by omega
                have HLN : Hid (((pre ++ [x]).length : Int) = (pre.length : Int) + 1) := Lib.hid (by simp)
                have HD1 := Lib.hid ((Below.heap_setCell W ⟨b15, 0, none⟩ (.int .i64 ((pre.length : Int) + 1)) D (by show D ≠ b15; omega)).trans hd1)
                have HN1 : Hid (Bv 3 (W.setCell ⟨b15, 0, none⟩ (.int .i64 ((pre.length : Int) + 1))) b15 (.int .i64 ((pre.length : Int) + 1))) := Lib.hid (hn.set _)
                have HQ : Hid (Bv 3 (W.setCell ⟨b15, 0, none⟩ (.int .i64 ((pre.length : Int) + 1))) b14 (.int .i64 1) ∧ Ph w t b5 b6 b12 L (.slice A8 L.length c8) (.slice A10 L.length c10) (.slice (some ⟨bq, oq, none⟩) L.length cW) (W.setCell ⟨b15, 0, none⟩ (.int .i64 ((pre.length : Int) + 1)))) := Lib.hid ⟨h14.other n14 _, hph.put (by omega) n5 (by omega) (by omega) (fun e => HG.out.1 _ e rfl) (fun e => HG.out.2 _ e rfl) _⟩
                by_cases e : x.1 = pre.length ∧ x.2 = L[pre.length]
                · have q1 : ((x.1 : Int) != (pre.length : Int)) = false := by rw [e.1]; simp
                  have he := toList_eq_of e.2
                  have he2 := toList_beq_of e.2
                  have HF := Lib.hid (And.intro hpre (And.intro hlen e))
                  obtain ⟨y, hy⟩ : ∃ y, y = L[pre.length] := ⟨_, rfl⟩
                  rw [← hy] at hcw he he2
                  clear hy hpre e hcx hn h14 hph hc6 hf6
                  gi_wp2
                  refine ⟨(KeepsOthers.setCell _ _ _).from _, kpN_set _ _ _, ?_, HQ.out.1, HQ.out.2, zip_snoc HF.out.1 HF.out.2.1 HF.out.2.2.1 HF.out.2.2.2, HD1.out⟩
                  rw [HLN.out]
                  exact HN1.out
                · have hzn := Lib.hid (zip_not hlen e)
                  by_cases e1 : x.1 = pre.length
                  · have e2 : ¬ x.2 = L[pre.length] := fun h => e ⟨e1, h⟩
                    have q1 : ((x.1 : Int) != (pre.length : Int)) = false := by rw [e1]; simp
                    have he := toList_ne_of e2
                    have he2 := toList_bne_of e2
                    obtain ⟨y, hy⟩ : ∃ y, y = L[pre.length] := ⟨_, rfl⟩
                    rw [← hy] at hcw he he2
                    clear hy hpre e e1 e2 hcx hn h14 hph HN1 HQ
                    gi_wp2
                    exact ⟨(KeepsOthers.setCell _ _ _).from _, ⟨rfl, hzn.out⟩⟩
                  · have q1 : ((x.1 : Int) != (pre.length : Int)) = true := by rw [bne_iff_ne]; omega
                    clear hpre e e1 hcx hn h14 hph HN1 HQ
                    gi_wp2
                    exact ⟨(KeepsOthers.setCell _ _ _).from _, ⟨rfl, hzn.out⟩⟩
              case done1 =>
                rintro D2 ys W hD rfl ⟨hn, h14, hph, hpre, hd1⟩ hK
                rw [zip_len] at hn
                have hcn := hn.c
                have hc14 := h14.c
                have hf14 := h14.f
                have hc12 := hph.2.2.2.1.c
                have hc5 := hph.2.1.c
                gi_wp2
                clear hcn hc14 hf14 hc12 hc5 h14
                obtain ⟨X2, hX2⟩ : ∃ X2, X2 = W.alloc (.cells #[.int .i64 2] 3) := ⟨_, rfl⟩
                obtain ⟨c14, hb14⟩ : ∃ b14, b14 = W.heap.size := ⟨_, rfl⟩
                have hbX2 : Below W.heap.size W X2 := hX2 ▸ (Below.refl _ _).alloc (Nat.le_refl _) _
                have h14 : Bv 3 X2 c14 (.int .i64 2) := hX2 ▸ Bv.new _ _ _ hb14.symm
                have hD1 := (hbX2.block D (Array.getElem?_eq_some_iff.1 hd1).1).trans hd1
                have hD2 := (hbX2.block D2 (Array.getElem?_eq_some_iff.1 hK).1).trans hK
                have hph2 := hph.below hbX2
                have hc14 := h14.c
                rw [show W.alloc (.cells #[.int .i64 2] 3) = X2 from hX2.symm, ← hb14]
                have HZ := Lib.hid (And.intro hph2 (And.intro hD1 hD2))
                have hDD : D ≠ D2 := by have := (Array.getElem?_eq_some_iff.1 HDw.out).1; omega
                have HDD := Lib.hid hDD
                clear hX2 hb14 hbX2 h14 hD1 hD2 hph hph2 hd1 hK hpre hn hDD
                rw [roundsIn_succ]
                gi_wp2_with (refine ⟨trivial, ?_⟩; gi_at_call 14; refine (HAW.out _ (HT.out _ HZ.out.1.1)).mono ?_; rintro e wa ⟨rfl, hba⟩; have hpa := HZ.out.1.below hba; have hc6 := hpa.2.2.1.c; have hf6 := hpa.2.2.1.f)
                have h6 := hpa.2.2.1.set (.bool true)
                have hda := (Below.heap_setCell wa ⟨b6, 0, none⟩ (.bool true) D (fun e => by have h1 := (hba.block D (Array.getElem?_eq_some_iff.1 HZ.out.2.1).1).trans HZ.out.2.1; have h2 : wa.heap[b6]? = _ := hpa.2.2.1; rw [show D = b6 from e, h2] at h1; cases h1)).trans ((hba.block D (Array.getElem?_eq_some_iff.1 HZ.out.2.1).1).trans HZ.out.2.1)
                have hda2 := (Below.heap_setCell wa ⟨b6, 0, none⟩ (.bool true) D2 (fun e => by have h1 := (hba.block D2 (Array.getElem?_eq_some_iff.1 HZ.out.2.2).1).trans HZ.out.2.2; have h2 : wa.heap[b6]? = _ := hpa.2.2.1; rw [show D2 = b6 from e, h2] at h1; cases h1)).trans ((hba.block D2 (Array.getElem?_eq_some_iff.1 HZ.out.2.2).1).trans HZ.out.2.2)
                have hbe : Below w.heap.size w (wa.setCell ⟨b6, 0, none⟩ (.bool true)) := hpa.1.setCell (p := ⟨b6, 0, none⟩) (by show w.heap.size ≤ b6; omega) _
                have hfin : ∀ Wz : World, Below w.heap.size w Wz → Wz.heap[D]? = some (.deferred (some [])) → Wz.heap[D2]? = some (.deferred (some [])) → Below w.heap.size w ((Wz.putObj D2 (.deferred none)).putObj D (.deferred none)) := fun Wz h1 h2 h3 => (h1.trans (belowK_b (w := w) (Nat.le_refl _) Wz D2 _ _ (Nat.le_trans hww hD) h3 rfl rfl)).trans (belowK_b (w := w) (Nat.le_refl _) (Wz.putObj D2 (.deferred none)) D _ _ (Nat.le_trans hww0 hD0) ((World.putObj_heap_other HDD.out).trans h2) rfl rfl)
                have hfin := hfin _ hbe hda hda2
                exact leaves2 resS rfl h6.c hda hda2 HDD.out ⟨rfl, hfin⟩
              case stop1 =>
                rintro D2 cd pre W hD hSp ⟨rfl, hne⟩ hK
                obtain ⟨j, hj, rfl⟩ := hSp
                exact absurd (by rw [zip_len]) hne

          case stop4 =>
            rintro D cd pre W hD0 hSp hx hK
            rcases hx with ⟨rfl, hne⟩ | ⟨rfl, e3, hn, h14, hph⟩
            · obtain ⟨j, hj, rfl⟩ := hSp
              exact absurd (by rw [zip_len]) hne
            · obtain ⟨j, hj, hjz⟩ := hSp
              have hjl : pre.length = j := by rw [hjz, zip_len]
              have hcn := hn.c
              have hc14 := h14.c
              have hf14 := h14.f
              have hc12 := hph.2.2.2.1.c
              have hc5 := hph.2.1.c
              have q3 : ((pre.length : Int) != t) = false := by rw [e3]; simp
              clear hjz e3
              by_cases hpl : pre.length = L.length
              · have q4 : ((pre.length : Int) != (L.length : Int)) = false := by rw [hpl]; simp
                clear hpl hjl
                gi_wp2
                clear hcn hc14 hf14 hc12 hc5 h14
                obtain ⟨X1, hX1⟩ : ∃ X1, X1 = W.alloc (.cells #[.int .i64 1] 3) := ⟨_, rfl⟩
                obtain ⟨b14, hb14⟩ : ∃ b14, b14 = W.heap.size := ⟨_, rfl⟩
                have hbX1 : Below W.heap.size W X1 := hX1 ▸ (Below.refl _ _).alloc (Nat.le_refl _) _
                have h14 : Bv 3 X1 b14 (.int .i64 1) := hX1 ▸ Bv.new _ _ _ hb14.symm
                have hq12 := hph.2.2.2.1.lt
                have hq : b12 < b14 := by omega
                have hDl := (Array.getElem?_eq_some_iff.1 hK).1
                have hDX := (hbX1.block D hDl).trans hK
                have hDX1 := (Array.getElem?_eq_some_iff.1 hDX).1
                rw [show W.alloc (.cells #[.int .i64 1] 3) = X1 from hX1.symm, ← hb14]
                have HPX := Lib.hid (hph.below hbX1)
                have H14 := Lib.hid h14
                have HDX := Lib.hid hDX
                clear hX1 hb14 hbX1 h14 hq12 hph hn hK hDX HC HG hDl
                have hc14 := H14.out.c
                have hf14 := H14.out.f
                rw [roundsIn_succ]
                gi_upto_region 24 with fail
                obtain ⟨Y1, hY1⟩ : ∃ Y1, Y1 = X1.alloc (.cells #[.int .i64 0] 3) := ⟨_, rfl⟩
                obtain ⟨b15, hb15⟩ : ∃ b15, b15 = X1.heap.size := ⟨_, rfl⟩
                have hbY1 : Below X1.heap.size X1 Y1 := hY1 ▸ (Below.refl _ _).alloc (Nat.le_refl _) _
                have h15 : Bv 3 Y1 b15 (.int .i64 0) := hY1 ▸ Bv.new _ _ _ hb15.symm
                have hG10 : ∀ g, (Value.slice A10 L.length c10).ownBlock = some g → g ≠ b15 := fun g h => by have h1 := HPX.out.2.2.2.2.1.lt g h; omega
                have hGW : ∀ g, (Value.slice AW L.length cW).ownBlock = some g → g ≠ b15 := fun g h => by have h1 := HPX.out.2.2.2.2.2.lt g h; omega
                have HG := Lib.hid (And.intro hG10 hGW)
                have h14y := H14.out.below hbY1
                have hPy := HPX.out.below hbY1
                have h14l := H14.out.lt
                rw [show X1.alloc (.cells #[.int .i64 0] 3) = Y1 from hY1.symm, ← hb15]
                have hq15 : b14 < b15 := by omega
                have hD15 : D < b15 := by omega
                have H15 := Lib.hid h15
                have H14y := Lib.hid h14y
                have HPy := Lib.hid hPy
                have HDy := Lib.hid ((hbY1.block D hDX1).trans HDX.out)
                clear hY1 hb15 hbY1 hc14 hf14 h15 h14y hPy hG10 hGW
                gi_cut [85] from 18 (fun s85 wx => s85 = .func (.func 74) #[] #[.pointer (some ⟨Y1.heap.size, 0, none⟩)] ∧ wx = Y1.alloc (.cells #[.int .i64 k] 22))
                case first =>
                  gi_wp2_with (refine ⟨trivial, ?_⟩; gi_at_call 50; refine (allIn _ (by omega) _ _).mono ?_; rintro e w2 ⟨rfl, rfl⟩)
                  gi_meet
                  case rel => exact ⟨rfl, rfl⟩
                case rest =>
                  obtain ⟨rfl, hwc⟩ := hcut
                  obtain ⟨bS, hbS⟩ : ∃ bS, bS = Y1.heap.size := ⟨_, rfl⟩
                  have hcs : wc.cell? ⟨bS, 0, none⟩ = some (.int .i64 k) := by rw [hwc, hbS, World.cell?_alloc_new]; rfl
                  have hbwc : Below Y1.heap.size Y1 wc := hwc ▸ (Below.refl _ _).alloc (Nat.le_refl _) _
                  have h15w := H15.out.below hbwc
                  have h14w := H14y.out.below hbwc
                  have hPw := HPy.out.below hbwc
                  have hzw : bS < wc.heap.size := by rw [hwc, hbS]; simp
                  have hz15 := h15w.lt
                  rw [← hbS]
                  have hww : w.heap.size ≤ wc.heap.size := hPw.1.size
                  have HC := Lib.hid (And.intro hcs (And.intro h15w (And.intro h14w hPw)))
                  have HDw := Lib.hid ((hbwc.block D (by have := (Array.getElem?_eq_some_iff.1 HDy.out).1; omega)).trans HDy.out)
                  have hDwc : D < wc.heap.size := (Array.getElem?_eq_some_iff.1 HDw.out).1
                  clear hwc hbS hbwc hcs h15w h14w hPw
                  gi_wp2
                  refine wpIn_rangeFunc_ownG hro (by omega) (gf := 74) (lb := #[.pointer (some ⟨bS, 0, none⟩)]) rfl trivial (enters_of Tryd.func74 (by kernel_rfl) rfl)
                    (HST.out 8 (by omega) bS (KpN b15) (fun _ g => g ≠ b15) (leavesN b15) wc (HT.out _ HC.out.2.2.2.1) hzw HC.out.1 (fun W2 h g hg => by show g ≠ b15; omega)) kpN_t (fun W l o o' _ h1 h2 _ => kpN_put W l o o' h1 h2) (Below.refl _ _) (fun _ => rfl)
                    (fun pre W => Bv 3 W b15 (.int .i64 (pre.length : Int)) ∧ Bv 3 W b14 (.int .i64 1) ∧ Ph w t b5 b6 b12 L (.slice A8 L.length c8) (.slice A10 L.length c10) (.slice AW L.length cW) W ∧ pre = zip L pre.length ∧ W.heap[D]? = some (.deferred (some [])))
                    (fun cd pre W => cd = .ret ∧ pre ≠ zip L pre.length)
                    (fun pre W W' row hs hg hrow => ⟨hs.1.grown hg (fun e => by obtain ⟨_, o, h1, h2⟩ := hrow _ e.symm; exact hs.1.is h1 h2 rfl), hs.2.1.grown hg (fun e => by obtain ⟨_, o, h1, h2⟩ := hrow _ e.symm; exact hs.2.1.is h1 h2 rfl), hs.2.2.1.kept hg (fun r e => ⟨by have := (hrow r e).1; omega, (hrow r e).2⟩), hs.2.2.2.1, (hg.block D (Array.getElem?_eq_some_iff.1 hs.2.2.2.2).1 (fun e => by have := (hrow D e.symm).1; omega)).trans hs.2.2.2.2⟩)
                    (fun cd pre W W' row hs hg hrow => hs)
                    ⟨HC.out.2.1, HC.out.2.2.1, HC.out.2.2.2, rfl, HDw.out⟩
                    (fun x => { tmps := #[.string s, .int .i64 k, .int .i64 t, undef, undef, .pointer (some ⟨b5, 0, none⟩), .pointer (some ⟨b6, 0, none⟩), .int .i64 k, .slice A8 L.length c8, .int .i64 (errK k), .slice A10 L.length c10, .int .i64 (errK k), .pointer (some ⟨b12, 0, none⟩), u13, .pointer (some ⟨b14, 0, none⟩), .pointer (some ⟨b15, 0, none⟩), .int .i64 (x.1 : Int), .string x.2, u18, u19, u20, u21, u22, u23, u24, u25, u26, u27, u28, u29, u30, u31, u32, u33, u34, u35, u36, u37, u38, u39, u40, u41, u42, u43, u44, u45, u46, u47, u48, u49, u50, u51, u52, u53, u54, u55, u56, u57, u58, u59, u60, u61, u62, u63, u64, u65, u66, u67, u68, u69, u70, u71, u72, u73, u74, u75, u76, u77, u78, u79, u80, u81, u82, u83, u84, .func (.func 74) #[] #[.pointer (some ⟨bS, 0, none⟩)], .int .i64 (x.1 : Int), .string x.2, u88, u89, u90, u91, u92, u93, u94, u95, u96, u97, u98, u99, u100, u101, u102, u103, u104, u105, u106, u107, u108, u109, u110, u111, u112, u113, u114, u115, u116, u117, u118, u119, u120, u121, u122, u123, u124, u125, u126, u127, u128], defers := [] }) ?assign2 ?body2 ?done2 ?stop2
                  case assign2 =>
                    intro l x W K hK
                    gi_wp2
                    exact hK
                  case body2 =>
                    rintro lp pre x W ⟨hn, h14, hph, hpre, hd1⟩ hlen
                    obtain ⟨bq, oq, rfl, _, hcx⟩ := hph.2.2.2.2.2.rd.get hlen
                    have hcw := hcx W (Below.refl _ _)
                    have hcn := hn.c
                    have hfn := hn.f
                    have hc14 := h14.c
                    have hc12 := hph.2.2.2.1.c
                    have hc5 := hph.2.1.c
                    have hc6 := hph.2.2.1.c
                    have hf6 := hph.2.2.1.f
                    have hb0 : (0 : Int) ≤ (pre.length : Int) := by omega
                    have hb3 : (pre.length : Int) < (L.length : Int) := by omega
                    have hb4 : ¬ (L.length : Int) ≤ (pre.length : Int) := by omega
                    have n14 : b14 ≠ b15 := by omega
                    have n5 : b5 ≠ b15 := by omega
                    have HLN : Hid (((pre ++ [x]).length : Int) = (pre.length : Int) + 1) := Lib.hid (by simp)
                    have HD1 := Lib.hid ((Below.heap_setCell W ⟨b15, 0, none⟩ (.int .i64 ((pre.length : Int) + 1)) D (by show D ≠ b15; omega)).trans hd1)
                    have HN1 : Hid (Bv 3 (W.setCell ⟨b15, 0, none⟩ (.int .i64 ((pre.length : Int) + 1))) b15 (.int .i64 ((pre.length : Int) + 1))) := Lib.hid (hn.set _)
                    have HQ : Hid (Bv 3 (W.setCell ⟨b15, 0, none⟩ (.int .i64 ((pre.length : Int) + 1))) b14 (.int .i64 1) ∧ Ph w t b5 b6 b12 L (.slice A8 L.length c8) (.slice A10 L.length c10) (.slice (some ⟨bq, oq, none⟩) L.length cW) (W.setCell ⟨b15, 0, none⟩ (.int .i64 ((pre.length : Int) + 1)))) := Lib.hid ⟨h14.other n14 _, hph.put (by omega) n5 (by omega) (by omega) (fun e => HG.out.1 _ e rfl) (fun e => HG.out.2 _ e rfl) _⟩
                    by_cases e : x.1 = pre.length ∧ x.2 = L[pre.length]
                    · have q1 : ((x.1 : Int) != (pre.length : Int)) = false := by rw [e.1]; simp
                      have he := toList_eq_of e.2
                      have he2 := toList_beq_of e.2
                      have HF := Lib.hid (And.intro hpre (And.intro hlen e))
                      obtain ⟨y, hy⟩ : ∃ y, y = L[pre.length] := ⟨_, rfl⟩
                      rw [← hy] at hcw he he2
                      clear hy hpre e hcx hn h14 hph hc6 hf6
                      gi_wp2
                      refine ⟨(KeepsOthers.setCell _ _ _).from _, kpN_set _ _ _, ?_, HQ.out.1, HQ.out.2, zip_snoc HF.out.1 HF.out.2.1 HF.out.2.2.1 HF.out.2.2.2, HD1.out⟩
                      rw [HLN.out]
                      exact HN1.out
                    · have hzn := Lib.hid (zip_not hlen e)
                      by_cases e1 : x.1 = pre.length
                      · have e2 : ¬ x.2 = L[pre.length] := fun h => e ⟨e1, h⟩
                        have q1 : ((x.1 : Int) != (pre.length : Int)) = false := by rw [e1]; simp
                        have he := toList_ne_of e2
                        have he2 := toList_bne_of e2
                        obtain ⟨y, hy⟩ : ∃ y, y = L[pre.length] := ⟨_, rfl⟩
                        rw [← hy] at hcw he he2
                        clear hy hpre e e1 e2 hcx hn h14 hph HN1 HQ
                        gi_wp2
                        exact ⟨(KeepsOthers.setCell _ _ _).from _, ⟨rfl, hzn.out⟩⟩
                      · have q1 : ((x.1 : Int) != (pre.length : Int)) = true := by rw [bne_iff_ne]; omega
                        clear hpre e e1 hcx hn h14 hph HN1 HQ
                        gi_wp2
                        exact ⟨(KeepsOthers.setCell _ _ _).from _, ⟨rfl, hzn.out⟩⟩
                  case done2 =>
                    rintro D2 ys W hD rfl ⟨hn, h14, hph, hpre, hd1⟩ hK
                    rw [zip_len] at hn
                    have hcn := hn.c
                    have hc14 := h14.c
                    have hf14 := h14.f
                    have hc12 := hph.2.2.2.1.c
                    have hc5 := hph.2.1.c
                    gi_wp2
                    clear hcn hc14 hf14 hc12 hc5 h14
                    obtain ⟨X2, hX2⟩ : ∃ X2, X2 = W.alloc (.cells #[.int .i64 2] 3) := ⟨_, rfl⟩
                    obtain ⟨c14, hb14⟩ : ∃ b14, b14 = W.heap.size := ⟨_, rfl⟩
                    have hbX2 : Below W.heap.size W X2 := hX2 ▸ (Below.refl _ _).alloc (Nat.le_refl _) _
                    have h14 : Bv 3 X2 c14 (.int .i64 2) := hX2 ▸ Bv.new _ _ _ hb14.symm
                    have hD1 := (hbX2.block D (Array.getElem?_eq_some_iff.1 hd1).1).trans hd1
                    have hD2 := (hbX2.block D2 (Array.getElem?_eq_some_iff.1 hK).1).trans hK
                    have hph2 := hph.below hbX2
                    have hc14 := h14.c
                    rw [show W.alloc (.cells #[.int .i64 2] 3) = X2 from hX2.symm, ← hb14]
                    have HZ := Lib.hid (And.intro hph2 (And.intro hD1 hD2))
                    have hDD : D ≠ D2 := by have := (Array.getElem?_eq_some_iff.1 HDw.out).1; omega
                    have HDD := Lib.hid hDD
                    clear hX2 hb14 hbX2 h14 hD1 hD2 hph hph2 hd1 hK hpre hn hDD
                    rw [roundsIn_succ]
                    gi_wp2_with (refine ⟨trivial, ?_⟩; gi_at_call 14; refine (HAW.out _ (HT.out _ HZ.out.1.1)).mono ?_; rintro e wa ⟨rfl, hba⟩; have hpa := HZ.out.1.below hba; have hc6 := hpa.2.2.1.c; have hf6 := hpa.2.2.1.f)
                    have h6 := hpa.2.2.1.set (.bool true)
                    have hda := (Below.heap_setCell wa ⟨b6, 0, none⟩ (.bool true) D (fun e => by have h1 := (hba.block D (Array.getElem?_eq_some_iff.1 HZ.out.2.1).1).trans HZ.out.2.1; have h2 : wa.heap[b6]? = _ := hpa.2.2.1; rw [show D = b6 from e, h2] at h1; cases h1)).trans ((hba.block D (Array.getElem?_eq_some_iff.1 HZ.out.2.1).1).trans HZ.out.2.1)
                    have hda2 := (Below.heap_setCell wa ⟨b6, 0, none⟩ (.bool true) D2 (fun e => by have h1 := (hba.block D2 (Array.getElem?_eq_some_iff.1 HZ.out.2.2).1).trans HZ.out.2.2; have h2 : wa.heap[b6]? = _ := hpa.2.2.1; rw [show D2 = b6 from e, h2] at h1; cases h1)).trans ((hba.block D2 (Array.getElem?_eq_some_iff.1 HZ.out.2.2).1).trans HZ.out.2.2)
                    have hbe : Below w.heap.size w (wa.setCell ⟨b6, 0, none⟩ (.bool true)) := hpa.1.setCell (p := ⟨b6, 0, none⟩) (by show w.heap.size ≤ b6; omega) _
                    have hfin : ∀ Wz : World, Below w.heap.size w Wz → Wz.heap[D]? = some (.deferred (some [])) → Wz.heap[D2]? = some (.deferred (some [])) → Below w.heap.size w ((Wz.putObj D2 (.deferred none)).putObj D (.deferred none)) := fun Wz h1 h2 h3 => (h1.trans (belowK_b (w := w) (Nat.le_refl _) Wz D2 _ _ (Nat.le_trans hww hD) h3 rfl rfl)).trans (belowK_b (w := w) (Nat.le_refl _) (Wz.putObj D2 (.deferred none)) D _ _ (Nat.le_trans hww0 hD0) ((World.putObj_heap_other HDD.out).trans h2) rfl rfl)
                    have hfin := hfin _ hbe hda hda2
                    exact leaves2 resS rfl h6.c hda hda2 HDD.out ⟨rfl, hfin⟩
                  case stop2 =>
                    rintro D2 cd pre W hD hSp ⟨rfl, hne⟩ hK
                    obtain ⟨j, hj, rfl⟩ := hSp
                    exact absurd (by rw [zip_len]) hne

              · have q4 : ((pre.length : Int) != (L.length : Int)) = true := by rw [bne_iff_ne]; omega
                clear hpl hjl
                gi_wp2
                clear hcn hc14 hf14 hc12 hc5 h14
                obtain ⟨X1, hX1⟩ : ∃ X1, X1 = W.alloc (.cells #[.int .i64 1] 3) := ⟨_, rfl⟩
                obtain ⟨b14, hb14⟩ : ∃ b14, b14 = W.heap.size := ⟨_, rfl⟩
                have hbX1 : Below W.heap.size W X1 := hX1 ▸ (Below.refl _ _).alloc (Nat.le_refl _) _
                have h14 : Bv 3 X1 b14 (.int .i64 1) := hX1 ▸ Bv.new _ _ _ hb14.symm
                have hq12 := hph.2.2.2.1.lt
                have hq : b12 < b14 := by omega
                have hDl := (Array.getElem?_eq_some_iff.1 hK).1
                have hDX := (hbX1.block D hDl).trans hK
                have hDX1 := (Array.getElem?_eq_some_iff.1 hDX).1
                rw [show W.alloc (.cells #[.int .i64 1] 3) = X1 from hX1.symm, ← hb14]
                have HPX := Lib.hid (hph.below hbX1)
                have H14 := Lib.hid h14
                have HDX := Lib.hid hDX
                clear hX1 hb14 hbX1 h14 hq12 hph hn hK hDX HC HG hDl
                have hc14 := H14.out.c
                have hf14 := H14.out.f
                rw [roundsIn_succ]
                gi_upto_region 24 with fail
                obtain ⟨Y1, hY1⟩ : ∃ Y1, Y1 = X1.alloc (.cells #[.int .i64 0] 3) := ⟨_, rfl⟩
                obtain ⟨b15, hb15⟩ : ∃ b15, b15 = X1.heap.size := ⟨_, rfl⟩
                have hbY1 : Below X1.heap.size X1 Y1 := hY1 ▸ (Below.refl _ _).alloc (Nat.le_refl _) _
                have h15 : Bv 3 Y1 b15 (.int .i64 0) := hY1 ▸ Bv.new _ _ _ hb15.symm
                have hG10 : ∀ g, (Value.slice A10 L.length c10).ownBlock = some g → g ≠ b15 := fun g h => by have h1 := HPX.out.2.2.2.2.1.lt g h; omega
                have hGW : ∀ g, (Value.slice AW L.length cW).ownBlock = some g → g ≠ b15 := fun g h => by have h1 := HPX.out.2.2.2.2.2.lt g h; omega
                have HG := Lib.hid (And.intro hG10 hGW)
                have h14y := H14.out.below hbY1
                have hPy := HPX.out.below hbY1
                have h14l := H14.out.lt
                rw [show X1.alloc (.cells #[.int .i64 0] 3) = Y1 from hY1.symm, ← hb15]
                have hq15 : b14 < b15 := by omega
                have hD15 : D < b15 := by omega
                have H15 := Lib.hid h15
                have H14y := Lib.hid h14y
                have HPy := Lib.hid hPy
                have HDy := Lib.hid ((hbY1.block D hDX1).trans HDX.out)
                clear hY1 hb15 hbY1 hc14 hf14 h15 h14y hPy hG10 hGW
                gi_cut [85] from 18 (fun s85 wx => s85 = .func (.func 74) #[] #[.pointer (some ⟨Y1.heap.size, 0, none⟩)] ∧ wx = Y1.alloc (.cells #[.int .i64 k] 22))
                case first =>
                  gi_wp2_with (refine ⟨trivial, ?_⟩; gi_at_call 50; refine (allIn _ (by omega) _ _).mono ?_; rintro e w2 ⟨rfl, rfl⟩)
                  gi_meet
                  case rel => exact ⟨rfl, rfl⟩
                case rest =>
                  obtain ⟨rfl, hwc⟩ := hcut
                  obtain ⟨bS, hbS⟩ : ∃ bS, bS = Y1.heap.size := ⟨_, rfl⟩
                  have hcs : wc.cell? ⟨bS, 0, none⟩ = some (.int .i64 k) := by rw [hwc, hbS, World.cell?_alloc_new]; rfl
                  have hbwc : Below Y1.heap.size Y1 wc := hwc ▸ (Below.refl _ _).alloc (Nat.le_refl _) _
                  have h15w := H15.out.below hbwc
                  have h14w := H14y.out.below hbwc
                  have hPw := HPy.out.below hbwc
                  have hzw : bS < wc.heap.size := by rw [hwc, hbS]; simp
                  have hz15 := h15w.lt
                  rw [← hbS]
                  have hww : w.heap.size ≤ wc.heap.size := hPw.1.size
                  have HC := Lib.hid (And.intro hcs (And.intro h15w (And.intro h14w hPw)))
                  have HDw := Lib.hid ((hbwc.block D (by have := (Array.getElem?_eq_some_iff.1 HDy.out).1; omega)).trans HDy.out)
                  have hDwc : D < wc.heap.size := (Array.getElem?_eq_some_iff.1 HDw.out).1
                  clear hwc hbS hbwc hcs h15w h14w hPw
                  gi_wp2
                  refine wpIn_rangeFunc_ownG hro (by omega) (gf := 74) (lb := #[.pointer (some ⟨bS, 0, none⟩)]) rfl trivial (enters_of Tryd.func74 (by kernel_rfl) rfl)
                    (HST.out 8 (by omega) bS (KpN b15) (fun _ g => g ≠ b15) (leavesN b15) wc (HT.out _ HC.out.2.2.2.1) hzw HC.out.1 (fun W2 h g hg => by show g ≠ b15; omega)) kpN_t (fun W l o o' _ h1 h2 _ => kpN_put W l o o' h1 h2) (Below.refl _ _) (fun _ => rfl)
                    (fun pre W => Bv 3 W b15 (.int .i64 (pre.length : Int)) ∧ Bv 3 W b14 (.int .i64 1) ∧ Ph w t b5 b6 b12 L (.slice A8 L.length c8) (.slice A10 L.length c10) (.slice AW L.length cW) W ∧ pre = zip L pre.length ∧ W.heap[D]? = some (.deferred (some [])))
                    (fun cd pre W => cd = .ret ∧ pre ≠ zip L pre.length)
                    (fun pre W W' row hs hg hrow => ⟨hs.1.grown hg (fun e => by obtain ⟨_, o, h1, h2⟩ := hrow _ e.symm; exact hs.1.is h1 h2 rfl), hs.2.1.grown hg (fun e => by obtain ⟨_, o, h1, h2⟩ := hrow _ e.symm; exact hs.2.1.is h1 h2 rfl), hs.2.2.1.kept hg (fun r e => ⟨by have := (hrow r e).1; omega, (hrow r e).2⟩), hs.2.2.2.1, (hg.block D (Array.getElem?_eq_some_iff.1 hs.2.2.2.2).1 (fun e => by have := (hrow D e.symm).1; omega)).trans hs.2.2.2.2⟩)
                    (fun cd pre W W' row hs hg hrow => hs)
                    ⟨HC.out.2.1, HC.out.2.2.1, HC.out.2.2.2, rfl, HDw.out⟩
                    (fun x => { tmps := #[.string s, .int .i64 k, .int .i64 t, undef, undef, .pointer (some ⟨b5, 0, none⟩), .pointer (some ⟨b6, 0, none⟩), .int .i64 k, .slice A8 L.length c8, .int .i64 (errK k), .slice A10 L.length c10, .int .i64 (errK k), .pointer (some ⟨b12, 0, none⟩), u13, .pointer (some ⟨b14, 0, none⟩), .pointer (some ⟨b15, 0, none⟩), .int .i64 (x.1 : Int), .string x.2, u18, u19, u20, u21, u22, u23, u24, u25, u26, u27, u28, u29, u30, u31, u32, u33, u34, u35, u36, u37, u38, u39, u40, u41, u42, u43, u44, u45, u46, u47, u48, u49, u50, u51, u52, u53, u54, u55, u56, u57, u58, u59, u60, u61, u62, u63, u64, u65, u66, u67, u68, u69, u70, u71, u72, u73, u74, u75, u76, u77, u78, u79, u80, u81, u82, u83, u84, .func (.func 74) #[] #[.pointer (some ⟨bS, 0, none⟩)], .int .i64 (x.1 : Int), .string x.2, u88, u89, u90, u91, u92, u93, u94, u95, u96, u97, u98, u99, u100, u101, u102, u103, u104, u105, u106, u107, u108, u109, u110, u111, u112, u113, u114, u115, u116, u117, u118, u119, u120, u121, u122, u123, u124, u125, u126, u127, u128], defers := [] }) ?assign3 ?body3 ?done3 ?stop3
                  case assign3 =>
                    intro l x W K hK
                    gi_wp2
                    exact hK
                  case body3 =>
                    rintro lp pre x W ⟨hn, h14, hph, hpre, hd1⟩ hlen
                    obtain ⟨bq, oq, rfl, _, hcx⟩ := hph.2.2.2.2.2.rd.get hlen
                    have hcw := hcx W (Below.refl _ _)
                    have hcn := hn.c
                    have hfn := hn.f
                    have hc14 := h14.c
                    have hc12 := hph.2.2.2.1.c
                    have hc5 := hph.2.1.c
                    have hc6 := hph.2.2.1.c
                    have hf6 := hph.2.2.1.f
                    have hb0 : (0 : Int) ≤ (pre.length : Int) := by omega
                    have hb3 : (pre.length : Int) < (L.length : Int) := by omega
                    have hb4 : ¬ (L.length : Int) ≤ (pre.length : Int) := by omega
                    have n14 : b14 ≠ b15 := by omega
                    have n5 : b5 ≠ b15 := by omega
                    have HLN : Hid (((pre ++ [x]).length : Int) = (pre.length : Int) + 1) := Lib.hid (by simp)
                    have HD1 := Lib.hid ((Below.heap_setCell W ⟨b15, 0, none⟩ (.int .i64 ((pre.length : Int) + 1)) D (by show D ≠ b15; omega)).trans hd1)
                    have HN1 : Hid (Bv 3 (W.setCell ⟨b15, 0, none⟩ (.int .i64 ((pre.length : Int) + 1))) b15 (.int .i64 ((pre.length : Int) + 1))) := Lib.hid (hn.set _)
                    have HQ : Hid (Bv 3 (W.setCell ⟨b15, 0, none⟩ (.int .i64 ((pre.length : Int) + 1))) b14 (.int .i64 1) ∧ Ph w t b5 b6 b12 L (.slice A8 L.length c8) (.slice A10 L.length c10) (.slice (some ⟨bq, oq, none⟩) L.length cW) (W.setCell ⟨b15, 0, none⟩ (.int .i64 ((pre.length : Int) + 1)))) := Lib.hid ⟨h14.other n14 _, hph.put (by omega) n5 (by omega) (by omega) (fun e => HG.out.1 _ e rfl) (fun e => HG.out.2 _ e rfl) _⟩
                    by_cases e : x.1 = pre.length ∧ x.2 = L[pre.length]
                    · have q1 : ((x.1 : Int) != (pre.length : Int)) = false := by rw [e.1]; simp
                      have he := toList_eq_of e.2
                      have he2 := toList_beq_of e.2
                      have HF := Lib.hid (And.intro hpre (And.intro hlen e))
                      obtain ⟨y, hy⟩ : ∃ y, y = L[pre.length] := ⟨_, rfl⟩
                      rw [← hy] at hcw he he2
                      clear hy hpre e hcx hn h14 hph hc6 hf6
                      gi_wp2
                      refine ⟨(KeepsOthers.setCell _ _ _).from _, kpN_set _ _ _, ?_, HQ.out.1, HQ.out.2, zip_snoc HF.out.1 HF.out.2.1 HF.out.2.2.1 HF.out.2.2.2, HD1.out⟩
                      rw [HLN.out]
                      exact HN1.out
                    · have hzn := Lib.hid (zip_not hlen e)
                      by_cases e1 : x.1 = pre.length
                      · have e2 : ¬ x.2 = L[pre.length] := fun h => e ⟨e1, h⟩
                        have q1 : ((x.1 : Int) != (pre.length : Int)) = false := by rw [e1]; simp
                        have he := toList_ne_of e2
                        have he2 := toList_bne_of e2
                        obtain ⟨y, hy⟩ : ∃ y, y = L[pre.length] := ⟨_, rfl⟩
                        rw [← hy] at hcw he he2
                        clear hy hpre e e1 e2 hcx hn h14 hph HN1 HQ
                        gi_wp2
                        exact ⟨(KeepsOthers.setCell _ _ _).from _, ⟨rfl, hzn.out⟩⟩
                      · have q1 : ((x.1 : Int) != (pre.length : Int)) = true := by rw [bne_iff_ne]; omega
                        clear hpre e e1 hcx hn h14 hph HN1 HQ
                        gi_wp2
                        exact ⟨(KeepsOthers.setCell _ _ _).from _, ⟨rfl, hzn.out⟩⟩
                  case done3 =>
                    rintro D2 ys W hD rfl ⟨hn, h14, hph, hpre, hd1⟩ hK
                    rw [zip_len] at hn
                    have hcn := hn.c
                    have hc14 := h14.c
                    have hf14 := h14.f
                    have hc12 := hph.2.2.2.1.c
                    have hc5 := hph.2.1.c
                    gi_wp2
                    clear hcn hc14 hf14 hc12 hc5 h14
                    obtain ⟨X2, hX2⟩ : ∃ X2, X2 = W.alloc (.cells #[.int .i64 2] 3) := ⟨_, rfl⟩
                    obtain ⟨c14, hb14⟩ : ∃ b14, b14 = W.heap.size := ⟨_, rfl⟩
                    have hbX2 : Below W.heap.size W X2 := hX2 ▸ (Below.refl _ _).alloc (Nat.le_refl _) _
                    have h14 : Bv 3 X2 c14 (.int .i64 2) := hX2 ▸ Bv.new _ _ _ hb14.symm
                    have hD1 := (hbX2.block D (Array.getElem?_eq_some_iff.1 hd1).1).trans hd1
                    have hD2 := (hbX2.block D2 (Array.getElem?_eq_some_iff.1 hK).1).trans hK
                    have hph2 := hph.below hbX2
                    have hc14 := h14.c
                    rw [show W.alloc (.cells #[.int .i64 2] 3) = X2 from hX2.symm, ← hb14]
                    have HZ := Lib.hid (And.intro hph2 (And.intro hD1 hD2))
                    have hDD : D ≠ D2 := by have := (Array.getElem?_eq_some_iff.1 HDw.out).1; omega
                    have HDD := Lib.hid hDD
                    clear hX2 hb14 hbX2 h14 hD1 hD2 hph hph2 hd1 hK hpre hn hDD
                    rw [roundsIn_succ]
                    gi_wp2_with (refine ⟨trivial, ?_⟩; gi_at_call 14; refine (HAW.out _ (HT.out _ HZ.out.1.1)).mono ?_; rintro e wa ⟨rfl, hba⟩; have hpa := HZ.out.1.below hba; have hc6 := hpa.2.2.1.c; have hf6 := hpa.2.2.1.f)
                    have h6 := hpa.2.2.1.set (.bool true)
                    have hda := (Below.heap_setCell wa ⟨b6, 0, none⟩ (.bool true) D (fun e => by have h1 := (hba.block D (Array.getElem?_eq_some_iff.1 HZ.out.2.1).1).trans HZ.out.2.1; have h2 : wa.heap[b6]? = _ := hpa.2.2.1; rw [show D = b6 from e, h2] at h1; cases h1)).trans ((hba.block D (Array.getElem?_eq_some_iff.1 HZ.out.2.1).1).trans HZ.out.2.1)
                    have hda2 := (Below.heap_setCell wa ⟨b6, 0, none⟩ (.bool true) D2 (fun e => by have h1 := (hba.block D2 (Array.getElem?_eq_some_iff.1 HZ.out.2.2).1).trans HZ.out.2.2; have h2 : wa.heap[b6]? = _ := hpa.2.2.1; rw [show D2 = b6 from e, h2] at h1; cases h1)).trans ((hba.block D2 (Array.getElem?_eq_some_iff.1 HZ.out.2.2).1).trans HZ.out.2.2)
                    have hbe : Below w.heap.size w (wa.setCell ⟨b6, 0, none⟩ (.bool true)) := hpa.1.setCell (p := ⟨b6, 0, none⟩) (by show w.heap.size ≤ b6; omega) _
                    have hfin : ∀ Wz : World, Below w.heap.size w Wz → Wz.heap[D]? = some (.deferred (some [])) → Wz.heap[D2]? = some (.deferred (some [])) → Below w.heap.size w ((Wz.putObj D2 (.deferred none)).putObj D (.deferred none)) := fun Wz h1 h2 h3 => (h1.trans (belowK_b (w := w) (Nat.le_refl _) Wz D2 _ _ (Nat.le_trans hww hD) h3 rfl rfl)).trans (belowK_b (w := w) (Nat.le_refl _) (Wz.putObj D2 (.deferred none)) D _ _ (Nat.le_trans hww0 hD0) ((World.putObj_heap_other HDD.out).trans h2) rfl rfl)
                    have hfin := hfin _ hbe hda hda2
                    exact leaves2 resS rfl h6.c hda hda2 HDD.out ⟨rfl, hfin⟩
                  case stop3 =>
                    rintro D2 cd pre W hD hSp ⟨rfl, hne⟩ hK
                    obtain ⟨j, hj, rfl⟩ := hSp
                    exact absurd (by rw [zip_len]) hne


end Go.Proofs.YtknpppppjmhomaaDoor.namesSets
