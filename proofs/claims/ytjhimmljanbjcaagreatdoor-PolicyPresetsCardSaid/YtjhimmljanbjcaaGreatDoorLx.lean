/- A line of a policy's text: the reference's line, the other ways. -/
import Derived.Test.YtjhimmljanbjcaaGreatDoorLz
set_option linter.unusedVariables false
set_option linter.unusedSimpArgs false
namespace Go.Proofs.YtjhimmljanbjcaaGreatDoor.Lx
open Go.RowKit Lb Gr Pd Fl Go.Proofs.YtjhimmljanbjcaaGreatDoor.Pm Bk Is Go.Proofs.YtjhimmljanbjcaaGreatDoor.Sl Go.Proofs.YtjhimmljanbjcaaGreatDoor.Ck Go.Proofs.YtjhimmljanbjcaaGreatDoor.Th Go.Proofs.YtjhimmljanbjcaaGreatDoor.Ow Go.Proofs.YtjhimmljanbjcaaGreatDoor.Rz Go.Proofs.YtjhimmljanbjcaaGreatDoor.Dp Pt Pn Po Go.Proofs.YtjhimmljanbjcaaGreatDoor.Pi Rw Go.Proofs.YtjhimmljanbjcaaGreatDoor.Rx
attribute [local go_sem ↓] Go.wp_at_zero Go.wp_at_succ
theorem grown2 {w1 w9 : World} {B g hq : Nat} {v : Value} {o : Obj} (hgB : g < B) (hB : B ≤ w1.heap.size) (hg : (w1.alloc o).grownBy w9 v.ownBlock) (hv : ∀ j, v.ownBlock = some j → B ≤ j) : Kpt w1 B g hq w9 :=
  ⟨((Below.refl g w1).alloc (by omega) o).grown hg (by simp; omega) (fun j hj => by have := hv j hj; omega),
    fun k hk _ _ => (hg.block k (by simp; omega) (fun e => by have := hv k e.symm; omega)).trans (Below.heap_alloc _ _ _ (by omega))⟩
theorem set2k {w : World} {B g hq : Nat} (hgh : g < hq) (hgB : g < B) (hB : B ≤ w.heap.size) (i : Nat) (u : Value) : Kpt w B g hq (w.setCell ⟨g, i, none⟩ u) :=
  Kpt.fr (by omega) (by omega) hB (Fr.setCell w ⟨g, i, none⟩ u (.inl (by simp)))
theorem St.below {w : World} {B g hq : Nat} {x : Vs} {st : RS} {F : List Nat} (hs : St w B g hq x st F) {w' : World} (hb : Below w.heap.size w w') : St w' B g hq x st F :=
  ⟨hs.own.keep hb.size fun k hk => hb.block k (hs.own.ge k hk).2, hs.bg.below hb, hs.bh.below hb, hs.gh, hs.hB, Nat.le_trans hs.size hb.size⟩
set_option maxHeartbeats 4000000 in
set_option maxRecDepth 100000 in
/-- 'depth' -/
theorem rLineDepth (w : World) (B g hq : Nat) (x : Vs) (st : RS) (F : List Nat) (v : Value) (x1 : ByteArray) (hd : st.sd = false) (hn : numB x1 = true) (hs : St w B g hq x st F) (hv : kdW.rd w 0 w.heap.size v [wDepth, x1]) (he : hasT [wDepth, x1] ByteArray.empty = false) :
    Calls Tryz.prog 107 #[.pointer (some ⟨g, 0, none⟩), .pointer (some ⟨hq, 0, none⟩), v] w (LineR w B g hq st [wDepth, x1]) := by
  have HHS : Hid (Calls Tryz.prog 48 #[v, .string ByteArray.empty] w fun e w' => e = .returned (.bool false) ∧ w = w') := Lib.hid ((rHasC [wDepth, x1] v ByteArray.empty w hv).mono fun e w' hq => ⟨by rw [hq.1, he], hq.2.symm⟩)
  have hno : Hid (lineO st [wDepth, x1] = some { st with p := { st.p with depth := numV x1.data.toList }, sd := true }) := Lib.hid (by
    unfold lineO; rw [if_neg (by rw [he]; decide)]
    show (if numB x1 = true ∧ st.sd = false then _ else none) = _
    rw [if_pos ⟨hn, hd⟩])
  obtain ⟨A, cp, rfl, hn1, hn2⟩ := rdW_form hv
  obtain ⟨b, off, rfl, _, hb2, hx0⟩ := rdW_at hv (i := 0) (by simp)
  have y0 : w.cell? ⟨b, off, none⟩ = some (.string ⟨#[100, 101, 112, 116, 104]⟩) := (by have h9 : w.cell? ⟨b, off, none⟩ = some (.string wDepth) := (by simpa using hx0); exact h9)
  obtain ⟨b', off', hA', _, _, hx1⟩ := rdW_at hv (i := 1) (by simp)
  injection hA' with hA'
  injection hA' with e1 e2
  subst e1 e2
  have y1 : w.cell? ⟨b, off + 1, none⟩ = some (.string x1) := (by simpa using hx1)
  clear hx1
  have HS := Lib.hid hs
  have hne : ¬ g = hq := by have := hs.gh; omega
  have hne2 : ¬ hq = g := by have := hs.gh; omega
  have k3 := hs.bh.cell 0 rfl
  have k4 := hs.bh.fz 0
  have k5 := hs.bg.fz 5
  have k6 := hs.bg.cell 5 rfl
  rw [hd] at k3
  have HNM : Hid (∀ W, Calls Tryz.prog 159 #[.string x1] W fun e w2 => e = .returned (.tuple #[.int .i64 (numR x1), .bool true]) ∧ W = w2) := Lib.hid fun W => by
    have h9 := rNumC x1 W
    rw [hn] at h9
    exact h9
  have HNR : Hid (numR x1 = numV x1.data.toList) := Lib.hid (numR_yes hn)
  clear hn hd
  clear hs hv he hx0
  go_enter Tryz.func107, Tryz.ntmps107
  go_wp2_with (first
    | (go_at_call 48; refine HHS.out.mono ?_; rintro e w1 ⟨rfl, rfl⟩)
    | (go_at_call 159; refine (HNM.out _).mono ?_; rintro e w2 ⟨rfl, rfl⟩))
  go_ret
  obtain ⟨a0, a1, a2, a3, a4⟩ := HS.out.two 5 0 (.int .i64 (numR x1)) (.bool true)
  rw [HNR.out] at a0 a1 a2 a3 a4 ⊢
  exact LineR.yes (x' := x) (F' := F) a0 hno.out ⟨a1, a3, a4, HS.out.gh, HS.out.hB, a2⟩
set_option maxHeartbeats 4000000 in
set_option maxRecDepth 100000 in
/-- 'depth' -/
theorem rLineDepth2 (w : World) (B g hq : Nat) (x : Vs) (st : RS) (F : List Nat) (v : Value) (x1 : ByteArray) (hn : numB x1 = false) (hs : St w B g hq x st F) (hv : kdW.rd w 0 w.heap.size v [wDepth, x1]) (he : hasT [wDepth, x1] ByteArray.empty = false) :
    Calls Tryz.prog 107 #[.pointer (some ⟨g, 0, none⟩), .pointer (some ⟨hq, 0, none⟩), v] w (LineR w B g hq st [wDepth, x1]) := by
  have HHS : Hid (Calls Tryz.prog 48 #[v, .string ByteArray.empty] w fun e w' => e = .returned (.bool false) ∧ w = w') := Lib.hid ((rHasC [wDepth, x1] v ByteArray.empty w hv).mono fun e w' hq => ⟨by rw [hq.1, he], hq.2.symm⟩)
  have hno : Hid (lineO st [wDepth, x1] = none) := Lib.hid (by
    unfold lineO; rw [if_neg (by rw [he]; decide)]
    show (if numB x1 = true ∧ st.sd = false then _ else none) = _
    rw [if_neg (by rw [hn]; simp)])
  obtain ⟨A, cp, rfl, hn1, hn2⟩ := rdW_form hv
  obtain ⟨b, off, rfl, _, hb2, hx0⟩ := rdW_at hv (i := 0) (by simp)
  have y0 : w.cell? ⟨b, off, none⟩ = some (.string ⟨#[100, 101, 112, 116, 104]⟩) := (by have h9 : w.cell? ⟨b, off, none⟩ = some (.string wDepth) := (by simpa using hx0); exact h9)
  obtain ⟨b', off', hA', _, _, hx1⟩ := rdW_at hv (i := 1) (by simp)
  injection hA' with hA'
  injection hA' with e1 e2
  subst e1 e2
  have y1 : w.cell? ⟨b, off + 1, none⟩ = some (.string x1) := (by simpa using hx1)
  clear hx1
  have HS := Lib.hid hs
  have hne : ¬ g = hq := by have := hs.gh; omega
  have hne2 : ¬ hq = g := by have := hs.gh; omega
  have k3 := hs.bh.cell 0 rfl
  have k4 := hs.bh.fz 0
  have k5 := hs.bg.fz 5
  have k6 := hs.bg.cell 5 rfl
  have HNM : Hid (∀ W, Calls Tryz.prog 159 #[.string x1] W fun e w2 => e = .returned (.tuple #[.int .i64 (numR x1), .bool false]) ∧ W = w2) := Lib.hid fun W => by
    have h9 := rNumC x1 W
    rw [hn] at h9
    exact h9
  clear hn
  clear hs hv he hx0
  go_enter Tryz.func107, Tryz.ntmps107
  go_wp2_with (first
    | (go_at_call 48; refine HHS.out.mono ?_; rintro e w1 ⟨rfl, rfl⟩)
    | (go_at_call 159; refine (HNM.out _).mono ?_; rintro e w2 ⟨rfl, rfl⟩))
  go_ret
  exact LineR.no (HS.out.kpt (Below.refl _ _)) hno.out
set_option maxHeartbeats 4000000 in
set_option maxRecDepth 100000 in
/-- 'depth' -/
theorem rLineDepth3 (w : World) (B g hq : Nat) (x : Vs) (st : RS) (F : List Nat) (v : Value) (x1 : ByteArray) (hd : st.sd = true) (hn : numB x1 = true) (hs : St w B g hq x st F) (hv : kdW.rd w 0 w.heap.size v [wDepth, x1]) (he : hasT [wDepth, x1] ByteArray.empty = false) :
    Calls Tryz.prog 107 #[.pointer (some ⟨g, 0, none⟩), .pointer (some ⟨hq, 0, none⟩), v] w (LineR w B g hq st [wDepth, x1]) := by
  have HHS : Hid (Calls Tryz.prog 48 #[v, .string ByteArray.empty] w fun e w' => e = .returned (.bool false) ∧ w = w') := Lib.hid ((rHasC [wDepth, x1] v ByteArray.empty w hv).mono fun e w' hq => ⟨by rw [hq.1, he], hq.2.symm⟩)
  have hno : Hid (lineO st [wDepth, x1] = none) := Lib.hid (by
    unfold lineO; rw [if_neg (by rw [he]; decide)]
    show (if numB x1 = true ∧ st.sd = false then _ else none) = _
    rw [if_neg (by rw [hd]; simp)])
  obtain ⟨A, cp, rfl, hn1, hn2⟩ := rdW_form hv
  obtain ⟨b, off, rfl, _, hb2, hx0⟩ := rdW_at hv (i := 0) (by simp)
  have y0 : w.cell? ⟨b, off, none⟩ = some (.string ⟨#[100, 101, 112, 116, 104]⟩) := (by have h9 : w.cell? ⟨b, off, none⟩ = some (.string wDepth) := (by simpa using hx0); exact h9)
  obtain ⟨b', off', hA', _, _, hx1⟩ := rdW_at hv (i := 1) (by simp)
  injection hA' with hA'
  injection hA' with e1 e2
  subst e1 e2
  have y1 : w.cell? ⟨b, off + 1, none⟩ = some (.string x1) := (by simpa using hx1)
  clear hx1
  have HS := Lib.hid hs
  have hne : ¬ g = hq := by have := hs.gh; omega
  have hne2 : ¬ hq = g := by have := hs.gh; omega
  have k3 := hs.bh.cell 0 rfl
  have k4 := hs.bh.fz 0
  have k5 := hs.bg.fz 5
  have k6 := hs.bg.cell 5 rfl
  rw [hd] at k3
  have HNM : Hid (∀ W, Calls Tryz.prog 159 #[.string x1] W fun e w2 => e = .returned (.tuple #[.int .i64 (numR x1), .bool true]) ∧ W = w2) := Lib.hid fun W => by
    have h9 := rNumC x1 W
    rw [hn] at h9
    exact h9
  clear hn hd
  clear hs hv he hx0
  go_enter Tryz.func107, Tryz.ntmps107
  go_wp2_with (first
    | (go_at_call 48; refine HHS.out.mono ?_; rintro e w1 ⟨rfl, rfl⟩)
    | (go_at_call 159; refine (HNM.out _).mono ?_; rintro e w2 ⟨rfl, rfl⟩))
  go_ret
  exact LineR.no (HS.out.kpt (Below.refl _ _)) hno.out
set_option maxHeartbeats 4000000 in
set_option maxRecDepth 100000 in
/-- 'window' -/
theorem rLineWindow (w : World) (B g hq : Nat) (x : Vs) (st : RS) (F : List Nat) (v : Value) (x1 : ByteArray) (hd : st.sw = false) (hn : numB x1 = true) (hs : St w B g hq x st F) (hv : kdW.rd w 0 w.heap.size v [wWindow, x1]) (he : hasT [wWindow, x1] ByteArray.empty = false) :
    Calls Tryz.prog 107 #[.pointer (some ⟨g, 0, none⟩), .pointer (some ⟨hq, 0, none⟩), v] w (LineR w B g hq st [wWindow, x1]) := by
  have HHS : Hid (Calls Tryz.prog 48 #[v, .string ByteArray.empty] w fun e w' => e = .returned (.bool false) ∧ w = w') := Lib.hid ((rHasC [wWindow, x1] v ByteArray.empty w hv).mono fun e w' hq => ⟨by rw [hq.1, he], hq.2.symm⟩)
  have hno : Hid (lineO st [wWindow, x1] = some { st with p := { st.p with window := numV x1.data.toList }, sw := true }) := Lib.hid (by
    unfold lineO; rw [if_neg (by rw [he]; decide)]
    show (if numB x1 = true ∧ st.sw = false then _ else none) = _
    rw [if_pos ⟨hn, hd⟩])
  obtain ⟨A, cp, rfl, hn1, hn2⟩ := rdW_form hv
  obtain ⟨b, off, rfl, _, hb2, hx0⟩ := rdW_at hv (i := 0) (by simp)
  have y0 : w.cell? ⟨b, off, none⟩ = some (.string ⟨#[119, 105, 110, 100, 111, 119]⟩) := (by have h9 : w.cell? ⟨b, off, none⟩ = some (.string wWindow) := (by simpa using hx0); exact h9)
  obtain ⟨b', off', hA', _, _, hx1⟩ := rdW_at hv (i := 1) (by simp)
  injection hA' with hA'
  injection hA' with e1 e2
  subst e1 e2
  have y1 : w.cell? ⟨b, off + 1, none⟩ = some (.string x1) := (by simpa using hx1)
  clear hx1
  have HS := Lib.hid hs
  have hne : ¬ g = hq := by have := hs.gh; omega
  have hne2 : ¬ hq = g := by have := hs.gh; omega
  have k3 := hs.bh.cell 1 rfl
  have k4 := hs.bh.fz 1
  have k5 := hs.bg.fz 6
  have k6 := hs.bg.cell 6 rfl
  rw [hd] at k3
  have HNM : Hid (∀ W, Calls Tryz.prog 159 #[.string x1] W fun e w2 => e = .returned (.tuple #[.int .i64 (numR x1), .bool true]) ∧ W = w2) := Lib.hid fun W => by
    have h9 := rNumC x1 W
    rw [hn] at h9
    exact h9
  have HNR : Hid (numR x1 = numV x1.data.toList) := Lib.hid (numR_yes hn)
  clear hn hd
  clear hs hv he hx0
  go_enter Tryz.func107, Tryz.ntmps107
  go_wp2_with (first
    | (go_at_call 48; refine HHS.out.mono ?_; rintro e w1 ⟨rfl, rfl⟩)
    | (go_at_call 159; refine (HNM.out _).mono ?_; rintro e w2 ⟨rfl, rfl⟩))
  go_ret
  obtain ⟨a0, a1, a2, a3, a4⟩ := HS.out.two 6 1 (.int .i64 (numR x1)) (.bool true)
  rw [HNR.out] at a0 a1 a2 a3 a4 ⊢
  exact LineR.yes (x' := x) (F' := F) a0 hno.out ⟨a1, a3, a4, HS.out.gh, HS.out.hB, a2⟩
set_option maxHeartbeats 4000000 in
set_option maxRecDepth 100000 in
/-- 'window' -/
theorem rLineWindow2 (w : World) (B g hq : Nat) (x : Vs) (st : RS) (F : List Nat) (v : Value) (x1 : ByteArray) (hn : numB x1 = false) (hs : St w B g hq x st F) (hv : kdW.rd w 0 w.heap.size v [wWindow, x1]) (he : hasT [wWindow, x1] ByteArray.empty = false) :
    Calls Tryz.prog 107 #[.pointer (some ⟨g, 0, none⟩), .pointer (some ⟨hq, 0, none⟩), v] w (LineR w B g hq st [wWindow, x1]) := by
  have HHS : Hid (Calls Tryz.prog 48 #[v, .string ByteArray.empty] w fun e w' => e = .returned (.bool false) ∧ w = w') := Lib.hid ((rHasC [wWindow, x1] v ByteArray.empty w hv).mono fun e w' hq => ⟨by rw [hq.1, he], hq.2.symm⟩)
  have hno : Hid (lineO st [wWindow, x1] = none) := Lib.hid (by
    unfold lineO; rw [if_neg (by rw [he]; decide)]
    show (if numB x1 = true ∧ st.sw = false then _ else none) = _
    rw [if_neg (by rw [hn]; simp)])
  obtain ⟨A, cp, rfl, hn1, hn2⟩ := rdW_form hv
  obtain ⟨b, off, rfl, _, hb2, hx0⟩ := rdW_at hv (i := 0) (by simp)
  have y0 : w.cell? ⟨b, off, none⟩ = some (.string ⟨#[119, 105, 110, 100, 111, 119]⟩) := (by have h9 : w.cell? ⟨b, off, none⟩ = some (.string wWindow) := (by simpa using hx0); exact h9)
  obtain ⟨b', off', hA', _, _, hx1⟩ := rdW_at hv (i := 1) (by simp)
  injection hA' with hA'
  injection hA' with e1 e2
  subst e1 e2
  have y1 : w.cell? ⟨b, off + 1, none⟩ = some (.string x1) := (by simpa using hx1)
  clear hx1
  have HS := Lib.hid hs
  have hne : ¬ g = hq := by have := hs.gh; omega
  have hne2 : ¬ hq = g := by have := hs.gh; omega
  have k3 := hs.bh.cell 1 rfl
  have k4 := hs.bh.fz 1
  have k5 := hs.bg.fz 6
  have k6 := hs.bg.cell 6 rfl
  have HNM : Hid (∀ W, Calls Tryz.prog 159 #[.string x1] W fun e w2 => e = .returned (.tuple #[.int .i64 (numR x1), .bool false]) ∧ W = w2) := Lib.hid fun W => by
    have h9 := rNumC x1 W
    rw [hn] at h9
    exact h9
  clear hn
  clear hs hv he hx0
  go_enter Tryz.func107, Tryz.ntmps107
  go_wp2_with (first
    | (go_at_call 48; refine HHS.out.mono ?_; rintro e w1 ⟨rfl, rfl⟩)
    | (go_at_call 159; refine (HNM.out _).mono ?_; rintro e w2 ⟨rfl, rfl⟩))
  go_ret
  exact LineR.no (HS.out.kpt (Below.refl _ _)) hno.out
set_option maxHeartbeats 4000000 in
set_option maxRecDepth 100000 in
/-- 'window' -/
theorem rLineWindow3 (w : World) (B g hq : Nat) (x : Vs) (st : RS) (F : List Nat) (v : Value) (x1 : ByteArray) (hd : st.sw = true) (hn : numB x1 = true) (hs : St w B g hq x st F) (hv : kdW.rd w 0 w.heap.size v [wWindow, x1]) (he : hasT [wWindow, x1] ByteArray.empty = false) :
    Calls Tryz.prog 107 #[.pointer (some ⟨g, 0, none⟩), .pointer (some ⟨hq, 0, none⟩), v] w (LineR w B g hq st [wWindow, x1]) := by
  have HHS : Hid (Calls Tryz.prog 48 #[v, .string ByteArray.empty] w fun e w' => e = .returned (.bool false) ∧ w = w') := Lib.hid ((rHasC [wWindow, x1] v ByteArray.empty w hv).mono fun e w' hq => ⟨by rw [hq.1, he], hq.2.symm⟩)
  have hno : Hid (lineO st [wWindow, x1] = none) := Lib.hid (by
    unfold lineO; rw [if_neg (by rw [he]; decide)]
    show (if numB x1 = true ∧ st.sw = false then _ else none) = _
    rw [if_neg (by rw [hd]; simp)])
  obtain ⟨A, cp, rfl, hn1, hn2⟩ := rdW_form hv
  obtain ⟨b, off, rfl, _, hb2, hx0⟩ := rdW_at hv (i := 0) (by simp)
  have y0 : w.cell? ⟨b, off, none⟩ = some (.string ⟨#[119, 105, 110, 100, 111, 119]⟩) := (by have h9 : w.cell? ⟨b, off, none⟩ = some (.string wWindow) := (by simpa using hx0); exact h9)
  obtain ⟨b', off', hA', _, _, hx1⟩ := rdW_at hv (i := 1) (by simp)
  injection hA' with hA'
  injection hA' with e1 e2
  subst e1 e2
  have y1 : w.cell? ⟨b, off + 1, none⟩ = some (.string x1) := (by simpa using hx1)
  clear hx1
  have HS := Lib.hid hs
  have hne : ¬ g = hq := by have := hs.gh; omega
  have hne2 : ¬ hq = g := by have := hs.gh; omega
  have k3 := hs.bh.cell 1 rfl
  have k4 := hs.bh.fz 1
  have k5 := hs.bg.fz 6
  have k6 := hs.bg.cell 6 rfl
  rw [hd] at k3
  have HNM : Hid (∀ W, Calls Tryz.prog 159 #[.string x1] W fun e w2 => e = .returned (.tuple #[.int .i64 (numR x1), .bool true]) ∧ W = w2) := Lib.hid fun W => by
    have h9 := rNumC x1 W
    rw [hn] at h9
    exact h9
  clear hn hd
  clear hs hv he hx0
  go_enter Tryz.func107, Tryz.ntmps107
  go_wp2_with (first
    | (go_at_call 48; refine HHS.out.mono ?_; rintro e w1 ⟨rfl, rfl⟩)
    | (go_at_call 159; refine (HNM.out _).mono ?_; rintro e w2 ⟨rfl, rfl⟩))
  go_ret
  exact LineR.no (HS.out.kpt (Below.refl _ _)) hno.out
set_option maxHeartbeats 4000000 in
set_option maxRecDepth 100000 in
/-- 'schemes' -/
theorem rLineScheme (w : World) (B g hq : Nat) (x : Vs) (st : RS) (F : List Nat) (v : Value) (x1 : ByteArray) (hl : (st.p.schemes.length + 1) * 16 ≤ 140737488355328) (hs : St w B g hq x st F) (hv : kdW.rd w 0 w.heap.size v [wScheme, x1]) (he : hasT [wScheme, x1] ByteArray.empty = false) :
    Calls Tryz.prog 107 #[.pointer (some ⟨g, 0, none⟩), .pointer (some ⟨hq, 0, none⟩), v] w (LineR w B g hq st [wScheme, x1]) := by
  have HHS : Hid (Calls Tryz.prog 48 #[v, .string ByteArray.empty] w fun e w' => e = .returned (.bool false) ∧ w = w') := Lib.hid ((rHasC [wScheme, x1] v ByteArray.empty w hv).mono fun e w' hq => ⟨by rw [hq.1, he], hq.2.symm⟩)
  have hno : Hid (lineO st [wScheme, x1] = some { st with p := { st.p with schemes := st.p.schemes ++ [x1] } }) := Lib.hid (by
    unfold lineO; rw [if_neg (by rw [he]; decide)]
    rfl)
  obtain ⟨A, cp, rfl, hn1, hn2⟩ := rdW_form hv
  obtain ⟨b, off, rfl, _, hb2, hx0⟩ := rdW_at hv (i := 0) (by simp)
  have y0 : w.cell? ⟨b, off, none⟩ = some (.string ⟨#[115, 99, 104, 101, 109, 101]⟩) := (by have h9 : w.cell? ⟨b, off, none⟩ = some (.string wScheme) := (by simpa using hx0); exact h9)
  obtain ⟨b', off', hA', _, _, hx1⟩ := rdW_at hv (i := 1) (by simp)
  injection hA' with hA'
  injection hA' with e1 e2
  subst e1 e2
  have y1 : w.cell? ⟨b, off + 1, none⟩ = some (.string x1) := (by simpa using hx1)
  clear hx1
  have HS := Lib.hid hs
  have hne : ¬ g = hq := by have := hs.gh; omega
  have hne2 : ¬ hq = g := by have := hs.gh; omega
  have k5 := hs.bg.fz 2
  have k6 := hs.bg.cell 2 rfl
  obtain ⟨i0, hi, hz0, hz1, hz2⟩ := info_parts infoStr
  have HL := Lib.hid hl
  clear hl
  clear hs hv he hx0
  go_enter Tryz.func107, Tryz.ntmps107
  obtain ⟨F1, F2, F3, F4, h1, h2, h3, h4, hF, hn⟩ := HS.out.own
  have how := h3.1
  have hge : ∀ j, x.s.ownBlock = some j → B ≤ j := fun j hj => (how.lt j hj).1
  have hgB : g < B := by have := HS.out.gh; have := HS.out.hB; omega
  have hhB := HS.out.hB
  have hBz := HS.out.size
  have g2 : (st.p.schemes.length + 1) * 16 ≤ 140737488355328 := HL.out
  have g1 : st.p.schemes.length + 1 ≤ maxLen := by unfold maxLen; omega
  have hbg := HS.out.bg
  have c9 := (hbg.alloc (.cells #[.string x1] 9)).cell 2 rfl
  go_upto_region 28 with (go_at_call 48; refine HHS.out.mono ?_; rintro e w1 ⟨rfl, rfl⟩)
  go_region_law (refine step_append_lies _ (by rfl) (.tmp 120) (.tmp 124) 24 (by rfl) B 9 i0 _ 1 16 Tryz.underlying24 hi hz0 hz1 hz2 rfl (by decide) x.s st.p.schemes.length (st.p.schemes.map Value.string) (by rfl) (by exact how.alloc _) ⟨w.heap.size, 0, none⟩ 1 1 [.string x1] (by rfl) (by rfl) (by exact World.news_of_block (heap_alloc_new w _)) (by simp [Value.oneCell']) (by decide) g1 g2 (by simp; omega) _ rfl ?_; intro g9 cap9 w9 hown9 hgrow9 hat9 hlt9; have n9 := (hbg.alloc (.cells #[.string x1] 9)).of (hgrow9.block _ (by simp; omega) (fun e => by have := hge _ e.symm; omega)); have z1 := n9.cell 2 rfl; have z2 := n9.fz 2)
  all_goals (
    have HN9 := Lib.hid n9
    have HO9 := Lib.hid hown9
    have HG9 := Lib.hid (Go.Proofs.YtjhimmljanbjcaaGreatDoor.Lp.grown_undrew hgrow9)
    have HGE := Lib.hid hge
    have HA := Lib.hid hat9
    clear n9 hown9 hgrow9 hge hat9
    go_wp2
    go_ret
    obtain ⟨hm1, hm2⟩ := word_more (v9 := (Value.slice (some ⟨g9, 0, none⟩) (st.p.schemes.length + 1) cap9)) h3 HO9.out HG9.out (HA.out.elim (fun hq => .inl hq.symm) (fun hq => .inr (congrArg some hq)))
    have hb9 := HG9.out.size
    simp at hb9
    have ht := Go.Proofs.YtjhimmljanbjcaaGreatDoor.Lp.own_set (turnS h1 h2 h4 (hF ▸ hn) hm1 hm2) hgB 2 (Value.slice (some ⟨g9, 0, none⟩) (st.p.schemes.length + 1) cap9)
    have hbh : Bl w9 hq 126 [.bool st.sd, .bool st.sw, .bool st.sr] := HS.out.bh.of ((HG9.out.block hq (by simp; omega) (fun e => by have := HGE.out _ e.symm; omega)).trans (Below.heap_alloc _ _ _ (by omega)))
    exact LineR.yes (x' := ⟨x.e, x.g, (Value.slice (some ⟨g9, 0, none⟩) (st.p.schemes.length + 1) cap9), x.d⟩) (F' := _) ((grown2 hgB hBz HG9.out HGE.out).trans (set2k HS.out.gh hgB (by omega) 2 _)) hno.out ⟨ht, HN9.out.set 2 (Value.slice (some ⟨g9, 0, none⟩) (st.p.schemes.length + 1) cap9), hbh.other (p := ⟨g, 2, none⟩) hne2 (Value.slice (some ⟨g9, 0, none⟩) (st.p.schemes.length + 1) cap9), HS.out.gh, hhB, by simp [World.setCell]; omega⟩)
set_option maxHeartbeats 4000000 in
set_option maxRecDepth 100000 in
/-- 'drop' -/
theorem rLineDrop (w : World) (B g hq : Nat) (x : Vs) (st : RS) (F : List Nat) (v : Value) (x1 : ByteArray) (hl : (st.p.drop.length + 1) * 16 ≤ 140737488355328) (hs : St w B g hq x st F) (hv : kdW.rd w 0 w.heap.size v [wDrop, x1]) (he : hasT [wDrop, x1] ByteArray.empty = false) :
    Calls Tryz.prog 107 #[.pointer (some ⟨g, 0, none⟩), .pointer (some ⟨hq, 0, none⟩), v] w (LineR w B g hq st [wDrop, x1]) := by
  have HHS : Hid (Calls Tryz.prog 48 #[v, .string ByteArray.empty] w fun e w' => e = .returned (.bool false) ∧ w = w') := Lib.hid ((rHasC [wDrop, x1] v ByteArray.empty w hv).mono fun e w' hq => ⟨by rw [hq.1, he], hq.2.symm⟩)
  have hno : Hid (lineO st [wDrop, x1] = some { st with p := { st.p with drop := st.p.drop ++ [x1] } }) := Lib.hid (by
    unfold lineO; rw [if_neg (by rw [he]; decide)]
    rfl)
  obtain ⟨A, cp, rfl, hn1, hn2⟩ := rdW_form hv
  obtain ⟨b, off, rfl, _, hb2, hx0⟩ := rdW_at hv (i := 0) (by simp)
  have y0 : w.cell? ⟨b, off, none⟩ = some (.string ⟨#[100, 114, 111, 112]⟩) := (by have h9 : w.cell? ⟨b, off, none⟩ = some (.string wDrop) := (by simpa using hx0); exact h9)
  obtain ⟨b', off', hA', _, _, hx1⟩ := rdW_at hv (i := 1) (by simp)
  injection hA' with hA'
  injection hA' with e1 e2
  subst e1 e2
  have y1 : w.cell? ⟨b, off + 1, none⟩ = some (.string x1) := (by simpa using hx1)
  clear hx1
  have HS := Lib.hid hs
  have hne : ¬ g = hq := by have := hs.gh; omega
  have hne2 : ¬ hq = g := by have := hs.gh; omega
  have k5 := hs.bg.fz 4
  have k6 := hs.bg.cell 4 rfl
  obtain ⟨i0, hi, hz0, hz1, hz2⟩ := info_parts infoStr
  have HL := Lib.hid hl
  clear hl
  clear hs hv he hx0
  go_enter Tryz.func107, Tryz.ntmps107
  obtain ⟨F1, F2, F3, F4, h1, h2, h3, h4, hF, hn⟩ := HS.out.own
  have how := h4.1
  have hge : ∀ j, x.d.ownBlock = some j → B ≤ j := fun j hj => (how.lt j hj).1
  have hgB : g < B := by have := HS.out.gh; have := HS.out.hB; omega
  have hhB := HS.out.hB
  have hBz := HS.out.size
  have g2 : (st.p.drop.length + 1) * 16 ≤ 140737488355328 := HL.out
  have g1 : st.p.drop.length + 1 ≤ maxLen := by unfold maxLen; omega
  have hbg := HS.out.bg
  have c9 := (hbg.alloc (.cells #[.string x1] 9)).cell 4 rfl
  go_upto_region 30 with (go_at_call 48; refine HHS.out.mono ?_; rintro e w1 ⟨rfl, rfl⟩)
  go_region_law (refine step_append_lies _ (by rfl) (.tmp 134) (.tmp 138) 24 (by rfl) B 9 i0 _ 1 16 Tryz.underlying24 hi hz0 hz1 hz2 rfl (by decide) x.d st.p.drop.length (st.p.drop.map Value.string) (by rfl) (by exact how.alloc _) ⟨w.heap.size, 0, none⟩ 1 1 [.string x1] (by rfl) (by rfl) (by exact World.news_of_block (heap_alloc_new w _)) (by simp [Value.oneCell']) (by decide) g1 g2 (by simp; omega) _ rfl ?_; intro g9 cap9 w9 hown9 hgrow9 hat9 hlt9; have n9 := (hbg.alloc (.cells #[.string x1] 9)).of (hgrow9.block _ (by simp; omega) (fun e => by have := hge _ e.symm; omega)); have z1 := n9.cell 4 rfl; have z2 := n9.fz 4)
  all_goals (
    have HN9 := Lib.hid n9
    have HO9 := Lib.hid hown9
    have HG9 := Lib.hid (Go.Proofs.YtjhimmljanbjcaaGreatDoor.Lp.grown_undrew hgrow9)
    have HGE := Lib.hid hge
    have HA := Lib.hid hat9
    clear n9 hown9 hgrow9 hge hat9
    go_wp2
    go_ret
    obtain ⟨hm1, hm2⟩ := word_more (v9 := (Value.slice (some ⟨g9, 0, none⟩) (st.p.drop.length + 1) cap9)) h4 HO9.out HG9.out (HA.out.elim (fun hq => .inl hq.symm) (fun hq => .inr (congrArg some hq)))
    have hb9 := HG9.out.size
    simp at hb9
    have ht := Go.Proofs.YtjhimmljanbjcaaGreatDoor.Lp.own_set (turnD h1 h2 h3 (hF ▸ hn) hm1 hm2) hgB 4 (Value.slice (some ⟨g9, 0, none⟩) (st.p.drop.length + 1) cap9)
    have hbh : Bl w9 hq 126 [.bool st.sd, .bool st.sw, .bool st.sr] := HS.out.bh.of ((HG9.out.block hq (by simp; omega) (fun e => by have := HGE.out _ e.symm; omega)).trans (Below.heap_alloc _ _ _ (by omega)))
    exact LineR.yes (x' := ⟨x.e, x.g, x.s, (Value.slice (some ⟨g9, 0, none⟩) (st.p.drop.length + 1) cap9)⟩) (F' := _) ((grown2 hgB hBz HG9.out HGE.out).trans (set2k HS.out.gh hgB (by omega) 4 _)) hno.out ⟨ht, HN9.out.set 4 (Value.slice (some ⟨g9, 0, none⟩) (st.p.drop.length + 1) cap9), hbh.other (p := ⟨g, 4, none⟩) hne2 (Value.slice (some ⟨g9, 0, none⟩) (st.p.drop.length + 1) cap9), HS.out.gh, hhB, by simp [World.setCell]; omega⟩)
set_option maxHeartbeats 4000000 in
set_option maxRecDepth 100000 in
/-- 'els' -/
theorem rLineElement (w : World) (B g hq : Nat) (x : Vs) (st : RS) (F : List Nat) (v : Value) (x1 : ByteArray) (hl : (st.p.els.length + 1) * 40 ≤ 140737488355328) (hs : St w B g hq x st F) (hv : kdW.rd w 0 w.heap.size v [wElement, x1]) (he : hasT [wElement, x1] ByteArray.empty = false) :
    Calls Tryz.prog 107 #[.pointer (some ⟨g, 0, none⟩), .pointer (some ⟨hq, 0, none⟩), v] w (LineR w B g hq st [wElement, x1]) := by
  have HHS : Hid (Calls Tryz.prog 48 #[v, .string ByteArray.empty] w fun e w' => e = .returned (.bool false) ∧ w = w') := Lib.hid ((rHasC [wElement, x1] v ByteArray.empty w hv).mono fun e w' hq => ⟨by rw [hq.1, he], hq.2.symm⟩)
  have hno : Hid (lineO st [wElement, x1] = some { st with p := { st.p with els := st.p.els ++ [⟨x1, []⟩] } }) := Lib.hid (by
    unfold lineO; rw [if_neg (by rw [he]; decide)]
    rfl)
  obtain ⟨A, cp, rfl, hn1, hn2⟩ := rdW_form hv
  obtain ⟨b, off, rfl, _, hb2, hx0⟩ := rdW_at hv (i := 0) (by simp)
  have y0 : w.cell? ⟨b, off, none⟩ = some (.string ⟨#[101, 108, 101, 109, 101, 110, 116]⟩) := (by have h9 : w.cell? ⟨b, off, none⟩ = some (.string wElement) := (by simpa using hx0); exact h9)
  obtain ⟨b', off', hA', _, _, hx1⟩ := rdW_at hv (i := 1) (by simp)
  injection hA' with hA'
  injection hA' with e1 e2
  subst e1 e2
  have y1 : w.cell? ⟨b, off + 1, none⟩ = some (.string x1) := (by simpa using hx1)
  clear hx1
  have HS := Lib.hid hs
  have hne : ¬ g = hq := by have := hs.gh; omega
  have hne2 : ¬ hq = g := by have := hs.gh; omega
  have k5 := hs.bg.fz 0
  have k6 := hs.bg.cell 0 rfl
  obtain ⟨i0, hi, hz0, hz1, hz2⟩ := info_parts infoEl
  have HL := Lib.hid hl
  clear hl
  clear hs hv he hx0
  go_enter Tryz.func107, Tryz.ntmps107
  obtain ⟨F1, F2, F3, F4, h1, h2, h3, h4, hF, hn⟩ := HS.out.own
  obtain ⟨T, hT, how, hsT, hFT, hnT⟩ := h1
  have hTl : T.length = st.p.els.length := by have := congrArg List.length hT; simpa using this
  have hge : ∀ j, x.e.ownBlock = some j → B ≤ j := fun j hj => (how.lt j hj).1
  have hgB : g < B := by have := HS.out.gh; have := HS.out.hB; omega
  have hhB := HS.out.hB
  have hBz := HS.out.size
  have g2 : (T.length + 1) * 40 ≤ 140737488355328 := by rw [hTl]; exact HL.out
  have g1 : T.length + 1 ≤ maxLen := by unfold maxLen; omega
  have hbg := HS.out.bg
  have c9 := (hbg.alloc (.cells #[.string x1, .slice none 0 0] 45)).cell 0 rfl
  have HTL := Lib.hid hTl
  clear hTl
  go_upto_region 26 with (go_at_call 48; refine HHS.out.mono ?_; rintro e w1 ⟨rfl, rfl⟩)
  go_region_law (refine step_append_lies _ (by rfl) (.tmp 105) (.tmp 110) 22 (by rfl) B 45 i0 _ 2 40 Tryz.underlying22 hi hz0 hz1 hz2 rfl (by decide) x.e T.length (fmE.cells T) (by rfl) (by exact how.alloc _) ⟨w.heap.size, 0, none⟩ 1 1 [.string x1, .slice none 0 0] (by rfl) (by rfl) (by exact World.news_of_block (heap_alloc_new w _)) (by simp [Value.oneCell']) (by decide) g1 g2 (by simp; omega) _ rfl ?_; intro g9 cap9 w9 hown9 hgrow9 hat9 hlt9; have n9 := (hbg.alloc (.cells #[.string x1, .slice none 0 0] 45)).of (hgrow9.block _ (by simp; omega) (fun e => by have := hge _ e.symm; omega)); have z1 := n9.cell 0 rfl; have z2 := n9.fz 0)
  all_goals (
    have HN9 := Lib.hid n9
    have HO9 := Lib.hid hown9
    have HG9 := Lib.hid (Go.Proofs.YtjhimmljanbjcaaGreatDoor.Lp.grown_undrew hgrow9)
    have HGE := Lib.hid hge
    have HA := Lib.hid hat9
    clear n9 hown9 hgrow9 hge hat9
    go_wp2
    go_ret
    obtain ⟨hm1, hm2⟩ := item_more (M := fmE) (t := ⟨⟨x1, []⟩, .slice none 0 0, []⟩) (v' := (Value.slice (some ⟨g9, 0, none⟩) (T.length + 1) cap9)) how hsT (hFT ▸ hnT) (Below.refl _ _) hBz (fmR.own_nil _ _) HO9.out HG9.out (HA.out.elim (fun hq => .inl hq.symm) (fun hq => .inr (congrArg some hq)))
    rw [hT] at hm1
    rw [← hFT] at hm2
    have hb9 := HG9.out.size
    simp at hb9
    have ht := Go.Proofs.YtjhimmljanbjcaaGreatDoor.Lp.own_set (turnE h2 h3 h4 (hF ▸ hn) hm1 hm2) hgB 0 (Value.slice (some ⟨g9, 0, none⟩) (T.length + 1) cap9)
    have hbh : Bl w9 hq 126 [.bool st.sd, .bool st.sw, .bool st.sr] := HS.out.bh.of ((HG9.out.block hq (by simp; omega) (fun e => by have := HGE.out _ e.symm; omega)).trans (Below.heap_alloc _ _ _ (by omega)))
    exact LineR.yes (x' := ⟨(Value.slice (some ⟨g9, 0, none⟩) (T.length + 1) cap9), x.g, x.s, x.d⟩) (F' := _) ((grown2 hgB hBz HG9.out HGE.out).trans (set2k HS.out.gh hgB (by omega) 0 _)) hno.out ⟨ht, HN9.out.set 0 (Value.slice (some ⟨g9, 0, none⟩) (T.length + 1) cap9), hbh.other (p := ⟨g, 0, none⟩) hne2 (Value.slice (some ⟨g9, 0, none⟩) (T.length + 1) cap9), HS.out.gh, hhB, by simp [World.setCell]; omega⟩)
set_option maxHeartbeats 4000000 in
set_option maxRecDepth 100000 in
/-- 'rel', of another length -/
theorem rLineNRel (w : World) (B g hq : Nat) (x : Vs) (st : RS) (F : List Nat) (v : Value) (l : List ByteArray) (hs : St w B g hq x st F) (hv : kdW.rd w 0 w.heap.size v (wRel :: l)) (he : hasT (wRel :: l) ByteArray.empty = false) (hl : l ≠ []) (hlz : (l.length + 1) * 48 ≤ 140737488355328) :
    Calls Tryz.prog 107 #[.pointer (some ⟨g, 0, none⟩), .pointer (some ⟨hq, 0, none⟩), v] w (LineR w B g hq st (wRel :: l)) := by
  have HHS : Hid (Calls Tryz.prog 48 #[v, .string ByteArray.empty] w fun e w' => e = .returned (.bool false) ∧ w = w') := Lib.hid ((rHasC (wRel :: l) v ByteArray.empty w hv).mono fun e w' hq => ⟨by rw [hq.1, he], hq.2.symm⟩)
  have hno : Hid (lineO st (wRel :: l) = none) := Lib.hid (by
    unfold lineO; rw [if_neg (by rw [he]; decide)]
    show (if l = [] ∧ st.sr = false then _ else none) = none
    rw [if_neg (fun hq => hl hq.1)])
  obtain ⟨A, cp, rfl, hn1, hn2⟩ := rdW_form hv
  obtain ⟨b, off, rfl, _, hb2, hx0⟩ := rdW_at hv (i := 0) (by simp)
  have y0 : w.cell? ⟨b, off, none⟩ = some (.string ⟨#[114, 101, 108, 97, 116, 105, 118, 101]⟩) := (by have h9 : w.cell? ⟨b, off, none⟩ = some (.string wRel) := (by simpa using hx0); exact h9)
  obtain ⟨m, hml⟩ : ∃ m, m = l.length := ⟨_, rfl⟩
  obtain ⟨N, hN⟩ : ∃ N, N = m + 1 := ⟨_, rfl⟩
  have hlN : (wRel :: l).length = N := by rw [hN, hml]; rfl
  rw [hlN] at HHS hn1 hv
  rw [hlN]
  obtain ⟨c2, hc2⟩ : ∃ c2, c2 = cp - 1 := ⟨_, rfl⟩
  have HDR1 : Hid (kdW.rd w 0 w.heap.size (.slice (if cp = 1 then some ⟨b, off, none⟩ else some ⟨b, off + 1, none⟩) m c2) l) := Lib.hid (by
    have h9 := rdW_drop hv (k := 1) (by simp)
    rw [hN, Nat.add_sub_cancel, ← hc2] at h9
    by_cases h0 : cp = 1
    · have hm0 : m = 0 := by omega
      have hl0 : l = [] := List.eq_nil_of_length_eq_zero (by rw [← hml]; exact hm0)
      subst hl0
      rw [if_pos h0, hm0]
      exact ⟨_, _, rfl, Nat.zero_le _, by unfold maxLen; omega, fun hq => by simp at hq⟩
    · rw [if_neg h0]; exact h9)
  have HS := Lib.hid hs
  have hne : ¬ g = hq := by have := hs.gh; omega
  have hne2 : ¬ hq = g := by have := hs.gh; omega
  have n1 : (1 : Int) ≤ (N : Int) := by omega
  have n2 : (0 : Int) < (N : Int) := by omega
  have n0 : 0 < N := by omega
  have n3 : ((N : Int) - 1).toNat = m := by omega
  have n4 : N - 1 = m := by omega
  have q0 : (N : Int) ≤ (cp : Int) := by omega
  have q1 : (1 : Int) ≤ (cp : Int) := by omega
  have q2 : (cp : Int) ≤ 9223372036854775807 := by unfold maxLen at hn2; omega
  have q3 : ((cp : Int) - 1).toNat = c2 := by omega
  have q4 : cp - 1 = c2 := hc2.symm
  have b1 : ((N : Int) != 1) = true := by
    have : m ≠ 0 := fun e => hl (List.eq_nil_of_length_eq_zero (by rw [← hml]; exact e))
    simp; omega
  clear hl
  clear hs hv he hx0 hml hN hlN hc2
  go_enter Tryz.func107, Tryz.ntmps107
  go_wp2_with (go_at_call 48; refine HHS.out.mono ?_; rintro e w1 ⟨rfl, rfl⟩)
  go_ret
  exact LineR.no (HS.out.kpt (Below.refl _ _)) hno.out
set_option maxHeartbeats 4000000 in
set_option maxRecDepth 100000 in
/-- 'depth', of another length -/
theorem rLineNDepth (w : World) (B g hq : Nat) (x : Vs) (st : RS) (F : List Nat) (v : Value) (l : List ByteArray) (hs : St w B g hq x st F) (hv : kdW.rd w 0 w.heap.size v (wDepth :: l)) (he : hasT (wDepth :: l) ByteArray.empty = false) (hl : l.length ≠ 1) (hlz : (l.length + 1) * 48 ≤ 140737488355328) :
    Calls Tryz.prog 107 #[.pointer (some ⟨g, 0, none⟩), .pointer (some ⟨hq, 0, none⟩), v] w (LineR w B g hq st (wDepth :: l)) := by
  have HHS : Hid (Calls Tryz.prog 48 #[v, .string ByteArray.empty] w fun e w' => e = .returned (.bool false) ∧ w = w') := Lib.hid ((rHasC (wDepth :: l) v ByteArray.empty w hv).mono fun e w' hq => ⟨by rw [hq.1, he], hq.2.symm⟩)
  have hno : Hid (lineO st (wDepth :: l) = none) := Lib.hid (by
    unfold lineO; rw [if_neg (by rw [he]; decide)]
    match l, hl with
    | [], _ => rfl
    | [a], hq => exact absurd rfl hq
    | a :: b :: t, _ => rfl)
  obtain ⟨A, cp, rfl, hn1, hn2⟩ := rdW_form hv
  obtain ⟨b, off, rfl, _, hb2, hx0⟩ := rdW_at hv (i := 0) (by simp)
  have y0 : w.cell? ⟨b, off, none⟩ = some (.string ⟨#[100, 101, 112, 116, 104]⟩) := (by have h9 : w.cell? ⟨b, off, none⟩ = some (.string wDepth) := (by simpa using hx0); exact h9)
  obtain ⟨m, hml⟩ : ∃ m, m = l.length := ⟨_, rfl⟩
  obtain ⟨N, hN⟩ : ∃ N, N = m + 1 := ⟨_, rfl⟩
  have hlN : (wDepth :: l).length = N := by rw [hN, hml]; rfl
  rw [hlN] at HHS hn1 hv
  rw [hlN]
  obtain ⟨c2, hc2⟩ : ∃ c2, c2 = cp - 1 := ⟨_, rfl⟩
  have HDR1 : Hid (kdW.rd w 0 w.heap.size (.slice (if cp = 1 then some ⟨b, off, none⟩ else some ⟨b, off + 1, none⟩) m c2) l) := Lib.hid (by
    have h9 := rdW_drop hv (k := 1) (by simp)
    rw [hN, Nat.add_sub_cancel, ← hc2] at h9
    by_cases h0 : cp = 1
    · have hm0 : m = 0 := by omega
      have hl0 : l = [] := List.eq_nil_of_length_eq_zero (by rw [← hml]; exact hm0)
      subst hl0
      rw [if_pos h0, hm0]
      exact ⟨_, _, rfl, Nat.zero_le _, by unfold maxLen; omega, fun hq => by simp at hq⟩
    · rw [if_neg h0]; exact h9)
  have HS := Lib.hid hs
  have hne : ¬ g = hq := by have := hs.gh; omega
  have hne2 : ¬ hq = g := by have := hs.gh; omega
  have n1 : (1 : Int) ≤ (N : Int) := by omega
  have n2 : (0 : Int) < (N : Int) := by omega
  have n0 : 0 < N := by omega
  have n3 : ((N : Int) - 1).toNat = m := by omega
  have n4 : N - 1 = m := by omega
  have q0 : (N : Int) ≤ (cp : Int) := by omega
  have q1 : (1 : Int) ≤ (cp : Int) := by omega
  have q2 : (cp : Int) ≤ 9223372036854775807 := by unfold maxLen at hn2; omega
  have q3 : ((cp : Int) - 1).toNat = c2 := by omega
  have q4 : cp - 1 = c2 := hc2.symm
  have b1 : ((N : Int) != 2) = true := by
    have : m ≠ 1 := fun e => hl (by rw [← hml]; exact e)
    simp; omega
  clear hl
  clear hs hv he hx0 hml hN hlN hc2
  go_enter Tryz.func107, Tryz.ntmps107
  go_wp2_with (go_at_call 48; refine HHS.out.mono ?_; rintro e w1 ⟨rfl, rfl⟩)
  go_ret
  exact LineR.no (HS.out.kpt (Below.refl _ _)) hno.out
set_option maxHeartbeats 4000000 in
set_option maxRecDepth 100000 in
/-- 'window', of another length -/
theorem rLineNWindow (w : World) (B g hq : Nat) (x : Vs) (st : RS) (F : List Nat) (v : Value) (l : List ByteArray) (hs : St w B g hq x st F) (hv : kdW.rd w 0 w.heap.size v (wWindow :: l)) (he : hasT (wWindow :: l) ByteArray.empty = false) (hl : l.length ≠ 1) (hlz : (l.length + 1) * 48 ≤ 140737488355328) :
    Calls Tryz.prog 107 #[.pointer (some ⟨g, 0, none⟩), .pointer (some ⟨hq, 0, none⟩), v] w (LineR w B g hq st (wWindow :: l)) := by
  have HHS : Hid (Calls Tryz.prog 48 #[v, .string ByteArray.empty] w fun e w' => e = .returned (.bool false) ∧ w = w') := Lib.hid ((rHasC (wWindow :: l) v ByteArray.empty w hv).mono fun e w' hq => ⟨by rw [hq.1, he], hq.2.symm⟩)
  have hno : Hid (lineO st (wWindow :: l) = none) := Lib.hid (by
    unfold lineO; rw [if_neg (by rw [he]; decide)]
    match l, hl with
    | [], _ => rfl
    | [a], hq => exact absurd rfl hq
    | a :: b :: t, _ => rfl)
  obtain ⟨A, cp, rfl, hn1, hn2⟩ := rdW_form hv
  obtain ⟨b, off, rfl, _, hb2, hx0⟩ := rdW_at hv (i := 0) (by simp)
  have y0 : w.cell? ⟨b, off, none⟩ = some (.string ⟨#[119, 105, 110, 100, 111, 119]⟩) := (by have h9 : w.cell? ⟨b, off, none⟩ = some (.string wWindow) := (by simpa using hx0); exact h9)
  obtain ⟨m, hml⟩ : ∃ m, m = l.length := ⟨_, rfl⟩
  obtain ⟨N, hN⟩ : ∃ N, N = m + 1 := ⟨_, rfl⟩
  have hlN : (wWindow :: l).length = N := by rw [hN, hml]; rfl
  rw [hlN] at HHS hn1 hv
  rw [hlN]
  obtain ⟨c2, hc2⟩ : ∃ c2, c2 = cp - 1 := ⟨_, rfl⟩
  have HDR1 : Hid (kdW.rd w 0 w.heap.size (.slice (if cp = 1 then some ⟨b, off, none⟩ else some ⟨b, off + 1, none⟩) m c2) l) := Lib.hid (by
    have h9 := rdW_drop hv (k := 1) (by simp)
    rw [hN, Nat.add_sub_cancel, ← hc2] at h9
    by_cases h0 : cp = 1
    · have hm0 : m = 0 := by omega
      have hl0 : l = [] := List.eq_nil_of_length_eq_zero (by rw [← hml]; exact hm0)
      subst hl0
      rw [if_pos h0, hm0]
      exact ⟨_, _, rfl, Nat.zero_le _, by unfold maxLen; omega, fun hq => by simp at hq⟩
    · rw [if_neg h0]; exact h9)
  have HS := Lib.hid hs
  have hne : ¬ g = hq := by have := hs.gh; omega
  have hne2 : ¬ hq = g := by have := hs.gh; omega
  have n1 : (1 : Int) ≤ (N : Int) := by omega
  have n2 : (0 : Int) < (N : Int) := by omega
  have n0 : 0 < N := by omega
  have n3 : ((N : Int) - 1).toNat = m := by omega
  have n4 : N - 1 = m := by omega
  have q0 : (N : Int) ≤ (cp : Int) := by omega
  have q1 : (1 : Int) ≤ (cp : Int) := by omega
  have q2 : (cp : Int) ≤ 9223372036854775807 := by unfold maxLen at hn2; omega
  have q3 : ((cp : Int) - 1).toNat = c2 := by omega
  have q4 : cp - 1 = c2 := hc2.symm
  have b1 : ((N : Int) != 2) = true := by
    have : m ≠ 1 := fun e => hl (by rw [← hml]; exact e)
    simp; omega
  clear hl
  clear hs hv he hx0 hml hN hlN hc2
  go_enter Tryz.func107, Tryz.ntmps107
  go_wp2_with (go_at_call 48; refine HHS.out.mono ?_; rintro e w1 ⟨rfl, rfl⟩)
  go_ret
  exact LineR.no (HS.out.kpt (Below.refl _ _)) hno.out
set_option maxHeartbeats 4000000 in
set_option maxRecDepth 100000 in
/-- 'scheme', of another length -/
theorem rLineNScheme (w : World) (B g hq : Nat) (x : Vs) (st : RS) (F : List Nat) (v : Value) (l : List ByteArray) (hs : St w B g hq x st F) (hv : kdW.rd w 0 w.heap.size v (wScheme :: l)) (he : hasT (wScheme :: l) ByteArray.empty = false) (hl : l.length ≠ 1) (hlz : (l.length + 1) * 48 ≤ 140737488355328) :
    Calls Tryz.prog 107 #[.pointer (some ⟨g, 0, none⟩), .pointer (some ⟨hq, 0, none⟩), v] w (LineR w B g hq st (wScheme :: l)) := by
  have HHS : Hid (Calls Tryz.prog 48 #[v, .string ByteArray.empty] w fun e w' => e = .returned (.bool false) ∧ w = w') := Lib.hid ((rHasC (wScheme :: l) v ByteArray.empty w hv).mono fun e w' hq => ⟨by rw [hq.1, he], hq.2.symm⟩)
  have hno : Hid (lineO st (wScheme :: l) = none) := Lib.hid (by
    unfold lineO; rw [if_neg (by rw [he]; decide)]
    match l, hl with
    | [], _ => rfl
    | [a], hq => exact absurd rfl hq
    | a :: b :: t, _ => rfl)
  obtain ⟨A, cp, rfl, hn1, hn2⟩ := rdW_form hv
  obtain ⟨b, off, rfl, _, hb2, hx0⟩ := rdW_at hv (i := 0) (by simp)
  have y0 : w.cell? ⟨b, off, none⟩ = some (.string ⟨#[115, 99, 104, 101, 109, 101]⟩) := (by have h9 : w.cell? ⟨b, off, none⟩ = some (.string wScheme) := (by simpa using hx0); exact h9)
  obtain ⟨m, hml⟩ : ∃ m, m = l.length := ⟨_, rfl⟩
  obtain ⟨N, hN⟩ : ∃ N, N = m + 1 := ⟨_, rfl⟩
  have hlN : (wScheme :: l).length = N := by rw [hN, hml]; rfl
  rw [hlN] at HHS hn1 hv
  rw [hlN]
  obtain ⟨c2, hc2⟩ : ∃ c2, c2 = cp - 1 := ⟨_, rfl⟩
  have HDR1 : Hid (kdW.rd w 0 w.heap.size (.slice (if cp = 1 then some ⟨b, off, none⟩ else some ⟨b, off + 1, none⟩) m c2) l) := Lib.hid (by
    have h9 := rdW_drop hv (k := 1) (by simp)
    rw [hN, Nat.add_sub_cancel, ← hc2] at h9
    by_cases h0 : cp = 1
    · have hm0 : m = 0 := by omega
      have hl0 : l = [] := List.eq_nil_of_length_eq_zero (by rw [← hml]; exact hm0)
      subst hl0
      rw [if_pos h0, hm0]
      exact ⟨_, _, rfl, Nat.zero_le _, by unfold maxLen; omega, fun hq => by simp at hq⟩
    · rw [if_neg h0]; exact h9)
  have HS := Lib.hid hs
  have hne : ¬ g = hq := by have := hs.gh; omega
  have hne2 : ¬ hq = g := by have := hs.gh; omega
  have n1 : (1 : Int) ≤ (N : Int) := by omega
  have n2 : (0 : Int) < (N : Int) := by omega
  have n0 : 0 < N := by omega
  have n3 : ((N : Int) - 1).toNat = m := by omega
  have n4 : N - 1 = m := by omega
  have q0 : (N : Int) ≤ (cp : Int) := by omega
  have q1 : (1 : Int) ≤ (cp : Int) := by omega
  have q2 : (cp : Int) ≤ 9223372036854775807 := by unfold maxLen at hn2; omega
  have q3 : ((cp : Int) - 1).toNat = c2 := by omega
  have q4 : cp - 1 = c2 := hc2.symm
  have b1 : ((N : Int) != 2) = true := by
    have : m ≠ 1 := fun e => hl (by rw [← hml]; exact e)
    simp; omega
  clear hl
  clear hs hv he hx0 hml hN hlN hc2
  go_enter Tryz.func107, Tryz.ntmps107
  go_wp2_with (go_at_call 48; refine HHS.out.mono ?_; rintro e w1 ⟨rfl, rfl⟩)
  go_ret
  exact LineR.no (HS.out.kpt (Below.refl _ _)) hno.out
set_option maxHeartbeats 4000000 in
set_option maxRecDepth 100000 in
/-- 'drop', of another length -/
theorem rLineNDrop (w : World) (B g hq : Nat) (x : Vs) (st : RS) (F : List Nat) (v : Value) (l : List ByteArray) (hs : St w B g hq x st F) (hv : kdW.rd w 0 w.heap.size v (wDrop :: l)) (he : hasT (wDrop :: l) ByteArray.empty = false) (hl : l.length ≠ 1) (hlz : (l.length + 1) * 48 ≤ 140737488355328) :
    Calls Tryz.prog 107 #[.pointer (some ⟨g, 0, none⟩), .pointer (some ⟨hq, 0, none⟩), v] w (LineR w B g hq st (wDrop :: l)) := by
  have HHS : Hid (Calls Tryz.prog 48 #[v, .string ByteArray.empty] w fun e w' => e = .returned (.bool false) ∧ w = w') := Lib.hid ((rHasC (wDrop :: l) v ByteArray.empty w hv).mono fun e w' hq => ⟨by rw [hq.1, he], hq.2.symm⟩)
  have hno : Hid (lineO st (wDrop :: l) = none) := Lib.hid (by
    unfold lineO; rw [if_neg (by rw [he]; decide)]
    match l, hl with
    | [], _ => rfl
    | [a], hq => exact absurd rfl hq
    | a :: b :: t, _ => rfl)
  obtain ⟨A, cp, rfl, hn1, hn2⟩ := rdW_form hv
  obtain ⟨b, off, rfl, _, hb2, hx0⟩ := rdW_at hv (i := 0) (by simp)
  have y0 : w.cell? ⟨b, off, none⟩ = some (.string ⟨#[100, 114, 111, 112]⟩) := (by have h9 : w.cell? ⟨b, off, none⟩ = some (.string wDrop) := (by simpa using hx0); exact h9)
  obtain ⟨m, hml⟩ : ∃ m, m = l.length := ⟨_, rfl⟩
  obtain ⟨N, hN⟩ : ∃ N, N = m + 1 := ⟨_, rfl⟩
  have hlN : (wDrop :: l).length = N := by rw [hN, hml]; rfl
  rw [hlN] at HHS hn1 hv
  rw [hlN]
  obtain ⟨c2, hc2⟩ : ∃ c2, c2 = cp - 1 := ⟨_, rfl⟩
  have HDR1 : Hid (kdW.rd w 0 w.heap.size (.slice (if cp = 1 then some ⟨b, off, none⟩ else some ⟨b, off + 1, none⟩) m c2) l) := Lib.hid (by
    have h9 := rdW_drop hv (k := 1) (by simp)
    rw [hN, Nat.add_sub_cancel, ← hc2] at h9
    by_cases h0 : cp = 1
    · have hm0 : m = 0 := by omega
      have hl0 : l = [] := List.eq_nil_of_length_eq_zero (by rw [← hml]; exact hm0)
      subst hl0
      rw [if_pos h0, hm0]
      exact ⟨_, _, rfl, Nat.zero_le _, by unfold maxLen; omega, fun hq => by simp at hq⟩
    · rw [if_neg h0]; exact h9)
  have HS := Lib.hid hs
  have hne : ¬ g = hq := by have := hs.gh; omega
  have hne2 : ¬ hq = g := by have := hs.gh; omega
  have n1 : (1 : Int) ≤ (N : Int) := by omega
  have n2 : (0 : Int) < (N : Int) := by omega
  have n0 : 0 < N := by omega
  have n3 : ((N : Int) - 1).toNat = m := by omega
  have n4 : N - 1 = m := by omega
  have q0 : (N : Int) ≤ (cp : Int) := by omega
  have q1 : (1 : Int) ≤ (cp : Int) := by omega
  have q2 : (cp : Int) ≤ 9223372036854775807 := by unfold maxLen at hn2; omega
  have q3 : ((cp : Int) - 1).toNat = c2 := by omega
  have q4 : cp - 1 = c2 := hc2.symm
  have b1 : ((N : Int) != 2) = true := by
    have : m ≠ 1 := fun e => hl (by rw [← hml]; exact e)
    simp; omega
  clear hl
  clear hs hv he hx0 hml hN hlN hc2
  go_enter Tryz.func107, Tryz.ntmps107
  go_wp2_with (go_at_call 48; refine HHS.out.mono ?_; rintro e w1 ⟨rfl, rfl⟩)
  go_ret
  exact LineR.no (HS.out.kpt (Below.refl _ _)) hno.out
set_option maxHeartbeats 4000000 in
set_option maxRecDepth 100000 in
/-- 'element', of another length -/
theorem rLineNElement (w : World) (B g hq : Nat) (x : Vs) (st : RS) (F : List Nat) (v : Value) (l : List ByteArray) (hs : St w B g hq x st F) (hv : kdW.rd w 0 w.heap.size v (wElement :: l)) (he : hasT (wElement :: l) ByteArray.empty = false) (hl : l.length ≠ 1) (hlz : (l.length + 1) * 48 ≤ 140737488355328) :
    Calls Tryz.prog 107 #[.pointer (some ⟨g, 0, none⟩), .pointer (some ⟨hq, 0, none⟩), v] w (LineR w B g hq st (wElement :: l)) := by
  have HHS : Hid (Calls Tryz.prog 48 #[v, .string ByteArray.empty] w fun e w' => e = .returned (.bool false) ∧ w = w') := Lib.hid ((rHasC (wElement :: l) v ByteArray.empty w hv).mono fun e w' hq => ⟨by rw [hq.1, he], hq.2.symm⟩)
  have hno : Hid (lineO st (wElement :: l) = none) := Lib.hid (by
    unfold lineO; rw [if_neg (by rw [he]; decide)]
    match l, hl with
    | [], _ => rfl
    | [a], hq => exact absurd rfl hq
    | a :: b :: t, _ => rfl)
  obtain ⟨A, cp, rfl, hn1, hn2⟩ := rdW_form hv
  obtain ⟨b, off, rfl, _, hb2, hx0⟩ := rdW_at hv (i := 0) (by simp)
  have y0 : w.cell? ⟨b, off, none⟩ = some (.string ⟨#[101, 108, 101, 109, 101, 110, 116]⟩) := (by have h9 : w.cell? ⟨b, off, none⟩ = some (.string wElement) := (by simpa using hx0); exact h9)
  obtain ⟨m, hml⟩ : ∃ m, m = l.length := ⟨_, rfl⟩
  obtain ⟨N, hN⟩ : ∃ N, N = m + 1 := ⟨_, rfl⟩
  have hlN : (wElement :: l).length = N := by rw [hN, hml]; rfl
  rw [hlN] at HHS hn1 hv
  rw [hlN]
  obtain ⟨c2, hc2⟩ : ∃ c2, c2 = cp - 1 := ⟨_, rfl⟩
  have HDR1 : Hid (kdW.rd w 0 w.heap.size (.slice (if cp = 1 then some ⟨b, off, none⟩ else some ⟨b, off + 1, none⟩) m c2) l) := Lib.hid (by
    have h9 := rdW_drop hv (k := 1) (by simp)
    rw [hN, Nat.add_sub_cancel, ← hc2] at h9
    by_cases h0 : cp = 1
    · have hm0 : m = 0 := by omega
      have hl0 : l = [] := List.eq_nil_of_length_eq_zero (by rw [← hml]; exact hm0)
      subst hl0
      rw [if_pos h0, hm0]
      exact ⟨_, _, rfl, Nat.zero_le _, by unfold maxLen; omega, fun hq => by simp at hq⟩
    · rw [if_neg h0]; exact h9)
  have HS := Lib.hid hs
  have hne : ¬ g = hq := by have := hs.gh; omega
  have hne2 : ¬ hq = g := by have := hs.gh; omega
  have n1 : (1 : Int) ≤ (N : Int) := by omega
  have n2 : (0 : Int) < (N : Int) := by omega
  have n0 : 0 < N := by omega
  have n3 : ((N : Int) - 1).toNat = m := by omega
  have n4 : N - 1 = m := by omega
  have q0 : (N : Int) ≤ (cp : Int) := by omega
  have q1 : (1 : Int) ≤ (cp : Int) := by omega
  have q2 : (cp : Int) ≤ 9223372036854775807 := by unfold maxLen at hn2; omega
  have q3 : ((cp : Int) - 1).toNat = c2 := by omega
  have q4 : cp - 1 = c2 := hc2.symm
  have b1 : ((N : Int) != 2) = true := by
    have : m ≠ 1 := fun e => hl (by rw [← hml]; exact e)
    simp; omega
  clear hl
  clear hs hv he hx0 hml hN hlN hc2
  go_enter Tryz.func107, Tryz.ntmps107
  go_wp2_with (go_at_call 48; refine HHS.out.mono ?_; rintro e w1 ⟨rfl, rfl⟩)
  go_ret
  exact LineR.no (HS.out.kpt (Below.refl _ _)) hno.out
set_option maxHeartbeats 4000000 in
set_option maxRecDepth 100000 in
/-- an unknown word -/
theorem rLineX (w : World) (B g hq : Nat) (x : Vs) (st : RS) (F : List Nat) (v : Value) (w0 : ByteArray) (hu0 : w0 ≠ wRel) (hu1 : w0 ≠ wDepth) (hu2 : w0 ≠ wWindow) (hu3 : w0 ≠ wScheme) (hu4 : w0 ≠ wDrop) (hu5 : w0 ≠ wElement) (hu6 : w0 ≠ wGlobal) (hu7 : w0 ≠ wAttr) (l : List ByteArray) (hs : St w B g hq x st F) (hv : kdW.rd w 0 w.heap.size v (w0 :: l)) (he : hasT (w0 :: l) ByteArray.empty = false) (hlz : (l.length + 1) * 48 ≤ 140737488355328) :
    Calls Tryz.prog 107 #[.pointer (some ⟨g, 0, none⟩), .pointer (some ⟨hq, 0, none⟩), v] w (LineR w B g hq st (w0 :: l)) := by
  have HHS : Hid (Calls Tryz.prog 48 #[v, .string ByteArray.empty] w fun e w' => e = .returned (.bool false) ∧ w = w') := Lib.hid ((rHasC (w0 :: l) v ByteArray.empty w hv).mono fun e w' hq => ⟨by rw [hq.1, he], hq.2.symm⟩)
  have hno : Hid (lineO st (w0 :: l) = none) := Lib.hid (by
    unfold lineO; rw [if_neg (by rw [he]; decide)]
    simp only [hu0, hu1, hu2, hu3, hu4, hu5, hu6, hu7, if_false])
  obtain ⟨A, cp, rfl, hn1, hn2⟩ := rdW_form hv
  obtain ⟨b, off, rfl, _, hb2, hx0⟩ := rdW_at hv (i := 0) (by simp)
  have y0 : w.cell? ⟨b, off, none⟩ = some (.string w0) := (by have h9 : w.cell? ⟨b, off, none⟩ = some (.string w0) := (by simpa using hx0); exact h9)
  obtain ⟨m, hml⟩ : ∃ m, m = l.length := ⟨_, rfl⟩
  obtain ⟨N, hN⟩ : ∃ N, N = m + 1 := ⟨_, rfl⟩
  have hlN : (w0 :: l).length = N := by rw [hN, hml]; rfl
  rw [hlN] at HHS hn1 hv
  rw [hlN]
  obtain ⟨c2, hc2⟩ : ∃ c2, c2 = cp - 1 := ⟨_, rfl⟩
  have HDR1 : Hid (kdW.rd w 0 w.heap.size (.slice (if cp = 1 then some ⟨b, off, none⟩ else some ⟨b, off + 1, none⟩) m c2) l) := Lib.hid (by
    have h9 := rdW_drop hv (k := 1) (by simp)
    rw [hN, Nat.add_sub_cancel, ← hc2] at h9
    by_cases h0 : cp = 1
    · have hm0 : m = 0 := by omega
      have hl0 : l = [] := List.eq_nil_of_length_eq_zero (by rw [← hml]; exact hm0)
      subst hl0
      rw [if_pos h0, hm0]
      exact ⟨_, _, rfl, Nat.zero_le _, by unfold maxLen; omega, fun hq => by simp at hq⟩
    · rw [if_neg h0]; exact h9)
  have HS := Lib.hid hs
  have hne : ¬ g = hq := by have := hs.gh; omega
  have hne2 : ¬ hq = g := by have := hs.gh; omega
  have n1 : (1 : Int) ≤ (N : Int) := by omega
  have n2 : (0 : Int) < (N : Int) := by omega
  have n0 : 0 < N := by omega
  have n3 : ((N : Int) - 1).toNat = m := by omega
  have n4 : N - 1 = m := by omega
  have q0 : (N : Int) ≤ (cp : Int) := by omega
  have q1 : (1 : Int) ≤ (cp : Int) := by omega
  have q2 : (cp : Int) ≤ 9223372036854775807 := by unfold maxLen at hn2; omega
  have q3 : ((cp : Int) - 1).toNat = c2 := by omega
  have q4 : cp - 1 = c2 := hc2.symm
  have u0 : (w0.toList == [114, 101, 108, 97, 116, 105, 118, 101]) = false := Go.Proofs.YtjhimmljanbjcaaGreatDoor.Lp.lit_no hu0
  have u1 : (w0.toList == [100, 101, 112, 116, 104]) = false := Go.Proofs.YtjhimmljanbjcaaGreatDoor.Lp.lit_no hu1
  have u2 : (w0.toList == [119, 105, 110, 100, 111, 119]) = false := Go.Proofs.YtjhimmljanbjcaaGreatDoor.Lp.lit_no hu2
  have u3 : (w0.toList == [115, 99, 104, 101, 109, 101]) = false := Go.Proofs.YtjhimmljanbjcaaGreatDoor.Lp.lit_no hu3
  have u4 : (w0.toList == [100, 114, 111, 112]) = false := Go.Proofs.YtjhimmljanbjcaaGreatDoor.Lp.lit_no hu4
  have u5 : (w0.toList == [101, 108, 101, 109, 101, 110, 116]) = false := Go.Proofs.YtjhimmljanbjcaaGreatDoor.Lp.lit_no hu5
  have u6 : (w0.toList == [103, 108, 111, 98, 97, 108]) = false := Go.Proofs.YtjhimmljanbjcaaGreatDoor.Lp.lit_no hu6
  have u7 : (w0.toList == [97, 116, 116, 114]) = false := Go.Proofs.YtjhimmljanbjcaaGreatDoor.Lp.lit_no hu7
  clear hu0 hu1 hu2 hu3 hu4 hu5 hu6 hu7
  clear hs hv he hx0 hml hN hlN hc2
  go_enter Tryz.func107, Tryz.ntmps107
  go_wp2_with (go_at_call 48; refine HHS.out.mono ?_; rintro e w1 ⟨rfl, rfl⟩)
  go_ret
  exact LineR.no (HS.out.kpt (Below.refl _ _)) hno.out
set_option maxHeartbeats 4000000 in
set_option maxRecDepth 100000 in
/-- 'global', no rule -/
theorem rLineGlobal2 (w : World) (B g hq : Nat) (x : Vs) (st : RS) (F : List Nat) (v : Value) (l : List ByteArray) (hs : St w B g hq x st F) (hv : kdW.rd w 0 w.heap.size v (wGlobal :: l)) (he : hasT (wGlobal :: l) ByteArray.empty = false) (hro : ruleO l = none) (hlz : (l.length + 1) * 48 ≤ 140737488355328) :
    Calls Tryz.prog 107 #[.pointer (some ⟨g, 0, none⟩), .pointer (some ⟨hq, 0, none⟩), v] w (LineR w B g hq st (wGlobal :: l)) := by
  have HHS : Hid (Calls Tryz.prog 48 #[v, .string ByteArray.empty] w fun e w' => e = .returned (.bool false) ∧ w = w') := Lib.hid ((rHasC (wGlobal :: l) v ByteArray.empty w hv).mono fun e w' hq => ⟨by rw [hq.1, he], hq.2.symm⟩)
  have hno : Hid (lineO st (wGlobal :: l) = none) := Lib.hid (by
    unfold lineO; rw [if_neg (by rw [he]; decide)]
    show (match ruleO l with | some r => _ | none => none) = none
    rw [hro])
  obtain ⟨A, cp, rfl, hn1, hn2⟩ := rdW_form hv
  obtain ⟨b, off, rfl, _, hb2, hx0⟩ := rdW_at hv (i := 0) (by simp)
  have y0 : w.cell? ⟨b, off, none⟩ = some (.string ⟨#[103, 108, 111, 98, 97, 108]⟩) := (by have h9 : w.cell? ⟨b, off, none⟩ = some (.string wGlobal) := (by simpa using hx0); exact h9)
  obtain ⟨m, hml⟩ : ∃ m, m = l.length := ⟨_, rfl⟩
  obtain ⟨N, hN⟩ : ∃ N, N = m + 1 := ⟨_, rfl⟩
  have hlN : (wGlobal :: l).length = N := by rw [hN, hml]; rfl
  rw [hlN] at HHS hn1 hv
  rw [hlN]
  obtain ⟨c2, hc2⟩ : ∃ c2, c2 = cp - 1 := ⟨_, rfl⟩
  have HDR1 : Hid (kdW.rd w 0 w.heap.size (.slice (if cp = 1 then some ⟨b, off, none⟩ else some ⟨b, off + 1, none⟩) m c2) l) := Lib.hid (by
    have h9 := rdW_drop hv (k := 1) (by simp)
    rw [hN, Nat.add_sub_cancel, ← hc2] at h9
    by_cases h0 : cp = 1
    · have hm0 : m = 0 := by omega
      have hl0 : l = [] := List.eq_nil_of_length_eq_zero (by rw [← hml]; exact hm0)
      subst hl0
      rw [if_pos h0, hm0]
      exact ⟨_, _, rfl, Nat.zero_le _, by unfold maxLen; omega, fun hq => by simp at hq⟩
    · rw [if_neg h0]; exact h9)
  have HS := Lib.hid hs
  have hne : ¬ g = hq := by have := hs.gh; omega
  have hne2 : ¬ hq = g := by have := hs.gh; omega
  have n1 : (1 : Int) ≤ (N : Int) := by omega
  have n2 : (0 : Int) < (N : Int) := by omega
  have n0 : 0 < N := by omega
  have n3 : ((N : Int) - 1).toNat = m := by omega
  have n4 : N - 1 = m := by omega
  have q0 : (N : Int) ≤ (cp : Int) := by omega
  have q1 : (1 : Int) ≤ (cp : Int) := by omega
  have q2 : (cp : Int) ≤ 9223372036854775807 := by unfold maxLen at hn2; omega
  have q3 : ((cp : Int) - 1).toNat = c2 := by omega
  have q4 : cp - 1 = c2 := hc2.symm
  have HRU : Hid (∀ W v, kdW.rd W 0 W.heap.size v l → Calls Tryz.prog 160 #[v] W fun e w' => ∃ a b A n c, e = .returned (.tuple #[.agg #[.string a, .int .i64 b, .slice A n c], .bool false]) ∧ Below W.heap.size W w') := Lib.hid fun W v hq => (ruleInC l v W hq (by omega)).mono fun e w' ⟨r0, u, G, he, ho, hr, hb⟩ => by
    obtain ⟨A6, c6, rfl, _⟩ := own_slice ho.1
    rw [hro] at he
    exact ⟨_, _, A6, _, c6, he, hb⟩
  clear hro
  clear hs hv he hx0 hml hN hlN hc2
  go_enter Tryz.func107, Tryz.ntmps107
  go_wp2_with (first
    | (go_at_call 48; refine HHS.out.mono ?_; rintro e w1 ⟨rfl, rfl⟩)
    | (go_at_call 160; refine (HRU.out _ _ (by exact HDR1.out)).mono ?_; rintro e w2 ⟨ra, rk, A6, n6, c6, rfl, hb2'⟩))
  all_goals (
    go_ret
    exact LineR.no (HS.out.kpt (hb2'.alloc hb2'.size _)) hno.out)
set_option maxHeartbeats 4000000 in
set_option maxRecDepth 100000 in
/-- 'attr', no rule -/
theorem rLineAttr2 (w : World) (B g hq : Nat) (x : Vs) (st : RS) (F : List Nat) (v : Value) (l : List ByteArray) (hs : St w B g hq x st F) (hv : kdW.rd w 0 w.heap.size v (wAttr :: l)) (he : hasT (wAttr :: l) ByteArray.empty = false) (hro : ruleO l = none) (hlz : (l.length + 1) * 48 ≤ 140737488355328) :
    Calls Tryz.prog 107 #[.pointer (some ⟨g, 0, none⟩), .pointer (some ⟨hq, 0, none⟩), v] w (LineR w B g hq st (wAttr :: l)) := by
  have HHS : Hid (Calls Tryz.prog 48 #[v, .string ByteArray.empty] w fun e w' => e = .returned (.bool false) ∧ w = w') := Lib.hid ((rHasC (wAttr :: l) v ByteArray.empty w hv).mono fun e w' hq => ⟨by rw [hq.1, he], hq.2.symm⟩)
  have hno : Hid (lineO st (wAttr :: l) = none) := Lib.hid (by
    unfold lineO; rw [if_neg (by rw [he]; decide)]
    show (if st.p.els = [] then none else match ruleO l with | some r => _ | none => none) = none
    rw [hro]
    split <;> rfl)
  obtain ⟨A, cp, rfl, hn1, hn2⟩ := rdW_form hv
  obtain ⟨b, off, rfl, _, hb2, hx0⟩ := rdW_at hv (i := 0) (by simp)
  have y0 : w.cell? ⟨b, off, none⟩ = some (.string ⟨#[97, 116, 116, 114]⟩) := (by have h9 : w.cell? ⟨b, off, none⟩ = some (.string wAttr) := (by simpa using hx0); exact h9)
  obtain ⟨m, hml⟩ : ∃ m, m = l.length := ⟨_, rfl⟩
  obtain ⟨N, hN⟩ : ∃ N, N = m + 1 := ⟨_, rfl⟩
  have hlN : (wAttr :: l).length = N := by rw [hN, hml]; rfl
  rw [hlN] at HHS hn1 hv
  rw [hlN]
  obtain ⟨c2, hc2⟩ : ∃ c2, c2 = cp - 1 := ⟨_, rfl⟩
  have HDR1 : Hid (kdW.rd w 0 w.heap.size (.slice (if cp = 1 then some ⟨b, off, none⟩ else some ⟨b, off + 1, none⟩) m c2) l) := Lib.hid (by
    have h9 := rdW_drop hv (k := 1) (by simp)
    rw [hN, Nat.add_sub_cancel, ← hc2] at h9
    by_cases h0 : cp = 1
    · have hm0 : m = 0 := by omega
      have hl0 : l = [] := List.eq_nil_of_length_eq_zero (by rw [← hml]; exact hm0)
      subst hl0
      rw [if_pos h0, hm0]
      exact ⟨_, _, rfl, Nat.zero_le _, by unfold maxLen; omega, fun hq => by simp at hq⟩
    · rw [if_neg h0]; exact h9)
  have HS := Lib.hid hs
  have hne : ¬ g = hq := by have := hs.gh; omega
  have hne2 : ¬ hq = g := by have := hs.gh; omega
  have n1 : (1 : Int) ≤ (N : Int) := by omega
  have n2 : (0 : Int) < (N : Int) := by omega
  have n0 : 0 < N := by omega
  have n3 : ((N : Int) - 1).toNat = m := by omega
  have n4 : N - 1 = m := by omega
  have q0 : (N : Int) ≤ (cp : Int) := by omega
  have q1 : (1 : Int) ≤ (cp : Int) := by omega
  have q2 : (cp : Int) ≤ 9223372036854775807 := by unfold maxLen at hn2; omega
  have q3 : ((cp : Int) - 1).toNat = c2 := by omega
  have q4 : cp - 1 = c2 := hc2.symm
  have HRU : Hid (∀ W v, kdW.rd W 0 W.heap.size v l → Calls Tryz.prog 160 #[v] W fun e w' => ∃ a b A n c, e = .returned (.tuple #[.agg #[.string a, .int .i64 b, .slice A n c], .bool false]) ∧ Below W.heap.size W w') := Lib.hid fun W v hq => (ruleInC l v W hq (by omega)).mono fun e w' ⟨r0, u, G, he, ho, hr, hb⟩ => by
    obtain ⟨A6, c6, rfl, _⟩ := own_slice ho.1
    rw [hro] at he
    exact ⟨_, _, A6, _, c6, he, hb⟩
  clear hro
  clear hs hv he hx0 hml hN hlN hc2
  go_enter Tryz.func107, Tryz.ntmps107
  go_wp2_with (first
    | (go_at_call 48; refine HHS.out.mono ?_; rintro e w1 ⟨rfl, rfl⟩)
    | (go_at_call 160; refine (HRU.out _ _ (by exact HDR1.out)).mono ?_; rintro e w2 ⟨ra, rk, A6, n6, c6, rfl, hb2'⟩))
  all_goals (
    go_ret
    exact LineR.no (HS.out.kpt (hb2'.alloc hb2'.size _)) hno.out)
set_option maxHeartbeats 4000000 in
set_option maxRecDepth 100000 in
/-- 'attr' with no element ahead -/
theorem rLineAttr0 (w : World) (B g hq : Nat) (x : Vs) (st : RS) (F : List Nat) (v : Value) (r : RuleD) (hel : st.p.els = []) (l : List ByteArray) (hs : St w B g hq x st F) (hv : kdW.rd w 0 w.heap.size v (wAttr :: l)) (he : hasT (wAttr :: l) ByteArray.empty = false) (hro : ruleO l = some r) (hlz : (l.length + 1) * 48 ≤ 140737488355328) :
    Calls Tryz.prog 107 #[.pointer (some ⟨g, 0, none⟩), .pointer (some ⟨hq, 0, none⟩), v] w (LineR w B g hq st (wAttr :: l)) := by
  have HHS : Hid (Calls Tryz.prog 48 #[v, .string ByteArray.empty] w fun e w' => e = .returned (.bool false) ∧ w = w') := Lib.hid ((rHasC (wAttr :: l) v ByteArray.empty w hv).mono fun e w' hq => ⟨by rw [hq.1, he], hq.2.symm⟩)
  have hno : Hid (lineO st (wAttr :: l) = none) := Lib.hid (by
    unfold lineO; rw [if_neg (by rw [he]; decide)]
    show (if st.p.els = [] then none else _) = none
    rw [if_pos hel])
  obtain ⟨A, cp, rfl, hn1, hn2⟩ := rdW_form hv
  obtain ⟨b, off, rfl, _, hb2, hx0⟩ := rdW_at hv (i := 0) (by simp)
  have y0 : w.cell? ⟨b, off, none⟩ = some (.string ⟨#[97, 116, 116, 114]⟩) := (by have h9 : w.cell? ⟨b, off, none⟩ = some (.string wAttr) := (by simpa using hx0); exact h9)
  obtain ⟨m, hml⟩ : ∃ m, m = l.length := ⟨_, rfl⟩
  obtain ⟨N, hN⟩ : ∃ N, N = m + 1 := ⟨_, rfl⟩
  have hlN : (wAttr :: l).length = N := by rw [hN, hml]; rfl
  rw [hlN] at HHS hn1 hv
  rw [hlN]
  obtain ⟨c2, hc2⟩ : ∃ c2, c2 = cp - 1 := ⟨_, rfl⟩
  have HDR1 : Hid (kdW.rd w 0 w.heap.size (.slice (if cp = 1 then some ⟨b, off, none⟩ else some ⟨b, off + 1, none⟩) m c2) l) := Lib.hid (by
    have h9 := rdW_drop hv (k := 1) (by simp)
    rw [hN, Nat.add_sub_cancel, ← hc2] at h9
    by_cases h0 : cp = 1
    · have hm0 : m = 0 := by omega
      have hl0 : l = [] := List.eq_nil_of_length_eq_zero (by rw [← hml]; exact hm0)
      subst hl0
      rw [if_pos h0, hm0]
      exact ⟨_, _, rfl, Nat.zero_le _, by unfold maxLen; omega, fun hq => by simp at hq⟩
    · rw [if_neg h0]; exact h9)
  have HS := Lib.hid hs
  have hne : ¬ g = hq := by have := hs.gh; omega
  have hne2 : ¬ hq = g := by have := hs.gh; omega
  have n1 : (1 : Int) ≤ (N : Int) := by omega
  have n2 : (0 : Int) < (N : Int) := by omega
  have n0 : 0 < N := by omega
  have n3 : ((N : Int) - 1).toNat = m := by omega
  have n4 : N - 1 = m := by omega
  have q0 : (N : Int) ≤ (cp : Int) := by omega
  have q1 : (1 : Int) ≤ (cp : Int) := by omega
  have q2 : (cp : Int) ≤ 9223372036854775807 := by unfold maxLen at hn2; omega
  have q3 : ((cp : Int) - 1).toNat = c2 := by omega
  have q4 : cp - 1 = c2 := hc2.symm
  have HRU : Hid (∀ W v, kdW.rd W 0 W.heap.size v l → Calls Tryz.prog 160 #[v] W fun e w' => ∃ u G, e = .returned (.tuple #[.agg #[.string r.name, .int .i64 r.kind, u], .bool true]) ∧ kdW.own w' W.heap.size u r.words G ∧ Below W.heap.size W w') := Lib.hid fun W v hq => (ruleInC l v W hq (by omega)).mono fun e w' ⟨r0, u, G, he, ho, hr, hb⟩ => by
    obtain rfl := hr r hro
    rw [hro] at he
    exact ⟨u, G, he, ho, hb⟩
  have hxe : ∃ A c, x.e = .slice A 0 c := by
    obtain ⟨F1, F2, F3, F4, h1, _⟩ := hs.own
    obtain ⟨A, c, hv, _⟩ := fmE.own_form h1
    rw [hel] at hv
    exact ⟨A, c, hv⟩
  obtain ⟨Ae, ce, hxe⟩ := hxe
  have HBG : Hid (∀ W, Below w.heap.size w W → Bl W g 26 [.slice Ae 0 ce, x.g, x.s, .bool st.p.rel, x.d, .int .i64 st.p.depth, .int .i64 st.p.window]) := Lib.hid fun W hW => by rw [← hxe]; exact hs.bg.below hW
  have HY : Hid (∀ W, Below w.heap.size w W → W.cell? ⟨b, off, none⟩ = some (.string ⟨#[97, 116, 116, 114]⟩)) := Lib.hid fun W hW => (hW.cell (p := ⟨b, off, none⟩) hb2).trans y0
  clear hro hxe hel
  clear hs hv he hx0 hml hN hlN hc2
  go_enter Tryz.func107, Tryz.ntmps107
  go_upto_region 35 with (first
    | (go_at_call 48; refine HHS.out.mono ?_; rintro e w1 ⟨rfl, rfl⟩)
    | (go_at_call 160; refine (HRU.out _ _ (by exact HDR1.out)).mono ?_; rintro e w2 ⟨u, G, rfl, ho2, hb2'⟩; obtain ⟨A6, c6, rfl, _⟩ := own_slice ho2.1))
  all_goals (
  have hb3 := hb2'.alloc hb2'.size (.cells #[.string r.name, .int .i64 r.kind, .slice A6 r.words.length c6] 50)
  have y9 := HY.out _ hb3
  have c0 := (HBG.out _ hb3).cell 0 rfl
  go_wp2
  all_goals (
    go_ret
    exact LineR.no (HS.out.kpt hb3) hno.out))
set_option maxHeartbeats 4000000 in
set_option maxRecDepth 100000 in
/-- 'global' -/
theorem rLineGlobal (w : World) (B g hq : Nat) (x : Vs) (st : RS) (F : List Nat) (v : Value) (r : RuleD) (hl : (st.p.glob.length + 1) * 48 ≤ 140737488355328) (l : List ByteArray) (hs : St w B g hq x st F) (hv : kdW.rd w 0 w.heap.size v (wGlobal :: l)) (he : hasT (wGlobal :: l) ByteArray.empty = false) (hro : ruleO l = some r) (hlz : (l.length + 1) * 48 ≤ 140737488355328) :
    Calls Tryz.prog 107 #[.pointer (some ⟨g, 0, none⟩), .pointer (some ⟨hq, 0, none⟩), v] w (LineR w B g hq st (wGlobal :: l)) := by
  have HHS : Hid (Calls Tryz.prog 48 #[v, .string ByteArray.empty] w fun e w' => e = .returned (.bool false) ∧ w = w') := Lib.hid ((rHasC (wGlobal :: l) v ByteArray.empty w hv).mono fun e w' hq => ⟨by rw [hq.1, he], hq.2.symm⟩)
  have hno : Hid (lineO st (wGlobal :: l) = some { st with p := { st.p with glob := st.p.glob ++ [r] } }) := Lib.hid (by
    unfold lineO; rw [if_neg (by rw [he]; decide)]
    show (match ruleO l with | some r => some { st with p := { st.p with glob := st.p.glob ++ [r] } } | none => none) = _
    rw [hro])
  obtain ⟨A, cp, rfl, hn1, hn2⟩ := rdW_form hv
  obtain ⟨b, off, rfl, _, hb2, hx0⟩ := rdW_at hv (i := 0) (by simp)
  have y0 : w.cell? ⟨b, off, none⟩ = some (.string ⟨#[103, 108, 111, 98, 97, 108]⟩) := (by have h9 : w.cell? ⟨b, off, none⟩ = some (.string wGlobal) := (by simpa using hx0); exact h9)
  obtain ⟨m, hml⟩ : ∃ m, m = l.length := ⟨_, rfl⟩
  obtain ⟨N, hN⟩ : ∃ N, N = m + 1 := ⟨_, rfl⟩
  have hlN : (wGlobal :: l).length = N := by rw [hN, hml]; rfl
  rw [hlN] at HHS hn1 hv
  rw [hlN]
  obtain ⟨c2, hc2⟩ : ∃ c2, c2 = cp - 1 := ⟨_, rfl⟩
  have HDR1 : Hid (kdW.rd w 0 w.heap.size (.slice (if cp = 1 then some ⟨b, off, none⟩ else some ⟨b, off + 1, none⟩) m c2) l) := Lib.hid (by
    have h9 := rdW_drop hv (k := 1) (by simp)
    rw [hN, Nat.add_sub_cancel, ← hc2] at h9
    by_cases h0 : cp = 1
    · have hm0 : m = 0 := by omega
      have hl0 : l = [] := List.eq_nil_of_length_eq_zero (by rw [← hml]; exact hm0)
      subst hl0
      rw [if_pos h0, hm0]
      exact ⟨_, _, rfl, Nat.zero_le _, by unfold maxLen; omega, fun hq => by simp at hq⟩
    · rw [if_neg h0]; exact h9)
  have HS := Lib.hid hs
  have hne : ¬ g = hq := by have := hs.gh; omega
  have hne2 : ¬ hq = g := by have := hs.gh; omega
  have n1 : (1 : Int) ≤ (N : Int) := by omega
  have n2 : (0 : Int) < (N : Int) := by omega
  have n0 : 0 < N := by omega
  have n3 : ((N : Int) - 1).toNat = m := by omega
  have n4 : N - 1 = m := by omega
  have q0 : (N : Int) ≤ (cp : Int) := by omega
  have q1 : (1 : Int) ≤ (cp : Int) := by omega
  have q2 : (cp : Int) ≤ 9223372036854775807 := by unfold maxLen at hn2; omega
  have q3 : ((cp : Int) - 1).toNat = c2 := by omega
  have q4 : cp - 1 = c2 := hc2.symm
  obtain ⟨i0, hi, hz0, hz1, hz2⟩ := info_parts infoRule
  have HL := Lib.hid hl
  clear hl
  have HRU : Hid (∀ W v, kdW.rd W 0 W.heap.size v l → Calls Tryz.prog 160 #[v] W fun e w' => ∃ u G, e = .returned (.tuple #[.agg #[.string r.name, .int .i64 r.kind, u], .bool true]) ∧ kdW.own w' W.heap.size u r.words G ∧ Below W.heap.size W w') := Lib.hid fun W v hq => (ruleInC l v W hq (by omega)).mono fun e w' ⟨r0, u, G, he, ho, hr, hb⟩ => by
    obtain rfl := hr r hro
    rw [hro] at he
    exact ⟨u, G, he, ho, hb⟩
  clear hro
  clear hs hv he hx0 hml hN hlN hc2
  go_enter Tryz.func107, Tryz.ntmps107
  obtain ⟨F1, F2, F3, F4, h1, h2, h3, h4, hF, hn⟩ := HS.out.own
  obtain ⟨T, hT, how, hsT, hFT, hnT⟩ := h2
  have hTl : T.length = st.p.glob.length := by have := congrArg List.length hT; simpa using this
  have hge : ∀ j, x.g.ownBlock = some j → B ≤ j := fun j hj => (how.lt j hj).1
  have hgB : g < B := by have := HS.out.gh; have := HS.out.hB; omega
  have hhB := HS.out.hB
  have hBz := HS.out.size
  have g2 : (T.length + 1) * 48 ≤ 140737488355328 := by rw [hTl]; exact HL.out
  have g1 : T.length + 1 ≤ maxLen := by unfold maxLen; omega
  have hbg := HS.out.bg
  have HTL := Lib.hid hTl
  clear hTl
  go_upto_region 35 with (first
    | (go_at_call 48; refine HHS.out.mono ?_; rintro e w1 ⟨rfl, rfl⟩)
    | (go_at_call 160; refine (HRU.out _ _ (by exact HDR1.out)).mono ?_; rintro e w2 ⟨u, G, rfl, ho2, hb2'⟩; obtain ⟨A6, c6, rfl, _⟩ := own_slice ho2.1))
  all_goals (
  obtain ⟨W3, hW3⟩ : ∃ W, W = w2.alloc (.cells #[.string r.name, .int .i64 r.kind, .slice A6 r.words.length c6] 50) := ⟨_, rfl⟩
  have hb3 : Below w.heap.size w W3 := hW3 ▸ hb2'.alloc hb2'.size _
  have hz3 := hb3.size
  have hz2' := hb2'.size
  have kx : Bl W3 w2.heap.size 50 [.string r.name, .int .i64 r.kind, .slice A6 r.words.length c6] := hW3 ▸ Bl.new w2 _ _ rfl
  have x0 := kx.cell 0 rfl
  have x1 := kx.cell 1 rfl
  have x2 := kx.cell 2 rfl
  have y9 : W3.cell? ⟨b, off, none⟩ = some (.string ⟨#[103, 108, 111, 98, 97, 108]⟩) := (hb3.cell (p := ⟨b, off, none⟩) hb2).trans y0
  have ho3 : kdW.own W3 w.heap.size (.slice A6 r.words.length c6) r.words G := kdW.keep ho2 (by rw [hW3]; simp) (fun k hk => by rw [hW3]; exact Below.heap_alloc _ _ _ (kdW.ge ho2 k hk).2)
  have how3 := own_stay how (w' := W3) (fun k hk => hb3.block k (own_ge2 how k hk).2)
  have HW3 := Lib.hid hW3
  have HO3 := Lib.hid ho3
  rw [← hW3]
  clear hW3 ho3 ho2 hb2'
  have hbg3 := hbg.below hb3
  have d1 := hbg3.cell 1 rfl
  have d2 := (hbg3.alloc (.cells #[.string r.name, .int .i64 r.kind, .slice A6 r.words.length c6] 50)).cell 1 rfl
  go_upto_region 38 with fail
  go_region_law (refine step_append_lies _ (by rfl) (.tmp 175) (.tmp 177) 23 (by rfl) B 50 i0 _ 3 48 Tryz.underlying23 hi hz0 hz1 hz2 rfl (by decide) x.g T.length (fmR.cells T) (by rfl) (by exact how3.alloc _) ⟨W3.heap.size, 0, none⟩ 1 1 [.string r.name, .int .i64 r.kind, .slice A6 r.words.length c6] (by rfl) (by rfl) (by exact World.news_of_block (heap_alloc_new W3 _)) (by simp [Value.oneCell']) (by decide) g1 g2 (by simp; omega) _ rfl ?_; intro g9 cap9 w9 hown9 hgrow9 hat9 hlt9; have n9 := (hbg3.alloc (.cells #[.string r.name, .int .i64 r.kind, .slice A6 r.words.length c6] 50)).of (hgrow9.block _ (by simp; omega) (fun e => by have := hge _ e.symm; omega)); have z1 := n9.cell 1 rfl; have z2 := n9.fz 1)
  all_goals (
    have HN9 := Lib.hid n9
    have HO9 := Lib.hid hown9
    have HG9 := Lib.hid (Go.Proofs.YtjhimmljanbjcaaGreatDoor.Lp.grown_undrew hgrow9)
    have HGE := Lib.hid hge
    have HA := Lib.hid hat9
    clear n9 hown9 hgrow9 hge hat9
    go_wp2
    all_goals (
    go_ret
    obtain ⟨hm1, hm2⟩ := item_more (M := fmR) (t := ⟨r, .slice A6 r.words.length c6, G⟩) (v' := .slice (some ⟨g9, 0, none⟩) (T.length + 1) cap9) how hsT (hFT ▸ hnT) hb3 hBz HO3.out HO9.out HG9.out (HA.out.elim (fun hq => .inl hq.symm) (fun hq => .inr (congrArg some hq)))
    have hb9 := HG9.out.size
    simp at hb9
    rw [hT] at hm1
    rw [← hFT] at hm2
    have ht := Go.Proofs.YtjhimmljanbjcaaGreatDoor.Lp.own_set (turnG h1 h3 h4 (hF ▸ hn) hm1 hm2) hgB 1 (.slice (some ⟨g9, 0, none⟩) (T.length + 1) cap9)
    have hkp := ((HS.out.kpt hb3).trans (grown2 (hq := hq) hgB (by omega) HG9.out HGE.out)).trans (set2k HS.out.gh hgB (by omega) 1 (.slice (some ⟨g9, 0, none⟩) (T.length + 1) cap9))
    have hbh : Bl w9 hq 126 [.bool st.sd, .bool st.sw, .bool st.sr] := (HS.out.bh.below hb3).of ((HG9.out.block hq (by simp; omega) (fun e => by have := HGE.out _ e.symm; omega)).trans (Below.heap_alloc _ _ _ (by omega)))
    exact LineR.yes (x' := ⟨x.e, .slice (some ⟨g9, 0, none⟩) (T.length + 1) cap9, x.s, x.d⟩) (F' := _) hkp hno.out ⟨ht, HN9.out.set 1 (.slice (some ⟨g9, 0, none⟩) (T.length + 1) cap9), hbh.other (p := ⟨g, 1, none⟩) hne2 (.slice (some ⟨g9, 0, none⟩) (T.length + 1) cap9), HS.out.gh, hhB, by simp [World.setCell]; omega⟩)))
set_option maxHeartbeats 4000000 in
set_option maxRecDepth 100000 in
/-- 'attr' -/
theorem rLineAttr (w : World) (B g hq : Nat) (x : Vs) (st : RS) (F : List Nat) (v : Value) (r : RuleD) (i : Nat) (hel : st.p.els.length = i + 1) (hl : ∀ e ∈ st.p.els, (e.rules.length + 1) * 48 ≤ 140737488355328) (l : List ByteArray) (hs : St w B g hq x st F) (hv : kdW.rd w 0 w.heap.size v (wAttr :: l)) (he : hasT (wAttr :: l) ByteArray.empty = false) (hro : ruleO l = some r) (hlz : (l.length + 1) * 48 ≤ 140737488355328) :
    Calls Tryz.prog 107 #[.pointer (some ⟨g, 0, none⟩), .pointer (some ⟨hq, 0, none⟩), v] w (LineR w B g hq st (wAttr :: l)) := by
  have HHS : Hid (Calls Tryz.prog 48 #[v, .string ByteArray.empty] w fun e w' => e = .returned (.bool false) ∧ w = w') := Lib.hid ((rHasC (wAttr :: l) v ByteArray.empty w hv).mono fun e w' hq => ⟨by rw [hq.1, he], hq.2.symm⟩)
  have hno : Hid (lineO st (wAttr :: l) = some { st with p := { st.p with els := lastR st.p.els r } }) := Lib.hid (by
    unfold lineO; rw [if_neg (by rw [he]; decide)]
    show (if st.p.els = [] then none else match ruleO l with | some r => some { st with p := { st.p with els := lastR st.p.els r } } | none => none) = _
    rw [if_neg (fun hq => by rw [hq] at hel; simp at hel), hro])
  obtain ⟨A, cp, rfl, hn1, hn2⟩ := rdW_form hv
  obtain ⟨b, off, rfl, _, hb2, hx0⟩ := rdW_at hv (i := 0) (by simp)
  have y0 : w.cell? ⟨b, off, none⟩ = some (.string ⟨#[97, 116, 116, 114]⟩) := (by have h9 : w.cell? ⟨b, off, none⟩ = some (.string wAttr) := (by simpa using hx0); exact h9)
  obtain ⟨m, hml⟩ : ∃ m, m = l.length := ⟨_, rfl⟩
  obtain ⟨N, hN⟩ : ∃ N, N = m + 1 := ⟨_, rfl⟩
  have hlN : (wAttr :: l).length = N := by rw [hN, hml]; rfl
  rw [hlN] at HHS hn1 hv
  rw [hlN]
  obtain ⟨c2, hc2⟩ : ∃ c2, c2 = cp - 1 := ⟨_, rfl⟩
  have HDR1 : Hid (kdW.rd w 0 w.heap.size (.slice (if cp = 1 then some ⟨b, off, none⟩ else some ⟨b, off + 1, none⟩) m c2) l) := Lib.hid (by
    have h9 := rdW_drop hv (k := 1) (by simp)
    rw [hN, Nat.add_sub_cancel, ← hc2] at h9
    by_cases h0 : cp = 1
    · have hm0 : m = 0 := by omega
      have hl0 : l = [] := List.eq_nil_of_length_eq_zero (by rw [← hml]; exact hm0)
      subst hl0
      rw [if_pos h0, hm0]
      exact ⟨_, _, rfl, Nat.zero_le _, by unfold maxLen; omega, fun hq => by simp at hq⟩
    · rw [if_neg h0]; exact h9)
  have HS := Lib.hid hs
  have hne : ¬ g = hq := by have := hs.gh; omega
  have hne2 : ¬ hq = g := by have := hs.gh; omega
  have n1 : (1 : Int) ≤ (N : Int) := by omega
  have n2 : (0 : Int) < (N : Int) := by omega
  have n0 : 0 < N := by omega
  have n3 : ((N : Int) - 1).toNat = m := by omega
  have n4 : N - 1 = m := by omega
  have q0 : (N : Int) ≤ (cp : Int) := by omega
  have q1 : (1 : Int) ≤ (cp : Int) := by omega
  have q2 : (cp : Int) ≤ 9223372036854775807 := by unfold maxLen at hn2; omega
  have q3 : ((cp : Int) - 1).toNat = c2 := by omega
  have q4 : cp - 1 = c2 := hc2.symm
  obtain ⟨i0, hi, hz0, hz1, hz2⟩ := info_parts infoRule
  have HL := Lib.hid hl
  have HEL := Lib.hid hel
  clear hl hel
  have HRU : Hid (∀ W v, kdW.rd W 0 W.heap.size v l → Calls Tryz.prog 160 #[v] W fun e w' => ∃ u G, e = .returned (.tuple #[.agg #[.string r.name, .int .i64 r.kind, u], .bool true]) ∧ kdW.own w' W.heap.size u r.words G ∧ Below W.heap.size W w') := Lib.hid fun W v hq => (ruleInC l v W hq (by omega)).mono fun e w' ⟨r0, u, G, he, ho, hr, hb⟩ => by
    obtain rfl := hr r hro
    rw [hro] at he
    exact ⟨u, G, he, ho, hb⟩
  clear hro
  clear hs hv he hx0 hml hN hlN hc2
  go_enter Tryz.func107, Tryz.ntmps107
  have hil : i < st.p.els.length := by have := HEL.out; omega
  obtain ⟨F1, F2, F3, F4, h1, h2, h3, h4, hF, hn⟩ := HS.out.own
  obtain ⟨ge, ecap, u0, G0, hv, hBg, hgz, hsub, hgF, hgG, hGF, hcells, hfz, hclose⟩ := fmE.own_at h1 hil
  have HV2 := Lib.hid hv
  have HV : Hid (x.e = .slice (some ⟨ge, 0, none⟩) (i + 1) ecap) := Lib.hid (by rw [hv, HEL.out])
  obtain ⟨T, hT, how, hsT, hFT, hnT⟩ := hsub
  have hTl : T.length = st.p.els[i].rules.length := by have := congrArg List.length hT; rw [List.length_map] at this; exact this
  have hge : ∀ j, u0.ownBlock = some j → B ≤ j := fun j hj => (how.lt j hj).1
  have hgo : ∀ j, u0.ownBlock = some j → j ∈ G0 := fun j hj => by rw [hFT, hj]; simp
  have hgB : g < B := by have := HS.out.gh; have := HS.out.hB; omega
  have hhB := HS.out.hB
  have hBz := HS.out.size
  have g2 : (T.length + 1) * 48 ≤ 140737488355328 := by rw [hTl]; exact HL.out _ (List.getElem_mem hil)
  have g1 : T.length + 1 ≤ maxLen := by unfold maxLen; omega
  have hie : (i : Int) ≤ 9223372036854775807 := by
    obtain ⟨A', c', hv', h5, h6⟩ := fmE.own_form h1
    unfold maxLen at h6
    omega
  have hkk : IntKind.i64.wrap (((i + 1 : Nat) : Int) - 1) = (i : Int) := by rw [IntKind.wrap_i64]; omega
  have hkk2 : IntKind.i64.wrap (i : Int) = (i : Int) := by rw [IntKind.wrap_i64]; omega
  have hkk3 : (0 : Int) ≤ (i : Int) := by omega
  have hkk4 : (i : Int) < (i : Int) + 1 := by omega
  have e0 : w.cell? ⟨ge, i * 2, none⟩ = some (.string st.p.els[i].name) := hcells 0 _ rfl
  have e1 : w.cell? ⟨ge, i * 2 + 1, none⟩ = some u0 := hcells 1 _ rfl
  have hbg := HS.out.bg
  rw [HV.out] at hbg
  have HCL := Lib.hid hclose
  have HTL := Lib.hid hTl
  clear hTl hv hcells hclose
  have n5 : (0 : Int) < ((i + 1 : Nat) : Int) := by omega
  have n6 : (((i + 1 : Nat) : Int) == 0) = false := by simp; omega
  go_upto_region 35 with (first
    | (go_at_call 48; refine HHS.out.mono ?_; rintro e w1 ⟨rfl, rfl⟩)
    | (go_at_call 160; refine (HRU.out _ _ (by exact HDR1.out)).mono ?_; rintro e w2 ⟨u, G, rfl, ho2, hb2'⟩; obtain ⟨A6, c6, rfl, _⟩ := own_slice ho2.1))
  all_goals (
  obtain ⟨W3, hW3⟩ : ∃ W, W = w2.alloc (.cells #[.string r.name, .int .i64 r.kind, .slice A6 r.words.length c6] 50) := ⟨_, rfl⟩
  have hb3 : Below w.heap.size w W3 := hW3 ▸ hb2'.alloc hb2'.size _
  have hz3 := hb3.size
  have hz2' := hb2'.size
  have kx : Bl W3 w2.heap.size 50 [.string r.name, .int .i64 r.kind, .slice A6 r.words.length c6] := hW3 ▸ Bl.new w2 _ _ rfl
  have x0 := kx.cell 0 rfl
  have x1 := kx.cell 1 rfl
  have x2 := kx.cell 2 rfl
  have y9 : W3.cell? ⟨b, off, none⟩ = some (.string ⟨#[97, 116, 116, 114]⟩) := (hb3.cell (p := ⟨b, off, none⟩) hb2).trans y0
  have ho3 : kdW.own W3 w.heap.size (.slice A6 r.words.length c6) r.words G := kdW.keep ho2 (by rw [hW3]; simp) (fun k hk => by rw [hW3]; exact Below.heap_alloc _ _ _ (kdW.ge ho2 k hk).2)
  have how3 := own_stay how (w' := W3) (fun k hk => hb3.block k (own_ge2 how k hk).2)
  have HW3 := Lib.hid hW3
  have HO3 := Lib.hid ho3
  rw [← hW3]
  clear hW3 ho3 ho2 hb2'
  have hbg3 := hbg.below hb3
  have d0 := hbg3.cell 0 rfl
  have d1 : W3.cell? ⟨ge, i * 2 + 1, none⟩ = some u0 := (hb3.cell (p := ⟨ge, i * 2 + 1, none⟩) hgz).trans e1
  have hfz3 : W3.frozen? ⟨ge, i * 2 + 1, none⟩ = false := (hb3.frozen (p := ⟨ge, i * 2 + 1, none⟩) hgz).trans (hfz _)
  have hngo : u0.ownBlock ≠ some ge := fun e => hgG (hgo _ e)
  go_upto_region 39 with fail
  go_quiet (fail)
  obtain ⟨W3, hW4⟩ : ∃ W, W = W3.drewN nq := ⟨_, rfl⟩
  rw [← hW4]
  have HW4 := Lib.hid hW4
  have hb3 : Below w.heap.size w W3 := by rw [hW4]; exact hb3.trans ((drw _ _).mono hb3.size)
  have hz3 := hb3.size
  have kx : Bl W3 w2.heap.size 50 [.string r.name, .int .i64 r.kind, .slice A6 r.words.length c6] := by rw [hW4]; exact kx
  have x0 := kx.cell 0 rfl
  have x1 := kx.cell 1 rfl
  have x2 := kx.cell 2 rfl
  have d1 : W3.cell? ⟨ge, i * 2 + 1, none⟩ = some u0 := by rw [hW4]; exact d1
  have hfz3 : W3.frozen? ⟨ge, i * 2 + 1, none⟩ = false := by rw [hW4]; exact hfz3
  have HO3 : Hid (kdW.own W3 w.heap.size (.slice A6 r.words.length c6) r.words G) := Lib.hid (by rw [hW4]; exact HO3.out)
  have how3 : W3.ownsRow B fmR.e fmR.size u0 T.length (fmR.cells T) := by rw [hW4]; exact how3
  clear hW4
  have d2 : (W3.alloc (.cells #[.string r.name, .int .i64 r.kind, .slice A6 r.words.length c6] 50)).cell? ⟨ge, i * 2 + 1, none⟩ = some u0 := (World.cell?_of_block (a := ⟨ge, i * 2 + 1, none⟩) (Below.heap_alloc _ _ _ (by show ge < _; omega))).trans d1
  go_upto_region 40 with fail
  go_region_law (refine step_append_lies _ (by rfl) (.tmp 196) (.tmp 198) 23 (by rfl) B 50 i0 _ 3 48 Tryz.underlying23 hi hz0 hz1 hz2 rfl (by decide) u0 T.length (fmR.cells T) (by rfl) (by exact how3.alloc _) ⟨W3.heap.size, 0, none⟩ 1 1 [.string r.name, .int .i64 r.kind, .slice A6 r.words.length c6] (by rfl) (by rfl) (by exact World.news_of_block (heap_alloc_new W3 _)) (by simp [Value.oneCell']) (by decide) g1 g2 (by simp; omega) _ rfl ?_; intro g9 cap9 w9 hown9 hgrow9 hat9 hlt9; have n8 : w9.heap[ge]? = W3.heap[ge]? := (hgrow9.block _ (by simp; omega) (fun e => hngo e.symm)).trans (Below.heap_alloc _ _ _ (by omega)); have z1 : w9.cell? ⟨ge, i * 2 + 1, none⟩ = some u0 := (World.cell?_of_block (a := ⟨ge, i * 2 + 1, none⟩) n8).trans d1; have z2 : w9.frozen? ⟨ge, i * 2 + 1, none⟩ = false := (World.frozen?_of_block (a := ⟨ge, i * 2 + 1, none⟩) n8).trans hfz3)
  all_goals (
    have HO9 := Lib.hid hown9
    have HG9 := Lib.hid (Go.Proofs.YtjhimmljanbjcaaGreatDoor.Lp.grown_undrew hgrow9)
    have HGE := Lib.hid hge
    have HA := Lib.hid hat9
    have HN8 := Lib.hid n8
    clear hown9 hgrow9 hge hat9 n8
    go_wp2
    all_goals (
    go_ret
    obtain ⟨hm1, hm2⟩ := item_more (M := fmR) (t := ⟨r, .slice A6 r.words.length c6, G⟩) (v' := .slice (some ⟨g9, 0, none⟩) (T.length + 1) cap9) how hsT (hFT ▸ hnT) hb3 hBz HO3.out HO9.out HG9.out (HA.out.elim (fun hq => .inl hq.symm) (fun hq => .inr (congrArg some hq)))
    have hb9 := HG9.out.size
    simp at hb9
    rw [← hFT] at hm2
    rw [hT] at hm1
    obtain ⟨W9, hW9⟩ : ∃ W, W = w9.setCell ⟨ge, i * 2 + 1, none⟩ (.slice (some ⟨g9, 0, none⟩) (T.length + 1) cap9) := ⟨_, rfl⟩
    have hs9 : W9.heap.size = w9.heap.size := by rw [hW9]; simp [World.setCell]
    have hk9 : ∀ k, k ≠ ge → W9.heap[k]? = w9.heap[k]? := fun k hk => by rw [hW9]; exact Below.heap_setCell w9 ⟨ge, i * 2 + 1, none⟩ _ k hk
    have hold : ∀ k, k < w.heap.size → u0.ownBlock ≠ some k → w9.heap[k]? = w.heap[k]? := fun k hk hne => ((HG9.out.block k (by simp; omega) (fun e => hne e.symm)).trans (Below.heap_alloc _ _ _ (by omega))).trans (hb3.block k hk)
    obtain ⟨F', hE, hF'⟩ := HCL.out w9 ⟨st.p.els[i].name, st.p.els[i].rules ++ [r]⟩ _ _ (hold ge hgz hngo) (by omega) (fun k hk hkG => hold k (kdE.ge h1 k hk).2 fun e => hkG (hgo _ e)) hm1 (fun k hk => hm2.new k hk) W9 hs9 hk9 (fun xs hxs hxl => by
      rw [HV2.out] at hxs ⊢
      rw [hW9]
      exact Go.Proofs.YtjhimmljanbjcaaGreatDoor.Lp.closeE hil hxs hxl ((World.cell?_of_block (a := ⟨ge, i * 2, none⟩) (hold ge hgz hngo)).trans e0) _ _)
    have htn : Tn w W9 F1 F' := ⟨by omega, fun k hk hlt => by
      have hkg : k ≠ ge := fun e => hk (e ▸ hgF)
      rw [hk9 k hkg]
      exact hold k hlt fun e => hk (hGF k (hgo _ e)), fun k hk => (hF' k hk).elim .inl fun hq => (hm2.new k hq).elim (fun hq => .inl (hGF k hq)) .inr⟩
    have ht := turnE h2 h3 h4 (hF ▸ hn) hE htn
    have hkp : Kpt w B g hq W9 := (HS.out.kpt hb3).trans ((grown2 (hq := hq) hgB (by omega) HG9.out HGE.out).trans ⟨by rw [hW9]; exact (Below.refl g w9).setCell (p := ⟨ge, i * 2 + 1, none⟩) (by show g ≤ ge; omega) _, fun k hk _ _ => hk9 k (by omega)⟩)
    have hbz : Bl W9 g 26 [x.e, x.g, x.s, .bool st.p.rel, x.d, .int .i64 st.p.depth, .int .i64 st.p.window] := HS.out.bg.of ((hk9 g (by omega)).trans (hold g (by omega) (fun e => by have := HGE.out _ e; omega)))
    have hbh : Bl W9 hq 126 [.bool st.sd, .bool st.sw, .bool st.sr] := HS.out.bh.of ((hk9 hq (by omega)).trans (hold hq (by omega) (fun e => by have := HGE.out _ e; omega)))
    rw [← hW9]
    exact LineR.yes (x' := x) (F' := _) hkp hno.out ⟨by rw [Go.Proofs.YtjhimmljanbjcaaGreatDoor.Lp.lastR_set HEL.out]; exact ht, hbz, hbh, HS.out.gh, hhB, by omega⟩)))
end Go.Proofs.YtjhimmljanbjcaaGreatDoor.Lx
