/- Package filter: Take, of tags without attributes: one that is dropped, the end of what is dropped, a start tag. Check of such tags. Dropping and Take of filters that no call made. -/
import Derived.Test.YtejpdbiiikcmmaaGreatDoorFo
import Derived.Laws.EntriesVeiled
set_option linter.unusedVariables false
set_option linter.unusedSimpArgs false
namespace Go.Proofs.YtejpdbiiikcmmaaGreatDoor.Fi
open Go.RowKit Lb Gr Pd Fl Fpl Kf Mp Is Go.Proofs.YtejpdbiiikcmmaaGreatDoor.Pm Bk Lc Ck Ea Tk
attribute [local go_sem ↓] Go.wp_at_zero Go.wp_at_succ

theorem bareOk {k : Int} {nm : ByteArray} {p1 p2 p3 : Int} (h : nm.size ≤ 1000) : TokOk (bareT k nm p1 p2 p3) := by
  refine ⟨by show nm.size ≤ maxLen; unfold maxLen; omega, by show (0 : Nat) ≤ maxLen; unfold maxLen; omega, by show (0 : Nat) ≤ _; omega, fun a ha => by cases ha⟩
theorem checkS (nm : ByteArray) (p1 p2 p3 : Int) (w : World) (hs : nm.size ≤ 1000) (hn : nameP false nm.data.toList = true) :
    Calls Tryz.prog 41 #[tokV (bareT 1 nm p1 p2 p3) (.slice none 0 0)] w fun e w' => e = .returned (.int .i64 0) ∧ Below w.heap.size w w' := by
  have h := checkStart (bareT 1 nm p1 p2 p3) (.slice none 0 0) w (rdF_nil _ _ _ _ _ _) (bareOk hs) rfl
  have hm : mayI (bareT 1 nm p1 p2 p3) = 0 := by
    unfold mayI mayP bareT
    simp only
    rw [hn]
    rfl
  rw [hm] at h
  exact h
set_option maxHeartbeats 8000000 in
set_option maxRecDepth 100000 in
theorem checkE (nm : ByteArray) (p1 p2 p3 : Int) (w : World) (hs : nm.size ≤ 1000) (hn : nameP false nm.data.toList = true) :
    Calls Tryz.prog 41 #[tokV (bareT 2 nm p1 p2 p3) (.slice none 0 0)] w fun e w' => e = .returned (.int .i64 0) ∧ Below w.heap.size w w' := by
  unfold tokV bareT
  simp only
  obtain ⟨W0, hW0⟩ : ∃ W, W = w.alloc (.cells #[.int .i64 2, .string nm, .string ByteArray.empty, .slice none 0 0, .bool false, .int .i64 p1, .int .i64 p2, .int .i64 p3] 39) := ⟨_, rfl⟩
  have hb0 : Below w.heap.size w W0 := hW0 ▸ (Below.refl _ _).alloc (Nat.le_refl _) _
  have k0 : Bl W0 w.heap.size 39 [.int .i64 2, .string nm, .string ByteArray.empty, .slice none 0 0, .bool false, .int .i64 p1, .int .i64 p2, .int .i64 p3] := hW0 ▸ Bl.new w _ _ rfl
  have HX := Lib.hid hW0
  clear hW0
  have y0 := k0.cell 0 rfl
  have y1 := k0.cell 1 rfl
  have HN := Lib.hid (fun W => nameC nm (by unfold maxLen; omega) false W)
  rw [hn] at HN
  have he : ByteArray.empty.toList = [] := toList_nil rfl
  have hb : ByteArray.empty.toList.isEmpty = true := isEmpty_nil rfl
  clear hn
  go_enter Tryz.func41, Tryz.ntmps41
  go_upto_region 1 with fail
  rw [← HX.out]
  go_wp2_with (go_at_call 101; refine (HN.out _).mono ?_; rintro e w1 ⟨rfl, hb1⟩; have k1 := k0.below hb1; have x2 := k1.cell 2 rfl; have x3 := k1.cell 3 rfl; have x4 := k1.cell 4 rfl; have hb10 := hb0.trans (hb1.mono hb0.size))
  go_ret
  exact ⟨rfl, hb10⟩

set_option maxHeartbeats 8000000 in
set_option maxRecDepth 100000 in
theorem takeStart (g base : Nat) (p : PolD) (X : ByteArray) (nm : ByteArray) (p1 p2 p3 : Int) (w : World) (em gm dm : Nat) (sv : Value) (E : List (ElD × Nat)) (hD : FilD w g base em gm dm sv E p X 0) (hs : nm.size ≤ 1000) (hn : nameP false nm.data.toList = true) (R : Ending → World → World → Prop)
    (hst : ∀ W, Below w.heap.size w W → FilD W g base em gm dm sv E p X 0 → Calls Tryz.prog 58 #[.pointer (some ⟨g, 0, none⟩), tokV (bareT 1 nm p1 p2 p3) (.slice none 0 0)] W fun e w' => ∃ a b, e = .returned (.tuple #[a, b]) ∧ Fr [g] W w' ∧ R (.returned (.tuple #[a, b, .int .i64 0])) W w') :
    Calls Tryz.prog 25 #[.pointer (some ⟨g, 0, none⟩), tokV (bareT 1 nm p1 p2 p3) (.slice none 0 0)] w fun e w' => ∃ W, Below w.heap.size w W ∧ R e W w' := by
  have HC := Lib.hid (fun W => checkS nm p1 p2 p3 W hs hn)
  have HS : Hid (∀ W, Below w.heap.size w W → FilD W g base em gm dm sv E p X 0 → Calls Tryz.prog 58 #[.pointer (some ⟨g, 0, none⟩), tokV (bareT 1 nm p1 p2 p3) (.slice none 0 0)] W fun e w' => ∃ a b, e = .returned (.tuple #[a, b]) ∧ Fr [g] W w' ∧ R (.returned (.tuple #[a, b, .int .i64 0])) W w') := Lib.hid fun W h1 h2 => hst W h1 h2
  clear hst hn
  unfold tokV bareT at HC HS ⊢
  simp only at HC HS ⊢
  obtain ⟨W0, hW0⟩ : ∃ W, W = w.alloc (.cells #[.int .i64 1, .string nm, .string ByteArray.empty, .slice none 0 0, .bool false, .int .i64 p1, .int .i64 p2, .int .i64 p3] 39) := ⟨_, rfl⟩
  have hb0 : Below w.heap.size w W0 := hW0 ▸ (Below.refl _ _).alloc (Nat.le_refl _) _
  have k0 : Bl W0 w.heap.size 39 [.int .i64 1, .string nm, .string ByteArray.empty, .slice none 0 0, .bool false, .int .i64 p1, .int .i64 p2, .int .i64 p3] := hW0 ▸ Bl.new w _ _ rfl
  have d0 := hD.below hb0
  have HX := Lib.hid hW0
  clear hW0
  have y0 := k0.cell 0 rfl
  have y1 := k0.cell 1 rfl
  have y2 := k0.cell 2 rfl
  have y3 := k0.cell 3 rfl
  have y4 := k0.cell 4 rfl
  have y5 := k0.cell 5 rfl
  have y6 := k0.cell 6 rfl
  have y7 := k0.cell 7 rfl
  have x8 := d0.blk.cell 8 rfl
  have hmf : ∀ (fn : Fn) (first cap : Array Value) (w : World), (Instr.makeFunc fn first cap).run Tryz.prog w = .ok (.func fn first cap) w := fun _ _ _ _ => rfl
  go_enter Tryz.func25, Tryz.ntmps25
  go_upto_region 1 with fail
  rw [← HX.out]
  go_upto_region 6 with (go_at_call 41; refine (HC.out _).mono ?_; rintro e w1 ⟨rfl, hb1⟩; have d1 := d0.below hb1; have k1 := k0.below hb1; have hc1 := hb0.trans (hb1.mono hb0.size))
  have x7 := d1.blk.cell 7 rfl
  go_upto_region 15 with fail
  obtain ⟨W2, hW2⟩ : ∃ X, X = w1.alloc (.cells #[.func (.func 57) #[.pointer (some ⟨g, 0, none⟩)] #[], .func (.func 58) #[.pointer (some ⟨g, 0, none⟩)] #[], .func (.func 59) #[.pointer (some ⟨g, 0, none⟩)] #[], .func (.func 60) #[.pointer (some ⟨g, 0, none⟩)] #[], .func (.func 61) #[.pointer (some ⟨g, 0, none⟩)] #[]] 104) := ⟨_, rfl⟩
  have hb2 : Below w1.heap.size w1 W2 := hW2 ▸ (Below.refl _ _).alloc (Nat.le_refl _) _
  have kA : Bl W2 w1.heap.size 104 [.func (.func 57) #[.pointer (some ⟨g, 0, none⟩)] #[], .func (.func 58) #[.pointer (some ⟨g, 0, none⟩)] #[], .func (.func 59) #[.pointer (some ⟨g, 0, none⟩)] #[], .func (.func 60) #[.pointer (some ⟨g, 0, none⟩)] #[], .func (.func 61) #[.pointer (some ⟨g, 0, none⟩)] #[]] := hW2 ▸ Bl.new w1 _ _ rfl
  have HX2 := Lib.hid hW2
  clear hW2
  rw [← HX2.out]
  have d2 := (d1.below hb2).below (drw W2 1)
  have k2 := (k1.below hb2).below (drw W2 1)
  have kB := kA.below (drw W2 1)
  have hc2 : Below w.heap.size w W2.drew := (hc1.trans (hb2.mono hc1.size)).trans ((drw W2 1).mono (Nat.le_trans hc1.size hb2.size))
  have hgl := hD.blk.lt
  have hz1 := hc1.size
  have a0 := k2.cell 0 rfl
  have a1 := k2.cell 1 rfl
  have a2 := k2.cell 2 rfl
  have a3 := k2.cell 3 rfl
  have a4 := k2.cell 4 rfl
  have a5 := k2.cell 5 rfl
  have a6 := k2.cell 6 rfl
  have a7 := k2.cell 7 rfl
  have b1 := kB.cell 1 rfl
  go_region_held3 (fun W' => W'.cell? ⟨w1.heap.size, 1, none⟩ = some (.func (.func 58) #[.pointer (some ⟨g, 0, none⟩)] #[]) ∧ W'.cell? ⟨w.heap.size, 0, none⟩ = some (.int .i64 1) ∧ W'.cell? ⟨w.heap.size, 1, none⟩ = some (.string nm) ∧ W'.cell? ⟨w.heap.size, 2, none⟩ = some (.string ByteArray.empty) ∧ W'.cell? ⟨w.heap.size, 3, none⟩ = some (.slice none 0 0) ∧ W'.cell? ⟨w.heap.size, 4, none⟩ = some (.bool false) ∧ W'.cell? ⟨w.heap.size, 5, none⟩ = some (.int .i64 p1) ∧ W'.cell? ⟨w.heap.size, 6, none⟩ = some (.int .i64 p2) ∧ W'.cell? ⟨w.heap.size, 7, none⟩ = some (.int .i64 p3))
    (first | exact ⟨b1, a0, a1, a2, a3, a4, a5, a6, a7⟩ | exact ⟨s8, s0, s1, s2, s3, s4, s5, s6, s7⟩)
    (first | (go_at_call 58; refine (HS.out _ hc2 d2).mono ?_; rintro e w4 ⟨oa, ob, rfl, hf4, hR⟩; have k4 := k2.of (hf4.block _ k2.lt (by simp; omega)); have kC := kB.of (hf4.block _ kB.lt (by simp; omega)); have s8 := kC.cell 1 rfl; have s0 := k4.cell 0 rfl; have s1 := k4.cell 1 rfl; have s2 := k4.cell 2 rfl; have s3 := k4.cell 3 rfl; have s4 := k4.cell 4 rfl; have s5 := k4.cell 5 rfl; have s6 := k4.cell 6 rfl; have s7 := k4.cell 7 rfl))
  all_goals (
    go_wp2
    go_ret3
    exact ⟨_, hc2, hR⟩)

set_option maxHeartbeats 8000000 in
set_option maxRecDepth 100000 in
/-- a start tag within what is dropped, of another name -/
theorem takeOther (g base : Nat) (p : PolD) (X : ByteArray) (nm : ByteArray) (p1 p2 p3 : Int) (w : World) (em gm dm : Nat) (sv : Value) (E : List (ElD × Nat)) (hD : FilD w g base em gm dm sv E p X 1) (hs : nm.size ≤ 1000) (hn : nameP false nm.data.toList = true) (hne : nm ≠ X) :
    Calls Tryz.prog 25 #[.pointer (some ⟨g, 0, none⟩), tokV (bareT 1 nm p1 p2 p3) (.slice none 0 0)] w fun e w' => e = .returned (.tuple #[.slice none 0 0, .slice none 0 0, .int .i64 0]) ∧ FilD w' g base em gm dm sv E p X 1 ∧ Below w.heap.size w w' := by
  have HC := Lib.hid (fun W => checkS nm p1 p2 p3 W hs hn)
  have hq := toList_ne_of hne
  clear hn hne
  unfold tokV bareT at HC ⊢
  simp only at HC ⊢
  obtain ⟨W0, hW0⟩ : ∃ W, W = w.alloc (.cells #[.int .i64 1, .string nm, .string ByteArray.empty, .slice none 0 0, .bool false, .int .i64 p1, .int .i64 p2, .int .i64 p3] 39) := ⟨_, rfl⟩
  have hb0 : Below w.heap.size w W0 := hW0 ▸ (Below.refl _ _).alloc (Nat.le_refl _) _
  have k0 : Bl W0 w.heap.size 39 [.int .i64 1, .string nm, .string ByteArray.empty, .slice none 0 0, .bool false, .int .i64 p1, .int .i64 p2, .int .i64 p3] := hW0 ▸ Bl.new w _ _ rfl
  have d0 := hD.below hb0
  have HX := Lib.hid hW0
  clear hW0
  have y0 := k0.cell 0 rfl
  have y1 := k0.cell 1 rfl
  have y2 := k0.cell 2 rfl
  have y3 := k0.cell 3 rfl
  have y4 := k0.cell 4 rfl
  have y5 := k0.cell 5 rfl
  have y6 := k0.cell 6 rfl
  have y7 := k0.cell 7 rfl
  have x8 := d0.blk.cell 8 rfl
  go_enter Tryz.func25, Tryz.ntmps25
  go_upto_region 1 with fail
  rw [← HX.out]
  go_upto_region 6 with (go_at_call 41; refine (HC.out _).mono ?_; rintro e w1 ⟨rfl, hb1⟩; have d1 := d0.below hb1; have k1 := k0.below hb1; have hc1 := hb0.trans (hb1.mono hb0.size))
  have x7 := d1.blk.cell 7 rfl
  go_upto_region 7 with fail
  have z0 := k1.cell 0 rfl
  have z1 := k1.cell 1 rfl
  have z6 := d1.blk.cell 6 rfl
  go_quiet (fail)
  go_upto_region 9 with fail
  obtain ⟨W1, hW1⟩ : ∃ Y, Y = w1.drewN nq := ⟨_, rfl⟩
  rw [← hW1]
  have hb2 : Below w1.heap.size w1 W1 := hW1 ▸ drw w1 nq
  clear hW1
  have d2 := d1.below hb2
  have k2 := k1.below hb2
  have u0 := k2.cell 0 rfl
  have u1 := k2.cell 1 rfl
  have u6 := d2.blk.cell 6 rfl
  have hc2 := hc1.trans (hb2.mono hc1.size)
  go_quiet (fail)
  go_wp2
  go_ret3
  rename_i nq2
  exact ⟨rfl, d2.below (drw W1 _), hc2.trans ((drw W1 _).mono hc2.size)⟩

set_option maxHeartbeats 8000000 in
set_option maxRecDepth 100000 in
/-- the end tag of what is dropped -/
theorem takeEnd (g base : Nat) (p : PolD) (nm : ByteArray) (p1 p2 p3 : Int) (w : World) (em gm dm : Nat) (sv : Value) (E : List (ElD × Nat)) (hD : FilD w g base em gm dm sv E p nm 1) (hs : nm.size ≤ 1000) (hn : nameP false nm.data.toList = true) :
    Calls Tryz.prog 25 #[.pointer (some ⟨g, 0, none⟩), tokV (bareT 2 nm p1 p2 p3) (.slice none 0 0)] w fun e w' => e = .returned (.tuple #[.slice none 0 0, .slice none 0 0, .int .i64 0]) ∧ FilD w' g base em gm dm sv E p ByteArray.empty 0 ∧ Fr [g] w w' := by
  have HC := Lib.hid (fun W => checkE nm p1 p2 p3 W hs hn)
  have hq := toList_eq_of (a := nm) (b := nm) rfl
  clear hn
  unfold tokV bareT at HC ⊢
  simp only at HC ⊢
  obtain ⟨W0, hW0⟩ : ∃ W, W = w.alloc (.cells #[.int .i64 2, .string nm, .string ByteArray.empty, .slice none 0 0, .bool false, .int .i64 p1, .int .i64 p2, .int .i64 p3] 39) := ⟨_, rfl⟩
  have hb0 : Below w.heap.size w W0 := hW0 ▸ (Below.refl _ _).alloc (Nat.le_refl _) _
  have k0 : Bl W0 w.heap.size 39 [.int .i64 2, .string nm, .string ByteArray.empty, .slice none 0 0, .bool false, .int .i64 p1, .int .i64 p2, .int .i64 p3] := hW0 ▸ Bl.new w _ _ rfl
  have d0 := hD.below hb0
  have HX := Lib.hid hW0
  clear hW0
  have y0 := k0.cell 0 rfl
  have y1 := k0.cell 1 rfl
  have y2 := k0.cell 2 rfl
  have y3 := k0.cell 3 rfl
  have y4 := k0.cell 4 rfl
  have y5 := k0.cell 5 rfl
  have y6 := k0.cell 6 rfl
  have y7 := k0.cell 7 rfl
  have x8 := d0.blk.cell 8 rfl
  go_enter Tryz.func25, Tryz.ntmps25
  go_upto_region 1 with fail
  rw [← HX.out]
  go_upto_region 6 with (go_at_call 41; refine (HC.out _).mono ?_; rintro e w1 ⟨rfl, hb1⟩; have d1 := d0.below hb1; have k1 := k0.below hb1; have hc1 := hb0.trans (hb1.mono hb0.size))
  have x7 := d1.blk.cell 7 rfl
  go_upto_region 7 with fail
  have z0 := k1.cell 0 rfl
  have z1 := k1.cell 1 rfl
  have z6 := d1.blk.cell 6 rfl
  go_quiet (fail)
  go_upto_region 9 with fail
  obtain ⟨W1, hW1⟩ : ∃ Y, Y = w1.drewN nq := ⟨_, rfl⟩
  rw [← hW1]
  have hb2 : Below w1.heap.size w1 W1 := hW1 ▸ drw w1 nq
  clear hW1
  have d2 := d1.below hb2
  have k2 := k1.below hb2
  have u0 := k2.cell 0 rfl
  have u1 := k2.cell 1 rfl
  have u6 := d2.blk.cell 6 rfl
  have hc2 := hc1.trans (hb2.mono hc1.size)
  go_quiet (fail)
  go_upto_region 10 with fail
  obtain ⟨W2, hW2⟩ : ∃ Y, Y = W1.drewN nq := ⟨_, rfl⟩
  rw [← hW2]
  have hb3 : Below W1.heap.size W1 W2 := hW2 ▸ drw W1 nq
  clear hW2
  have d3 := d2.below hb3
  have hc3 := hc2.trans (hb3.mono hc2.size)
  have v7 := d3.blk.cell 7 rfl
  have f7 := d3.blk.fz 7
  have b7 := d3.blk.set 7 (.int .i64 0)
  have v8 := b7.cell 7 rfl
  have v6 := b7.cell 6 rfl
  have f6 := b7.fz 6
  go_upto_region 13 with fail
  obtain ⟨w5, hw5⟩ : ∃ X, X = (W2.setCell ⟨g, 7, none⟩ (.int .i64 0)).setCell ⟨g, 6, none⟩ (.string ⟨#[]⟩) := ⟨_, rfl⟩
  rw [← hw5]
  have hf5 : Fr [g] W2 w5 := hw5 ▸ (Fr.setCell W2 ⟨g, 7, none⟩ _ (.inl (by simp))).trans (Fr.setCell _ ⟨g, 6, none⟩ _ (.inl (by simp)))
  have b8 : Bl w5 g 76 (filV em gm dm sv p ByteArray.empty 0) := hw5 ▸ b7.set 6 (.string ⟨#[]⟩)
  clear hw5
  have d5 := d3.move (W' := w5) hf5.size (fun j _ h2 h3 _ _ => hf5.block j h2 (by simp; exact h3)) b8 (MapS.stay d3.emm (hf5.block em d3.emm.lt (by simp; exact d3.ne.1))) d3.eq (fun x hx => .inl hx) (MapS.stay d3.dmm (hf5.block dm d3.dmm.lt (by simp; exact d3.ne.2.1)))
  go_wp2
  go_ret3
  exact ⟨rfl, d5, (Fr.of_below hc3).trans hf5⟩

/-! ### filters that no call made -/
set_option maxHeartbeats 8000000 in
set_option maxRecDepth 100000 in
theorem takeNil (c0 c1 c2 c3 c4 c5 c6 c7 : Value) (w : World) : Calls Tryz.prog 25 #[.pointer none, .agg #[c0, c1, c2, c3, c4, c5, c6, c7]] w fun e w' => e = .returned (.tuple #[.slice none 0 0, .slice none 0 0, .int .i64 2]) ∧ Below w.heap.size w w' := by
  have hb0 : Below w.heap.size w (w.alloc (.cells #[c0, c1, c2, c3, c4, c5, c6, c7] 39)) := (Below.refl _ _).alloc (Nat.le_refl _) _
  go_enter Tryz.func25, Tryz.ntmps25
  go_wp2
  go_ret3
  exact ⟨rfl, hb0⟩
set_option maxHeartbeats 8000000 in
set_option maxRecDepth 100000 in
theorem takeZero (g : Nat) (c0 c1 c2 c3 c4 c5 c6 c7 : Value) (w : World) (hg : w.cell? ⟨g, 8, none⟩ = some (.bool false)) : Calls Tryz.prog 25 #[.pointer (some ⟨g, 0, none⟩), .agg #[c0, c1, c2, c3, c4, c5, c6, c7]] w fun e w' => e = .returned (.tuple #[.slice none 0 0, .slice none 0 0, .int .i64 2]) ∧ Below w.heap.size w w' := by
  obtain ⟨W0, hW0⟩ : ∃ W, W = w.alloc (.cells #[c0, c1, c2, c3, c4, c5, c6, c7] 39) := ⟨_, rfl⟩
  have hb0 : Below w.heap.size w W0 := hW0 ▸ (Below.refl _ _).alloc (Nat.le_refl _) _
  have hl := World.block_lt_of_cell? (a := ⟨g, 8, none⟩) _ hg
  have y8 : W0.cell? ⟨g, 8, none⟩ = some (.bool false) := (World.cell?_of_block (a := ⟨g, 8, none⟩) (hb0.block g hl)).trans hg
  have HX := Lib.hid hW0
  clear hW0 hg
  go_enter Tryz.func25, Tryz.ntmps25
  go_upto_region 1 with fail
  rw [← HX.out]
  go_wp2
  go_ret3
  exact ⟨rfl, hb0⟩
set_option maxHeartbeats 4000000 in
set_option maxRecDepth 100000 in
theorem dropNil (w : World) : Calls Tryz.prog 27 #[.pointer none] w fun e w' => e = .returned (.tuple #[.string ByteArray.empty, .int .i64 0]) ∧ w = w' := by
  go_enter Tryz.func27, Tryz.ntmps27
  go_wp2
  go_ret2
  exact ⟨rfl, rfl⟩
set_option maxHeartbeats 4000000 in
set_option maxRecDepth 100000 in
theorem dropZero (g : Nat) (w : World) (hg : w.cell? ⟨g, 8, none⟩ = some (.bool false)) : Calls Tryz.prog 27 #[.pointer (some ⟨g, 0, none⟩)] w fun e w' => e = .returned (.tuple #[.string ByteArray.empty, .int .i64 0]) ∧ w = w' := by
  go_enter Tryz.func27, Tryz.ntmps27
  go_wp2
  go_ret2
  exact ⟨rfl, rfl⟩
end Go.Proofs.YtejpdbiiikcmmaaGreatDoor.Fi
