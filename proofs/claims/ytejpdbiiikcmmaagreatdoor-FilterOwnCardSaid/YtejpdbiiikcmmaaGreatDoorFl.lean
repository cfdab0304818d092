/- Package filter: All, of tags without attributes, by what Take gives of each. -/
import Derived.Test.YtejpdbiiikcmmaaGreatDoorFw
import Derived.Test.YtejpdbiiikcmmaaGreatDoorFa
set_option linter.unusedVariables false
set_option linter.unusedSimpArgs false
namespace Go.Proofs.YtejpdbiiikcmmaaGreatDoor.Fi
open Go.RowKit Lb Gr Pd Fl Fpl Kf Mp Is Go.Proofs.YtejpdbiiikcmmaaGreatDoor.Pm Bk Lc Ck Ea Tk Go.Proofs.YtejpdbiiikcmmaaGreatDoor.Lk Ru Co Go.Proofs.YtejpdbiiikcmmaaGreatDoor.Ch
attribute [local go_sem ↓] Go.wp_at_zero Go.wp_at_succ

theorem own_src {w : World} {B : Nat} {e : TypeId} {size n c : Nat} {A : Option Addr} {xs : List Value} (h : w.ownsRow B e size (.slice A n c) n xs) : 0 < xs.length → ∃ b off, A = some ⟨b, off, none⟩ ∧ ∀ j u, xs[j]? = some u → w.cell? ⟨b, off + j, none⟩ = some u := fun hp => by
  obtain ⟨A', c', hv, _, _, h3⟩ := Sl2.of_own h (lo := 0) (hi := w.heap.size) (Nat.zero_le _) (Nat.le_refl _)
  injection hv with e1 e2 e3
  subst e1
  obtain ⟨b, off, rfl, _, _, hc⟩ := h3 hp
  exact ⟨b, off, rfl, hc⟩
/-- what Take gives of the k-th -/
structure Giv (on fn : Nat) (OC FC : List Value) (g base em gm dm : Nat) (sv : Value) (E : List (ElD × Nat)) (p : PolD) (X' : ByteArray) (N' : Int) (W : World) (e : Ending) (w' : World) : Prop where
  ex : ∃ a b, e = .returned (.tuple #[a, b, .int .i64 0]) ∧ w'.ownsRow W.heap.size 39 8 a on OC ∧ w'.ownsRow W.heap.size 64 5 b fn FC
  fil : FilD w' g base em gm dm sv E p X' N'
  fr : Fr [g] W w'
def sumN (f : Nat → Nat) (k : Nat) : Nat := ((List.range k).map f).sum
def catN (f : Nat → List Value) (k : Nat) : List Value := (List.range k).flatMap f
theorem sumN_step (f : Nat → Nat) (k : Nat) : sumN f (k + 1) = sumN f k + f k := by simp [sumN, List.range_succ]
theorem catN_step (f : Nat → List Value) (k : Nat) : catN f (k + 1) = catN f k ++ f k := by simp [catN, List.range_succ]
set_option maxHeartbeats 16000000 in
set_option maxRecDepth 100000 in
theorem allC (x : Vs) (p : PolD) (w : World) (HNEW : ∀ W, Below w.heap.size w W → Calls Tryz.prog 23 #[polV x p] W fun e w' => ∃ g, e = .returned (.tuple #[.pointer (some ⟨g, 0, none⟩), .int .i64 0]) ∧ Fil w' g W.heap.size p ByteArray.empty 0 ∧ Below W.heap.size W w')
    (hform : ∃ A1 c1 A2 c2 A3 c3 A4 c4, x = ⟨.slice A1 p.els.length c1, .slice A2 p.glob.length c2, .slice A3 p.schemes.length c3, .slice A4 p.drop.length c4⟩)
    (bl cap n : Nat) (hn : n ≤ 1000) (tk : Nat → Int) (tn : Nat → ByteArray)
    (hcell : ∀ k, k < n → w.cell? ⟨bl, k * 8, none⟩ = some (.int .i64 (tk k)) ∧ w.cell? ⟨bl, k * 8 + 1, none⟩ = some (.string (tn k)) ∧ w.cell? ⟨bl, k * 8 + 2, none⟩ = some (.string ByteArray.empty) ∧ w.cell? ⟨bl, k * 8 + 3, none⟩ = some (.slice none 0 0) ∧ w.cell? ⟨bl, k * 8 + 4, none⟩ = some (.bool false) ∧ w.cell? ⟨bl, k * 8 + 5, none⟩ = some (.int .i64 0) ∧ w.cell? ⟨bl, k * 8 + 6, none⟩ = some (.int .i64 0) ∧ w.cell? ⟨bl, k * 8 + 7, none⟩ = some (.int .i64 0))
    (hbl : bl < w.heap.size)
    (HCH : ∀ k, k < n → ∀ W, Calls Tryz.prog 41 #[.agg #[.int .i64 (tk k), .string (tn k), .string ByteArray.empty, .slice none 0 0, .bool false, .int .i64 0, .int .i64 0, .int .i64 0]] W fun e w' => e = .returned (.int .i64 0) ∧ Below W.heap.size W w')
    (X : Nat → ByteArray) (N : Nat → Int) (on fn : Nat → Nat) (OC FC : Nat → List Value) (hX0 : X 0 = ByteArray.empty) (hN0 : N 0 = 0)
    (hO1 : ∀ k, k < n → ∀ u ∈ OC k, u.oneCell' = true) (hF1 : ∀ k, k < n → ∀ u ∈ FC k, u.oneCell' = true) (hOl : ∀ k, (OC k).length = on k * 8) (hFl : ∀ k, (FC k).length = fn k * 5) (hOn : ∀ k, k ≤ n → sumN on k ≤ 1000) (hFn : ∀ k, k ≤ n → sumN fn k ≤ 1000)
    (HT : ∀ k, k < n → ∀ W g base em gm dm sv E, Below w.heap.size w W → FilD W g base em gm dm sv E p (X k) (N k) → Calls Tryz.prog 25 #[.pointer (some ⟨g, 0, none⟩), .agg #[.int .i64 (tk k), .string (tn k), .string ByteArray.empty, .slice none 0 0, .bool false, .int .i64 0, .int .i64 0, .int .i64 0]] W fun e w' => Giv (on k) (fn k) (OC k) (FC k) g base em gm dm sv E p (X (k + 1)) (N (k + 1)) W e w') :
    Calls Tryz.prog 14 #[polV x p, .slice (some ⟨bl, 0, none⟩) n cap] w fun e w' => ∃ a b, e = .returned (.tuple #[a, b, .int .i64 0]) ∧ w'.ownsRow w.heap.size 39 8 a (sumN on n) (catN OC n) ∧ w'.ownsRow w.heap.size 64 5 b (sumN fn n) (catN FC n) ∧ Below w.heap.size w w' := by
  obtain ⟨A1, c1, A2, c2, A3, c3, A4, c4, rfl⟩ := hform
  obtain ⟨i1, hi1, hz1, hz2, hz3⟩ := info_parts infoTok2
  obtain ⟨j1, hj1, hw1, hw2, hw3⟩ := info_parts infoFin2
  have HNW := Lib.hid HNEW
  have HCL : Hid (∀ W, Below w.heap.size w W → ∀ k, k < n → W.cell? ⟨bl, k * 8, none⟩ = some (.int .i64 (tk k)) ∧ W.cell? ⟨bl, k * 8 + 1, none⟩ = some (.string (tn k)) ∧ W.cell? ⟨bl, k * 8 + 2, none⟩ = some (.string ByteArray.empty) ∧ W.cell? ⟨bl, k * 8 + 3, none⟩ = some (.slice none 0 0) ∧ W.cell? ⟨bl, k * 8 + 4, none⟩ = some (.bool false) ∧ W.cell? ⟨bl, k * 8 + 5, none⟩ = some (.int .i64 0) ∧ W.cell? ⟨bl, k * 8 + 6, none⟩ = some (.int .i64 0) ∧ W.cell? ⟨bl, k * 8 + 7, none⟩ = some (.int .i64 0)) := Lib.hid fun W hW k hk => by
    have h := hW.block bl hbl
    have hh : ∀ o, W.cell? ⟨bl, o, none⟩ = w.cell? ⟨bl, o, none⟩ := fun o => World.cell?_of_block (a := ⟨bl, o, none⟩) h
    simp only [hh]
    exact hcell k hk
  have HCK := Lib.hid HCH
  have HTK := Lib.hid HT
  have HB := Lib.hid (And.intro hO1 (And.intro hF1 (And.intro hOl (And.intro hFl (And.intro hOn hFn)))))
  have HX0 := Lib.hid hX0
  have HN0 := Lib.hid hN0
  clear HNEW hcell HCH HT hO1 hF1 hOl hFl hOn hFn hX0 hN0
  unfold polV at HNW ⊢
  simp only at HNW ⊢
  obtain ⟨W0, hW0⟩ : ∃ W, W = w.alloc (.cells #[.slice A1 p.els.length c1, .slice A2 p.glob.length c2, .slice A3 p.schemes.length c3, .bool p.rel, .slice A4 p.drop.length c4, .int .i64 p.depth, .int .i64 p.window] 27) := ⟨_, rfl⟩
  have hb0 : Below w.heap.size w W0 := hW0 ▸ (Below.refl _ _).alloc (Nat.le_refl _) _
  have k0 : Bl W0 w.heap.size 27 [.slice A1 p.els.length c1, .slice A2 p.glob.length c2, .slice A3 p.schemes.length c3, .bool p.rel, .slice A4 p.drop.length c4, .int .i64 p.depth, .int .i64 p.window] := hW0 ▸ Bl.new w _ _ rfl
  have HX := Lib.hid hW0
  clear hW0
  have y0 := k0.cell 0 rfl
  have y1 := k0.cell 1 rfl
  have y2 := k0.cell 2 rfl
  have y3 := k0.cell 3 rfl
  have y4 := k0.cell 4 rfl
  have y5 := k0.cell 5 rfl
  have y6 := k0.cell 6 rfl
  go_enter Tryz.func14, Tryz.ntmps14
  go_upto_region 1 with fail
  rw [← HX.out]
  go_upto_region 4 with (go_at_call 23; refine (HNW.out _ hb0).mono ?_; rintro e w1 ⟨g, rfl, hfil, hb1⟩)
  clear y0 y1 y2 y3 y4 y5 y6
  obtain ⟨em, gm, dm, sv, E, hD1⟩ := hfil
  have hb10 : Below w.heap.size w w1 := hb0.trans (hb1.mono hb0.size)
  have hD1' : Hid (FilD w1 g W0.heap.size em gm dm sv E p (X 0) (N 0)) := Lib.hid (by rw [HX0.out, HN0.out]; exact hD1)
  clear hD1
  have hz0 := hb0.size
  have hz10 := hb10.size
  go_wp2
  go_loopw [29] (fun i wr => ∃ k : Nat, k ≤ n ∧ i = .int .i64 k ∧ Hid (FilD wr g W0.heap.size em gm dm sv E p (X 0) (N 0)) ∧ Below w.heap.size w wr) (fun i _ => n - (intOf i).toNat)
  case atStart => exact ⟨0, Nat.zero_le _, rfl, hD1', hb10⟩
  case round =>
    obtain ⟨k, hk, rfl, hfr, hbr⟩ := hrel
    by_cases hlt : k < n
    · obtain ⟨e0, e1, e2, e3, e4, e5, e6, e7⟩ := HCL.out _ hbr k hlt
      have HCKk := Lib.hid (HCK.out k hlt)
      generalize tk k = tkk at e0 HCKk
      generalize tn k = tnk at e1 HCKk
      obtain ⟨W2, hW2⟩ : ∃ X, X = wr.alloc (.cells #[.int .i64 tkk, .string tnk, .string ByteArray.empty, .slice none 0 0, .bool false, .int .i64 0, .int .i64 0, .int .i64 0] 39) := ⟨_, rfl⟩
      have hb2 : Below wr.heap.size wr W2 := hW2 ▸ (Below.refl _ _).alloc (Nat.le_refl _) _
      have k2 : Bl W2 wr.heap.size 39 [.int .i64 tkk, .string tnk, .string ByteArray.empty, .slice none 0 0, .bool false, .int .i64 0, .int .i64 0, .int .i64 0] := hW2 ▸ Bl.new wr _ _ rfl
      have HX2 := Lib.hid hW2
      clear hW2
      have a0 := k2.cell 0 rfl
      have a1 := k2.cell 1 rfl
      have a2 := k2.cell 2 rfl
      have a3 := k2.cell 3 rfl
      have a4 := k2.cell 4 rfl
      have a5 := k2.cell 5 rfl
      have a6 := k2.cell 6 rfl
      have a7 := k2.cell 7 rfl
      have hb2' := hbr.trans (hb2.mono hbr.size)
      go_upto_region 7 with fail
      rw [← HX2.out]
      go_wp2_with (go_at_call 41; refine (HCKk.out _).mono ?_; rintro e w4 ⟨rfl, hb4⟩)
      go_roundw
      case rel => exact ⟨k + 1, by omega, by go_num, Lib.hid ((hfr.out.below hb2).below hb4), hb2'.trans (hb4.mono hb2'.size)⟩
      case measure => simp [intOf] <;> omega
    · obtain ⟨w5, rfl⟩ : ∃ W, W = wr := ⟨_, rfl⟩
      have hgl := hfr.out.blk.lt
      have hz5 := hbr.size
      go_wp2
      go_loopw [12, 13, 41] (fun a b i wr => ∃ k : Nat, k ≤ n ∧ i = .int .i64 k ∧ Hid (wr.ownsRow w5.heap.size 39 8 a (sumN on k) (catN OC k)) ∧ Hid (wr.ownsRow w5.heap.size 64 5 b (sumN fn k) (catN FC k)) ∧ Hid (∀ x ∈ a.ownBlock.toList, ∀ y ∈ b.ownBlock.toList, x ≠ y) ∧ Hid (FilD wr g W0.heap.size em gm dm sv E p (X k) (N k)) ∧ Hid (∀ j, j < w5.heap.size → j ≠ g → wr.heap[j]? = w5.heap[j]?) ∧ Hid (w5.heap.size ≤ wr.heap.size) ∧ Below w.heap.size w wr) (fun _ _ i _ => n - (intOf i).toNat)
      case atStart => exact ⟨0, Nat.zero_le _, rfl, Lib.hid (World.ownsRow_nil _ _ _ _), Lib.hid (World.ownsRow_nil _ _ _ _), Lib.hid (fun x hx => by simp [Value.ownBlock] at hx), hfr, Lib.hid (fun _ _ _ => rfl), Lib.hid (Nat.le_refl _), hbr⟩
      case round =>
        obtain ⟨j, hj, rfl, hoa, hob, hdis, hfj, hsame, hsz, hbj⟩ := hrel
        have hz2' := hz2

        by_cases hlj : j < n
        · obtain ⟨e0, e1, e2, e3, e4, e5, e6, e7⟩ := HCL.out _ hbj j hlj
          have HTj := Lib.hid (HTK.out j hlj)
          obtain ⟨hO1, hF1, hOl, hFl, hOn, hFn⟩ := HB.out
          have hO1j := hO1 j hlj
          have hF1j := hF1 j hlj
          have hOlj := hOl j
          have hFlj := hFl j
          have hOnj := hOn (j + 1) hlj
          have hFnj := hFn (j + 1) hlj
          rw [sumN_step] at hOnj hFnj
          have HON := Lib.hid (sumN_step on j)
          have HFN := Lib.hid (sumN_step fn j)
          have HOC := Lib.hid (catN_step OC j)
          have HFC := Lib.hid (catN_step FC j)
          clear hO1 hF1 hOl hFl hOn hFn
          generalize tk j = tkk at e0 HTj
          generalize tn j = tnk at e1 HTj
          obtain ⟨W2, hW2⟩ : ∃ Y, Y = wr.alloc (.cells #[.int .i64 tkk, .string tnk, .string ByteArray.empty, .slice none 0 0, .bool false, .int .i64 0, .int .i64 0, .int .i64 0] 39) := ⟨_, rfl⟩
          have hb2 : Below wr.heap.size wr W2 := hW2 ▸ (Below.refl _ _).alloc (Nat.le_refl _) _
          have k2 : Bl W2 wr.heap.size 39 [.int .i64 tkk, .string tnk, .string ByteArray.empty, .slice none 0 0, .bool false, .int .i64 0, .int .i64 0, .int .i64 0] := hW2 ▸ Bl.new wr _ _ rfl
          have HX2 := Lib.hid hW2
          clear hW2
          have a0 := k2.cell 0 rfl
          have a1 := k2.cell 1 rfl
          have a2 := k2.cell 2 rfl
          have a3 := k2.cell 3 rfl
          have a4 := k2.cell 4 rfl
          have a5 := k2.cell 5 rfl
          have a6 := k2.cell 6 rfl
          have a7 := k2.cell 7 rfl
          have hb2' := hbj.trans (hb2.mono hbj.size)
          have hT2 := Lib.hid (HTj.out W2 g W0.heap.size em gm dm sv E hb2' (hfj.out.below hb2))
          go_upto_region 16 with fail
          rw [← HX2.out]
          go_upto_region 17 with (go_at_call 25; refine hT2.out.mono ?_; rintro e w4 hG; obtain ⟨⟨oa, ob, rfl, hoa4, hob4⟩, hfil4, hfr4⟩ := hG; obtain ⟨A6, c6, rfl, hc6⟩ := own_slice hoa4; obtain ⟨A7, c7, rfl, hc7⟩ := own_slice hob4)
          have hz2 := hb2.size
          have hz4 := hfr4.size
          have hs5 := hsz.out
          have pa : w4.ownsRow w5.heap.size 39 8 u12 (sumN on j) (catN OC j) := own_stay hoa.out fun y hy => by
            have h1 := own_ge2 hoa.out y hy
            exact (hfr4.block y (by omega) (by simp; omega)).trans (hb2.block y h1.2)
          have pb : w4.ownsRow w5.heap.size 64 5 u13 (sumN fn j) (catN FC j) := own_stay hob.out fun y hy => by
            have h1 := own_ge2 hob.out y hy
            exact (hfr4.block y (by omega) (by simp; omega)).trans (hb2.block y h1.2)
          have r1 : sumN on j + on j ≤ maxLen := by unfold maxLen; omega
          have r2 : (sumN on j + on j) * 96 ≤ 140737488355328 := by omega
          have r3 : sumN fn j + fn j ≤ maxLen := by unfold maxLen; omega
          have r4 : (sumN fn j + fn j) * 48 ≤ 140737488355328 := by omega
          have hle54 : w5.heap.size ≤ w4.heap.size := by omega
          have HDS := Lib.hid (fun (w9 : World) (v9 : Value) (h9 : w9.ownsRow w5.heap.size 39 8 v9 (sumN on j + on j) (catN OC j ++ OC j)) (hg9 : w4.grownBy w9 u12.ownBlock) => (show w9.ownsRow w5.heap.size 64 5 u13 (sumN fn j) (catN FC j) ∧ w9.ownsRow W2.heap.size 64 5 (.slice A7 (fn j) c7) (fn j) (FC j) from ⟨own_stay pb fun y hy => (Fr.of_grown hg9).block y (own_ge2 pb y hy).2 fun hx => hdis.out y hx y hy rfl, own_stay hob4 fun y hy => (Fr.of_grown hg9).block y (own_ge2 hob4 y hy).2 fun hx => by
            have h1 := (own_ge2 hoa.out y hx).2
            have h2 := (own_ge2 hob4 y hy).1
            omega⟩))
          go_wp2_with (first
            | (have _z := hown9; at_builtin; refine wpList_append_src _ rfl (.tmp 55) (.tmp 56) 29 rfl w5.heap.size 64 j1 _ 5 48 Tryz.underlying29 hj1 hw1 hw2 hw3 rfl (by decide) _ (sumN fn j) (catN FC j) rfl hbb9.1 A7 (fn j) c7 (FC j) rfl hFlj (own_src hbb9.2) hF1j r3 r4 (by have := hgrow9.size; omega) ?_; intro v10 w10 hown10 hgrow10 hrow10)
            | (at_builtin; refine wpList_append_src _ rfl (.tmp 52) (.tmp 53) 28 rfl w5.heap.size 39 i1 _ 8 96 Tryz.underlying28 hi1 hz1 hz2' hz3 rfl (by decide) _ (sumN on j) (catN OC j) rfl pa A6 (on j) c6 (OC j) rfl hOlj (own_src hoa4) hO1j r1 r2 hle54 ?_; intro v9 w9 hown9 hgrow9 hrow9; have hbb9 := HDS.out w9 v9 hown9 hgrow9))
          have hg9 : w4.grownBy w9 u12.ownBlock := hgrow9
          have hg10 : w9.grownBy w10 u13.ownBlock := hgrow10
          have hf9 := Fr.of_grown hg9
          have hf10 := Fr.of_grown hg10
          have hz9 := hf9.size
          have hz10 := hf10.size
          have q9 := own_ge2 hown9
          have hrw9 : v9.ownBlock = u12.ownBlock ∨ v9.ownBlock = some w4.heap.size := hrow9
          have hrw10 : v10.ownBlock = u13.ownBlock ∨ v10.ownBlock = some w9.heap.size := hrow10
          have qa := own_ge2 pa
          have qb := own_ge2 pb
          have hdd : ∀ y ∈ v9.ownBlock.toList, ∀ z ∈ u13.ownBlock.toList, y ≠ z := fun y hy z hz => by
            rcases hrw9 with h | h
            · rw [h] at hy; exact hdis.out y hy z hz
            · rw [h] at hy
              have h1 : y = w4.heap.size := by simpa using hy
              have := (qb z hz).2
              omega
          have p9 : w10.ownsRow w5.heap.size 39 8 v9 (sumN on (j + 1)) (catN OC (j + 1)) := by
            rw [HON.out, HOC.out]
            exact own_stay hown9 fun y hy => hf10.block y (q9 y hy).2 fun hx => hdd y hy y hx rfl
          have p10 : w10.ownsRow w5.heap.size 64 5 v10 (sumN fn (j + 1)) (catN FC (j + 1)) := by
            rw [HFN.out, HFC.out]
            exact hown10
          have hdis2 : ∀ y ∈ v9.ownBlock.toList, ∀ z ∈ v10.ownBlock.toList, y ≠ z := fun y hy z hz => by
            rcases hrw10 with h | h
            · rw [h] at hz; exact hdd y hy z hz
            · rw [h] at hz
              have h1 : z = w9.heap.size := by simpa using hz
              have := (q9 y hy).2
              omega
          have hsame2 : ∀ i, i < w5.heap.size → i ≠ g → w10.heap[i]? = w5.heap[i]? := fun i h1 h2 => by
            have s1 := hf10.block i (by omega) (fun hx => by have := (qb i hx).1; omega)
            have s2 := hf9.block i (by omega) (fun hx => by have := (qa i hx).1; omega)
            have s3 := hfr4.block i (by omega) (by simp; exact h2)
            have s4 := hb2.block i (by omega)
            exact (((s1.trans s2).trans s3).trans s4).trans (hsame.out i h1 h2)
          have hblk : Bl w10 g 76 (filV em gm dm sv p (X (j + 1)) (N (j + 1))) := hfil4.blk.of ((hf10.block g (by omega) (fun hx => by have := (qb g hx).1; omega)).trans (hf9.block g (by omega) (fun hx => by have := (qa g hx).1; omega)))
          have hne := hfr.out.ne
          have hF10 : FilD w10 g W0.heap.size em gm dm sv E p (X (j + 1)) (N (j + 1)) := hfr.out.move (W' := w10) (by omega) (fun i _ h2 h3 _ _ => hsame2 i h2 h3) hblk (MapS.stay hfr.out.emm (hsame2 em hfr.out.emm.lt hne.1)) hfr.out.eq (fun x hx => .inl hx) (MapS.stay hfr.out.dmm (hsame2 dm hfr.out.dmm.lt hne.2.1))
          have hb10' : Below w.heap.size w w10 := ⟨(((hf10.os.trans hf9.os).trans hfr4.os).trans hb2'.os), (((hf10.tape.trans hf9.tape).trans hfr4.tape).trans hb2'.tape), (((hf10.output.trans hf9.output).trans hfr4.output).trans hb2'.output), by omega, fun i hi => by
            have hg5 := hfr.out.low.1
            exact (hsame2 i (by omega) (by omega)).trans (hbr.block i hi)⟩
          clear hz9 hz10 hz4 hs5 r1 r2 r3 r4 hle54 hz2
          go_roundw
          case rel => exact ⟨j + 1, by omega, by go_num, Lib.hid p9, Lib.hid p10, Lib.hid hdis2, Lib.hid hF10, Lib.hid hsame2, Lib.hid (by have := hf10.size; have := hf9.size; have := hfr4.size; have := hb2.size; have := hsz.out; omega), hb10'⟩
          case measure => simp [intOf] <;> omega
        · obtain rfl : j = n := by omega
          go_wp2
          go_ret3
          exact ⟨_, _, rfl, own_low hoa.out hz5, own_low hob.out hz5, hbj⟩
end Go.Proofs.YtejpdbiiikcmmaaGreatDoor.Fi
