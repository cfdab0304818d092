/- The walk of FilterOwn: a filter keeps its policy in memory of its own. -/
import Derived.Test.YtejpdbiiikcmmaaGreatDoorVq
import Derived.Test.YtejpdbiiikcmmaaGreatDoorLi
set_option linter.unusedVariables false
set_option linter.unusedSimpArgs false
namespace Go.Proofs.YtejpdbiiikcmmaaGreatDoor.filterOwn
open Go.RowKit Lb Gr Pd Fl Fpl Kf Mp Is Go.Proofs.YtejpdbiiikcmmaaGreatDoor.Pm Bk Lc Ck Ea Tk Fi Lv Vm Vo Go.Proofs.YtejpdbiiikcmmaaGreatDoor.Lk
attribute [local go_sem ↓] Go.wp_at_zero Go.wp_at_succ
set_option maxHeartbeats 16000000 in
set_option maxRecDepth 100000 in
theorem walk (w : World) (ht : Tab w ∧ NevT w) (nm : ByteArray) (hs : nm.size ≤ maxLen) : Calls Tryz.prog 6 #[.string nm] w fun e w' => e = .returned (.bool true) ∧ Below w.heap.size w w' := by
  have HL := Lib.hid (fun W (h : Below w.heap.size w W) => livesC W (ht.1.below h) (ht.2.below h))
  have HP : Hid (∀ W, Calls Tryz.prog 22 #[] W fun e w' => e = .returned (.agg #[.slice (some ⟨W.heap.size + 2, 0, none⟩) 2 2, .slice none 0 0, .slice none 0 0, .bool true, .slice (some ⟨W.heap.size + 3, 0, none⟩) 1 1, .int .i64 9, .int .i64 100]) ∧ PM w' W.heap.size ∧ W.heap.size + 4 ≤ w'.heap.size ∧ Below W.heap.size W w') := Lib.hid fun W => policyC W
  have HN : Hid (∀ n W, Below w.heap.size w W → PM W n → Calls Tryz.prog 23 #[.agg #[.slice (some ⟨n + 2, 0, none⟩) 2 2, .slice none 0 0, .slice none 0 0, .bool true, .slice (some ⟨n + 3, 0, none⟩) 1 1, .int .i64 9, .int .i64 100]] W fun e w' => ∃ g, e = .returned (.tuple #[.pointer (some ⟨g, 0, none⟩), .int .i64 0]) ∧ Fil w' g W.heap.size polP ByteArray.empty 0 ∧ Below W.heap.size W w') := Lib.hid fun n W hW hp => newP n W (ht.1.below hW) (ht.2.below hW) hp
  have HTAB := Lib.hid (fun W (h : Below w.heap.size w W) => ht.1.below h)
  clear ht
  obtain ⟨n, hn⟩ : ∃ n, n = w.heap.size := ⟨_, rfl⟩
  have HPn := Lib.hid (HP.out w)
  rw [← hn] at HPn
  have hnw := Lib.hid hn
  clear hn
  go_enter Tryz.func6, Tryz.ntmps6
  go_upto_region 2 with (go_at_call 22; refine HPn.out.mono ?_; rintro e w1 ⟨rfl, p1, hs1, hb1⟩)
  have hb1' : Below w.heap.size w w1 := hnw.out ▸ hb1
  obtain ⟨W2, hW2⟩ : ∃ W, W = w1.alloc (.cells #[.slice (some ⟨n + 2, 0, none⟩) 2 2, .slice none 0 0, .slice none 0 0, .bool true, .slice (some ⟨n + 3, 0, none⟩) 1 1, .int .i64 9, .int .i64 100] 27) := ⟨_, rfl⟩
  have hb2 : Below w1.heap.size w1 W2 := hW2 ▸ (Below.refl _ _).alloc (Nat.le_refl _) _
  have k2 : Bl W2 w1.heap.size 27 [.slice (some ⟨n + 2, 0, none⟩) 2 2, .slice none 0 0, .slice none 0 0, .bool true, .slice (some ⟨n + 3, 0, none⟩) 1 1, .int .i64 9, .int .i64 100] := hW2 ▸ Bl.new w1 _ _ rfl
  have HX2 := Lib.hid hW2
  clear hW2
  rw [← HX2.out]
  have hq2 := hb1'.trans (hb2.mono hb1'.size)
  have p2 := p1.below hb2
  have y0 := k2.cell 0 rfl
  have y1 := k2.cell 1 rfl
  have y2 := k2.cell 2 rfl
  have y3 := k2.cell 3 rfl
  have y4 := k2.cell 4 rfl
  have y5 := k2.cell 5 rfl
  have y6 := k2.cell 6 rfl
  go_upto_region 5 with (go_at_call 23; refine (HN.out n _ hq2 p2).mono ?_; rintro e w3 ⟨g, rfl, hfil, hb3⟩)
  obtain ⟨em, gm, dm, sv, E, hD⟩ := hfil
  have p3 := p2.below hb3
  have k3 := k2.below hb3
  have hq3 := hq2.trans (hb3.mono hq2.size)
  have hz2 := hb2.size
  have z0 := k3.cell 0 rfl
  have a0 := p3.e.cell 0 rfl
  have f0 := p3.e.fz 0
  go_upto_region 6 with fail
  obtain ⟨W5, hW5⟩ : ∃ W, W = w3.setCell ⟨n + 2, 0, none⟩ (.string ⟨#[105]⟩) := ⟨_, rfl⟩
  have e5 : Bl W5 (n + 2) 59 [.string ⟨#[105]⟩, .slice none 0 0, .string aT, .slice (some ⟨n + 1, 0, none⟩) 1 1] := hW5 ▸ p3.e.set 0 _
  have r5 : Bl W5 (n + 1) 51 [.string hrefT, .int .i64 5, .slice none 0 0] := hW5 ▸ p3.r.other (p := ⟨n + 2, 0, none⟩) (by show n + 1 ≠ n + 2; omega) _
  have d5 : Bl W5 (n + 3) 9 [.string svgT] := hW5 ▸ p3.d.other (p := ⟨n + 2, 0, none⟩) (by show n + 3 ≠ n + 2; omega) _
  have k5 : Bl W5 w1.heap.size 27 _ := hW5 ▸ k3.other (p := ⟨n + 2, 0, none⟩) (by show w1.heap.size ≠ n + 2; omega) _
  have hf5 : Fr [n + 1, n + 2, n + 3] w3 W5 := hW5 ▸ Fr.setCell w3 ⟨n + 2, 0, none⟩ _ (.inl (by simp))
  rw [← hW5]
  clear hW5
  have b0 := k5.cell 0 rfl
  have b1 := e5.cell 3 rfl
  have b2 := r5.cell 0 rfl
  have b3 := r5.fz 0
  go_upto_region 7 with fail
  obtain ⟨W6, hW6⟩ : ∃ W, W = W5.setCell ⟨n + 1, 0, none⟩ (.string ⟨#[105, 100]⟩) := ⟨_, rfl⟩
  have d6 : Bl W6 (n + 3) 9 [.string svgT] := hW6 ▸ d5.other (p := ⟨n + 1, 0, none⟩) (by show n + 3 ≠ n + 1; omega) _
  have k6 : Bl W6 w1.heap.size 27 _ := hW6 ▸ k5.other (p := ⟨n + 1, 0, none⟩) (by show w1.heap.size ≠ n + 1; omega) _
  have hf6 : Fr [n + 1, n + 2, n + 3] W5 W6 := hW6 ▸ Fr.setCell W5 ⟨n + 1, 0, none⟩ _ (.inl (by simp))
  rw [← hW6]
  clear hW6
  have c4 := k6.cell 4 rfl
  have c0 := d6.cell 0 rfl
  have c1 := d6.fz 0
  go_upto_region 8 with fail
  obtain ⟨W7, hW7⟩ : ∃ W, W = W6.setCell ⟨n + 3, 0, none⟩ (.string ⟨#[117]⟩) := ⟨_, rfl⟩
  have hf7 : Fr [n + 1, n + 2, n + 3] W6 W7 := hW7 ▸ Fr.setCell W6 ⟨n + 3, 0, none⟩ _ (.inl (by simp))
  rw [← hW7]
  clear hW7
  have hf := (hf5.trans hf6).trans hf7
  have hnb : n + 4 ≤ w3.heap.size := by have := hb3.size; omega
  have hq7 : Below w.heap.size w W7 := hq3.trans (hf.below hq3.size (by have := hnw.out; simp; omega))
  have hgl := hD.blk.lt
  have hlow := hD.low
  have hD7 : FilD W7 g W2.heap.size em gm dm sv E polP ByteArray.empty 0 := hD.move hf.size (fun k h1 h2 _ _ _ => hf.block k h2 (by have := hb2.size; simp; omega)) (hD.blk.of (hf.block g hgl (by have := hb2.size; simp; omega))) (MapS.stay hD.emm (hf.block em hD.emm.lt (by have := hb2.size; simp; omega))) hD.eq (fun x hx => .inl hx) (MapS.stay hD.dmm (hf.block dm hD.dmm.lt (by have := hb2.size; simp; omega)))
  clear hf5 hf6 hf7 hf b0 b1 b2 b3 c4 c0 c1 z0 a0 f0
  have hlow2 : w.heap.size ≤ g := by have := hq2.size; omega
  go_upto_region 9 with (go_at_call 24; refine (startTagC _ _).mono ?_; rintro e w8 ⟨rfl, hb8⟩)
  have hq8 := hq7.trans (hb8.mono hq7.size)
  have hD8 := hD7.below hb8
  obtain ⟨W9, hW9⟩ : ∃ W, W = w8.alloc (.cells #[.int .i64 1, .string ⟨#[97]⟩, .string ByteArray.empty, .slice none 0 0, .bool false, .int .i64 0, .int .i64 0, .int .i64 0] 39) := ⟨_, rfl⟩
  have hb9 : Below w8.heap.size w8 W9 := hW9 ▸ (Below.refl _ _).alloc (Nat.le_refl _) _
  have k9 : Bl W9 w8.heap.size 39 [.int .i64 1, .string aT, .string ByteArray.empty, .slice none 0 0, .bool false, .int .i64 0, .int .i64 0, .int .i64 0] := hW9 ▸ Bl.new w8 _ _ rfl
  rw [← hW9]
  clear hW9
  have k9x := k9.alloc (.cells #[.string ⟨#[104, 114, 101, 102]⟩, .string ⟨#[47]⟩, .string ⟨#[105, 100]⟩, .string nm] 48)
  have u3 := k9x.cell 3 rfl
  have u4 := k9x.fz 3
  go_upto_region 10 with fail
  obtain ⟨W10, hW10⟩ : ∃ W, W = W9.alloc (.cells #[.string ⟨#[104, 114, 101, 102]⟩, .string ⟨#[47]⟩, .string ⟨#[105, 100]⟩, .string nm] 48) := ⟨_, rfl⟩
  have hb10 : Below W9.heap.size W9 W10 := hW10 ▸ (Below.refl _ _).alloc (Nat.le_refl _) _
  have kA : Bl W10 W9.heap.size 48 [.string hrefT, .string slT, .string idT, .string nm] := hW10 ▸ Bl.new W9 _ _ rfl
  have k10 := k9.below hb10
  rw [← hW10]
  clear hW10 k9x u3 u4
  have hlt8 := k9.lt
  obtain ⟨W11, hW11⟩ : ∃ W, W = W10.setCell ⟨w8.heap.size, 3, none⟩ (.slice (some ⟨W9.heap.size, 0, none⟩) 2 2) := ⟨_, rfl⟩
  have k11 : Bl W11 w8.heap.size 39 [.int .i64 1, .string aT, .string ByteArray.empty, .slice (some ⟨W9.heap.size, 0, none⟩) 2 2, .bool false, .int .i64 0, .int .i64 0, .int .i64 0] := hW11 ▸ k10.set 3 _
  have kA11 : Bl W11 W9.heap.size 48 [.string hrefT, .string slT, .string idT, .string nm] := hW11 ▸ kA.other (p := ⟨w8.heap.size, 3, none⟩) (by show W9.heap.size ≠ w8.heap.size; omega) _
  have hf11 : Fr [w8.heap.size] W10 W11 := hW11 ▸ Fr.setCell W10 ⟨w8.heap.size, 3, none⟩ _ (.inl (by simp))
  rw [← hW11]
  clear hW11
  have hb811 : Below w8.heap.size w8 W11 := (hb9.trans (hb10.mono hb9.size)).trans (hf11.below (Nat.le_trans hb9.size hb10.size) (by simp))
  have hD11 := hD8.below hb811
  have hq11 := hq8.trans (hb811.mono hq8.size)
  have t0 := k11.cell 0 rfl
  have t1 := k11.cell 1 rfl
  have t2 := k11.cell 2 rfl
  have t3 := k11.cell 3 rfl
  have t4 := k11.cell 4 rfl
  have t5 := k11.cell 5 rfl
  have t6 := k11.cell 6 rfl
  have t7 := k11.cell 7 rfl
  have hCK : ∀ W, Below W11.heap.size W11 W → Calls Tryz.prog 41 #[.agg #[.int .i64 1, .string aT, .string ByteArray.empty, .slice (some ⟨W9.heap.size, 0, none⟩) 2 2, .bool false, .int .i64 0, .int .i64 0, .int .i64 0]] W fun e w' => e = .returned (.int .i64 (mayI (ownT nm))) ∧ Below W.heap.size W w' := fun W hW => by
    have k := kA11.below hW
    exact checkOwn nm hs W9.heap.size W (k.cell 0 rfl) (k.cell 1 rfl) (k.cell 2 rfl) (k.cell 3 rfl)
  have hmay : mayI (ownT nm) = 0 ∨ mayI (ownT nm) = 70 := by
    unfold mayI
    split
    · exact .inl rfl
    · exact .inr rfl
  rcases hmay with hm | hm
  · rw [hm] at hCK
    have HTK := Lib.hid (takeOwn g W2.heap.size nm W9.heap.size W11 em gm dm sv E hD11 kA11.lt (kA11.cell 0 rfl) (kA11.cell 1 rfl) (kA11.cell 2 rfl) (kA11.cell 3 rfl) hCK)
    clear hCK
    go_upto_region 11 with (go_at_call 25; refine HTK.out.mono ?_; rintro e w12 ⟨u, f, x, off, c, rfl, ho12, hx12, hxge, hD12, hb12⟩)
    have hq12 := hq11.trans (hb12.mono hq11.size)
    obtain ⟨Au, cu, rfl, _⟩ := own_slice ho12
    go_upto_region 14 with (first
      | (go_at_call 24; refine (startTagC _ _).mono ?_; rintro e w13 ⟨rfl, hb13⟩; have hD13 := hD12.below hb13; have hq13 := hq12.trans (hb13.mono hq12.size))
      | (go_at_call 25; refine (takeS (nm := bT) (by decide) name_b (on := 1) (fn := 0) (OC := cT bT) (FC := []) (X' := ByteArray.empty) (N' := 0) w13 g W2.heap.size em gm dm sv E hD13 (fun V hV => (startIn g W2.heap.size polP ByteArray.empty 0 bT 0 0 0 V em gm dm sv E hV _ fnd_b (by decide) (by rw [runes_b]; decide)).mono fun e w' ⟨u, h1, h2, h3, h4⟩ => ⟨u, _, h1, h2, World.ownsRow_nil _ _ _ _, h3, Fr.of_below h4⟩)).mono ?_; rintro e w14 ⟨⟨oa, ob, rfl, hoa14, hob14⟩, hD14, hf14⟩))
    obtain ⟨A14, c14, rfl, _⟩ := own_slice hoa14
    have hq14 := hq13.trans (hf14.below hq13.size (by simp; exact hlow2))
    go_upto_region 15 with (first
      | (go_at_call 24; refine (startTagC _ _).mono ?_; rintro e w15 ⟨rfl, hb15⟩; have hD15 := hD14.below hb15; have hq15 := hq14.trans (hb15.mono hq14.size))
      | (go_at_call 25; refine (takeT (nm := svgT) (by decide) name_svg w15 (HTAB.out _ hq15) w15 (Below.refl _ _) g W2.heap.size em gm dm sv E hD15 fnd_svg (.inl ⟨set_svg, has_svg⟩) true drop_svg).mono ?_; rintro e w16 ⟨⟨oc, od, rfl, hoc16, hod16⟩, hD16, hf16⟩))
    obtain ⟨A16, c16, rfl, _⟩ := own_slice hod16
    have hq16 := hq15.trans (hf16.below hq15.size (by simp; exact hlow2))
    have hkeep : ∀ j, j < w12.heap.size → j ≠ g → w16.heap[j]? = w12.heap[j]? := fun j h1 h2 => by
      have s1 := hb13.size
      have s2 := hf14.size
      have s3 := hb15.size
      exact (((hf16.block j (by omega) (by simp; exact h2)).trans (hb15.block j (by omega))).trans (hf14.block j (by omega) (by simp; exact h2))).trans (hb13.block j h1)
    have hg11 : g < W11.heap.size := hD11.blk.lt
    obtain ⟨bu, ou, rfl, hxu⟩ := own_srcV ho12 (by simp)
    have hbu := own_ge2 ho12 bu (by simp [Value.ownBlock])
    have hbx := World.block_lt_of_cell? (a := ⟨x, off, none⟩) _ hx12
    have v1 : w16.cell? ⟨bu, ou + 3, none⟩ = some (.slice (some ⟨x, off, none⟩) 1 c) := (World.cell?_of_block (a := ⟨bu, ou + 3, none⟩) (hkeep bu hbu.2 (by omega))).trans (hxu 3 _ rfl)
    have v2 : w16.cell? ⟨x, off, none⟩ = some (.string hrefT) := (World.cell?_of_block (a := ⟨x, off, none⟩) (hkeep x hbx (by omega))).trans hx12
    obtain ⟨bf, of, rfl, hxf⟩ := own_srcV hod16 (by simp)
    have v3 : w16.cell? ⟨bf, of + 3, none⟩ = some (.int .i64 1) := hxf 3 _ rfl
    have q1 : (hrefT.toList == [104, 114, 101, 102]) = true := by decide +kernel
    clear hxu hxf hkeep hbu hbx hxge hg11 hx12 ho12 hoa14 hob14 hoc16 hod16
    go_wp2_with (go_at_call 13; refine (HL.out _ hq16).mono ?_; rintro e w17 ⟨rfl, hb17⟩)
    go_ret
    exact ⟨rfl, hq16.trans (hb17.mono hq16.size)⟩
  · rw [hm] at hCK
    have HTK := Lib.hid (takeBad g W2.heap.size polP ByteArray.empty aT (some ⟨W9.heap.size, 0, none⟩) 2 2 W11 em gm dm sv E hD11 hCK)
    clear hCK
    go_upto_region 11 with (go_at_call 25; refine HTK.out.mono ?_; rintro e w12 ⟨rfl, hb12⟩)
    have hq12 := hq11.trans (hb12.mono hq11.size)
    go_wp2_with (go_at_call 13; refine (HL.out _ hq12).mono ?_; rintro e w17 ⟨rfl, hb17⟩)
    go_ret
    exact ⟨rfl, hq12.trans (hb17.mono hq12.size)⟩
end Go.Proofs.YtejpdbiiikcmmaaGreatDoor.filterOwn
