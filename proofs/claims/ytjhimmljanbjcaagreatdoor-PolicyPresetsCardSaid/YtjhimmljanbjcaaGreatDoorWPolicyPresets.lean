/- The walk of PolicyPresets: the presets, and that there are no others. -/
import Derived.Test.YtjhimmljanbjcaaGreatDoorAw
import Derived.Test.YtjhimmljanbjcaaGreatDoorSp
import Derived.Test.YtjhimmljanbjcaaGreatDoorTt
import Derived.Test.YtjhimmljanbjcaaGreatDoorPv
import Derived.Test.YtjhimmljanbjcaaGreatDoorPy
import Derived.Test.YtjhimmljanbjcaaGreatDoorPz
import Derived.Deep.RegionHeld3
import Derived.Deep.Cut
import Derived.Deep.CutRange
set_option linter.unusedVariables false
set_option linter.unusedSimpArgs false
namespace Go.Proofs.YtjhimmljanbjcaaGreatDoor.policyPresets
open Go.RowKit Lb Gr Pd Fl Go.Proofs.YtjhimmljanbjcaaGreatDoor.Pm Bk Is Ru Co Sa Tx Dp Go.Proofs.YtjhimmljanbjcaaGreatDoor.Ty Go.Proofs.YtjhimmljanbjcaaGreatDoor.Ck Go.Proofs.YtjhimmljanbjcaaGreatDoor.Vd Go.Proofs.YtjhimmljanbjcaaGreatDoor.Or Go.Proofs.YtjhimmljanbjcaaGreatDoor.Pl Go.Proofs.YtjhimmljanbjcaaGreatDoor.Pp Go.Proofs.YtjhimmljanbjcaaGreatDoor.Aw Pt Po Ps Go.Proofs.YtjhimmljanbjcaaGreatDoor.Wr Go.Proofs.YtjhimmljanbjcaaGreatDoor.Tt Go.Proofs.YtjhimmljanbjcaaGreatDoor.Pr
attribute [local go_sem ↓] Go.wp_at_zero Go.wp_at_succ

theorem cells7 {w : World} {g : Nat} {t : TypeId} {a0 a1 a2 a3 a4 a5 a6 : Value} (h : Bl w g t [a0, a1, a2, a3, a4, a5, a6]) : w.cell? ⟨g, 0, none⟩ = some a0 ∧ w.cell? ⟨g, 1, none⟩ = some a1 ∧ w.cell? ⟨g, 2, none⟩ = some a2 ∧ w.cell? ⟨g, 3, none⟩ = some a3 ∧ w.cell? ⟨g, 4, none⟩ = some a4 ∧ w.cell? ⟨g, 5, none⟩ = some a5 ∧ w.cell? ⟨g, 6, none⟩ = some a6 :=
  ⟨h.cell 0 rfl, h.cell 1 rfl, h.cell 2 rfl, h.cell 3 rfl, h.cell 4 rfl, h.cell 5 rfl, h.cell 6 rfl⟩
/-- what is known of a name: its policy (p), the one that the reference's text says (r), whether it is a preset -/
structure Kn (s : ByteArray) (p r : PolD) (ok : Bool) : Prop where
  t : tidyP r = p
  fit : FitP r
  dif : Dif r
  okv : OkV r
  fitp : FitP p
  z : ok = false → p = zeroP
  pc : ∀ W, Tab W → Calls Tryz.prog 23 #[.string s] W fun e w' => ∃ y F, e = .returned (.tuple #[polV y p, .bool ok]) ∧ OwnP w' W.heap.size y p F ∧ Below W.heap.size W w'
  rc : ∀ W, Calls Tryz.prog 24 #[.string s] W fun e w' => ∃ y F, e = .returned (.tuple #[polV y r, .bool ok]) ∧ OwnP w' W.heap.size y r F ∧ Below W.heap.size W w'
theorem bas_I : difB (parseQ Pw.basT).1 = true ∧ tidyI (parseQ Pw.basT).1 = Pb.basicP := by decide +kernel
theorem bas_tidy : tidyP (parseQ Pw.basT).1 = Pb.basicP := by rw [tidyP_I bas_I.1]; exact bas_I.2
theorem bas_sm : smP (parseQ Pw.basT).1 = true ∧ smP Pb.basicP = true := by decide +kernel
theorem rich_sm2 : smP (parseQ richT).1 = true ∧ smP (tidyI richP) = true := by decide +kernel
theorem full_sm2 : smP (parseQ Px.fullT).1 = true ∧ smP (tidyI Px.fullP) = true := by decide +kernel
theorem kn (s : ByteArray) : ∃ p r ok, Kn s p r ok := by
  by_cases h0 : s = str [98, 97, 115, 105, 99]
  · subst h0
    exact ⟨Pb.basicP, (parseQ Pw.basT).1, true, bas_tidy, (smP_of bas_sm.1).1, dif_of bas_I.1, (smP_of bas_sm.1).2, (smP_of bas_sm.2).1, (fun h => by cases h), fun W hW => Pb.presetBasicC W hW, fun W => Pw.rPresetBasicC W⟩
  by_cases h1 : s = str [114, 105, 99, 104]
  · subst h1
    exact ⟨tidyP richP, (parseQ richT).1, true, rich_tidy.symm, (smP_of rich_sm2.1).1, dif_of rich_dif.2, (smP_of rich_sm2.1).2, (by rw [tidyP_I rich_dif.1]; exact (smP_of rich_sm2.2).1), (fun h => by cases h), fun W hW => Pq.presetRichC W hW, fun W => Pv.rPresetRichC W⟩
  by_cases h2 : s = str [102, 117, 108, 108]
  · subst h2
    exact ⟨tidyP Px.fullP, (parseQ Px.fullT).1, true, Px.full_tidy.symm, (smP_of full_sm2.1).1, dif_of Px.full_dif.2, (smP_of full_sm2.1).2, (by rw [tidyP_I Px.full_dif.1]; exact (smP_of full_sm2.2).1), (fun h => by cases h), fun W hW => Yf.presetFullC W hW, fun W => Pz.rPresetFullC W⟩
  have hz : smP zeroP = true ∧ difB zeroP = true ∧ tidyI zeroP = zeroP := by decide +kernel
  exact ⟨zeroP, zeroP, false, by rw [tidyP_I hz.2.1]; exact hz.2.2, (smP_of hz.1).1, dif_of hz.2.1, (smP_of hz.1).2, (smP_of hz.1).1, fun _ => rfl, fun W _ => (Pu.presetNoC s W h0 h1 h2).mono fun e w' h => ⟨_, [], h.1, own_zero _ _, h.2⟩, fun W => (Pu.rPresetNoC s W h0 h1 h2).mono fun e w' h => ⟨_, [], h.1, own_zero _ _, h.2⟩⟩

set_option maxHeartbeats 8000000 in
set_option maxRecDepth 100000 in
theorem walk (w : World) (hl : Laid w) (s : ByteArray) : Calls Tryz.prog 4 #[.string s] w fun e w' => e = .returned (.bool true) ∧ Below w.heap.size w w' := by
  have HA : Hid (∀ W, Below w.heap.size w W → Calls Tryz.prog 19 #[] W fun e w' => e = .returned (.bool true) ∧ Below W.heap.size W w') := Lib.hid fun W hW => awakeC W (hl.below hW)
  have HT : Hid (∀ W, Below w.heap.size w W → Tab W) := Lib.hid fun W hW => hl.tab.below hW
  obtain ⟨W0, hW0⟩ : ∃ W, W = w.alloc (.cells #[.string s, .string ⟨#[98, 97, 115, 105, 99]⟩, .string ⟨#[114, 105, 99, 104]⟩, .string ⟨#[102, 117, 108, 108]⟩] 9) := ⟨_, rfl⟩
  have hb0 : Below w.heap.size w W0 := hW0 ▸ (Below.refl _ _).alloc (Nat.le_refl _) _
  have HC : Hid (∀ (k : Nat) (_ : k < 4) W, Below W0.heap.size W0 W → ∃ x, W.cell? ⟨w.heap.size, k, none⟩ = some (.string x)) := Lib.hid fun k hk W hW => by
    have h1 : Bl W0 w.heap.size 9 [.string s, .string ⟨#[98, 97, 115, 105, 99]⟩, .string ⟨#[114, 105, 99, 104]⟩, .string ⟨#[102, 117, 108, 108]⟩] := hW0 ▸ Bl.new w _ _ rfl
    have h2 := h1.below hW
    match k, hk with
    | 0, _ => exact ⟨_, h2.cell 0 rfl⟩
    | 1, _ => exact ⟨_, h2.cell 1 rfl⟩
    | 2, _ => exact ⟨_, h2.cell 2 rfl⟩
    | 3, _ => exact ⟨_, h2.cell 3 rfl⟩
    | k + 4, h => exact absurd h (by omega)
  have HX0 := Lib.hid hW0
  clear hl hW0
  go_enter Tryz.func4, Tryz.ntmps4
  go_upto_region 1 with fail
  go_wp2
  rw [← HX0.out]
  go_loopw [14] (fun i wr => ∃ k : Nat, k ≤ 4 ∧ i = .int .i64 k ∧ Below W0.heap.size W0 wr) (fun i _ => 4 - (intOf i).toNat)
  case atStart => exact ⟨0, Nat.zero_le _, rfl, Below.refl _ _⟩
  case round =>
    obtain ⟨k, hk, rfl, h0r⟩ := hrel
    have hwr : Below w.heap.size w wr := hb0.trans (h0r.mono hb0.size)
    by_cases hlt : k < 4
    · obtain ⟨x, y0⟩ := HC.out k hlt wr h0r
      obtain ⟨p, r, ok, hkn⟩ := kn x
      have HPP : Hid (∀ W, Below w.heap.size w W → Calls Tryz.prog 23 #[.string x] W fun e w' => ∃ A1 c1 A2 c2 A3 c3 A4 c4 F, e = .returned (.tuple #[.agg #[.slice A1 p.els.length c1, .slice A2 p.glob.length c2, .slice A3 p.schemes.length c3, .bool p.rel, .slice A4 p.drop.length c4, .int .i64 p.depth, .int .i64 p.window], .bool ok]) ∧ OwnP w' W.heap.size ⟨.slice A1 p.els.length c1, .slice A2 p.glob.length c2, .slice A3 p.schemes.length c3, .slice A4 p.drop.length c4⟩ p F ∧ Below W.heap.size W w') := Lib.hid fun W hW => (hkn.pc W (HT.out W hW)).mono fun e w' ⟨y, F, he, ho, hb⟩ => by
        obtain ⟨A1, c1, A2, c2, A3, c3, A4, c4, rfl, _⟩ := (ho.rd (lo := 0) (hi := w'.heap.size) (Nat.zero_le _) (Nat.le_refl _)).form
        exact ⟨A1, c1, A2, c2, A3, c3, A4, c4, F, he, ho, hb⟩
      have HRP : Hid (∀ W, Calls Tryz.prog 24 #[.string x] W fun e w' => ∃ D1 d1 D2 d2 D3 d3 D4 d4 F, e = .returned (.tuple #[.agg #[.slice D1 r.els.length d1, .slice D2 r.glob.length d2, .slice D3 r.schemes.length d3, .bool r.rel, .slice D4 r.drop.length d4, .int .i64 r.depth, .int .i64 r.window], .bool ok]) ∧ OwnP w' W.heap.size ⟨.slice D1 r.els.length d1, .slice D2 r.glob.length d2, .slice D3 r.schemes.length d3, .slice D4 r.drop.length d4⟩ r F ∧ Below W.heap.size W w') := Lib.hid fun W => (hkn.rc W).mono fun e w' ⟨y, F, he, ho, hb⟩ => by
        obtain ⟨D1, d1, D2, d2, D3, d3, D4, d4, rfl, _⟩ := (ho.rd (lo := 0) (hi := w'.heap.size) (Nat.zero_le _) (Nat.le_refl _)).form
        exact ⟨D1, d1, D2, d2, D3, d3, D4, d4, F, he, ho, hb⟩
      have HTD : Hid (∀ W y, RdP W 0 W.heap.size y r → Calls Tryz.prog 20 #[polV y r] W fun e w' => ∃ E1 f1 E2 f2 E3 f3 E4 f4, e = .returned (.agg #[.slice E1 p.els.length f1, .slice E2 p.glob.length f2, .slice E3 p.schemes.length f3, .bool p.rel, .slice E4 p.drop.length f4, .int .i64 p.depth, .int .i64 p.window]) ∧ RdP w' 0 w'.heap.size ⟨.slice E1 p.els.length f1, .slice E2 p.glob.length f2, .slice E3 p.schemes.length f3, .slice E4 p.drop.length f4⟩ p ∧ Below W.heap.size W w') := Lib.hid fun W y hy => (rTidyC y r W hy hkn.fit hkn.dif hkn.okv).mono fun e w' ⟨y, he, ho, hb⟩ => by
        rw [hkn.t] at he ho
        obtain ⟨E1, f1, E2, f2, E3, f3, E4, f4, rfl, _⟩ := ho.form
        exact ⟨E1, f1, E2, f2, E3, f3, E4, f4, he, ho.wide (Nat.zero_le _) (Nat.le_refl _), hb⟩
      have HSM : Hid (∀ W y y2, RdP W 0 W.heap.size y p → RdP W 0 W.heap.size y2 p → Calls Tryz.prog 18 #[polV y p, polV y2 p] W fun e w' => e = .returned (.bool true) ∧ Below W.heap.size W w') := Lib.hid fun W y y2 h1 h2 => lSameC y y2 p W h1 h2
      have HSZ : Hid (ok = false → ∀ W y, RdP W 0 W.heap.size y p → Calls Tryz.prog 18 #[polV y p, .agg #[.slice none 0 0, .slice none 0 0, .slice none 0 0, .bool false, .slice none 0 0, .int .i64 0, .int .i64 0]] W fun e w' => e = .returned (.bool true) ∧ Below W.heap.size W w') := Lib.hid fun h0 W y h1 => by
        have hp := hkn.z h0
        have h2 := lSameC y zeroV p W h1 (by rw [hp]; exact (own_zero W 0).rd (Nat.le_refl _) (Nat.le_refl _))
        rw [show polV zeroV p = .agg #[.slice none 0 0, .slice none 0 0, .slice none 0 0, .bool false, .slice none 0 0, .int .i64 0, .int .i64 0] by rw [hp]; rfl] at h2
        exact h2
      have HSP : Hid (∀ W B y F, OwnP W B y p F → Calls Tryz.prog 22 #[polV y p] W fun e w' => e = .returned (.tuple #[]) ∧ Fr F W w') := Lib.hid fun W B y F ho => spoilC W ho (Spb.of hkn.fitp)
      unfold polV at HTD HSM HSZ HSP
      try simp only at HTD HSM HSZ HSP
      clear hkn
      go_upto_region 4 with fail
      clear y0
      go_upto_region 5 with (go_at_call 23; refine (HPP.out _ hwr).mono ?_; rintro e w1 ⟨A1, c1, A2, c2, A3, c3, A4, c4, F1, rfl, ho1, hb1⟩)

      obtain ⟨W1, hW1⟩ : ∃ W, W = w1.alloc (.cells #[.slice A1 p.els.length c1, .slice A2 p.glob.length c2, .slice A3 p.schemes.length c3, .bool p.rel, .slice A4 p.drop.length c4, .int .i64 p.depth, .int .i64 p.window] 26) := ⟨_, rfl⟩
      have hc1 : Below wr.heap.size wr W1 := hW1 ▸ hb1.alloc hb1.size _
      have kB1 : Bl W1 w1.heap.size 26 [.slice A1 p.els.length c1, .slice A2 p.glob.length c2, .slice A3 p.schemes.length c3, .bool p.rel, .slice A4 p.drop.length c4, .int .i64 p.depth, .int .i64 p.window] := hW1 ▸ Bl.new w1 _ _ rfl
      have hz1 := hb1.size
      have hy1 : W1.heap.size = w1.heap.size + 1 := by rw [hW1]; simp
      have og1 : OwnP W1 wr.heap.size ⟨.slice A1 p.els.length c1, .slice A2 p.glob.length c2, .slice A3 p.schemes.length c3, .slice A4 p.drop.length c4⟩ p F1 := ho1.keep (by omega) fun k hk => by rw [hW1]; exact Below.heap_alloc _ _ _ (ho1.ge k hk).2
      have HF1 : Hid (∀ k ∈ F1, wr.heap.size ≤ k ∧ k < W1.heap.size) := Lib.hid fun k hk => og1.ge k hk
      have HO1 : Hid (∀ W, Below W1.heap.size W1 W → OwnP W wr.heap.size ⟨.slice A1 p.els.length c1, .slice A2 p.glob.length c2, .slice A3 p.schemes.length c3, .slice A4 p.drop.length c4⟩ p F1) := Lib.hid fun W hW => og1.keep hW.size fun k hk => hW.block k (og1.ge k hk).2
      have HK1 : Hid (∀ W, Below W1.heap.size W1 W → W.cell? ⟨w1.heap.size, 0, none⟩ = some (.slice A1 p.els.length c1) ∧ W.cell? ⟨w1.heap.size, 1, none⟩ = some (.slice A2 p.glob.length c2) ∧ W.cell? ⟨w1.heap.size, 2, none⟩ = some (.slice A3 p.schemes.length c3) ∧ W.cell? ⟨w1.heap.size, 3, none⟩ = some (.bool p.rel) ∧ W.cell? ⟨w1.heap.size, 4, none⟩ = some (.slice A4 p.drop.length c4) ∧ W.cell? ⟨w1.heap.size, 5, none⟩ = some (.int .i64 p.depth) ∧ W.cell? ⟨w1.heap.size, 6, none⟩ = some (.int .i64 p.window)) := Lib.hid fun W hW => cells7 (kB1.below hW)
      have hw1 : Below w.heap.size w W1 := hwr.trans (hc1.mono hwr.size)
      have HX1 := Lib.hid hW1
      have HY1 := Lib.hid hy1
      have HZ1 := Lib.hid hz1
      rw [← hW1]
      clear hW1 kB1 hy1 og1 ho1 hz1
      go_upto_region 6 with (go_at_call 23; refine (HPP.out _ hw1).mono ?_; rintro e w2 ⟨I1, i1, I2, i2, I3, i3, I4, i4, F2, rfl, ho2, hb2⟩)
      obtain ⟨W2, hW2⟩ : ∃ W, W = w2.alloc (.cells #[.slice I1 p.els.length i1, .slice I2 p.glob.length i2, .slice I3 p.schemes.length i3, .bool p.rel, .slice I4 p.drop.length i4, .int .i64 p.depth, .int .i64 p.window] 26) := ⟨_, rfl⟩
      have hc2 : Below W1.heap.size W1 W2 := hW2 ▸ hb2.alloc hb2.size _
      have kB2 : Bl W2 w2.heap.size 26 [.slice I1 p.els.length i1, .slice I2 p.glob.length i2, .slice I3 p.schemes.length i3, .bool p.rel, .slice I4 p.drop.length i4, .int .i64 p.depth, .int .i64 p.window] := hW2 ▸ Bl.new w2 _ _ rfl
      have hz2 := hb2.size
      have hy2 : W2.heap.size = w2.heap.size + 1 := by rw [hW2]; simp
      have og2 : OwnP W2 W1.heap.size ⟨.slice I1 p.els.length i1, .slice I2 p.glob.length i2, .slice I3 p.schemes.length i3, .slice I4 p.drop.length i4⟩ p F2 := ho2.keep (by omega) fun k hk => by rw [hW2]; exact Below.heap_alloc _ _ _ (ho2.ge k hk).2
      have HG2 := Lib.hid og2
      have HB2 := Lib.hid kB2
      have HX2 := Lib.hid hW2
      have HY2 := Lib.hid hy2
      have HZ2 := Lib.hid hz2
      rw [← hW2]
      clear hW2 kB2 hy2 og2 ho2 hz2
      go_upto_region 7 with (go_at_call 24; refine (HRP.out _).mono ?_; rintro e w3 ⟨D1, d1, D2, d2, D3, d3, D4, d4, F3, rfl, ho3, hb3⟩)
      obtain ⟨W3, hW3⟩ : ∃ W, W = w3.alloc (.cells #[.slice D1 r.els.length d1, .slice D2 r.glob.length d2, .slice D3 r.schemes.length d3, .bool r.rel, .slice D4 r.drop.length d4, .int .i64 r.depth, .int .i64 r.window] 26) := ⟨_, rfl⟩
      have hc3 : Below W2.heap.size W2 W3 := hW3 ▸ hb3.alloc hb3.size _
      have kB3 : Bl W3 w3.heap.size 26 [.slice D1 r.els.length d1, .slice D2 r.glob.length d2, .slice D3 r.schemes.length d3, .bool r.rel, .slice D4 r.drop.length d4, .int .i64 r.depth, .int .i64 r.window] := hW3 ▸ Bl.new w3 _ _ rfl
      have hz3 := hb3.size
      have hy3 : W3.heap.size = w3.heap.size + 1 := by rw [hW3]; simp
      have og3 : OwnP W3 W2.heap.size ⟨.slice D1 r.els.length d1, .slice D2 r.glob.length d2, .slice D3 r.schemes.length d3, .slice D4 r.drop.length d4⟩ r F3 := ho3.keep (by omega) fun k hk => by rw [hW3]; exact Below.heap_alloc _ _ _ (ho3.ge k hk).2
      have h13 : Below W1.heap.size W1 W3 := hc2.trans (hc3.mono hc2.size)
      have hw3 : Below w.heap.size w W3 := hw1.trans (h13.mono hw1.size)
      have hr3 : Below wr.heap.size wr W3 := hc1.trans (h13.mono hc1.size)
      have HAF : Hid (∀ W, W3.heap.size ≤ W.heap.size → (∀ k, W1.heap.size ≤ k → k < W3.heap.size → W.heap[k]? = W3.heap[k]?) → RdP W 0 W.heap.size ⟨.slice I1 p.els.length i1, .slice I2 p.glob.length i2, .slice I3 p.schemes.length i3, .slice I4 p.drop.length i4⟩ p ∧ RdP W 0 W.heap.size ⟨.slice D1 r.els.length d1, .slice D2 r.glob.length d2, .slice D3 r.schemes.length d3, .slice D4 r.drop.length d4⟩ r ∧ (W.cell? ⟨w2.heap.size, 0, none⟩ = some (.slice I1 p.els.length i1) ∧ W.cell? ⟨w2.heap.size, 1, none⟩ = some (.slice I2 p.glob.length i2) ∧ W.cell? ⟨w2.heap.size, 2, none⟩ = some (.slice I3 p.schemes.length i3) ∧ W.cell? ⟨w2.heap.size, 3, none⟩ = some (.bool p.rel) ∧ W.cell? ⟨w2.heap.size, 4, none⟩ = some (.slice I4 p.drop.length i4) ∧ W.cell? ⟨w2.heap.size, 5, none⟩ = some (.int .i64 p.depth) ∧ W.cell? ⟨w2.heap.size, 6, none⟩ = some (.int .i64 p.window)) ∧ W.cell? ⟨w3.heap.size, 0, none⟩ = some (.slice D1 r.els.length d1) ∧ W.cell? ⟨w3.heap.size, 1, none⟩ = some (.slice D2 r.glob.length d2) ∧ W.cell? ⟨w3.heap.size, 2, none⟩ = some (.slice D3 r.schemes.length d3) ∧ W.cell? ⟨w3.heap.size, 3, none⟩ = some (.bool r.rel) ∧ W.cell? ⟨w3.heap.size, 4, none⟩ = some (.slice D4 r.drop.length d4) ∧ W.cell? ⟨w3.heap.size, 5, none⟩ = some (.int .i64 r.depth) ∧ W.cell? ⟨w3.heap.size, 6, none⟩ = some (.int .i64 r.window)) := Lib.hid fun W hs hblk => by
        have g1 := HG2.out.keep hc3.size fun k hk => hc3.block k (HG2.out.ge k hk).2
        have g2 := hc2.size
        have g3 := hc3.size
        have g4 := HY2.out
        have g5 := HZ2.out
        have g6 := hb3.size
        refine ⟨(g1.keep hs fun k hk => hblk k (g1.ge k hk).1 (g1.ge k hk).2).rd (Nat.zero_le _) (Nat.le_refl _), (og3.keep hs fun k hk => hblk k (by have := (og3.ge k hk).1; omega) (og3.ge k hk).2).rd (Nat.zero_le _) (Nat.le_refl _), cells7 ((HB2.out.below hc3).of (hblk _ (by omega) (by omega))), cells7 (kB3.of (hblk _ (by omega) (by omega)))⟩
      have HAB : Hid (∀ W, Below W3.heap.size W3 W → RdP W 0 W.heap.size ⟨.slice A1 p.els.length c1, .slice A2 p.glob.length c2, .slice A3 p.schemes.length c3, .slice A4 p.drop.length c4⟩ p ∧ RdP W 0 W.heap.size ⟨.slice D1 r.els.length d1, .slice D2 r.glob.length d2, .slice D3 r.schemes.length d3, .slice D4 r.drop.length d4⟩ r ∧ (W.cell? ⟨w1.heap.size, 0, none⟩ = some (.slice A1 p.els.length c1) ∧ W.cell? ⟨w1.heap.size, 1, none⟩ = some (.slice A2 p.glob.length c2) ∧ W.cell? ⟨w1.heap.size, 2, none⟩ = some (.slice A3 p.schemes.length c3) ∧ W.cell? ⟨w1.heap.size, 3, none⟩ = some (.bool p.rel) ∧ W.cell? ⟨w1.heap.size, 4, none⟩ = some (.slice A4 p.drop.length c4) ∧ W.cell? ⟨w1.heap.size, 5, none⟩ = some (.int .i64 p.depth) ∧ W.cell? ⟨w1.heap.size, 6, none⟩ = some (.int .i64 p.window)) ∧ W.cell? ⟨w3.heap.size, 0, none⟩ = some (.slice D1 r.els.length d1) ∧ W.cell? ⟨w3.heap.size, 1, none⟩ = some (.slice D2 r.glob.length d2) ∧ W.cell? ⟨w3.heap.size, 2, none⟩ = some (.slice D3 r.schemes.length d3) ∧ W.cell? ⟨w3.heap.size, 3, none⟩ = some (.bool r.rel) ∧ W.cell? ⟨w3.heap.size, 4, none⟩ = some (.slice D4 r.drop.length d4) ∧ W.cell? ⟨w3.heap.size, 5, none⟩ = some (.int .i64 r.depth) ∧ W.cell? ⟨w3.heap.size, 6, none⟩ = some (.int .i64 r.window)) := Lib.hid fun W hW => by
        obtain ⟨_, g2, _, g4⟩ := HAF.out W hW.size fun k _ hk => hW.block k hk
        have g5 := h13.trans (hW.mono h13.size)
        exact ⟨(HO1.out W g5).rd (Nat.zero_le _) (Nat.le_refl _), g2, HK1.out W g5, g4⟩
      have HX3 := Lib.hid hW3
      have HY3 := Lib.hid hy3
      rw [← hW3]
      clear hW3 kB3 hy3 og3 ho3 hz3
      have h33 : Below W3.heap.size W3 W3.drew := drw W3 1
      have HSW : Hid (∀ W, Below W3.heap.size W3 W → (W.cell? ⟨w1.heap.size, 0, none⟩ = some (.slice A1 p.els.length c1) ∧ W.cell? ⟨w1.heap.size, 1, none⟩ = some (.slice A2 p.glob.length c2) ∧ W.cell? ⟨w1.heap.size, 2, none⟩ = some (.slice A3 p.schemes.length c3) ∧ W.cell? ⟨w1.heap.size, 3, none⟩ = some (.bool p.rel) ∧ W.cell? ⟨w1.heap.size, 4, none⟩ = some (.slice A4 p.drop.length c4) ∧ W.cell? ⟨w1.heap.size, 5, none⟩ = some (.int .i64 p.depth) ∧ W.cell? ⟨w1.heap.size, 6, none⟩ = some (.int .i64 p.window)) ∧ W.cell? ⟨w3.heap.size, 0, none⟩ = some (.slice D1 r.els.length d1) ∧ W.cell? ⟨w3.heap.size, 1, none⟩ = some (.slice D2 r.glob.length d2) ∧ W.cell? ⟨w3.heap.size, 2, none⟩ = some (.slice D3 r.schemes.length d3) ∧ W.cell? ⟨w3.heap.size, 3, none⟩ = some (.bool r.rel) ∧ W.cell? ⟨w3.heap.size, 4, none⟩ = some (.slice D4 r.drop.length d4) ∧ W.cell? ⟨w3.heap.size, 5, none⟩ = some (.int .i64 r.depth) ∧ W.cell? ⟨w3.heap.size, 6, none⟩ = some (.int .i64 r.window)) := Lib.hid fun W hW => ⟨(HAB.out W hW).2.2.1, (HAB.out W hW).2.2.2⟩
      have HS0 := Lib.hid (HSW.out _ h33)
      have HS00 := Lib.hid (HSW.out _ (Below.refl _ _))
      go_cut [14, 55] from 14 to 66 (fun i c wx => i = .int .i64 k ∧ c = .bool false ∧ Below W3.heap.size W3 wx)
      case first =>
        obtain ⟨⟨xa0, xa1, xa2, xa3, xa4, xa5, xa6⟩, xa7, xa8, xa9, xa10, xa11, xa12, xa13⟩ := HS00.out
        obtain ⟨⟨xd0, xd1, xd2, xd3, xd4, xd5, xd6⟩, xd7, xd8, xd9, xd10, xd11, xd12, xd13⟩ := HS0.out
        generalize Value.tuple #[Value.agg #[.slice A1 p.els.length c1, .slice A2 p.glob.length c2, .slice A3 p.schemes.length c3, .bool p.rel, .slice A4 p.drop.length c4, .int .i64 p.depth, .int .i64 p.window], Value.bool ok] = T1
        generalize Value.tuple #[Value.agg #[.slice I1 p.els.length i1, .slice I2 p.glob.length i2, .slice I3 p.schemes.length i3, .bool p.rel, .slice I4 p.drop.length i4, .int .i64 p.depth, .int .i64 p.window], Value.bool ok] = T2
        generalize Value.tuple #[Value.agg #[.slice D1 r.els.length d1, .slice D2 r.glob.length d2, .slice D3 r.schemes.length d3, .bool r.rel, .slice D4 r.drop.length d4, .int .i64 r.depth, .int .i64 r.window], Value.bool ok] = T3
        generalize Value.agg #[.slice A1 p.els.length c1, .slice A2 p.glob.length c2, .slice A3 p.schemes.length c3, .bool p.rel, .slice A4 p.drop.length c4, .int .i64 p.depth, .int .i64 p.window] = T4
        generalize Value.agg #[.slice I1 p.els.length i1, .slice I2 p.glob.length i2, .slice I3 p.schemes.length i3, .bool p.rel, .slice I4 p.drop.length i4, .int .i64 p.depth, .int .i64 p.window] = T5
        generalize Value.agg #[.slice D1 r.els.length d1, .slice D2 r.glob.length d2, .slice D3 r.schemes.length d3, .bool r.rel, .slice D4 r.drop.length d4, .int .i64 r.depth, .int .i64 r.window] = T6
        clear HPP HRP HAF HG2 HB2 HX1 HX2 HX3 HX0 HSP HA
        clear xa0 xa1 xa2 xa3 xa4 xa5 xa6 xa7 xa8 xa9 xa10 xa11 xa12 xa13 xd0 xd1 xd2 xd3 xd4 xd5 xd6 xd7 xd8 xd9 xd10 xd11 xd12 xd13
        cases ok
        · skip
          refine wp_region_held_drew (S := fun W => (W.cell? ⟨w1.heap.size, 0, none⟩ = some (.slice A1 p.els.length c1) ∧ W.cell? ⟨w1.heap.size, 1, none⟩ = some (.slice A2 p.glob.length c2) ∧ W.cell? ⟨w1.heap.size, 2, none⟩ = some (.slice A3 p.schemes.length c3) ∧ W.cell? ⟨w1.heap.size, 3, none⟩ = some (.bool p.rel) ∧ W.cell? ⟨w1.heap.size, 4, none⟩ = some (.slice A4 p.drop.length c4) ∧ W.cell? ⟨w1.heap.size, 5, none⟩ = some (.int .i64 p.depth) ∧ W.cell? ⟨w1.heap.size, 6, none⟩ = some (.int .i64 p.window)) ∧ W.cell? ⟨w3.heap.size, 0, none⟩ = some (.slice D1 r.els.length d1) ∧ W.cell? ⟨w3.heap.size, 1, none⟩ = some (.slice D2 r.glob.length d2) ∧ W.cell? ⟨w3.heap.size, 2, none⟩ = some (.slice D3 r.schemes.length d3) ∧ W.cell? ⟨w3.heap.size, 3, none⟩ = some (.bool r.rel) ∧ W.cell? ⟨w3.heap.size, 4, none⟩ = some (.slice D4 r.drop.length d4) ∧ W.cell? ⟨w3.heap.size, 5, none⟩ = some (.int .i64 r.depth) ∧ W.cell? ⟨w3.heap.size, 6, none⟩ = some (.int .i64 r.window)) (by kernel_rfl) HS0.out (fun hHeld => ?_)
          clear hHeld
          refine wpAnyH_take (i := 0) (oi := _) (v := ?va0) rfl (by kernel_rfl) (by kernel_rfl) (by kernel_rfl) (fun _ _ _ h => h) (Or.inl ⟨by kernel_rfl, ?ya0⟩) (HS0.out) ?ra0
          case ya0 => (intro w hSw; (try dsimp only at hSw); (first | (go_simp; done) | (go_simp; with_reducible rfl)))
          (try simp only [List.getElem_toArray, List.getElem_cons_succ, List.getElem_cons_zero, Act.put, List.setIfInBounds_toArray, List.set_cons_zero, List.set_cons_succ])
          refine wpAnyH_take (i := 1) (oi := _) (v := ?va1) rfl (by kernel_rfl) (by kernel_rfl) (by kernel_rfl) (fun _ _ _ h => h) (Or.inl ⟨by kernel_rfl, ?ya1⟩) (HS0.out) ?ra1
          case ya1 => (intro w hSw; (try dsimp only at hSw); (first | (go_simp; done) | (go_simp; with_reducible rfl)))
          (try simp only [List.getElem_toArray, List.getElem_cons_succ, List.getElem_cons_zero, Act.put, List.setIfInBounds_toArray, List.set_cons_zero, List.set_cons_succ])
          refine wpAnyH_take (i := 2) (oi := _) (v := ?va2) rfl (by kernel_rfl) (by kernel_rfl) (by kernel_rfl) (fun _ _ _ h => h) (Or.inl ⟨by kernel_rfl, ?ya2⟩) (HS0.out) ?ra2
          case ya2 => (intro w hSw; (try dsimp only at hSw); (first | (go_simp; done) | (go_simp; with_reducible rfl)))
          (try simp only [List.getElem_toArray, List.getElem_cons_succ, List.getElem_cons_zero, Act.put, List.setIfInBounds_toArray, List.set_cons_zero, List.set_cons_succ])
          refine wpAnyH_take (i := 3) (oi := _) (v := ?va3) rfl (by kernel_rfl) (by kernel_rfl) (by kernel_rfl) (fun _ _ _ h => h) (Or.inl ⟨by kernel_rfl, ?ya3⟩) (HS0.out) ?ra3
          case ya3 => (intro w hSw; (try dsimp only at hSw); (first | (go_simp; done) | (go_simp; with_reducible rfl)))
          (try simp only [List.getElem_toArray, List.getElem_cons_succ, List.getElem_cons_zero, Act.put, List.setIfInBounds_toArray, List.set_cons_zero, List.set_cons_succ])
          refine wpAnyH_take (i := 4) (oi := _) (v := ?va4) rfl (by kernel_rfl) (by kernel_rfl) (by kernel_rfl) (fun _ _ _ h => h) (Or.inl ⟨by kernel_rfl, ?ya4⟩) (HS0.out) ?ra4
          case ya4 => (intro w hSw; (try dsimp only at hSw); (first | (go_simp; done) | (go_simp; with_reducible rfl)))
          (try simp only [List.getElem_toArray, List.getElem_cons_succ, List.getElem_cons_zero, Act.put, List.setIfInBounds_toArray, List.set_cons_zero, List.set_cons_succ])
          refine wpAnyH_take (i := 5) (oi := _) (v := ?va5) rfl (by kernel_rfl) (by kernel_rfl) (by kernel_rfl) (fun _ _ _ h => h) (Or.inl ⟨by kernel_rfl, ?ya5⟩) (HS0.out) ?ra5
          case ya5 => (intro w hSw; (try dsimp only at hSw); (first | (go_simp; done) | (go_simp; with_reducible rfl)))
          (try simp only [List.getElem_toArray, List.getElem_cons_succ, List.getElem_cons_zero, Act.put, List.setIfInBounds_toArray, List.set_cons_zero, List.set_cons_succ])
          refine wpAnyH_ready (rs := [6]) (by kernel_rfl) (by simp) ?_
          refine AllReadyH.cons (o := _) rfl (fun K hK => ?_) AllReadyH.nil
          go_simp
          go_at_call 20; refine (HTD.out _ ⟨.slice D1 r.els.length d1, .slice D2 r.glob.length d2, .slice D3 r.schemes.length d3, .slice D4 r.drop.length d4⟩ (HAB.out _ (by exact h33)).2.1).mono ?_; rintro e w4 ⟨E1, f1, E2, f2, E3, f3, E4, f4, rfl, hre, hb4⟩; have HRE := Lib.hid hre; have hk4 : Below W3.heap.size W3 w4 := h33.trans (hb4.mono h33.size); obtain ⟨⟨xb0, xb1, xb2, xb3, xb4, xb5, xb6⟩, xb7, xb8, xb9, xb10, xb11, xb12, xb13⟩ := HSW.out _ hk4; clear hre
          (try go_wp2_with fail)
          refine hK.out _ _ (HSW.out _ hk4) (fun hHeld => ?_)
          clear hK K hHeld
          (try simp only [List.getElem_toArray, List.getElem_cons_succ, List.getElem_cons_zero, Act.put, List.setIfInBounds_toArray, List.set_cons_zero, List.set_cons_succ])
          refine wpAnyH_ready (rs := [7]) (by kernel_rfl) (by simp) ?_
          refine AllReadyH.cons (o := _) rfl (fun K hK => ?_) AllReadyH.nil
          go_simp
          go_at_call 18; refine (HSM.out _ ⟨.slice A1 p.els.length c1, .slice A2 p.glob.length c2, .slice A3 p.schemes.length c3, .slice A4 p.drop.length c4⟩ ⟨.slice E1 p.els.length f1, .slice E2 p.glob.length f2, .slice E3 p.schemes.length f3, .slice E4 p.drop.length f4⟩ (HAB.out _ hk4).1 HRE.out).mono ?_; rintro e w5 ⟨rfl, hb5⟩; have hk5 : Below W3.heap.size W3 w5 := hk4.trans (hb5.mono hk4.size); obtain ⟨⟨xc0, xc1, xc2, xc3, xc4, xc5, xc6⟩, xc7, xc8, xc9, xc10, xc11, xc12, xc13⟩ := HSW.out _ hk5
          (try go_wp2_with fail)
          refine hK.out _ _ (HSW.out _ hk5) (fun hHeld => ?_)
          clear hK K hHeld
          (try simp only [List.getElem_toArray, List.getElem_cons_succ, List.getElem_cons_zero, Act.put, List.setIfInBounds_toArray, List.set_cons_zero, List.set_cons_succ])
          refine wpAnyH_take (i := 8) (oi := _) (v := ?va8) rfl (by kernel_rfl) (by kernel_rfl) (by kernel_rfl) (fun _ _ _ h => h) (Or.inl ⟨by kernel_rfl, ?ya8⟩) (HSW.out _ hk5) ?ra8
          case ya8 => (intro w hSw; (try dsimp only at hSw); (first | (go_simp; done) | (go_simp; with_reducible rfl)))
          (try simp only [List.getElem_toArray, List.getElem_cons_succ, List.getElem_cons_zero, Act.put, List.setIfInBounds_toArray, List.set_cons_zero, List.set_cons_succ])
          refine wpAnyH_take (i := 9) (oi := _) (v := ?va9) rfl (by kernel_rfl) (by kernel_rfl) (by kernel_rfl) (fun _ _ _ h => h) (Or.inl ⟨by kernel_rfl, ?ya9⟩) (HSW.out _ hk5) ?ra9
          case ya9 => (intro w hSw; (try dsimp only at hSw); (first | (go_simp; done) | (go_simp; with_reducible rfl)))
          (try simp only [List.getElem_toArray, List.getElem_cons_succ, List.getElem_cons_zero, Act.put, List.setIfInBounds_toArray, List.set_cons_zero, List.set_cons_succ])
          refine wpAnyH_take (i := 10) (oi := _) (v := undef) rfl (by kernel_rfl) (by kernel_rfl) (by kernel_rfl) (fun _ _ _ h => h) (Or.inr ⟨by kernel_rfl, rfl⟩) (HSW.out _ hk5) ?_
          (try simp only [List.getElem_toArray, List.getElem_cons_succ, List.getElem_cons_zero, Act.put, List.setIfInBounds_toArray, List.set_cons_zero, List.set_cons_succ])
          refine wpAnyH_take (i := 11) (oi := _) (v := ?va11) rfl (by kernel_rfl) (by kernel_rfl) (by kernel_rfl) (fun _ _ _ h => h) (Or.inl ⟨by kernel_rfl, ?ya11⟩) (HSW.out _ hk5) ?ra11
          case ya11 => (intro w hSw; (try dsimp only at hSw); (first | (go_simp; done) | (go_simp; with_reducible rfl)))
          (try simp only [List.getElem_toArray, List.getElem_cons_succ, List.getElem_cons_zero, Act.put, List.setIfInBounds_toArray, List.set_cons_zero, List.set_cons_succ])
          refine wpAnyH_take (i := 12) (oi := _) (v := ?va12) rfl (by kernel_rfl) (by kernel_rfl) (by kernel_rfl) (fun _ _ _ h => h) (Or.inl ⟨by kernel_rfl, ?ya12⟩) (HSW.out _ hk5) ?ra12
          case ya12 => (intro w hSw; (try dsimp only at hSw); (first | (go_simp; done) | (go_simp; with_reducible rfl)))
          (try simp only [List.getElem_toArray, List.getElem_cons_succ, List.getElem_cons_zero, Act.put, List.setIfInBounds_toArray, List.set_cons_zero, List.set_cons_succ])
          refine wpAnyH_take (i := 13) (oi := _) (v := ?va13) rfl (by kernel_rfl) (by kernel_rfl) (by kernel_rfl) (fun _ _ _ h => h) (Or.inl ⟨by kernel_rfl, ?ya13⟩) (HSW.out _ hk5) ?ra13
          case ya13 => (intro w hSw; (try dsimp only at hSw); (first | (go_simp; done) | (go_simp; with_reducible rfl)))
          (try simp only [List.getElem_toArray, List.getElem_cons_succ, List.getElem_cons_zero, Act.put, List.setIfInBounds_toArray, List.set_cons_zero, List.set_cons_succ])
          refine wpAnyH_take (i := 14) (oi := _) (v := ?va14) rfl (by kernel_rfl) (by kernel_rfl) (by kernel_rfl) (fun _ _ _ h => h) (Or.inl ⟨by kernel_rfl, ?ya14⟩) (HSW.out _ hk5) ?ra14
          case ya14 => (intro w hSw; (try dsimp only at hSw); (first | (go_simp; done) | (go_simp; with_reducible rfl)))
          (try simp only [List.getElem_toArray, List.getElem_cons_succ, List.getElem_cons_zero, Act.put, List.setIfInBounds_toArray, List.set_cons_zero, List.set_cons_succ])
          refine wpAnyH_take (i := 15) (oi := _) (v := ?va15) rfl (by kernel_rfl) (by kernel_rfl) (by kernel_rfl) (fun _ _ _ h => h) (Or.inl ⟨by kernel_rfl, ?ya15⟩) (HSW.out _ hk5) ?ra15
          case ya15 => (intro w hSw; (try dsimp only at hSw); (first | (go_simp; done) | (go_simp; with_reducible rfl)))
          (try simp only [List.getElem_toArray, List.getElem_cons_succ, List.getElem_cons_zero, Act.put, List.setIfInBounds_toArray, List.set_cons_zero, List.set_cons_succ])
          refine wpAnyH_take (i := 16) (oi := _) (v := ?va16) rfl (by kernel_rfl) (by kernel_rfl) (by kernel_rfl) (fun _ _ _ h => h) (Or.inl ⟨by kernel_rfl, ?ya16⟩) (HSW.out _ hk5) ?ra16
          case ya16 => (intro w hSw; (try dsimp only at hSw); (first | (go_simp; done) | (go_simp; with_reducible rfl)))
          (try simp only [List.getElem_toArray, List.getElem_cons_succ, List.getElem_cons_zero, Act.put, List.setIfInBounds_toArray, List.set_cons_zero, List.set_cons_succ])
          refine wpAnyH_take (i := 17) (oi := _) (v := ?va17) rfl (by kernel_rfl) (by kernel_rfl) (by kernel_rfl) (fun _ _ _ h => h) (Or.inl ⟨by kernel_rfl, ?ya17⟩) (HSW.out _ hk5) ?ra17
          case ya17 => (intro w hSw; (try dsimp only at hSw); (first | (go_simp; done) | (go_simp; with_reducible rfl)))
          (try simp only [List.getElem_toArray, List.getElem_cons_succ, List.getElem_cons_zero, Act.put, List.setIfInBounds_toArray, List.set_cons_zero, List.set_cons_succ])
          refine wpAnyH_take (i := 18) (oi := _) (v := ?va18) rfl (by kernel_rfl) (by kernel_rfl) (by kernel_rfl) (fun _ _ _ h => h) (Or.inl ⟨by kernel_rfl, ?ya18⟩) (HSW.out _ hk5) ?ra18
          case ya18 => (intro w hSw; (try dsimp only at hSw); (first | (go_simp; done) | (go_simp; with_reducible rfl)))
          (try simp only [List.getElem_toArray, List.getElem_cons_succ, List.getElem_cons_zero, Act.put, List.setIfInBounds_toArray, List.set_cons_zero, List.set_cons_succ])
          refine wpAnyH_ready (rs := [19]) (by kernel_rfl) (by simp) ?_
          refine AllReadyH.cons (o := _) rfl (fun K hK => ?_) AllReadyH.nil
          go_simp
          go_at_call 18; have _z := hk5; refine (HSZ.out (by first | rfl | trivial) _ ⟨.slice A1 p.els.length c1, .slice A2 p.glob.length c2, .slice A3 p.schemes.length c3, .slice A4 p.drop.length c4⟩ (HAB.out _ hk5).1).mono ?_; rintro e w6 ⟨rfl, hb6⟩; have hk6 : Below W3.heap.size W3 w6 := hk5.trans (hb6.mono hk5.size)
          (try go_wp2_with fail)
          refine hK.out _ _ (HSW.out _ hk6) (fun hHeld => ?_)
          clear hK K hHeld
          (try simp only [List.getElem_toArray, List.getElem_cons_succ, List.getElem_cons_zero, Act.put, List.setIfInBounds_toArray, List.set_cons_zero, List.set_cons_succ])
          refine wpAnyH_take (i := 20) (oi := _) (v := ?va20) rfl (by kernel_rfl) (by kernel_rfl) (by kernel_rfl) (fun _ _ _ h => h) (Or.inl ⟨by kernel_rfl, ?ya20⟩) (HSW.out _ hk6) ?ra20
          case ya20 => (intro w hSw; (try dsimp only at hSw); (first | (go_simp; done) | (go_simp; with_reducible rfl)))
          (try simp only [List.getElem_toArray, List.getElem_cons_succ, List.getElem_cons_zero, Act.put, List.setIfInBounds_toArray, List.set_cons_zero, List.set_cons_succ])
          refine wpAnyH_take (i := 21) (oi := _) (v := ?va21) rfl (by kernel_rfl) (by kernel_rfl) (by kernel_rfl) (fun _ _ _ h => h) (Or.inl ⟨by kernel_rfl, ?ya21⟩) (HSW.out _ hk6) ?ra21
          case ya21 => (intro w hSw; (try dsimp only at hSw); (first | (go_simp; done) | (go_simp; with_reducible rfl)))
          (try simp only [List.getElem_toArray, List.getElem_cons_succ, List.getElem_cons_zero, Act.put, List.setIfInBounds_toArray, List.set_cons_zero, List.set_cons_succ])
          refine wpAnyH_take (i := 22) (oi := _) (v := ?va22) rfl (by kernel_rfl) (by kernel_rfl) (by kernel_rfl) (fun _ _ _ h => h) (Or.inl ⟨by kernel_rfl, ?ya22⟩) (HSW.out _ hk6) ?ra22
          case ya22 => (intro w hSw; (try dsimp only at hSw); (first | (go_simp; done) | (go_simp; with_reducible rfl)))
          (try simp only [List.getElem_toArray, List.getElem_cons_succ, List.getElem_cons_zero, Act.put, List.setIfInBounds_toArray, List.set_cons_zero, List.set_cons_succ])
          refine wpAnyH_done (by kernel_rfl) ?_ _
          go_wp2
          go_meet
          exact ⟨rfl, rfl, hk6⟩
        · skip
          refine wp_region_held_drew (S := fun W => (W.cell? ⟨w1.heap.size, 0, none⟩ = some (.slice A1 p.els.length c1) ∧ W.cell? ⟨w1.heap.size, 1, none⟩ = some (.slice A2 p.glob.length c2) ∧ W.cell? ⟨w1.heap.size, 2, none⟩ = some (.slice A3 p.schemes.length c3) ∧ W.cell? ⟨w1.heap.size, 3, none⟩ = some (.bool p.rel) ∧ W.cell? ⟨w1.heap.size, 4, none⟩ = some (.slice A4 p.drop.length c4) ∧ W.cell? ⟨w1.heap.size, 5, none⟩ = some (.int .i64 p.depth) ∧ W.cell? ⟨w1.heap.size, 6, none⟩ = some (.int .i64 p.window)) ∧ W.cell? ⟨w3.heap.size, 0, none⟩ = some (.slice D1 r.els.length d1) ∧ W.cell? ⟨w3.heap.size, 1, none⟩ = some (.slice D2 r.glob.length d2) ∧ W.cell? ⟨w3.heap.size, 2, none⟩ = some (.slice D3 r.schemes.length d3) ∧ W.cell? ⟨w3.heap.size, 3, none⟩ = some (.bool r.rel) ∧ W.cell? ⟨w3.heap.size, 4, none⟩ = some (.slice D4 r.drop.length d4) ∧ W.cell? ⟨w3.heap.size, 5, none⟩ = some (.int .i64 r.depth) ∧ W.cell? ⟨w3.heap.size, 6, none⟩ = some (.int .i64 r.window)) (by kernel_rfl) HS0.out (fun hHeld => ?_)
          clear hHeld
          refine wpAnyH_take (i := 0) (oi := _) (v := ?vb0) rfl (by kernel_rfl) (by kernel_rfl) (by kernel_rfl) (fun _ _ _ h => h) (Or.inl ⟨by kernel_rfl, ?yb0⟩) (HS0.out) ?rb0
          case yb0 => (intro w hSw; (try dsimp only at hSw); (first | (go_simp; done) | (go_simp; with_reducible rfl)))
          (try simp only [List.getElem_toArray, List.getElem_cons_succ, List.getElem_cons_zero, Act.put, List.setIfInBounds_toArray, List.set_cons_zero, List.set_cons_succ])
          refine wpAnyH_take (i := 1) (oi := _) (v := ?vb1) rfl (by kernel_rfl) (by kernel_rfl) (by kernel_rfl) (fun _ _ _ h => h) (Or.inl ⟨by kernel_rfl, ?yb1⟩) (HS0.out) ?rb1
          case yb1 => (intro w hSw; (try dsimp only at hSw); (first | (go_simp; done) | (go_simp; with_reducible rfl)))
          (try simp only [List.getElem_toArray, List.getElem_cons_succ, List.getElem_cons_zero, Act.put, List.setIfInBounds_toArray, List.set_cons_zero, List.set_cons_succ])
          refine wpAnyH_take (i := 2) (oi := _) (v := ?vb2) rfl (by kernel_rfl) (by kernel_rfl) (by kernel_rfl) (fun _ _ _ h => h) (Or.inl ⟨by kernel_rfl, ?yb2⟩) (HS0.out) ?rb2
          case yb2 => (intro w hSw; (try dsimp only at hSw); (first | (go_simp; done) | (go_simp; with_reducible rfl)))
          (try simp only [List.getElem_toArray, List.getElem_cons_succ, List.getElem_cons_zero, Act.put, List.setIfInBounds_toArray, List.set_cons_zero, List.set_cons_succ])
          refine wpAnyH_take (i := 3) (oi := _) (v := ?vb3) rfl (by kernel_rfl) (by kernel_rfl) (by kernel_rfl) (fun _ _ _ h => h) (Or.inl ⟨by kernel_rfl, ?yb3⟩) (HS0.out) ?rb3
          case yb3 => (intro w hSw; (try dsimp only at hSw); (first | (go_simp; done) | (go_simp; with_reducible rfl)))
          (try simp only [List.getElem_toArray, List.getElem_cons_succ, List.getElem_cons_zero, Act.put, List.setIfInBounds_toArray, List.set_cons_zero, List.set_cons_succ])
          refine wpAnyH_take (i := 4) (oi := _) (v := ?vb4) rfl (by kernel_rfl) (by kernel_rfl) (by kernel_rfl) (fun _ _ _ h => h) (Or.inl ⟨by kernel_rfl, ?yb4⟩) (HS0.out) ?rb4
          case yb4 => (intro w hSw; (try dsimp only at hSw); (first | (go_simp; done) | (go_simp; with_reducible rfl)))
          (try simp only [List.getElem_toArray, List.getElem_cons_succ, List.getElem_cons_zero, Act.put, List.setIfInBounds_toArray, List.set_cons_zero, List.set_cons_succ])
          refine wpAnyH_take (i := 5) (oi := _) (v := ?vb5) rfl (by kernel_rfl) (by kernel_rfl) (by kernel_rfl) (fun _ _ _ h => h) (Or.inl ⟨by kernel_rfl, ?yb5⟩) (HS0.out) ?rb5
          case yb5 => (intro w hSw; (try dsimp only at hSw); (first | (go_simp; done) | (go_simp; with_reducible rfl)))
          (try simp only [List.getElem_toArray, List.getElem_cons_succ, List.getElem_cons_zero, Act.put, List.setIfInBounds_toArray, List.set_cons_zero, List.set_cons_succ])
          refine wpAnyH_ready (rs := [6]) (by kernel_rfl) (by simp) ?_
          refine AllReadyH.cons (o := _) rfl (fun K hK => ?_) AllReadyH.nil
          go_simp
          go_at_call 20; refine (HTD.out _ ⟨.slice D1 r.els.length d1, .slice D2 r.glob.length d2, .slice D3 r.schemes.length d3, .slice D4 r.drop.length d4⟩ (HAB.out _ (by exact h33)).2.1).mono ?_; rintro e w4 ⟨E1, f1, E2, f2, E3, f3, E4, f4, rfl, hre, hb4⟩; have HRE := Lib.hid hre; have hk4 : Below W3.heap.size W3 w4 := h33.trans (hb4.mono h33.size); obtain ⟨⟨xb0, xb1, xb2, xb3, xb4, xb5, xb6⟩, xb7, xb8, xb9, xb10, xb11, xb12, xb13⟩ := HSW.out _ hk4; clear hre
          (try go_wp2_with fail)
          refine hK.out _ _ (HSW.out _ hk4) (fun hHeld => ?_)
          clear hK K hHeld
          (try simp only [List.getElem_toArray, List.getElem_cons_succ, List.getElem_cons_zero, Act.put, List.setIfInBounds_toArray, List.set_cons_zero, List.set_cons_succ])
          refine wpAnyH_ready (rs := [7]) (by kernel_rfl) (by simp) ?_
          refine AllReadyH.cons (o := _) rfl (fun K hK => ?_) AllReadyH.nil
          go_simp
          go_at_call 18; refine (HSM.out _ ⟨.slice A1 p.els.length c1, .slice A2 p.glob.length c2, .slice A3 p.schemes.length c3, .slice A4 p.drop.length c4⟩ ⟨.slice E1 p.els.length f1, .slice E2 p.glob.length f2, .slice E3 p.schemes.length f3, .slice E4 p.drop.length f4⟩ (HAB.out _ hk4).1 HRE.out).mono ?_; rintro e w5 ⟨rfl, hb5⟩; have hk5 : Below W3.heap.size W3 w5 := hk4.trans (hb5.mono hk4.size); obtain ⟨⟨xc0, xc1, xc2, xc3, xc4, xc5, xc6⟩, xc7, xc8, xc9, xc10, xc11, xc12, xc13⟩ := HSW.out _ hk5
          (try go_wp2_with fail)
          refine hK.out _ _ (HSW.out _ hk5) (fun hHeld => ?_)
          clear hK K hHeld
          (try simp only [List.getElem_toArray, List.getElem_cons_succ, List.getElem_cons_zero, Act.put, List.setIfInBounds_toArray, List.set_cons_zero, List.set_cons_succ])
          refine wpAnyH_take (i := 8) (oi := _) (v := ?vb8) rfl (by kernel_rfl) (by kernel_rfl) (by kernel_rfl) (fun _ _ _ h => h) (Or.inl ⟨by kernel_rfl, ?yb8⟩) (HSW.out _ hk5) ?rb8
          case yb8 => (intro w hSw; (try dsimp only at hSw); (first | (go_simp; done) | (go_simp; with_reducible rfl)))
          (try simp only [List.getElem_toArray, List.getElem_cons_succ, List.getElem_cons_zero, Act.put, List.setIfInBounds_toArray, List.set_cons_zero, List.set_cons_succ])
          refine wpAnyH_take (i := 9) (oi := _) (v := ?vb9) rfl (by kernel_rfl) (by kernel_rfl) (by kernel_rfl) (fun _ _ _ h => h) (Or.inl ⟨by kernel_rfl, ?yb9⟩) (HSW.out _ hk5) ?rb9
          case yb9 => (intro w hSw; (try dsimp only at hSw); (first | (go_simp; done) | (go_simp; with_reducible rfl)))
          (try simp only [List.getElem_toArray, List.getElem_cons_succ, List.getElem_cons_zero, Act.put, List.setIfInBounds_toArray, List.set_cons_zero, List.set_cons_succ])
          refine wpAnyH_take (i := 10) (oi := _) (v := undef) rfl (by kernel_rfl) (by kernel_rfl) (by kernel_rfl) (fun _ _ _ h => h) (Or.inr ⟨by kernel_rfl, rfl⟩) (HSW.out _ hk5) ?_
          (try simp only [List.getElem_toArray, List.getElem_cons_succ, List.getElem_cons_zero, Act.put, List.setIfInBounds_toArray, List.set_cons_zero, List.set_cons_succ])
          refine wpAnyH_take (i := 11) (oi := _) (v := ?vb11) rfl (by kernel_rfl) (by kernel_rfl) (by kernel_rfl) (fun _ _ _ h => h) (Or.inl ⟨by kernel_rfl, ?yb11⟩) (HSW.out _ hk5) ?rb11
          case yb11 => (intro w hSw; (try dsimp only at hSw); (first | (go_simp; done) | (go_simp; with_reducible rfl)))
          (try simp only [List.getElem_toArray, List.getElem_cons_succ, List.getElem_cons_zero, Act.put, List.setIfInBounds_toArray, List.set_cons_zero, List.set_cons_succ])
          refine wpAnyH_take (i := 12) (oi := _) (v := ?vb12) rfl (by kernel_rfl) (by kernel_rfl) (by kernel_rfl) (fun _ _ _ h => h) (Or.inl ⟨by kernel_rfl, ?yb12⟩) (HSW.out _ hk5) ?rb12
          case yb12 => (intro w hSw; (try dsimp only at hSw); (first | (go_simp; done) | (go_simp; with_reducible rfl)))
          (try simp only [List.getElem_toArray, List.getElem_cons_succ, List.getElem_cons_zero, Act.put, List.setIfInBounds_toArray, List.set_cons_zero, List.set_cons_succ])
          refine wpAnyH_take (i := 13) (oi := _) (v := ?vb13) rfl (by kernel_rfl) (by kernel_rfl) (by kernel_rfl) (fun _ _ _ h => h) (Or.inl ⟨by kernel_rfl, ?yb13⟩) (HSW.out _ hk5) ?rb13
          case yb13 => (intro w hSw; (try dsimp only at hSw); (first | (go_simp; done) | (go_simp; with_reducible rfl)))
          (try simp only [List.getElem_toArray, List.getElem_cons_succ, List.getElem_cons_zero, Act.put, List.setIfInBounds_toArray, List.set_cons_zero, List.set_cons_succ])
          refine wpAnyH_take (i := 14) (oi := _) (v := ?vb14) rfl (by kernel_rfl) (by kernel_rfl) (by kernel_rfl) (fun _ _ _ h => h) (Or.inl ⟨by kernel_rfl, ?yb14⟩) (HSW.out _ hk5) ?rb14
          case yb14 => (intro w hSw; (try dsimp only at hSw); (first | (go_simp; done) | (go_simp; with_reducible rfl)))
          (try simp only [List.getElem_toArray, List.getElem_cons_succ, List.getElem_cons_zero, Act.put, List.setIfInBounds_toArray, List.set_cons_zero, List.set_cons_succ])
          refine wpAnyH_take (i := 15) (oi := _) (v := ?vb15) rfl (by kernel_rfl) (by kernel_rfl) (by kernel_rfl) (fun _ _ _ h => h) (Or.inl ⟨by kernel_rfl, ?yb15⟩) (HSW.out _ hk5) ?rb15
          case yb15 => (intro w hSw; (try dsimp only at hSw); (first | (go_simp; done) | (go_simp; with_reducible rfl)))
          (try simp only [List.getElem_toArray, List.getElem_cons_succ, List.getElem_cons_zero, Act.put, List.setIfInBounds_toArray, List.set_cons_zero, List.set_cons_succ])
          refine wpAnyH_take (i := 16) (oi := _) (v := ?vb16) rfl (by kernel_rfl) (by kernel_rfl) (by kernel_rfl) (fun _ _ _ h => h) (Or.inl ⟨by kernel_rfl, ?yb16⟩) (HSW.out _ hk5) ?rb16
          case yb16 => (intro w hSw; (try dsimp only at hSw); (first | (go_simp; done) | (go_simp; with_reducible rfl)))
          (try simp only [List.getElem_toArray, List.getElem_cons_succ, List.getElem_cons_zero, Act.put, List.setIfInBounds_toArray, List.set_cons_zero, List.set_cons_succ])
          refine wpAnyH_take (i := 17) (oi := _) (v := undef) rfl (by kernel_rfl) (by kernel_rfl) (by kernel_rfl) (fun _ _ _ h => h) (Or.inr ⟨by kernel_rfl, rfl⟩) (HSW.out _ hk5) ?_
          (try simp only [List.getElem_toArray, List.getElem_cons_succ, List.getElem_cons_zero, Act.put, List.setIfInBounds_toArray, List.set_cons_zero, List.set_cons_succ])
          refine wpAnyH_take (i := 18) (oi := _) (v := undef) rfl (by kernel_rfl) (by kernel_rfl) (by kernel_rfl) (fun _ _ _ h => h) (Or.inr ⟨by kernel_rfl, rfl⟩) (HSW.out _ hk5) ?_
          (try simp only [List.getElem_toArray, List.getElem_cons_succ, List.getElem_cons_zero, Act.put, List.setIfInBounds_toArray, List.set_cons_zero, List.set_cons_succ])
          refine wpAnyH_take (i := 19) (oi := _) (v := undef) rfl (by kernel_rfl) (by kernel_rfl) (by kernel_rfl) (fun _ _ _ h => h) (Or.inr ⟨by kernel_rfl, rfl⟩) (HSW.out _ hk5) ?_
          (try simp only [List.getElem_toArray, List.getElem_cons_succ, List.getElem_cons_zero, Act.put, List.setIfInBounds_toArray, List.set_cons_zero, List.set_cons_succ])
          refine wpAnyH_take (i := 20) (oi := _) (v := undef) rfl (by kernel_rfl) (by kernel_rfl) (by kernel_rfl) (fun _ _ _ h => h) (Or.inr ⟨by kernel_rfl, rfl⟩) (HSW.out _ hk5) ?_
          (try simp only [List.getElem_toArray, List.getElem_cons_succ, List.getElem_cons_zero, Act.put, List.setIfInBounds_toArray, List.set_cons_zero, List.set_cons_succ])
          refine wpAnyH_take (i := 21) (oi := _) (v := ?vb21) rfl (by kernel_rfl) (by kernel_rfl) (by kernel_rfl) (fun _ _ _ h => h) (Or.inl ⟨by kernel_rfl, ?yb21⟩) (HSW.out _ hk5) ?rb21
          case yb21 => (intro w hSw; (try dsimp only at hSw); (first | (go_simp; done) | (go_simp; with_reducible rfl)))
          (try simp only [List.getElem_toArray, List.getElem_cons_succ, List.getElem_cons_zero, Act.put, List.setIfInBounds_toArray, List.set_cons_zero, List.set_cons_succ])
          refine wpAnyH_take (i := 22) (oi := _) (v := ?vb22) rfl (by kernel_rfl) (by kernel_rfl) (by kernel_rfl) (fun _ _ _ h => h) (Or.inl ⟨by kernel_rfl, ?yb22⟩) (HSW.out _ hk5) ?rb22
          case yb22 => (intro w hSw; (try dsimp only at hSw); (first | (go_simp; done) | (go_simp; with_reducible rfl)))
          (try simp only [List.getElem_toArray, List.getElem_cons_succ, List.getElem_cons_zero, Act.put, List.setIfInBounds_toArray, List.set_cons_zero, List.set_cons_succ])
          refine wpAnyH_done (by kernel_rfl) ?_ _
          go_wp2
          go_meet
          exact ⟨rfl, rfl, hk5⟩
      case rest =>
        obtain ⟨rfl, rfl, hk8⟩ := hcut
        obtain ⟨⟨xa0, xa1, xa2, xa3, xa4, xa5, xa6⟩, xa7, xa8, xa9, xa10, xa11, xa12, xa13⟩ := HSW.out _ hk8
        go_upto_region 10 with (go_at_call 22; refine (HSP.out _ _ ⟨.slice A1 p.els.length c1, .slice A2 p.glob.length c2, .slice A3 p.schemes.length c3, .slice A4 p.drop.length c4⟩ F1 (HO1.out _ (h13.trans (hk8.mono h13.size)))).mono ?_; rintro e w7 ⟨rfl, hfr⟩)
        clear xa0 xa1 xa2 xa3 xa4 xa5 xa6 xa7 xa8 xa9 xa10 xa11 xa12 xa13
        have h17 := h13.size
        have h38 := hk8.size
        have hr8 : Below wr.heap.size wr wc := hr3.trans (hk8.mono hr3.size)
        have hr7 : Below wr.heap.size wr w7 := hr8.trans (hfr.below hr8.size fun j hj => (HF1.out j hj).1)
        have h07 : Below W0.heap.size W0 w7 := h0r.trans (hr7.mono h0r.size)
        have h37 : W3.heap.size ≤ w7.heap.size := Nat.le_trans h38 hfr.size
        have HUP : Hid (∀ j, W1.heap.size ≤ j → j < W3.heap.size → w7.heap[j]? = W3.heap[j]?) := Lib.hid fun j h1 h2 => (hfr.block j (by omega) (fun hj => by have := (HF1.out j hj).2; omega)).trans (hk8.block j h2)
        have HAG : Hid (∀ W, Below w7.heap.size w7 W → RdP W 0 W.heap.size ⟨.slice I1 p.els.length i1, .slice I2 p.glob.length i2, .slice I3 p.schemes.length i3, .slice I4 p.drop.length i4⟩ p ∧ RdP W 0 W.heap.size ⟨.slice D1 r.els.length d1, .slice D2 r.glob.length d2, .slice D3 r.schemes.length d3, .slice D4 r.drop.length d4⟩ r ∧ (W.cell? ⟨w2.heap.size, 0, none⟩ = some (.slice I1 p.els.length i1) ∧ W.cell? ⟨w2.heap.size, 1, none⟩ = some (.slice I2 p.glob.length i2) ∧ W.cell? ⟨w2.heap.size, 2, none⟩ = some (.slice I3 p.schemes.length i3) ∧ W.cell? ⟨w2.heap.size, 3, none⟩ = some (.bool p.rel) ∧ W.cell? ⟨w2.heap.size, 4, none⟩ = some (.slice I4 p.drop.length i4) ∧ W.cell? ⟨w2.heap.size, 5, none⟩ = some (.int .i64 p.depth) ∧ W.cell? ⟨w2.heap.size, 6, none⟩ = some (.int .i64 p.window)) ∧ W.cell? ⟨w3.heap.size, 0, none⟩ = some (.slice D1 r.els.length d1) ∧ W.cell? ⟨w3.heap.size, 1, none⟩ = some (.slice D2 r.glob.length d2) ∧ W.cell? ⟨w3.heap.size, 2, none⟩ = some (.slice D3 r.schemes.length d3) ∧ W.cell? ⟨w3.heap.size, 3, none⟩ = some (.bool r.rel) ∧ W.cell? ⟨w3.heap.size, 4, none⟩ = some (.slice D4 r.drop.length d4) ∧ W.cell? ⟨w3.heap.size, 5, none⟩ = some (.int .i64 r.depth) ∧ W.cell? ⟨w3.heap.size, 6, none⟩ = some (.int .i64 r.window)) := Lib.hid fun W hW => HAF.out W (Nat.le_trans h37 hW.size) fun j h1 h2 => (hW.block j (by omega)).trans (HUP.out j h1 h2)
        have h77 : Below w7.heap.size w7 w7.drew := drw w7 1
        have HSG : Hid (∀ W, Below w7.heap.size w7 W → (W.cell? ⟨w2.heap.size, 0, none⟩ = some (.slice I1 p.els.length i1) ∧ W.cell? ⟨w2.heap.size, 1, none⟩ = some (.slice I2 p.glob.length i2) ∧ W.cell? ⟨w2.heap.size, 2, none⟩ = some (.slice I3 p.schemes.length i3) ∧ W.cell? ⟨w2.heap.size, 3, none⟩ = some (.bool p.rel) ∧ W.cell? ⟨w2.heap.size, 4, none⟩ = some (.slice I4 p.drop.length i4) ∧ W.cell? ⟨w2.heap.size, 5, none⟩ = some (.int .i64 p.depth) ∧ W.cell? ⟨w2.heap.size, 6, none⟩ = some (.int .i64 p.window)) ∧ W.cell? ⟨w3.heap.size, 0, none⟩ = some (.slice D1 r.els.length d1) ∧ W.cell? ⟨w3.heap.size, 1, none⟩ = some (.slice D2 r.glob.length d2) ∧ W.cell? ⟨w3.heap.size, 2, none⟩ = some (.slice D3 r.schemes.length d3) ∧ W.cell? ⟨w3.heap.size, 3, none⟩ = some (.bool r.rel) ∧ W.cell? ⟨w3.heap.size, 4, none⟩ = some (.slice D4 r.drop.length d4) ∧ W.cell? ⟨w3.heap.size, 5, none⟩ = some (.int .i64 r.depth) ∧ W.cell? ⟨w3.heap.size, 6, none⟩ = some (.int .i64 r.window)) := Lib.hid fun W hW => ⟨(HAG.out W hW).2.2.1, (HAG.out W hW).2.2.2⟩
        have HU0 := Lib.hid (HSG.out _ h77)
        have HU00 := Lib.hid (HSG.out _ (Below.refl _ _))
        clear HS0 HS00
        cases ok
        · go_quiet (fail)
          go_wp2_with fail
          go_roundw
          case rel => exact ⟨k + 1, by omega, by go_num, h07.trans ((drw _ _).mono h07.size)⟩
          case measure => simp [intOf] <;> omega
        · go_region_held3 (fun W => (W.cell? ⟨w2.heap.size, 0, none⟩ = some (.slice I1 p.els.length i1) ∧ W.cell? ⟨w2.heap.size, 1, none⟩ = some (.slice I2 p.glob.length i2) ∧ W.cell? ⟨w2.heap.size, 2, none⟩ = some (.slice I3 p.schemes.length i3) ∧ W.cell? ⟨w2.heap.size, 3, none⟩ = some (.bool p.rel) ∧ W.cell? ⟨w2.heap.size, 4, none⟩ = some (.slice I4 p.drop.length i4) ∧ W.cell? ⟨w2.heap.size, 5, none⟩ = some (.int .i64 p.depth) ∧ W.cell? ⟨w2.heap.size, 6, none⟩ = some (.int .i64 p.window)) ∧ W.cell? ⟨w3.heap.size, 0, none⟩ = some (.slice D1 r.els.length d1) ∧ W.cell? ⟨w3.heap.size, 1, none⟩ = some (.slice D2 r.glob.length d2) ∧ W.cell? ⟨w3.heap.size, 2, none⟩ = some (.slice D3 r.schemes.length d3) ∧ W.cell? ⟨w3.heap.size, 3, none⟩ = some (.bool r.rel) ∧ W.cell? ⟨w3.heap.size, 4, none⟩ = some (.slice D4 r.drop.length d4) ∧ W.cell? ⟨w3.heap.size, 5, none⟩ = some (.int .i64 r.depth) ∧ W.cell? ⟨w3.heap.size, 6, none⟩ = some (.int .i64 r.window))
            (first | exact HU5.out | exact HU4.out | exact HU0.out | exact HU00.out)
            (first
            | (go_at_call 20; refine (HTD.out _ ⟨.slice D1 r.els.length d1, .slice D2 r.glob.length d2, .slice D3 r.schemes.length d3, .slice D4 r.drop.length d4⟩ (HAG.out _ (by exact h77)).2.1).mono ?_; rintro e w9 ⟨H1, h1, H2, h2, H3, h3, H4, h4, rfl, hrh, hb9⟩; have HRH := Lib.hid hrh; have hk9 : Below w7.heap.size w7 w9 := h77.trans (hb9.mono h77.size); have HU4 := Lib.hid (HSG.out _ hk9); clear hrh)
            | (go_at_call 18; refine (HSM.out _ ⟨.slice I1 p.els.length i1, .slice I2 p.glob.length i2, .slice I3 p.schemes.length i3, .slice I4 p.drop.length i4⟩ ⟨.slice H1 p.els.length h1, .slice H2 p.glob.length h2, .slice H3 p.schemes.length h3, .slice H4 p.drop.length h4⟩ (HAG.out _ hk9).1 HRH.out).mono ?_; rintro e w10 ⟨rfl, hb10⟩; have hk10 : Below w7.heap.size w7 w10 := hk9.trans (hb10.mono hk9.size); have HU5 := Lib.hid (HSG.out _ hk10)))
          all_goals (
            go_wp2_with fail
            go_roundw
            case rel => exact ⟨k + 1, by omega, by go_num, h07.trans (hk10.mono h07.size)⟩
            case measure => simp [intOf] <;> omega)
    · obtain rfl : k = 4 := by omega
      go_wp2_with (go_at_call 19; refine (HA.out _ hwr).mono ?_; rintro e w14 ⟨rfl, hb14⟩)
      go_ret
      exact ⟨rfl, hwr.trans (hb14.mono hwr.size)⟩
end Go.Proofs.YtjhimmljanbjcaaGreatDoor.policyPresets
