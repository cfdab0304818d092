/- The law's spoil: a policy of the call's own is written over. -/
import Derived.Test.YteikagdinecfoaaGreatDoorSp
import Derived.Test.YteikagdinecfoaaGreatDoorEs
set_option linter.unusedVariables false
set_option linter.unusedSimpArgs false
namespace Go.Proofs.YteikagdinecfoaaGreatDoor.Wr
open Go.RowKit Lb Gr Pd Fl Go.Proofs.YteikagdinecfoaaGreatDoor.Pm Bk Ru Co Go.Proofs.YteikagdinecfoaaGreatDoor.Rs Go.Proofs.YteikagdinecfoaaGreatDoor.Sr Go.Proofs.YteikagdinecfoaaGreatDoor.Sp
attribute [local go_sem ↓] Go.wp_at_zero Go.wp_at_succ

theorem set22 {xs : List Value} {k n : Nat} {a b : Value} (hl : xs.length = n * 2) (hk : k < n) : xs.take (k * 2) ++ [a, b] ++ xs.drop ((k + 1) * 2) = (xs.set (k * 2) a).set (k * 2 + 1) b := by
  apply List.ext_getElem?
  intro j
  have hm : min (k * 2) xs.length = k * 2 := by omega
  rw [List.append_assoc, List.getElem?_append, List.length_take, hm]
  by_cases h1 : j < k * 2
  · rw [if_pos h1, List.getElem?_take, if_pos h1, List.getElem?_set_ne (by omega), List.getElem?_set_ne (by omega)]
  · rw [if_neg h1]
    by_cases h2 : j = k * 2
    · subst h2
      rw [Nat.sub_self, List.getElem?_set_ne (by omega), List.getElem?_set_self (by omega)]
      rfl
    · by_cases h3 : j = k * 2 + 1
      · subst h3
        rw [show k * 2 + 1 - k * 2 = 1 by omega, List.getElem?_set_self (by simp; omega)]
        rfl
      · rw [List.getElem?_append_right (by simp; omega), List.getElem?_drop, List.getElem?_set_ne (by omega), List.getElem?_set_ne (by omega)]
        congr 1
        simp
        omega
def spE : ElD := ⟨spS, []⟩
/-- an element written over, in its row -/
theorem closeE2 {w5 : World} {B g n c k : Nat} {xs : List Value} (hk : k < n) (hxs : w5.ownsRow B fmE.e fmE.size (.slice (some ⟨g, 0, none⟩) n c) n xs) (hxl : xs.length = n * fmE.size) :
    ((w5.setCell ⟨g, k * 2, none⟩ (.string spE.name)).setCell ⟨g, k * 2 + 1, none⟩ (.slice none 0 0)).ownsRow B fmE.e fmE.size (.slice (some ⟨g, 0, none⟩) n c) n (xs.take (k * fmE.size) ++ fmE.enc spE (.slice none 0 0) ++ xs.drop ((k + 1) * fmE.size)) := by
  have g2 := ((hxs.stored (k * 2) (.string spE.name)).1.stored (k * 2 + 1) (.slice none 0 0)).1
  rw [← set22 (n := n) hxl hk] at g2
  exact g2
theorem Fr.set2' (w : World) (g o : Nat) (x y : Value) : Fr [g] w ((w.setCell ⟨g, o, none⟩ x).setCell ⟨g, o + 1, none⟩ y) := (Fr.setCell w ⟨g, o, none⟩ x (.inl (by simp))).trans (Fr.setCell _ ⟨g, o + 1, none⟩ y (.inl (by simp)))

/-- what a policy's lists must not pass, to be written over -/
structure Spb (p : PolD) : Prop where
  e : p.els.length ≤ 9223372036854775807
  er : ∀ i (h : i < p.els.length), (p.els[i]).rules.length ≤ 9223372036854775807 ∧ ∀ j (h2 : j < (p.els[i]).rules.length), ((p.els[i]).rules[j]).words.length ≤ 9223372036854775807
  g : p.glob.length ≤ 9223372036854775807
  gr : ∀ j (h2 : j < p.glob.length), (p.glob[j]).words.length ≤ 9223372036854775807
  s : p.schemes.length ≤ 9223372036854775807
  d : p.drop.length ≤ 9223372036854775807
theorem Spb.of {p : PolD} (h : FitP p) : Spb p := by
  obtain ⟨⟨h1, h2⟩, ⟨h3, h4⟩, h5, h6⟩ := h
  exact ⟨by omega, fun i hi => ⟨by have := (h2 i hi).1; omega, fun j hj => by have := (h2 i hi).2 j hj; omega⟩, by omega, fun j hj => by have := h4 j hj; omega, by omega, by omega⟩

set_option maxHeartbeats 8000000 in
set_option maxRecDepth 100000 in
theorem spoilC {x : Vs} {p : PolD} {F : List Nat} {B : Nat} (w : World) (h : OwnP w B x p F) (hs : Spb p) : Calls Tryz.prog 26 #[polV x p] w fun e w' => e = .returned (.tuple #[]) ∧ Fr F w w' := by
  obtain ⟨A1, c1, A2, c2, A3, c3, A4, c4, rfl, _⟩ := (h.rd (lo := 0) (hi := w.heap.size) (Nat.zero_le _) (Nat.le_refl _)).form
  have hge := h.ge
  obtain ⟨F1, F2, F3, F4, h1, h2, h3, h4, rfl, hn⟩ := h
  have d1 := (List.nodup_append.1 hn).2.2
  have d2 := (List.nodup_append.1 (List.nodup_append.1 hn).2.1).2.2
  have d3 := (List.nodup_append.1 (List.nodup_append.1 (List.nodup_append.1 hn).2.1).2.1).2.2
  simp only at h1 h2 h3 h4
  have HSG : Hid (∀ W, kdR.own W B (.slice A2 p.glob.length c2) p.glob F2 → Calls Tryz.prog 35 #[.slice A2 p.glob.length c2] W fun e w' => e = .returned (.tuple #[]) ∧ Fr F2 W w') := Lib.hid fun W ho => (spoiltC W ho hs.g hs.gr).mono fun e w' ⟨he, F', _, _, hfr⟩ => ⟨he, hfr⟩
  have HSE : Hid (∀ W i (hi : i < p.els.length) v G, kdR.own W B v p.els[i].rules G → Calls Tryz.prog 35 #[v] W fun e w' => e = .returned (.tuple #[]) ∧ Fr G W w') := Lib.hid fun W i hi v G ho => (spoiltC W ho (hs.er i hi).1 (hs.er i hi).2).mono fun e w' ⟨he, F', _, _, hfr⟩ => ⟨he, hfr⟩
  have hne : (p.els.length : Int) ≤ 9223372036854775807 := by have := hs.e; omega
  have hns : (p.schemes.length : Int) ≤ 9223372036854775807 := by have := hs.s; omega
  have hnd : (p.drop.length : Int) ≤ 9223372036854775807 := by have := hs.d; omega
  clear hs
  unfold polV
  obtain ⟨W0, hW0⟩ : ∃ W, W = w.alloc (.cells #[.slice A1 p.els.length c1, .slice A2 p.glob.length c2, .slice A3 p.schemes.length c3, .bool p.rel, .slice A4 p.drop.length c4, .int .i64 p.depth, .int .i64 p.window] 29) := ⟨_, rfl⟩
  have hb0 : Below w.heap.size w W0 := hW0 ▸ (Below.refl _ _).alloc (Nat.le_refl _) _
  have k0 : Bl W0 w.heap.size 29 [.slice A1 p.els.length c1, .slice A2 p.glob.length c2, .slice A3 p.schemes.length c3, .bool p.rel, .slice A4 p.drop.length c4, .int .i64 p.depth, .int .i64 p.window] := hW0 ▸ Bl.new w _ _ rfl
  have hf0 : Fr (F1 ++ (F2 ++ (F3 ++ F4))) w W0 := Fr.of_below hb0
  have i1 : kdE.own W0 B _ _ F1 := kdE.keep h1 hb0.size fun k hk => hb0.block k (kdE.ge h1 k hk).2
  have i2 : kdR.own W0 B _ _ F2 := kdR.keep h2 hb0.size fun k hk => hb0.block k (kdR.ge h2 k hk).2
  have i3 : kdW.own W0 B _ _ F3 := kdW.keep h3 hb0.size fun k hk => hb0.block k (kdW.ge h3 k hk).2
  have i4 : kdW.own W0 B _ _ F4 := kdW.keep h4 hb0.size fun k hk => hb0.block k (kdW.ge h4 k hk).2
  have n1 : w.heap.size ∉ F1 := fun hx => by have := hge _ (List.mem_append_left _ hx); omega
  have n2 : w.heap.size ∉ F2 := fun hx => by have := hge _ (List.mem_append_right _ (List.mem_append_left _ hx)); omega
  have n3 : w.heap.size ∉ F3 := fun hx => by have := hge _ (List.mem_append_right _ (List.mem_append_right _ (List.mem_append_left _ hx))); omega
  have n4 : w.heap.size ∉ F4 := fun hx => by have := hge _ (List.mem_append_right _ (List.mem_append_right _ (List.mem_append_right _ hx))); omega
  have g1 := k0.cell 1 rfl
  have HX0 := Lib.hid hW0
  clear hW0 h1 h2 h3 h4
  go_enter Tryz.func26, Tryz.ntmps26
  go_upto_region 1 with fail
  rw [← HX0.out]
  go_upto_region 2 with (go_at_call 35; refine (HSG.out _ i2).mono ?_; rintro e w1 ⟨rfl, hf1⟩)
  have k1 := k0.of (hf1.block _ k0.lt n2)
  have j1 : kdE.own w1 B _ _ F1 := kdE.keep i1 hf1.size fun k hk => hf1.block k (kdE.ge i1 k hk).2 (fun hx => d1 k hk k (List.mem_append_left _ hx) rfl)
  have j3 : kdW.own w1 B _ _ F3 := kdW.keep i3 hf1.size fun k hk => hf1.block k (kdW.ge i3 k hk).2 (fun hx => d2 k hx k (List.mem_append_left _ hk) rfl)
  have j4 : kdW.own w1 B _ _ F4 := kdW.keep i4 hf1.size fun k hk => hf1.block k (kdW.ge i4 k hk).2 (fun hx => d2 k hx k (List.mem_append_right _ hk) rfl)
  have hg1 : Fr (F1 ++ (F2 ++ (F3 ++ F4))) w w1 := hf0.trans (hf1.mono fun k hk => by simp [hk])
  clear i1 i2 i3 i4 g1 k0 hf1
  have m1 : Hid (kdE.own w1 B (.slice A1 p.els.length c1) (mixed (fun _ => spE) p.els 0) F1 ∧ (∀ x ∈ F1, x ∈ F1) ∧ Fr F1 w1 w1) := Lib.hid ⟨by rw [mixed_0]; exact j1, fun _ h => h, Fr.refl _ _⟩
  clear j1
  have g0 := k1.cell 0 rfl
  go_wp2
  go_loopw [11] (fun i wr => ∃ (k : Nat) (Fc : List Nat), k ≤ p.els.length ∧ i = .int .i64 k ∧ Hid (kdE.own wr B (.slice A1 p.els.length c1) (mixed (fun _ => spE) p.els k) Fc ∧ (∀ x ∈ Fc, x ∈ F1) ∧ Fr F1 w1 wr)) (fun i _ => p.els.length - (intOf i).toNat)
  case atStart => exact ⟨0, F1, by omega, rfl, m1⟩
  case round =>
    obtain ⟨k, Fc, hk, rfl, hst⟩ := hrel
    have kr := k1.of (hst.out.2.2.block _ k1.lt n1)
    have g0 := kr.cell 0 rfl
    by_cases hlt : k < p.els.length
    · have hml := mixed_len (fun _ => spE) p.els k
      obtain ⟨g, cap, u, G, hv, hBg, hgw, hsub, hgF, hgG, hGF, hcells, hfz, hclose⟩ := fmE.own_at hst.out.1 (i := k) (by omega)
      rw [mixed_at hlt (by omega)] at hsub hcells
      injection hv with e1 e2 e3
      subst e1 e3
      have hsub' : kdR.own wr B u p.els[k].rules G := hsub
      obtain ⟨A5, c5, rfl, _⟩ := fmR.own_form hsub'
      have HCL := Lib.hid hclose
      have x0 := hcells 0 _ rfl
      have x1 := hcells 1 _ rfl
      rw [show k * fmE.size + 0 = k * 2 from rfl] at x0
      rw [show k * fmE.size + 1 = k * 2 + 1 from rfl] at x1
      have HFZ := Lib.hid hfz
      have hk0 : (0 : Int) ≤ (k : Int) := by omega
      have hk1 : (k : Int) < (p.els.length : Int) := by omega
      have HQ := Lib.hid (HSE.out wr k hlt _ G hsub')
      clear hsub hsub' hcells hclose hfz e2
      go_upto_region 6 with (go_at_call 35; refine HQ.out.mono ?_; rintro e w2 ⟨rfl, hf2⟩)
      have kz := kr.of (hf2.block _ kr.lt (fun hx => n1 (hst.out.2.1 _ (hGF _ hx))))
      have g0' := kz.cell 0 rfl
      have c0 := (World.cell?_of_block (a := ⟨g, k * 2, none⟩) (hf2.block g hgw hgG)).trans x0
      have c1' := (World.cell?_of_block (a := ⟨g, k * 2 + 1, none⟩) (hf2.block g hgw hgG)).trans x1
      have f0 := (World.frozen?_of_block (a := ⟨g, k * 2, none⟩) (hf2.block g hgw hgG)).trans (HFZ.out _)
      have f1 := (World.frozen?_of_block (a := ⟨g, k * 2 + 1, none⟩) (hf2.block g hgw hgG)).trans (HFZ.out _)
      have e1 := (World.cell?_setCell_other w2 ⟨g, k * 2, none⟩ ⟨g, k * 2 + 1, none⟩ (.string ⟨#[115, 112, 111, 105, 108, 116]⟩) (by simp)).trans c1'
      have b1 := (World.frozen?_setCell w2 ⟨g, k * 2, none⟩ ⟨g, k * 2 + 1, none⟩ (.string ⟨#[115, 112, 111, 105, 108, 116]⟩)).trans f1
      have hE := HCL.out w2 spE (.slice none 0 0) [] (hf2.block g hgw hgG) hf2.size (fun x hx hxG => hf2.block x ((kdE.ge hst.out.1 x hx).2) hxG) (fmR.own_nil _ _) (fun x hx => by cases hx) ((w2.setCell ⟨g, k * 2, none⟩ (.string spE.name)).setCell ⟨g, k * 2 + 1, none⟩ (.slice none 0 0)) (by simp [World.setCell]) (fun x hx => by rw [Below.heap_setCell _ ⟨g, k * 2 + 1, none⟩ _ x hx, Below.heap_setCell _ ⟨g, k * 2, none⟩ _ x hx]) (fun xs hxs hxl => by
        rw [hml] at hxs hxl ⊢
        exact closeE2 hlt hxs hxl)
      obtain ⟨F5, hF5, hm5⟩ := hE
      have e : (mixed (fun _ => spE) p.els k).set k spE = mixed (fun _ => spE) p.els (k + 1) := mixed_set (f := fun _ => spE) hlt
      rw [e] at hF5
      have hrel2 : Hid (kdE.own ((w2.setCell ⟨g, k * 2, none⟩ (.string spE.name)).setCell ⟨g, k * 2 + 1, none⟩ (.slice none 0 0)) B (.slice (some ⟨g, 0, none⟩) p.els.length c1) (mixed (fun _ => spE) p.els (k + 1)) F5 ∧ (∀ x ∈ F5, x ∈ F1) ∧ Fr F1 w1 ((w2.setCell ⟨g, k * 2, none⟩ (.string spE.name)).setCell ⟨g, k * 2 + 1, none⟩ (.slice none 0 0))) :=
        Lib.hid ⟨hF5, fun x hx => (hm5 x hx).elim (hst.out.2.1 x) (fun h => by cases h), (hst.out.2.2.trans (hf2.mono fun x hx => hst.out.2.1 x (hGF x hx))).trans ((Go.Proofs.YteikagdinecfoaaGreatDoor.Wr.Fr.set2' w2 g (k * 2) _ _).mono (fun x hx => by simp at hx; subst hx; exact hst.out.2.1 _ hgF))⟩
      clear hF5 hm5 hf2 x0 x1 e
      unfold spE spS at hrel2
      simp only at hrel2
      go_wp2
      go_roundw
      case rel => exact ⟨k + 1, F5, by omega, by go_num, hrel2⟩
      case measure => simp [intOf] <;> omega
    · obtain rfl : k = p.els.length := by omega
      have hfw : Fr F1 w1 wr := hst.out.2.2
      have q3 : kdW.own wr B (.slice A3 p.schemes.length c3) p.schemes F3 := kdW.keep j3 hfw.size fun k hk => hfw.block k (kdW.ge j3 k hk).2 (fun hx => d1 k hx k (by simp [hk]) rfl)
      have q4 : kdW.own wr B (.slice A4 p.drop.length c4) p.drop F4 := kdW.keep j4 hfw.size fun k hk => hfw.block k (kdW.ge j4 k hk).2 (fun hx => d1 k hx k (by simp [hk]) rfl)
      have m3 : Hid (kdW.own wr B (.slice A3 p.schemes.length c3) (mixed (fun _ => spS) p.schemes 0) F3 ∧ Fr F3 wr wr) := Lib.hid ⟨by rw [mixed_0]; exact q3, Fr.refl _ _⟩
      have hg2 : Fr (F1 ++ (F2 ++ (F3 ++ F4))) w wr := hg1.trans (hfw.mono fun k hk => by simp [hk])
      obtain ⟨wa, hwa⟩ : ∃ wa, wa = wr := ⟨_, rfl⟩
      rw [← hwa] at kr q4 m3 hg2
      have g2 := kr.cell 2 rfl
      rw [hwa] at g2
      go_wp2
      go_loopw [30] (fun i wr => ∃ j : Nat, j ≤ p.schemes.length ∧ i = .int .i64 j ∧ Hid (kdW.own wr B (.slice A3 p.schemes.length c3) (mixed (fun _ => spS) p.schemes j) F3 ∧ Fr F3 wa wr)) (fun i _ => p.schemes.length - (intOf i).toNat)
      case atStart => exact ⟨0, by omega, rfl, hwa ▸ m3⟩
      case round =>
        clear hwa g0
        obtain ⟨j, hj, rfl, hin⟩ := hrel
        have ks := kr.of (hin.out.2.block _ kr.lt n3)
        have z2 := ks.cell 2 rfl
        have z4 := ks.cell 4 rfl
        by_cases hltj : j < p.schemes.length
        · obtain ⟨b, e9, hBb, hbw, hfzb, hcj, ho9⟩ := Own.store (B := B) (n := p.schemes.length) (c := c3) (l := mixed (fun _ => spS) p.schemes j) hin.out.1.1 (j := j) (by rw [mixed_len]; exact hltj) spS
          subst e9
          have hj0 : (0 : Int) ≤ (j : Int) := by omega
          have hj1 : (j : Int) < (p.schemes.length : Int) := by omega
          have hnew : Hid (kdW.own (wr.setCell ⟨b, j, none⟩ (.string spS)) B (.slice (some ⟨b, 0, none⟩) p.schemes.length c3) (mixed (fun _ => spS) p.schemes (j + 1)) F3 ∧ Fr F3 wa (wr.setCell ⟨b, j, none⟩ (.string spS))) := Lib.hid (by
            have h9 := ho9
            have e : (mixed (fun _ => spS) p.schemes j).set j spS = mixed (fun _ => spS) p.schemes (j + 1) := mixed_set (f := fun _ => spS) hltj
            rw [e] at h9
            exact ⟨⟨h9, hin.out.1.2⟩, hin.out.2.trans (Fr.setCell _ _ _ (.inl (by rw [hin.out.1.2]; simp [Value.ownBlock])))⟩)
          clear ho9
          unfold spS at hnew
          go_wp2
          go_roundw
          case rel => exact ⟨j + 1, by omega, by go_num, hnew⟩
          case measure => simp [intOf] <;> omega
        · obtain rfl : j = p.schemes.length := by omega
          have hfs : Fr F3 wa wr := hin.out.2
          have q4' : kdW.own wr B (.slice A4 p.drop.length c4) p.drop F4 := kdW.keep q4 hfs.size fun k hk => hfs.block k (kdW.ge q4 k hk).2 (fun hx => d3 k hx k hk rfl)
          have m4 : Hid (kdW.own wr B (.slice A4 p.drop.length c4) (mixed (fun _ => spS) p.drop 0) F4 ∧ Fr F4 wr wr) := Lib.hid ⟨by rw [mixed_0]; exact q4', Fr.refl _ _⟩
          have hg3 : Fr (F1 ++ (F2 ++ (F3 ++ F4))) w wr := hg2.trans (hfs.mono fun k hk => by simp [hk])
          obtain ⟨wb, hwb⟩ : ∃ wb, wb = wr := ⟨_, rfl⟩
          rw [← hwb] at ks m4 hg3
          go_wp2
          go_loopw [41] (fun i wr => ∃ j : Nat, j ≤ p.drop.length ∧ i = .int .i64 j ∧ Hid (kdW.own wr B (.slice A4 p.drop.length c4) (mixed (fun _ => spS) p.drop j) F4 ∧ Fr F4 wb wr)) (fun i _ => p.drop.length - (intOf i).toNat)
          case atStart => exact ⟨0, by omega, rfl, hwb ▸ m4⟩
          case round =>
            clear hwb z2 z4
            obtain ⟨j, hj, rfl, hin⟩ := hrel
            have kt := ks.of (hin.out.2.block _ ks.lt n4)
            have z4 := kt.cell 4 rfl
            by_cases hltj : j < p.drop.length
            · obtain ⟨b, e9, hBb, hbw, hfzb, hcj, ho9⟩ := Own.store (B := B) (n := p.drop.length) (c := c4) (l := mixed (fun _ => spS) p.drop j) hin.out.1.1 (j := j) (by rw [mixed_len]; exact hltj) spS
              subst e9
              have hj0 : (0 : Int) ≤ (j : Int) := by omega
              have hj1 : (j : Int) < (p.drop.length : Int) := by omega
              have hnew : Hid (kdW.own (wr.setCell ⟨b, j, none⟩ (.string spS)) B (.slice (some ⟨b, 0, none⟩) p.drop.length c4) (mixed (fun _ => spS) p.drop (j + 1)) F4 ∧ Fr F4 wb (wr.setCell ⟨b, j, none⟩ (.string spS))) := Lib.hid (by
                have h9 := ho9
                have e : (mixed (fun _ => spS) p.drop j).set j spS = mixed (fun _ => spS) p.drop (j + 1) := mixed_set (f := fun _ => spS) hltj
                rw [e] at h9
                exact ⟨⟨h9, hin.out.1.2⟩, hin.out.2.trans (Fr.setCell _ _ _ (.inl (by rw [hin.out.1.2]; simp [Value.ownBlock])))⟩)
              clear ho9
              unfold spS at hnew
              go_wp2
              go_roundw
              case rel => exact ⟨j + 1, by omega, by go_num, hnew⟩
              case measure => simp [intOf] <;> omega
            · obtain rfl : j = p.drop.length := by omega
              have hfd : Fr F4 wb wr := hin.out.2
              go_wp2
              go_end0
              exact ⟨rfl, hg3.trans (hfd.mono fun k hk => by simp [hk])⟩
end Go.Proofs.YteikagdinecfoaaGreatDoor.Wr
