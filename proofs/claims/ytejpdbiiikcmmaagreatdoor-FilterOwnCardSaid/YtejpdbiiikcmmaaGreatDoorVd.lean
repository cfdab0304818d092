/- The program's tidy: a policy in order, in new memory; Tidy. -/
import Derived.Test.YtejpdbiiikcmmaaGreatDoorSr
import Derived.Test.YtejpdbiiikcmmaaGreatDoorEs
import Derived.Test.YtejpdbiiikcmmaaGreatDoorCh
set_option linter.unusedVariables false
set_option linter.unusedSimpArgs false
namespace Go.Proofs.YtejpdbiiikcmmaaGreatDoor.Ty
open Go.RowKit Lb Gr Pd Fl Go.Proofs.YtejpdbiiikcmmaaGreatDoor.Pm Bk Ha Ru Go.Proofs.YtejpdbiiikcmmaaGreatDoor.Co Go.Proofs.YtejpdbiiikcmmaaGreatDoor.So Go.Proofs.YtejpdbiiikcmmaaGreatDoor.Rs Go.Proofs.YtejpdbiiikcmmaaGreatDoor.Or Go.Proofs.YtejpdbiiikcmmaaGreatDoor.Sf Go.Proofs.YtejpdbiiikcmmaaGreatDoor.Sk Go.Proofs.YtejpdbiiikcmmaaGreatDoor.Sr
attribute [local go_sem ↓] Go.wp_at_zero Go.wp_at_succ

/-- names that are all different; sizes that a machine's int holds -/
structure Dif (p : PolD) : Prop where
  els : (p.els.map ElD.name).Nodup
  rules : ∀ i (h : i < p.els.length), ((p.els[i]).rules.map RuleD.name).Nodup
  glob : (p.glob.map RuleD.name).Nodup
structure OkV (p : PolD) : Prop where
  els : p.els.length < 4611686018427387904
  rules : ∀ i (h : i < p.els.length), OkW (p.els[i]).rules
  glob : OkW p.glob
  schemes : p.schemes.length < 4611686018427387904
  drop : p.drop.length < 4611686018427387904
theorem tidyR_name (r : RuleD) : (tidyR r).name = r.name := rfl
theorem tidyE_name (e : ElD) : (tidyE e).name = e.name := rfl
theorem els_tidy {l : List ElD} (h : (l.map ElD.name).Nodup) : (ordBy ElD.name l).map tidyE = ordBy ElD.name (l.map tidyE) :=
  (ordBy_map (f := ElD.name) (g := ElD.name) tidyE tidyE_name l h).symm
/-- an element's rules turned in their own place: its row stays as it is -/
theorem close2 {w5 : World} {B g n c k : Nat} {xs : List Value} {e : ElD} {u : Value} (hk : k < n) (hxs : w5.ownsRow B fmE.e fmE.size (.slice (some ⟨g, 0, none⟩) n c) n xs) (hxl : xs.length = n * fmE.size)
    (h0 : w5.cell? ⟨g, k * 2, none⟩ = some (.string e.name)) (h1 : w5.cell? ⟨g, k * 2 + 1, none⟩ = some u) :
    w5.ownsRow B fmE.e fmE.size (.slice (some ⟨g, 0, none⟩) n c) n (xs.take (k * fmE.size) ++ fmE.enc (tidyE e) u ++ xs.drop ((k + 1) * fmE.size)) := by
  have hs : fmE.size = 2 := rfl
  have g0 := hxs.cellAt (k * 2) (by rw [hs]; omega)
  have g1 := hxs.cellAt (k * 2 + 1) (by rw [hs]; omega)
  rw [h0] at g0
  rw [h1] at g1
  have g2 := set2 (n := n) hxl hk g0.symm g1.symm
  have g3 : xs.take (k * fmE.size) ++ fmE.enc (tidyE e) u ++ xs.drop ((k + 1) * fmE.size) = xs := g2
  rw [g3]
  exact hxs
theorem disj4 {F1 F2 F3 F4 : List Nat} (h : (F1 ++ (F2 ++ (F3 ++ F4))).Nodup) : F1.Nodup ∧ F2.Nodup ∧ F3.Nodup ∧ F4.Nodup ∧ (∀ x ∈ F1, x ∉ F2) ∧ (∀ x ∈ F1, x ∉ F3) ∧ (∀ x ∈ F1, x ∉ F4) ∧ (∀ x ∈ F2, x ∉ F3) ∧ (∀ x ∈ F2, x ∉ F4) ∧ (∀ x ∈ F3, x ∉ F4) := by
  rw [List.nodup_append] at h
  obtain ⟨h1, h2, h3⟩ := h
  rw [List.nodup_append] at h2
  obtain ⟨h4, h5, h6⟩ := h2
  rw [List.nodup_append] at h5
  obtain ⟨h7, h8, h9⟩ := h5
  exact ⟨h1, h4, h7, h8, fun x a b => h3 x a x (by simp [b]) rfl, fun x a b => h3 x a x (by simp [b]) rfl, fun x a b => h3 x a x (by simp [b]) rfl, fun x a b => h6 x a x (by simp [b]) rfl, fun x a b => h6 x a x (by simp [b]) rfl, fun x a b => h9 x a x b rfl⟩
theorem join4 {F1 F2 F3 F4 E1 E2 : List Nat} (h : (F1 ++ (F2 ++ (F3 ++ F4))).Nodup) (h1 : E1.Nodup) (h2 : E2.Nodup) (hs1 : ∀ x ∈ E1, x ∈ F1) (hs2 : ∀ x ∈ E2, x ∈ F2) : (E1 ++ (E2 ++ (F3 ++ F4))).Nodup := by
  obtain ⟨n1, n2, n3, n4, d12, d13, d14, d23, d24, d34⟩ := disj4 h
  rw [List.nodup_append]
  refine ⟨h1, ?_, fun a ha b hb e => ?_⟩
  · rw [List.nodup_append]
    refine ⟨h2, ?_, fun a ha b hb e => ?_⟩
    · rw [List.nodup_append]; exact ⟨n3, n4, fun a ha b hb e => d34 a ha (e ▸ hb)⟩
    · subst e
      rcases List.mem_append.1 hb with hb | hb
      · exact d23 a (hs2 a ha) hb
      · exact d24 a (hs2 a ha) hb
  · subst e
    rcases List.mem_append.1 hb with hb | hb
    · exact d12 a (hs1 a ha) (hs2 a hb)
    · rcases List.mem_append.1 hb with hb | hb
      · exact d13 a (hs1 a ha) hb
      · exact d14 a (hs1 a ha) hb

set_option maxHeartbeats 8000000 in
set_option maxRecDepth 100000 in
theorem tidyC (x : Vs) (p : PolD) (w : World) (h : RdP w 0 w.heap.size x p) (hf : FitP p) (hd : Dif p) (hok : OkV p) : Calls Tryz.prog 66 #[polV x p] w fun e w' =>
    ∃ y F, e = .returned (polV y (tidyP p)) ∧ OwnP w' w.heap.size y (tidyP p) F ∧ Below w.heap.size w w' := by
  obtain ⟨A1, c1, A2, c2, A3, c3, A4, c4, rfl, q1, q2, q3, q4, q5, q6, q7, q8⟩ := h.form
  obtain ⟨W0, hW0⟩ : ∃ W, W = (w.alloc (.cells #[.slice A1 p.els.length c1, .slice A2 p.glob.length c2, .slice A3 p.schemes.length c3, .bool p.rel, .slice A4 p.drop.length c4, .int .i64 p.depth, .int .i64 p.window] 27)).alloc (.cells #[.slice none 0 0, .slice none 0 0, .slice none 0 0, .bool false, .slice none 0 0, .int .i64 0, .int .i64 0] 27) := ⟨_, rfl⟩
  have hb0 : Below w.heap.size w W0 := hW0 ▸ ((Below.refl _ _).alloc (Nat.le_refl _) _).alloc (by simp) _
  have hsz0 : W0.heap.size = w.heap.size + 2 := by rw [hW0]; simp
  have k0 : Bl W0 w.heap.size 27 [.slice A1 p.els.length c1, .slice A2 p.glob.length c2, .slice A3 p.schemes.length c3, .bool p.rel, .slice A4 p.drop.length c4, .int .i64 p.depth, .int .i64 p.window] := hW0 ▸ (Bl.new w _ _ rfl).alloc _
  have k1 : Bl W0 (w.heap.size + 1) 27 [.slice none 0 0, .slice none 0 0, .slice none 0 0, .bool false, .slice none 0 0, .int .i64 0, .int .i64 0] := hW0 ▸ Bl.new _ _ _ (by simp)
  have HCO := Lib.hid (copiedC ⟨.slice A1 p.els.length c1, .slice A2 p.glob.length c2, .slice A3 p.schemes.length c3, .slice A4 p.drop.length c4⟩ p W0 ((h.stay (stay_below hb0 (Nat.le_refl _))).wide (Nat.le_refl _) hb0.size) hf)
  have a0 := k0.cell 0 rfl
  have a1 := k0.cell 1 rfl
  have a2 := k0.cell 2 rfl
  have a3 := k0.cell 3 rfl
  have a4 := k0.cell 4 rfl
  have a5 := k0.cell 5 rfl
  have a6 := k0.cell 6 rfl
  have HX := Lib.hid hW0
  have HD := Lib.hid hd
  have HOK := Lib.hid hok
  have HS0 := Lib.hid hsz0
  clear h hf hd hok hW0 hsz0 k0
  unfold polV
  unfold polV at HCO
  go_enter Tryz.func66, Tryz.ntmps66
  go_upto_region 1 with fail
  rw [← HX.out]
  go_upto_region 2 with (go_at_call 124; refine HCO.out.mono ?_; rintro e w1 ⟨y, F, rfl, ho, hb1⟩; obtain ⟨F1, F2, F3, F4, o1, o2, o3, o4, rfl, hnd⟩ := ho; obtain ⟨ye, yg, ys, yd⟩ := y; obtain ⟨B1, d1, rfl, hd1, hd1'⟩ := fmE.own_form o1; obtain ⟨B2, d2, rfl, _⟩ := fmR.own_form o2; obtain ⟨B3, d3, rfl, _⟩ := own_slice o3.1; obtain ⟨B4, d4, rfl, _⟩ := own_slice o4.1)
  obtain ⟨W2, hW2⟩ : ∃ W, W = w1.alloc (.cells #[.slice B1 p.els.length d1, .slice B2 p.glob.length d2, .slice B3 p.schemes.length d3, .bool p.rel, .slice B4 p.drop.length d4, .int .i64 p.depth, .int .i64 p.window] 27) := ⟨_, rfl⟩
  have hb2 : Below w1.heap.size w1 W2 := hW2 ▸ (Below.refl _ _).alloc (Nat.le_refl _) _
  have k3 : Bl W2 w1.heap.size 27 [.slice B1 p.els.length d1, .slice B2 p.glob.length d2, .slice B3 p.schemes.length d3, .bool p.rel, .slice B4 p.drop.length d4, .int .i64 p.depth, .int .i64 p.window] := hW2 ▸ Bl.new w1 _ _ rfl
  have k2 : Bl W2 (w.heap.size + 1) 27 [.slice none 0 0, .slice none 0 0, .slice none 0 0, .bool false, .slice none 0 0, .int .i64 0, .int .i64 0] := (k1.below hb1).below hb2
  have hz1 : W0.heap.size ≤ w1.heap.size := hb1.size
  have p1 := kdE.keep o1 hb2.size fun x hx => hb2.block x (kdE.ge o1 x hx).2
  have p2 := kdR.keep o2 hb2.size fun x hx => hb2.block x (kdR.ge o2 x hx).2
  have p3 := kdW.keep o3 hb2.size fun x hx => hb2.block x (kdW.ge o3 x hx).2
  have p4 := kdW.keep o4 hb2.size fun x hx => hb2.block x (kdW.ge o4 x hx).2
  have hg1 : ∀ x ∈ F1, W0.heap.size ≤ x ∧ x < w1.heap.size := fun x hx => kdE.ge o1 x hx
  have hg2 : ∀ x ∈ F2, W0.heap.size ≤ x ∧ x < w1.heap.size := fun x hx => kdR.ge o2 x hx
  have hg3 : ∀ x ∈ F3, W0.heap.size ≤ x ∧ x < w1.heap.size := fun x hx => kdW.ge o3 x hx
  have hg4 : ∀ x ∈ F4, W0.heap.size ≤ x ∧ x < w1.heap.size := fun x hx => kdW.ge o4 x hx
  have hk3 := k3.lt
  have hbw : Below w.heap.size w W2 := (hb0.trans (hb1.mono hb0.size)).trans (hb2.mono (Nat.le_trans hb0.size hb1.size))
  have hlel : Hid (p.els.length < 4611686018427387904) := Lib.hid HOK.out.els
  have HSE := Lib.hid (sortElC p1 HD.out.els hlel.out)
  have z0 := k3.cell 0 rfl
  rw [← hW2]
  have HX2 := Lib.hid hW2
  obtain ⟨n1, n2, n3, n4, d12, d13, d14, d23, d24, d34⟩ := disj4 hnd
  have HND := Lib.hid hnd
  have HD12 := Lib.hid d12
  have HD13 := Lib.hid d13
  have HD14 := Lib.hid d14
  have HD23 := Lib.hid d23
  have HD24 := Lib.hid d24
  have HD34 := Lib.hid d34
  have HG1 := Lib.hid hg1
  have HG2 := Lib.hid hg2
  have HG3 := Lib.hid hg3
  have HG4 := Lib.hid hg4
  clear hW2 hnd n1 n2 n3 n4 d12 d13 d14 d23 d24 d34 o1 o2 o3 o4 p1 hg1 hg2 hg3 hg4 a0 a1 a2 a3 a4 a5 a6
  obtain ⟨sl, hsl⟩ : ∃ sl, sl = ordBy ElD.name p.els := ⟨_, rfl⟩
  have hsll : sl.length = p.els.length := by rw [hsl]; exact ordBy_len _ _
  have hsm : ∀ i (hi : i < sl.length), (sl[i].rules.map RuleD.name).Nodup ∧ OkW sl[i].rules := fun i hi => by
    have hm : sl[i] ∈ p.els := by rw [← (ordBy_perm ElD.name p.els).mem_iff, ← hsl]; exact List.getElem_mem _
    obtain ⟨j, hj, he⟩ := List.getElem_of_mem hm
    rw [← he]
    exact ⟨HD.out.rules j hj, HOK.out.rules j hj⟩
  have HSM := Lib.hid hsm
  rw [← hsl] at HSE
  have HSL := Lib.hid hsl
  have HLL := Lib.hid hsll
  have hlen : (p.els.length : Int) ≤ 9223372036854775807 := by have := hlel.out; omega
  clear hsl hsm hsll
  go_upto_region 3 with (go_at_call 125; refine HSE.out.mono ?_; rintro e w3 ⟨rfl, F1', p1, hm1, hf3⟩)
  have hno : ∀ x ∈ F1, x ≠ w1.heap.size := fun x hx => by have := HG1.out x hx; omega
  have HNO := Lib.hid hno
  have k4 := k3.of (hf3.block _ hk3 (fun hx => HNO.out _ hx rfl))
  have z1 := k4.cell 0 rfl
  have hz3 := hf3.size
  have h0 : Hid (kdE.own w3 W0.heap.size (.slice B1 p.els.length d1) (mixed tidyE sl 0) F1' ∧ (∀ x ∈ F1', x ∈ F1) ∧ Fr F1 w3 w3) := Lib.hid ⟨by rw [mixed_0]; exact p1, fun x hx => (hm1 x).1 hx, Fr.refl _ _⟩
  have hk4 := k4.lt
  have HF3 := Lib.hid hf3
  clear p1 hm1 hf3 hno z0
  go_wp2
  go_loopw [13] (fun i wr => ∃ (k : Nat) (Ec : List Nat), k ≤ p.els.length ∧ i = .int .i64 k ∧ Hid (kdE.own wr W0.heap.size (.slice B1 p.els.length d1) (mixed tidyE sl k) Ec ∧ (∀ x ∈ Ec, x ∈ F1) ∧ Fr F1 w3 wr)) (fun i _ => p.els.length - (intOf i).toNat)
  case atStart => exact ⟨0, F1', by omega, rfl, h0⟩
  case round =>
    obtain ⟨k, Ec, hk, rfl, hst⟩ := hrel
    by_cases hlt : k < p.els.length
    · have hls : k < sl.length := by rw [HLL.out]; exact hlt
      have hml := mixed_len tidyE sl k
      rw [HLL.out] at hml
      obtain ⟨g, cap, u, G, hv, hBg, hgw, hsub, hgF, hgG, hGF, hcells, hfz, hclose⟩ := fmE.own_at hst.out.1 (i := k) (by omega)
      rw [mixed_at hls (by omega)] at hsub hcells
      injection hv with e1 e2 e3
      subst e1 e3
      have hsub' : kdR.own wr W0.heap.size u sl[k].rules G := hsub
      obtain ⟨A5, c5, rfl, _⟩ := fmR.own_form hsub'
      have x0 := hcells 0 _ rfl
      have x1 := hcells 1 _ rfl
      rw [show k * fmE.size + 0 = k * 2 from rfl] at x0
      rw [show k * fmE.size + 1 = k * 2 + 1 from rfl] at x1
      obtain ⟨s1, s2⟩ := HSM.out k hls
      have HSR := Lib.hid (sortRulesC wr hsub' s1 s2)
      have z2 := (k4.of (hst.out.2.2.block _ hk4 (fun hx => HNO.out _ hx rfl))).cell 0 rfl
      have HCL := Lib.hid hclose
      have HX0 := Lib.hid x0
      have hx1 : wr.cell? ⟨g, k * 2 + 1, none⟩ = some (.slice A5 sl[k].rules.length c5) := x1
      clear hclose hcells hsub hsub' s1 s2 hfz e2 x0 x1
      go_wp2_with (go_at_call 128; refine HSR.out.mono ?_; rintro e w4 ⟨rfl, G', ho4, hm4, hf4⟩)
      have hE := HCL.out w4 (tidyE sl[k]) (.slice A5 sl[k].rules.length c5) G' (hf4.block g hgw hgG) hf4.size (fun x hx hxG => hf4.block x (kdE.ge hst.out.1 x hx).2 hxG) ho4 (fun x hx => .inl (hm4 x hx)) w4 rfl (fun _ _ => rfl) (fun xs hxs hxl => by
        rw [hml] at hxs hxl ⊢
        exact close2 hlt hxs hxl ((World.cell?_of_block (a := ⟨g, k * 2, none⟩) (hf4.block g hgw hgG)).trans HX0.out) ((World.cell?_of_block (a := ⟨g, k * 2 + 1, none⟩) (hf4.block g hgw hgG)).trans hx1))
      obtain ⟨F5, hF5, hm5⟩ := hE
      rw [mixed_set hls] at hF5
      have hrel2 : Hid (kdE.own w4 W0.heap.size (.slice (some ⟨g, 0, none⟩) p.els.length d1) (mixed tidyE sl (k + 1)) F5 ∧ (∀ x ∈ F5, x ∈ F1) ∧ Fr F1 w3 w4) :=
        Lib.hid ⟨hF5, fun x hx => (hm5 x hx).elim (hst.out.2.1 x) (fun h => hst.out.2.1 x (hGF x (hm4 x h))), hst.out.2.2.trans (hf4.mono fun x hx => hst.out.2.1 x (hGF x hx))⟩
      clear hF5 hm5 ho4 hf4
      go_roundw
      case rel => exact ⟨k + 1, F5, by omega, by go_num, hrel2⟩
      case measure => simp [intOf] <;> omega
    · obtain rfl : k = p.els.length := by omega
      obtain ⟨w4, rfl⟩ : ∃ w4, w4 = wr := ⟨_, rfl⟩
      have hE : kdE.own w4 W0.heap.size (.slice B1 p.els.length d1) (sl.map tidyE) Ec := by have := hst.out.1; rw [← HLL.out, mixed_all, HLL.out] at this; exact this
      have hmE := hst.out.2.1
      have fr1 : Fr F1 W2 w4 := HF3.out.trans hst.out.2.2
      have k5 := k3.of (fr1.block _ hk3 (fun hx => HNO.out _ hx rfl))
      have j1 := k5.cell 1 rfl
      have r2 := kdR.keep p2 fr1.size fun x hx => fr1.block x (kdR.ge p2 x hx).2 (fun h => HD12.out x h hx)
      have HS5 := Lib.hid (sortRulesC w4 r2 HD.out.glob HOK.out.glob)
      clear j1
      have j1 := k5.cell 1 rfl
      go_upto_region 9 with (go_at_call 128; refine HS5.out.mono ?_; rintro e w5 ⟨rfl, F2', o2, hm2, fr2⟩)
      have hk5 := k5.lt
      have k6 := k5.of (fr2.block _ hk5 (fun hx => by have := HG2.out _ hx; omega))
      have j2 := k6.cell 2 rfl
      have frA : Fr (F1 ++ F2) W2 w5 := (fr1.mono fun x hx => List.mem_append_left _ hx).trans (fr2.mono fun x hx => List.mem_append_right _ hx)
      have r3 := kdW.keep p3 frA.size fun x hx => frA.block x (kdW.ge p3 x hx).2 (fun h => (List.mem_append.1 h).elim (fun h => HD13.out x h hx) (fun h => HD23.out x h hx))
      have HS6 := Lib.hid (sortW r3 HOK.out.schemes)
      have hk6 := k6.lt
      go_upto_region 10 with (go_at_call 129; refine HS6.out.mono ?_; rintro e w6 ⟨rfl, o3, fr3⟩)
      have k7 := k6.of (fr3.block _ hk6 (fun hx => by have := HG3.out _ hx; omega))
      have j4 := k7.cell 4 rfl
      have frB : Fr (F1 ++ F2 ++ F3) W2 w6 := (frA.mono fun x hx => List.mem_append_left _ hx).trans (fr3.mono fun x hx => List.mem_append_right _ hx)
      have r4 := kdW.keep p4 frB.size fun x hx => frB.block x (kdW.ge p4 x hx).2 (fun h => by
        rcases List.mem_append.1 h with h | h
        · exact (List.mem_append.1 h).elim (fun h => HD14.out x h hx) (fun h => HD24.out x h hx)
        · exact HD34.out x h hx)
      have HS7 := Lib.hid (sortW r4 HOK.out.drop)
      have hk7 := k7.lt
      go_upto_region 11 with (go_at_call 129; refine HS7.out.mono ?_; rintro e w7 ⟨rfl, o4, fr4⟩)
      have k8 := k7.of (fr4.block _ hk7 (fun hx => by have := HG4.out _ hx; omega))
      have v0 := k8.cell 0 rfl
      have v1 := k8.cell 1 rfl
      have v2 := k8.cell 2 rfl
      have v3 := k8.cell 3 rfl
      have v4 := k8.cell 4 rfl
      have v5 := k8.cell 5 rfl
      have v6 := k8.cell 6 rfl
      have frC : Fr (F1 ++ F2 ++ F3 ++ F4) W2 w7 := (frB.mono fun x hx => List.mem_append_left _ hx).trans (fr4.mono fun x hx => List.mem_append_right _ hx)
      have hs0 := HS0.out
      have hin : ∀ x ∈ F1 ++ F2 ++ F3 ++ F4, W0.heap.size ≤ x := fun x hx => by
        rcases List.mem_append.1 hx with h | h
        · rcases List.mem_append.1 h with h | h
          · rcases List.mem_append.1 h with h | h
            · exact (HG1.out x h).1
            · exact (HG2.out x h).1
          · exact (HG3.out x h).1
        · exact (HG4.out x h).1
      have hk2 := k2.lt
      have k9 := k2.of (frC.block _ hk2 (fun hx => by have := hin _ hx; omega))
      obtain ⟨s0, s1, s2, s3, s4, s5, s6, s7, s8, s9, s10, s11, s12, s13⟩ := k9.store7 (.slice B1 p.els.length d1) (.slice B2 p.glob.length d2) (.slice B3 p.schemes.length d3) (.bool p.rel) (.slice B4 p.drop.length d4) (.int .i64 p.depth) (.int .i64 p.window)
      have jz := k9.seven (.slice B1 p.els.length d1) (.slice B2 p.glob.length d2) (.slice B3 p.schemes.length d3) (.bool p.rel) (.slice B4 p.drop.length d4) (.int .i64 p.depth) (.int .i64 p.window)
      have hfz := Fr.set7 w7 (w.heap.size + 1) (.slice B1 p.els.length d1) (.slice B2 p.glob.length d2) (.slice B3 p.schemes.length d3) (.bool p.rel) (.slice B4 p.drop.length d4) (.int .i64 p.depth) (.int .i64 p.window)
      have HFR2 := Lib.hid fr2
      have HFR3 := Lib.hid fr3
      have HFR4 := Lib.hid fr4
      have HFC := Lib.hid frC
      clear hin hs0 fr1 frA frB
      go_wp2
      refine bodyPost_ret (res_cell Tryz.results66 rfl jz Tryz.underlying27 rfl (by kernel_rfl)) rfl ?_
      have hs0 := HS0.out
      have hb9 := hb0.size
      have e1 := kdE.ge hE
      have e2 := kdR.ge o2
      have e3 := kdW.ge o3
      have e4 := kdW.ge o4
      have t2 := kdE.keep hE HFR2.out.size fun x hx => HFR2.out.block x (e1 x hx).2 (fun h => HD12.out x (hmE x hx) h)
      have t3 := kdE.keep t2 HFR3.out.size fun x hx => HFR3.out.block x (kdE.ge t2 x hx).2 (fun h => HD13.out x (hmE x hx) h)
      have t4 := kdE.keep t3 HFR4.out.size fun x hx => HFR4.out.block x (kdE.ge t3 x hx).2 (fun h => HD14.out x (hmE x hx) h)
      have t5 := kdE.keep t4 hfz.size fun x hx => hfz.block x (kdE.ge t4 x hx).2 (by have := (kdE.ge t4 x hx).1; simp; omega)
      have u3 := kdR.keep o2 HFR3.out.size fun x hx => HFR3.out.block x (e2 x hx).2 (fun h => HD23.out x (hm2 x hx) h)
      have u4 := kdR.keep u3 HFR4.out.size fun x hx => HFR4.out.block x (kdR.ge u3 x hx).2 (fun h => HD24.out x (hm2 x hx) h)
      have u5 := kdR.keep u4 hfz.size fun x hx => hfz.block x (kdR.ge u4 x hx).2 (by have := (kdR.ge u4 x hx).1; simp; omega)
      have v4 := kdW.keep o3 HFR4.out.size fun x hx => HFR4.out.block x (e3 x hx).2 (fun h => HD34.out x hx h)
      have v5 := kdW.keep v4 hfz.size fun x hx => hfz.block x (kdW.ge v4 x hx).2 (by have := (kdW.ge v4 x hx).1; simp; omega)
      have x5 := kdW.keep o4 hfz.size fun x hx => hfz.block x (e4 x hx).2 (by have := (e4 x hx).1; simp; omega)
      have hes : (tidyP p).els = sl.map tidyE := by rw [HSL.out]; exact (els_tidy HD.out.els).symm
      refine ⟨⟨.slice B1 p.els.length d1, .slice B2 p.glob.length d2, .slice B3 p.schemes.length d3, .slice B4 p.drop.length d4⟩, _, rfl, ⟨Ec, F2', F3, F4, ?_, kdR.low u5 (by omega), kdW.low v5 (by omega), kdW.low x5 (by omega), rfl, join4 HND.out (kdE.nodup hE) (kdR.nodup o2) hmE hm2⟩, ?_⟩
      · rw [hes]; exact kdE.low t5 (by omega)
      · refine hbw.trans ((HFC.out.below hbw.size fun x hx => ?_).trans (hfz.below (Nat.le_trans hbw.size HFC.out.size) (by simp)))
        rcases List.mem_append.1 hx with h | h
        · rcases List.mem_append.1 h with h | h
          · rcases List.mem_append.1 h with h | h
            · have := (HG1.out x h).1; omega
            · have := (HG2.out x h).1; omega
          · have := (HG3.out x h).1; omega
        · have := (HG4.out x h).1; omega
end Go.Proofs.YtejpdbiiikcmmaaGreatDoor.Ty

/- What a valid policy has: plain laws. And the program's Tidy. -/
set_option linter.unusedVariables false
set_option linter.unusedSimpArgs false
namespace Go.Proofs.YtejpdbiiikcmmaaGreatDoor.Vd
open Go.RowKit Lb Gr Pd Fl Go.Proofs.YtejpdbiiikcmmaaGreatDoor.Pm Bk Is Ru Go.Proofs.YtejpdbiiikcmmaaGreatDoor.Co Ro Go.Proofs.YtejpdbiiikcmmaaGreatDoor.Ck Go.Proofs.YtejpdbiiikcmmaaGreatDoor.Lk Go.Proofs.YtejpdbiiikcmmaaGreatDoor.Th Go.Proofs.YtejpdbiiikcmmaaGreatDoor.Or Go.Proofs.YtejpdbiiikcmmaaGreatDoor.Sr Go.Proofs.YtejpdbiiikcmmaaGreatDoor.Ty Go.Proofs.YtejpdbiiikcmmaaGreatDoor.Ch Go.Proofs.YtejpdbiiikcmmaaGreatDoor.Er
attribute [local go_sem ↓] Go.wp_at_zero Go.wp_at_succ

theorem hasR_app (l : List RuleD) (r : RuleD) (s : ByteArray) : hasR (l ++ [r]) s = (hasR l s || decide (r.name = s)) := by simp [hasR]
theorem hasE_app (l : List ElD) (r : ElD) (s : ByteArray) : hasE (l ++ [r]) s = (hasE l s || decide (r.name = s)) := by simp [hasE]
theorem rulesFrom_facts : ∀ (r l : List RuleD), rulesFrom l r = true → (r.map RuleD.name).Nodup ∧ ∀ x ∈ r, hasR l x.name = false ∧ ∃ l', ruleB l' x = true
  | [], l, _ => by simp
  | a :: t, l, h => by
    rw [rulesFrom, Bool.and_eq_true] at h
    obtain ⟨h1, h2⟩ := rulesFrom_facts t (l ++ [a]) h.2
    have ha : hasR l a.name = false := by
      have := h.1
      unfold ruleB at this
      simp only [Bool.and_eq_true, Bool.not_eq_true'] at this
      exact this.1.1.1.1.2
    refine ⟨?_, ?_⟩
    · rw [List.map_cons, List.nodup_cons]
      refine ⟨fun hm => ?_, h1⟩
      obtain ⟨x, hx, he⟩ := List.mem_map.1 hm
      have := (h2 x hx).1
      rw [hasR_app, he] at this
      simp at this
    · intro x hx
      rcases List.mem_cons.1 hx with rfl | hx
      · exact ⟨ha, l, h.1⟩
      · have := (h2 x hx).1
        rw [hasR_app, Bool.or_eq_false_iff] at this
        exact ⟨this.1, (h2 x hx).2⟩
theorem rules_nodup {l : List RuleD} (h : rulesB l = true) : (l.map RuleD.name).Nodup := (rulesFrom_facts l [] h).1
theorem rules_each {l : List RuleD} (h : rulesB l = true) {x : RuleD} (hx : x ∈ l) : ∃ l', ruleB l' x = true := ((rulesFrom_facts l [] h).2 x hx).2
theorem elsFrom_facts : ∀ (r l : List ElD), elsFrom inA l r = 0 → (r.map ElD.name).Nodup ∧ ∀ x ∈ r, hasE l x.name = false ∧ inA x.name = true ∧ rulesB x.rules = true
  | [], l, _ => by simp
  | a :: t, l, h => by
    rw [elsFrom] at h
    by_cases h1 : inA a.name = false ∨ hasE l a.name = true
    · rw [if_pos h1] at h; omega
    · rw [if_neg h1] at h
      by_cases h2 : rulesB a.rules = false
      · rw [if_pos h2] at h; omega
      · rw [if_neg h2] at h
        obtain ⟨g1, g2⟩ := elsFrom_facts t (l ++ [a]) h
        rw [not_or] at h1
        have i1 : inA a.name = true := by simpa using h1.1
        have i2 : hasE l a.name = false := by simpa using h1.2
        have i3 : rulesB a.rules = true := by simpa using h2
        refine ⟨?_, ?_⟩
        · rw [List.map_cons, List.nodup_cons]
          refine ⟨fun hm => ?_, g1⟩
          obtain ⟨x, hx, he⟩ := List.mem_map.1 hm
          have := (g2 x hx).1
          rw [hasE_app, he] at this
          simp at this
        · intro x hx
          rcases List.mem_cons.1 hx with rfl | hx
          · exact ⟨i2, i1, i3⟩
          · have := g2 x hx
            rw [hasE_app, Bool.or_eq_false_iff] at this
            exact ⟨this.1.1, this.2⟩
theorem onceFrom_facts {ok : ByteArray → Bool} : ∀ (r l : List ByteArray), onceFrom ok l r = true → r.Nodup ∧ ∀ x ∈ r, hasT l x = false ∧ ok x = true
  | [], l, _ => by simp
  | a :: t, l, h => by
    rw [onceFrom] at h
    simp only [Bool.and_eq_true, Bool.not_eq_true'] at h
    obtain ⟨h1, h2⟩ := onceFrom_facts t (l ++ [a]) h.2
    have happ : ∀ s, hasT (l ++ [a]) s = (hasT l s || decide (a = s)) := fun s => by simp [hasT]
    refine ⟨?_, ?_⟩
    · rw [List.nodup_cons]
      refine ⟨fun hm => ?_, h1⟩
      have := (h2 a hm).1
      rw [happ] at this
      simp at this
    · intro x hx
      rcases List.mem_cons.1 hx with rfl | hx
      · exact ⟨h.1.2, h.1.1⟩
      · have := h2 x hx
        rw [happ, Bool.or_eq_false_iff] at this
        exact ⟨this.1.1, this.2⟩
theorem first_all : ∀ {l : List Int}, firstI l = 0 → ∀ x ∈ l, x = 0
  | [], _, x, hx => by cases hx
  | a :: t, h, x, hx => by
    by_cases ha : a = 0
    · rw [firstI, if_pos ha] at h
      rcases List.mem_cons.1 hx with rfl | hx
      · exact ha
      · exact first_all h x hx
    · rw [firstI, if_neg ha] at h; exact absurd h ha
structure Valid (p : PolD) : Prop where
  nodup : (p.els.map ElD.name).Nodup
  els : ∀ e ∈ p.els, inA e.name = true ∧ rulesB e.rules = true
  glob : rulesB p.glob = true
  closed : closedB p.els = true
  schemes : schOk p.schemes = true
  drop : dropOk p = true
  lim : limOk p = true
theorem valid_of {p : PolD} (h : checkI p = 0) : Valid p := by
  have ha := first_all h
  have e1 : elsI p = 0 := ha _ (by simp)
  have e2 : globI p = 0 := ha _ (by simp)
  have e3 : closI p = 0 := ha _ (by simp)
  have e4 : schI p = 0 := ha _ (by simp)
  have e5 : dropI p = 0 := ha _ (by simp)
  have e6 : limI p = 0 := ha _ (by simp)
  obtain ⟨g1, g2⟩ := elsFrom_facts p.els [] e1
  unfold globI at e2
  unfold closI at e3
  unfold schI at e4
  unfold dropI at e5
  unfold limI at e6
  refine ⟨g1, fun e he => (g2 e he).2, ?_, ?_, ?_, ?_, ?_⟩
  · by_cases h : rulesB p.glob = true
    · exact h
    · rw [if_neg h] at e2; omega
  · by_cases h : closedB p.els = true
    · exact h
    · rw [if_neg h] at e3; omega
  · by_cases h : schOk p.schemes = true
    · exact h
    · rw [if_neg h] at e4; omega
  · by_cases h : dropOk p = true
    · exact h
    · rw [if_neg h] at e5; omega
  · by_cases h : limOk p = true
    · exact h
    · rw [if_neg h] at e6; omega
theorem Valid.dif {p : PolD} (h : Valid p) : Dif p := ⟨h.nodup, fun i hi => rules_nodup (h.els _ (List.getElem_mem hi)).2, rules_nodup h.glob⟩

/-- what a policy's lists must not pass -/
structure Sized (p : PolD) : Prop where
  fit : FitP p
  ok : OkP p
  okv : OkV p
/-- no policy -/
def zeroP : PolD := ⟨[], [], [], false, [], 0, 0⟩
def zeroV : Vs := ⟨.slice none 0 0, .slice none 0 0, .slice none 0 0, .slice none 0 0⟩
theorem own_zero (w : World) (B : Nat) : OwnP w B zeroV zeroP [] :=
  ⟨[], [], [], [], fmE.own_nil w B, fmR.own_nil w B, ⟨World.ownsRow_nil _ _ _ _, rfl⟩, ⟨World.ownsRow_nil _ _ _ _, rfl⟩, rfl, by simp⟩
def tidyQ (p : PolD) : PolD := if checkI p = 0 then tidyP p else zeroP

set_option maxHeartbeats 2000000 in
set_option maxRecDepth 100000 in
theorem TidyC (x : Vs) (p : PolD) (w : World) (ht : Tab w) (hn : NevT w) (h : RdP w 0 w.heap.size x p) (hs : Sized p) : Calls Tryz.prog 150 #[polV x p] w fun e w' =>
    ∃ y F, e = .returned (.tuple #[polV y (tidyQ p), .int .i64 (checkI p)]) ∧ OwnP w' w.heap.size y (tidyQ p) F ∧ Below w.heap.size w w' := by
  obtain ⟨A1, c1, A2, c2, A3, c3, A4, c4, rfl, q1, q2, q3, q4, q5, q6, q7, q8⟩ := h.form
  obtain ⟨W0, hW0⟩ : ∃ W, W = (w.alloc (.cells #[.slice A1 p.els.length c1, .slice A2 p.glob.length c2, .slice A3 p.schemes.length c3, .bool p.rel, .slice A4 p.drop.length c4, .int .i64 p.depth, .int .i64 p.window] 27)).alloc (.cells #[.slice none 0 0, .slice none 0 0, .slice none 0 0, .bool false, .slice none 0 0, .int .i64 0, .int .i64 0] 27) := ⟨_, rfl⟩
  have hb0 : Below w.heap.size w W0 := hW0 ▸ ((Below.refl _ _).alloc (Nat.le_refl _) _).alloc (by simp) _
  have hsz0 : W0.heap.size = w.heap.size + 2 := by rw [hW0]; simp
  have k0 : Bl W0 w.heap.size 27 [.slice A1 p.els.length c1, .slice A2 p.glob.length c2, .slice A3 p.schemes.length c3, .bool p.rel, .slice A4 p.drop.length c4, .int .i64 p.depth, .int .i64 p.window] := hW0 ▸ (Bl.new w _ _ rfl).alloc _
  have k1 : Bl W0 (w.heap.size + 1) 27 [.slice none 0 0, .slice none 0 0, .slice none 0 0, .bool false, .slice none 0 0, .int .i64 0, .int .i64 0] := hW0 ▸ Bl.new _ _ _ (by simp)
  have hrd : ∀ W, Below w.heap.size w W → RdP W 0 W.heap.size ⟨.slice A1 p.els.length c1, .slice A2 p.glob.length c2, .slice A3 p.schemes.length c3, .slice A4 p.drop.length c4⟩ p := fun W hW => (h.stay (stay_below hW (Nat.le_refl _))).wide (Nat.le_refl _) hW.size
  have HCK := Lib.hid (CheckC ⟨.slice A1 p.els.length c1, .slice A2 p.glob.length c2, .slice A3 p.schemes.length c3, .slice A4 p.drop.length c4⟩ p W0 (ht.below hb0) (hn.below hb0) (hrd _ hb0) hs.ok)
  have HTD : Hid (checkI p = 0 → ∀ W, Below w.heap.size w W → Calls Tryz.prog 66 #[.agg #[.slice A1 p.els.length c1, .slice A2 p.glob.length c2, .slice A3 p.schemes.length c3, .bool p.rel, .slice A4 p.drop.length c4, .int .i64 p.depth, .int .i64 p.window]] W fun e w' => ∃ y F, e = .returned (polV y (tidyP p)) ∧ OwnP w' W.heap.size y (tidyP p) F ∧ Below W.heap.size W w') :=
    Lib.hid fun hz W hW => tidyC ⟨.slice A1 p.els.length c1, .slice A2 p.glob.length c2, .slice A3 p.schemes.length c3, .slice A4 p.drop.length c4⟩ p W (hrd W hW) hs.fit (valid_of hz).dif hs.okv
  have a0 := k0.cell 0 rfl
  have a1 := k0.cell 1 rfl
  have a2 := k0.cell 2 rfl
  have a3 := k0.cell 3 rfl
  have a4 := k0.cell 4 rfl
  have a5 := k0.cell 5 rfl
  have a6 := k0.cell 6 rfl
  have HX := Lib.hid hW0
  have HS0 := Lib.hid hsz0
  have HQ : Hid (tidyQ p = if checkI p = 0 then tidyP p else zeroP) := Lib.hid rfl
  clear h hs ht hn hrd hW0 hsz0
  unfold polV
  unfold polV at HCK
  generalize checkI p = c at *
  generalize tidyQ p = q at *
  by_cases hc : c = 0
  · have HQ2 : Hid (q = tidyP p) := Lib.hid (by rw [HQ.out, if_pos hc])
    have HTD2 : Hid (∀ W, Below w.heap.size w W → Calls Tryz.prog 66 #[.agg #[.slice A1 p.els.length c1, .slice A2 p.glob.length c2, .slice A3 p.schemes.length c3, .bool p.rel, .slice A4 p.drop.length c4, .int .i64 p.depth, .int .i64 p.window]] W fun e w' => ∃ y F, e = .returned (.agg #[y.e, y.g, y.s, .bool q.rel, y.d, .int .i64 q.depth, .int .i64 q.window]) ∧ OwnP w' W.heap.size y q F ∧ Below W.heap.size W w') := Lib.hid (by rw [HQ2.out]; exact HTD.out hc)
    subst hc
    clear HTD HQ
    go_enter Tryz.func150, Tryz.ntmps150
    go_upto_region 1 with fail
    rw [← HX.out]
    go_upto_region 2 with (go_at_call 35; refine HCK.out.mono ?_; rintro e w1 ⟨rfl, hb1⟩; have m0 := k0.below hb1; have z0 := m0.cell 0 rfl; have z1 := m0.cell 1 rfl; have z2 := m0.cell 2 rfl; have z3 := m0.cell 3 rfl; have z4 := m0.cell 4 rfl; have z5 := m0.cell 5 rfl; have z6 := m0.cell 6 rfl)
    have hb2 : Below w.heap.size w w1 := hb0.trans (hb1.mono hb0.size)
    have m1 := k1.below hb1
    go_upto_region 4 with fail
    go_wp2_with (go_at_call 66; refine (HTD2.out _ hb2).mono ?_; rintro e w2 ⟨y, F, rfl, ho, hb3⟩; obtain ⟨B1, d1, B2, d2, B3, d3, B4, d4, rfl, _⟩ := (ho.rd (lo := 0) (hi := w2.heap.size) (Nat.zero_le _) (Nat.le_refl _)).form; have n1 := m1.below hb3; obtain ⟨s0, s1, s2, s3, s4, s5, s6, s7, s8, s9, s10, s11, s12, s13⟩ := n1.store7 (.slice B1 q.els.length d1) (.slice B2 q.glob.length d2) (.slice B3 q.schemes.length d3) (.bool q.rel) (.slice B4 q.drop.length d4) (.int .i64 q.depth) (.int .i64 q.window))
    have jz := n1.seven (.slice B1 q.els.length d1) (.slice B2 q.glob.length d2) (.slice B3 q.schemes.length d3) (.bool q.rel) (.slice B4 q.drop.length d4) (.int .i64 q.depth) (.int .i64 q.window)
    have hfz := Fr.set7 w2 (w.heap.size + 1) (.slice B1 q.els.length d1) (.slice B2 q.glob.length d2) (.slice B3 q.schemes.length d3) (.bool q.rel) (.slice B4 q.drop.length d4) (.int .i64 q.depth) (.int .i64 q.window)
    refine bodyPost_ret (res_cell2 Tryz.results150 rfl jz Tryz.underlying27 rfl (by kernel_rfl)) rfl ?_
    have hz1 := hb1.size
    have hs0 := HS0.out
    have hz2 := hb2.size
    exact ⟨_, F, rfl, (ho.keep hfz.size fun x hx => hfz.block x (ho.ge x hx).2 (by have := (ho.ge x hx).1; simp; omega)).low hz2, (hb2.trans (hb3.mono hz2)).trans (hfz.below (Nat.le_trans hz2 hb3.size) (by simp))⟩
  · have hc2 : (c != 0) = true := by simpa using hc
    have HQ2 : Hid (q = zeroP) := Lib.hid (by rw [HQ.out, if_neg hc])
    clear HTD HQ
    go_enter Tryz.func150, Tryz.ntmps150
    go_upto_region 1 with fail
    rw [← HX.out]
    go_upto_region 3 with (go_at_call 35; refine HCK.out.mono ?_; rintro e w1 ⟨rfl, hb1⟩)
    have m1 := k1.below hb1
    obtain ⟨s0, s1, s2, s3, s4, s5, s6, s7, s8, s9, s10, s11, s12, s13⟩ := m1.store7 (.slice none 0 0) (.slice none 0 0) (.slice none 0 0) (.bool false) (.slice none 0 0) (.int .i64 0) (.int .i64 0)
    have jz := m1.seven (.slice none 0 0) (.slice none 0 0) (.slice none 0 0) (.bool false) (.slice none 0 0) (.int .i64 0) (.int .i64 0)
    have hfz := Fr.set7 w1 (w.heap.size + 1) (.slice none 0 0) (.slice none 0 0) (.slice none 0 0) (.bool false) (.slice none 0 0) (.int .i64 0) (.int .i64 0)
    go_wp2
    refine bodyPost_ret (res_cell2 Tryz.results150 rfl jz Tryz.underlying27 rfl (by kernel_rfl)) rfl ?_
    have hb2 : Below w.heap.size w w1 := hb0.trans (hb1.mono hb0.size)
    rw [HQ2.out]
    exact ⟨zeroV, [], rfl, own_zero _ _, hb2.trans (hfz.below hb2.size (by simp))⟩
end Go.Proofs.YtejpdbiiikcmmaaGreatDoor.Vd
