/- The program's sortRules: rules by their names, with their words tidy. -/
import Derived.Deep.DrawnRows
import Derived.Deep.MidRow
import Derived.Test.YteikagdinecfoaaGreatDoorSk
import Derived.Test.YteikagdinecfoaaGreatDoorLower
set_option linter.unusedVariables false
set_option linter.unusedSimpArgs false
namespace Go.Proofs.YteikagdinecfoaaGreatDoor.Sr
open Go.RowKit Lb Gr Pd Fl Go.Proofs.YteikagdinecfoaaGreatDoor.Pm Bk Ha Go.Proofs.YteikagdinecfoaaGreatDoor.So Go.Proofs.YteikagdinecfoaaGreatDoor.Rs Go.Proofs.YteikagdinecfoaaGreatDoor.Or Go.Proofs.YteikagdinecfoaaGreatDoor.Sf Go.Proofs.YteikagdinecfoaaGreatDoor.Sk Lw
attribute [local go_sem ↓] Go.wp_at_zero Go.wp_at_succ

/-- what a machine's int holds -/
def OkW (l : List RuleD) : Prop := l.length < 4611686018427387904 ∧ ∀ i (h : i < l.length), (l[i]).words.length < 4611686018427387904 ∧ ∀ j (hj : j < (l[i]).words.length), ((l[i]).words[j]).size ≤ maxLen
theorem set3 {xs : List Value} {k n : Nat} {a b d : Value} (hl : xs.length = n * 3) (hk : k < n) (h0 : xs[k * 3]? = some a) (h1 : xs[k * 3 + 1]? = some b) : xs.take (k * 3) ++ [a, b, d] ++ xs.drop ((k + 1) * 3) = xs.set (k * 3 + 2) d := by
  have e : xs = xs.take (k * 3) ++ [a, b] ++ xs.drop (k * 3 + 2) := by
    have h2 : xs.drop (k * 3) = a :: b :: xs.drop (k * 3 + 2) := by
      obtain ⟨p0, rfl⟩ := List.getElem?_eq_some_iff.1 h0
      obtain ⟨p1, rfl⟩ := List.getElem?_eq_some_iff.1 h1
      rw [List.drop_eq_getElem_cons p0, List.drop_eq_getElem_cons p1]
    rw [List.append_assoc]
    show xs = xs.take (k * 3) ++ (a :: b :: xs.drop (k * 3 + 2))
    rw [← h2, List.take_append_drop]
  have hlt : k * 3 + 2 < xs.length := by omega
  have h3 : xs.drop (k * 3 + 2) = xs[k * 3 + 2] :: xs.drop (k * 3 + 3) := List.drop_eq_getElem_cons hlt
  have hlen : (xs.take (k * 3) ++ [a, b]).length = k * 3 + 2 := by simp; omega
  conv => rhs; rw [e]
  rw [List.set_append_right _ _ (by omega), hlen, Nat.sub_self, h3, List.set_cons_zero]
  rw [show (k + 1) * 3 = k * 3 + 3 by omega]
  simp
theorem set2 {xs : List Value} {k n : Nat} {a b : Value} (hl : xs.length = n * 2) (hk : k < n) (h0 : xs[k * 2]? = some a) (h1 : xs[k * 2 + 1]? = some b) : xs.take (k * 2) ++ [a, b] ++ xs.drop ((k + 1) * 2) = xs := by
  have h2 : xs.drop (k * 2) = a :: b :: xs.drop (k * 2 + 2) := by
    obtain ⟨p0, rfl⟩ := List.getElem?_eq_some_iff.1 h0
    obtain ⟨p1, rfl⟩ := List.getElem?_eq_some_iff.1 h1
    rw [List.drop_eq_getElem_cons p0, List.drop_eq_getElem_cons p1]
  rw [List.append_assoc, show (k + 1) * 2 = k * 2 + 2 by omega]
  show xs.take (k * 2) ++ (a :: b :: xs.drop (k * 2 + 2)) = xs
  rw [← h2, List.take_append_drop]
/-- a rule's words turned, in its row -/
theorem close3 {w5 : World} {B g n c k : Nat} {xs : List Value} {r : RuleD} (hk : k < n) (hxs : w5.ownsRow B fmR.e fmR.size (.slice (some ⟨g, 0, none⟩) n c) n xs) (hxl : xs.length = n * fmR.size)
    (h0 : w5.cell? ⟨g, k * 3, none⟩ = some (.string r.name)) (h1 : w5.cell? ⟨g, k * 3 + 1, none⟩ = some (.int .i64 r.kind)) (u5 : Value) :
    (w5.setCell ⟨g, k * 3 + 2, none⟩ u5).ownsRow B fmR.e fmR.size (.slice (some ⟨g, 0, none⟩) n c) n (xs.take (k * fmR.size) ++ fmR.enc (tidyR r) u5 ++ xs.drop ((k + 1) * fmR.size)) := by
  have hs : fmR.size = 3 := rfl
  have g0 := hxs.cellAt (k * 3) (by rw [hs]; omega)
  have g1 := hxs.cellAt (k * 3 + 1) (by rw [hs]; omega)
  rw [h0] at g0
  rw [h1] at g1
  have g2 := (hxs.stored (k * 3 + 2) u5).1
  rw [← set3 (n := n) hxl hk g0.symm g1.symm] at g2
  exact g2
/-- the first k turned -/
def mixed {α : Type} (f : α → α) (l : List α) (k : Nat) : List α := (l.take k).map f ++ l.drop k
theorem mixed_len {α : Type} (f : α → α) (l : List α) (k : Nat) : (mixed f l k).length = l.length := by
  unfold mixed; rw [List.length_append, List.length_map, List.length_take, List.length_drop]; omega
theorem mixed_at? {α : Type} {f : α → α} {l : List α} {k : Nat} (h : k < l.length) : (mixed f l k)[k]? = some l[k] := by
  have hl : ((l.take k).map f).length = k := by rw [List.length_map, List.length_take]; omega
  unfold mixed
  rw [List.getElem?_append_right (by omega), hl, Nat.sub_self, List.drop_eq_getElem_cons h]
  rfl
theorem mixed_at {α : Type} {f : α → α} {l : List α} {k : Nat} (h : k < l.length) (h' : k < (mixed f l k).length) : (mixed f l k)[k] = l[k] := by
  obtain ⟨_, h2⟩ := List.getElem?_eq_some_iff.1 (mixed_at? (f := f) h)
  exact h2
theorem mixed_set {α : Type} {f : α → α} {l : List α} {k : Nat} (h : k < l.length) : (mixed f l k).set k (f l[k]) = mixed f l (k + 1) := by
  have hl : ((l.take k).map f).length = k := by rw [List.length_map, List.length_take]; omega
  unfold mixed
  rw [List.set_append_right _ _ (by omega), hl, Nat.sub_self, List.drop_eq_getElem_cons h, List.set_cons_zero, List.take_succ_eq_append_getElem h, List.map_append, List.append_assoc]
  rfl
theorem mixed_0 {α : Type} (f : α → α) (l : List α) : mixed f l 0 = l := by simp [mixed]
theorem mixed_all {α : Type} (f : α → α) (l : List α) : mixed f l l.length = l.map f := by simp [mixed]

set_option maxHeartbeats 4000000 in
set_option maxRecDepth 100000 in
theorem sortRulesC {l : List RuleD} {v : Value} {F : List Nat} {B : Nat} (w : World) (h : kdR.own w B v l F) (hnd : (l.map RuleD.name).Nodup) (hok : OkW l) : Calls Tryz.prog 127 #[v] w fun e w' =>
    e = .returned (.tuple #[]) ∧ ∃ F', kdR.own w' B v (tidyRs l) F' ∧ (∀ k ∈ F', k ∈ F) ∧ Fr F w w' := by
  obtain ⟨A, c, rfl, hc1, hc2⟩ := fmR.own_form h
  obtain ⟨hl, hw⟩ := hok
  have HW := Lib.hid hw
  have hlen : (l.length : Int) ≤ 9223372036854775807 := by omega
  have h0 : Hid (kdR.own w B (.slice A l.length c) (mixed tidyR l 0) F ∧ (∀ x ∈ F, x ∈ F) ∧ Fr F w w) := Lib.hid ⟨by rw [mixed_0]; exact h, fun _ h => h, Fr.refl _ _⟩
  have HND := Lib.hid hnd
  clear h hw hnd
  go_enter Tryz.func127, Tryz.ntmps127
  go_wp2
  go_loopw [7] (fun i wr => ∃ (k : Nat) (Fc : List Nat), k ≤ l.length ∧ i = .int .i64 k ∧ Hid (kdR.own wr B (.slice A l.length c) (mixed tidyR l k) Fc ∧ (∀ x ∈ Fc, x ∈ F) ∧ Fr F w wr)) (fun i _ => l.length - (intOf i).toNat)
  case atStart => exact ⟨0, F, by omega, rfl, h0⟩
  case round =>
    obtain ⟨k, Fc, hk, rfl, hst⟩ := hrel
    by_cases hlt : k < l.length
    · obtain ⟨w1, rfl⟩ : ∃ w1, w1 = wr := ⟨_, rfl⟩
      have hml := mixed_len tidyR l k
      obtain ⟨g, cap, u, G, hv, hBg, hgw, hsub, hgF, hgG, hGF, hcells, hfz, hclose⟩ := fmR.own_at hst.out.1 (i := k) (by omega)
      rw [mixed_at hlt (by omega)] at hsub hcells
      injection hv with e1 e2 e3
      subst e1 e3
      have hsub' : kdW.own w1 B u l[k].words G := hsub
      obtain ⟨A2, c2, rfl, hq1, hq2⟩ := own_slice hsub'.1
      have HCL := Lib.hid hclose
      have x2 := hcells 2 _ rfl
      have x0 := hcells 0 _ rfl
      have x1 := hcells 1 _ rfl
      rw [show k * fmR.size + 0 = k * 3 from rfl] at x0
      rw [show k * fmR.size + 1 = k * 3 + 1 from rfl] at x1
      rw [show k * fmR.size + 2 = k * 3 + 2 from rfl] at x2
      have HX0 := Lib.hid x0
      have HX1 := Lib.hid x1
      obtain ⟨hwl, hws⟩ := HW.out k hlt
      obtain ⟨ws, hwsd⟩ : ∃ ws, ws = l[k].words := ⟨_, rfl⟩
      rw [← hwsd] at hwl hq1 x2
      have HWS : Hid (∀ j (hj : j < ws.length), ws[j].size ≤ maxLen) := Lib.hid (by subst hwsd; exact hws)
      have h1 : Hid (kdW.own w1 B (.slice A2 ws.length c2) (mixed lowS ws 0) G ∧ Fr G w1 w1) := Lib.hid ⟨by rw [mixed_0, hwsd]; exact hsub', Fr.refl _ _⟩
      have HWD := Lib.hid hwsd
      have hfzk := hfz (k * 3 + 2)
      have HFZ := Lib.hid hfz
      have hwi : (ws.length : Int) ≤ 9223372036854775807 := by omega
      clear hsub hsub' hcells hclose hwsd hws hfz e2 x0 x1 hfzk
      go_wp2
      go_loopw [16] (fun i wr => ∃ j : Nat, j ≤ ws.length ∧ i = .int .i64 j ∧ Hid (kdW.own wr B (.slice A2 ws.length c2) (mixed lowS ws j) G ∧ Fr G w1 wr)) (fun i _ => ws.length - (intOf i).toNat)
      case atStart => exact ⟨0, by omega, rfl, h1⟩
      case round =>
        obtain ⟨j, hj, rfl, hin⟩ := hrel
        have z0 : wr.cell? ⟨g, k * 3 + 2, none⟩ = some (.slice A2 ws.length c2) := (World.cell?_of_block (a := ⟨g, k * 3 + 2, none⟩) (hin.out.2.block g hgw hgG)).trans x2
        by_cases hltj : j < ws.length
        · obtain ⟨b, e9, hBb, hbw, hfzb, hcj, _⟩ := Own.store (B := B) (n := ws.length) (c := c2) (l := mixed lowS ws j) hin.out.1.1 (j := j) (by rw [mixed_len]; exact hltj) (lowS ws[j])
          subst e9
          rw [mixed_at hltj (by rw [mixed_len]; exact hltj)] at hcj
          have hgb : g ≠ b := fun e => hgG (by rw [hin.out.1.2, e]; simp [Value.ownBlock])
          have HL : Hid (∀ W, Calls Tryz.prog 160 #[.string ws[j]] W fun e w' => e = .returned (.string (lowS ws[j])) ∧ Below W.heap.size W w') := Lib.hid fun W => nLower ws[j] W (HWS.out j hltj)
          have hgq : g < wr.heap.size := Nat.lt_of_lt_of_le hgw hin.out.2.size
          obtain ⟨s, hs⟩ : ∃ s, s = ws[j] := ⟨_, rfl⟩
          obtain ⟨s2, hs2⟩ : ∃ s2, s2 = lowS ws[j] := ⟨_, rfl⟩
          rw [← hs] at hcj HL
          have HS2 : Hid (s2 = lowS ws[j]) := Lib.hid hs2
          have HL2 : Hid (∀ W, Calls Tryz.prog 160 #[.string s] W fun e w' => e = .returned (.string s2) ∧ Below W.heap.size W w') := Lib.hid (by rw [hs2, ← hs]; exact HL.out)
          have HIN := hin
          clear HL hs hs2
          go_upto_region 6 with fail
          go_region_held3 (fun W' => W'.cell? ⟨g, k * 3 + 2, none⟩ = some (.slice (some ⟨b, 0, none⟩) ws.length c2))
            (first | exact z0 | exact z1 | exact z2)
            (first | (go_at_call 160; refine (HL2.out _).mono ?_; rintro e w3 ⟨rfl, hb3⟩; have hb4 : Below wr.heap.size wr w3 := (drw wr 1).trans hb3; have z1 := (hb4.cell (p := ⟨g, k * 3 + 2, none⟩) hgq).trans z0; have ho3 : Own w3 B (.slice (some ⟨b, 0, none⟩) ws.length c2) (mixed lowS ws j) := Own.below HIN.out.1.1 hb4; have s1 := (hb4.cell (p := ⟨b, j, none⟩) hbw).trans hcj; have s3 := (hb4.frozen (p := ⟨b, j, none⟩) hbw).trans hfzb; have z2 : (w3.setCell ⟨b, j, none⟩ (.string s2)).cell? ⟨g, k * 3 + 2, none⟩ = some (.slice (some ⟨b, 0, none⟩) ws.length c2) := (World.cell?_of_block (a := ⟨g, k * 3 + 2, none⟩) (Below.heap_setCell w3 ⟨b, j, none⟩ (.string s2) g hgb)).trans z1))
          have hnew : Hid (kdW.own (w3.setCell ⟨b, j, none⟩ (.string s2)) B (.slice (some ⟨b, 0, none⟩) ws.length c2) (mixed lowS ws (j + 1)) G ∧ Fr G w1 (w3.setCell ⟨b, j, none⟩ (.string s2))) := Lib.hid (by
            have h9 := own_set ho3 (by rw [mixed_len]; exact hltj) s2
            rw [HS2.out, mixed_set hltj, ← HS2.out] at h9
            exact ⟨⟨h9, HIN.out.1.2⟩, (HIN.out.2.trans (Fr.of_below hb4)).trans (Fr.setCell _ _ _ (.inl (by rw [HIN.out.1.2]; simp [Value.ownBlock])))⟩)
          go_wp2
          go_roundw
          case rel => exact ⟨j + 1, by omega, by go_num, hnew⟩
          case measure => simp [intOf] <;> omega
        · obtain rfl : j = ws.length := by omega
          have hfin := hin.out
          rw [mixed_all] at hfin
          have HS := Lib.hid (sortW hfin.1 (by rw [List.length_map]; omega))
          have hgq : g < wr.heap.size := Nat.lt_of_lt_of_le hgw hfin.2.size
          have HF2 := Lib.hid hfin.2
          clear hfin
          go_wp2_with (first
            | (go_at_call 95; refine HS.out.mono ?_; rintro e w4 ⟨rfl, ho4, hf4⟩; have z1 := (World.cell?_of_block (a := ⟨g, k * 3 + 2, none⟩) (hf4.block g hgq hgG)).trans z0; have hg4 := Nat.lt_of_lt_of_le hgq hf4.size)
            | (go_at_call 174; refine (compactW ho4).mono ?_; rintro e w5 ⟨u5, rfl, ho5, hf5⟩; obtain ⟨A5, c5, rfl, _⟩ := own_slice ho5.1; have z2 := (World.cell?_of_block (a := ⟨g, k * 3 + 2, none⟩) (hf5.block g hg4 hgG)).trans z1; have y2 := (World.frozen?_of_block (a := ⟨g, k * 3 + 2, none⟩) (hf5.block g hg4 hgG)).trans ((World.frozen?_of_block (a := ⟨g, k * 3 + 2, none⟩) (hf4.block g hgq hgG)).trans ((World.frozen?_of_block (a := ⟨g, k * 3 + 2, none⟩) (HF2.out.block g hgw hgG)).trans (HFZ.out (k * 3 + 2))))))
          obtain ⟨n5, hn5⟩ : ∃ n5, n5 = (onceL (srt (ws.map lowS))).length := ⟨_, rfl⟩
          have hfw : Fr G w1 w5 := (HF2.out.trans hf4).trans hf5
          have hg5 := Nat.lt_of_lt_of_le hg4 hf5.size
          have hE := HCL.out w5 (tidyR l[k]) (.slice A5 (onceL (srt (ws.map lowS))).length c5) G (hfw.block g hgw hgG) hfw.size (fun x hx hxG => hfw.block x ((kdR.ge hst.out.1 x hx).2) hxG) (by show kdW.own w5 B _ (onceL (srt (l[k].words.map lowS))) G; rw [← HWD.out]; exact ho5) (fun x hx => .inl hx) (w5.setCell ⟨g, k * 3 + 2, none⟩ (.slice A5 (onceL (srt (ws.map lowS))).length c5)) (by simp [World.setCell]) (fun x hx => Below.heap_setCell w5 ⟨g, k * 3 + 2, none⟩ _ x hx) (fun xs hxs hxl => by
            rw [hml] at hxs hxl ⊢
            exact close3 hlt hxs hxl ((World.cell?_of_block (a := ⟨g, k * 3, none⟩) (hfw.block g hgw hgG)).trans HX0.out) ((World.cell?_of_block (a := ⟨g, k * 3 + 1, none⟩) (hfw.block g hgw hgG)).trans HX1.out) _)
          obtain ⟨F5, hF5, hm5⟩ := hE
          rw [mixed_set hlt] at hF5
          have hrel2 : Hid (kdR.own (w5.setCell ⟨g, k * 3 + 2, none⟩ (.slice A5 (onceL (srt (ws.map lowS))).length c5)) B (.slice (some ⟨g, 0, none⟩) l.length c) (mixed tidyR l (k + 1)) F5 ∧ (∀ x ∈ F5, x ∈ F) ∧ Fr F w (w5.setCell ⟨g, k * 3 + 2, none⟩ (.slice A5 (onceL (srt (ws.map lowS))).length c5))) :=
            Lib.hid ⟨hF5, fun x hx => (hm5 x hx).elim (hst.out.2.1 x) (fun h => hst.out.2.1 x (hGF x h)), (hst.out.2.2.trans (hfw.mono fun x hx => hst.out.2.1 x (hGF x hx))).trans (Fr.setCell _ _ _ (.inl (hst.out.2.1 g hgF)))⟩
          clear hF5 hm5 hfw ho5 hf5 ho4 hf4 hn5
          go_roundw
          case rel => exact ⟨k + 1, F5, by omega, by go_num, hrel2⟩
          case measure => simp [intOf] <;> omega
    · obtain rfl : k = l.length := by omega
      have hfin := hst.out
      rw [mixed_all] at hfin
      have HS := Lib.hid (sortRuC hfin.1 (by
        have e : (l.map tidyR).map RuleD.name = l.map RuleD.name := by rw [List.map_map]; rfl
        rw [e]; exact HND.out) (by rw [List.length_map]; exact hl))
      go_wp2_with (go_at_call 175; refine HS.out.mono ?_; rintro e w4 ⟨rfl, F4, ho4, hm4, hf4⟩)
      go_end0
      exact ⟨rfl, F4, ho4, fun x hx => hfin.2.1 x ((hm4 x).1 hx), hfin.2.2.trans (hf4.mono hfin.2.1)⟩
end Go.Proofs.YteikagdinecfoaaGreatDoor.Sr
