/- The law's copied: rules in new memory. -/
import Derived.Deep.DrawnRows
import Derived.Deep.MidRow
import Derived.Test.YteikagdinecfoaaGreatDoorEs
set_option linter.unusedVariables false
set_option linter.unusedSimpArgs false
namespace Go.Proofs.YteikagdinecfoaaGreatDoor.Lc
open Go.RowKit Lb Gr Pd Fl Go.Proofs.YteikagdinecfoaaGreatDoor.Pm Bk Ru
attribute [local go_sem ↓] Go.wp_at_zero Go.wp_at_succ
/-- what is read, to be appended -/
theorem rd_src {w : World} {lo hi n c : Nat} {A : Option Addr} {l : List ByteArray} (h : kdW.rd w lo hi (.slice A n c) l) : 0 < (l.map Value.string).length → ∃ b off, A = some ⟨b, off, none⟩ ∧ ∀ j u, (l.map Value.string)[j]? = some u → w.cell? ⟨b, off + j, none⟩ = some u := fun hp => by
  obtain ⟨A', c', hv, _, _, h3⟩ := h
  injection hv with e1 e2 e3
  subst e1
  obtain ⟨b, off, rfl, _, _, hc⟩ := h3 hp
  exact ⟨b, off, rfl, hc⟩
theorem own_empty (W : World) (g : Nat) (h : W.heap.size = g) : (W.alloc (.cells #[] 9 (0, 0))).ownsRow g 9 1 (.slice (some ⟨g, 0, none⟩) 0 0) 0 [] := by
  subst h
  exact ⟨rfl, .inr ⟨_, 0, #[], rfl, Nat.le_refl _, heap_alloc_new W _, Nat.le_refl _, by simp, rfl, rfl⟩⟩
set_option maxHeartbeats 2000000 in
set_option maxRecDepth 100000 in
theorem lCopiedC (l : List RuleD) (v : Value) (w : World) (h : kdR.rd w 0 w.heap.size v l) (hf : FitR l) : Calls Tryz.prog 53 #[v] w fun e w' =>
    ∃ v' F, e = .returned v' ∧ kdR.own w' w.heap.size v' l F ∧ Below w.heap.size w w' := by
  obtain ⟨i0, hi, hz0, hz1, hz2⟩ := info_parts infoRule
  obtain ⟨j0, hj, hw0, hw1, hw2⟩ := info_parts infoStr
  obtain ⟨A, c, rfl, hc1, hc2⟩ := fmR.rd_form h
  obtain ⟨hf1, hf2⟩ := hf
  have HF2 := Lib.hid hf2
  have HRD : Hid (∀ W, Below w.heap.size w W → kdR.rd W 0 w.heap.size (.slice A l.length c) l) := Lib.hid fun W hW => rd_below h hW (Nat.le_refl _)
  clear h hf2
  have hlen : (l.length : Int) ≤ 9223372036854775807 := by omega
  go_enter Tryz.func53, Tryz.ntmps53
  go_wp2
  go_loopw [3, 8] (fun v3 i wr => ∃ (k : Nat) (T : List (It RuleD)), k ≤ l.length ∧ i = .int .i64 k ∧ Hid (T.map (·.a) = l.take k ∧ wr.ownsRow w.heap.size 50 3 v3 T.length (fmR.cells T) ∧ (∀ t ∈ T, kdW.own wr w.heap.size t.v t.a.words t.G) ∧ (v3.ownBlock.toList ++ outG T).Nodup) ∧ Below w.heap.size w wr) (fun _ i _ => l.length - (intOf i).toNat)
  case atStart => exact ⟨0, [], by omega, rfl, Lib.hid ⟨rfl, World.ownsRow_nil _ _ _ _, by simp, by simp [Value.ownBlock, outG]⟩, Below.refl _ _⟩
  case round =>
    obtain ⟨k, T, hk, rfl, hown, hnx⟩ := hrel
    by_cases hlt : k < l.length
    · obtain ⟨b, off, u, rfl, hb1, hb2, hu, hcell⟩ := fmR.rd_at (HRD.out _ hnx) hlt
      have c0 := hcell 0 _ rfl
      have c1 := hcell 1 _ rfl
      have c2 := hcell 2 _ rfl
      rw [show off + (k * fmR.size + 0) = off + k * 3 from rfl] at c0
      rw [show off + (k * fmR.size + 1) = off + k * 3 + 1 from by show off + (k * 3 + 1) = _; omega] at c1
      rw [show off + (k * fmR.size + 2) = off + k * 3 + 2 from by show off + (k * 3 + 2) = _; omega] at c2
      obtain ⟨A1, cc1, rfl, _⟩ := rdW_form hu
      clear hcell
      have hk0 : (0 : Int) ≤ (k : Int) := by omega
      have hown0 : ∀ (W : World) (g : Nat), W.heap.size = g → (W.alloc (.cells #[] 9 (0, 0))).ownsRow g 9 1 (.slice (some ⟨g, 0, none⟩) 0 0) 0 [] := fun W g hg => own_empty W g hg
      go_upto_region 5 with fail
      obtain ⟨W0, hW0⟩ : ∃ W, W = wr.alloc (.cells #[.string l[k].name, .int .i64 l[k].kind, .slice A1 (fmR.sub l[k]).length cc1] 50) := ⟨_, rfl⟩
      have hb0 : Below wr.heap.size wr W0 := hW0 ▸ (Below.refl _ _).alloc (Nat.le_refl _) _
      have k0 : Bl W0 wr.heap.size 50 [.string l[k].name, .int .i64 l[k].kind, .slice A1 (fmR.sub l[k]).length cc1] := hW0 ▸ Bl.new wr _ _ rfl
      have hs0 : W0.heap.size = wr.heap.size + 1 := by rw [hW0]; simp
      have ho0 := hown0 W0 (wr.heap.size + 1) hs0
      have k1 := k0.alloc (.cells #[] 9)
      have x2 := k1.cell 2 rfl
      rw [← hW0]
      have HX := Lib.hid hW0
      clear hW0 hown0
      have hu' : kdW.rd wr 0 w.heap.size (.slice A1 l[k].words.length cc1) l[k].words := hu
      have hzz := hnx.size
      have hb1' : Below wr.heap.size wr (W0.alloc (.cells #[] 9)) := hb0.alloc hb0.size _
      have hsrc := Lib.hid (rd_src (kdW.stay hu' fun j _ hj => hb1'.block j (by omega)))
      have hwl := HF2.out k hlt
      have r1 : 0 + l[k].words.length ≤ maxLen := by unfold maxLen; omega
      have r2 : (0 + l[k].words.length) * 16 ≤ 140737488355328 := by omega
      have hTl := map_take hown.out.1 hk
      have g1 : T.length + 1 ≤ maxLen := by unfold maxLen; omega
      have g2 : (T.length + 1) * 48 ≤ 140737488355328 := by omega
      have HTL := Lib.hid hTl
      clear hu hu' hTl c0 c1 c2
      obtain ⟨rn, hrn⟩ : ∃ rn, rn = l[k].name := ⟨_, rfl⟩
      obtain ⟨rk, hrk⟩ : ∃ rk, rk = l[k].kind := ⟨_, rfl⟩
      obtain ⟨ws, hws⟩ : ∃ ws, ws = l[k].words := ⟨_, rfl⟩
      have hsub : fmR.sub l[k] = ws := hws.symm
      rw [hsub] at k0 k1 x2
      rw [← hws] at hsrc hwl r1 r2
      rw [← hrn, ← hrk] at k0 k1
      have HE : Hid ((⟨rn, rk, ws⟩ : RuleD) = l[k]) := Lib.hid (by rw [hrn, hrk, hws])
      have HX2 : Hid (W0 = wr.alloc (.cells #[.string rn, .int .i64 rk, .slice A1 ws.length cc1] 50)) := Lib.hid (by rw [HX.out, hrn, hrk, hws]; rfl)
      clear hrn hrk hws hsub
      go_upto_region 6 with (at_builtin; go_loud (refine wpList_append_src _ rfl (.tmp 12) (.tmp 14) 27 rfl (wr.heap.size + 1) 9 j0 _ 1 16 Tryz.underlying27 hj hw0 hw1 hw2 rfl (by decide) _ _ _ rfl ho0 A1 ws.length cc1 (ws.map Value.string) rfl (by simp) hsrc.out (by simp [Value.oneCell']) r1 r2 (by simp; omega) ?_; intro v9 w9 hown9 hgrow9 hrow9; rw [Nat.zero_add, List.nil_append] at hown9; obtain ⟨A2, c3, rfl, _⟩ := own_slice hown9; have k9 := k1.of (hgrow9.block _ k1.lt (fun e => by have h7 : wr.heap.size = wr.heap.size + 1 := Option.some.inj e; omega)); have y2 := k9.cell 2 rfl; have y3 := k9.fz 2; have k10 := k9.set 2 (.slice A2 ws.length c3); have z0 := k10.cell 0 rfl; have z1 := k10.cell 1 rfl; have z2 := k10.cell 2 rfl))
      obtain ⟨W2, hW2⟩ : ∃ W, W = w9.setCell ⟨wr.heap.size, 2, none⟩ (.slice A2 ws.length c3) := ⟨_, rfl⟩
      have hfr : Fr [wr.heap.size] w9 W2 := hW2 ▸ Fr.setCell _ _ _ (.inl (by simp))
      have hb9 : Below wr.heap.size wr w9 := hb1'.grown hgrow9 (by simp; omega) (fun j hj => by have h7 : wr.heap.size + 1 = j := Option.some.inj hj; omega)
      have hb3 : Below wr.heap.size wr W2 := hb9.trans (hfr.below hb9.size (by simp))
      have hwords : kdW.own W2 wr.heap.size (.slice A2 ws.length c3) ws (Value.slice A2 ws.length c3).ownBlock.toList := by
        have q : kdW.own w9 (wr.heap.size + 1) (.slice A2 ws.length c3) ws (Value.slice A2 ws.length c3).ownBlock.toList := ⟨hown9, rfl⟩
        exact kdW.low (kdW.keep q hfr.size fun j hj => hfr.block j (kdW.ge q j hj).2 (by have := (kdW.ge q j hj).1; simp; omega)) (by omega)
      have how := own_stay hown.out.2.1 (w' := W2) (fun k hk => hb3.block k (own_ge2 hown.out.2.1 k hk).2)
      have hsz2 := hb3.size
      rw [← hW2] at k10 z0 z1 z2 ⊢
      clear hW2 y2 y3
      go_wp2_with (at_builtin; refine wpList_append_src _ rfl (.tmp 17) (.tmp 19) 26 rfl w.heap.size 50 i0 _ 3 48 Tryz.underlying26 hi hz0 hz1 hz2 rfl (by decide) _ _ _ rfl (how.alloc _) (some ⟨W2.heap.size, 0, none⟩) 1 1 [.string rn, .int .i64 rk, .slice A2 ws.length c3] rfl rfl (news_src W2 _ _) (by simp [Value.oneCell']) g1 g2 (by simp; omega) ?_; intro v8 w8 hown8 hgrow8 hrow8)
      have hp := fmR.push (t := ⟨⟨rn, rk, ws⟩, .slice A2 ws.length c3, _⟩) hown.out.2.1 hown.out.2.2.1 hown.out.2.2.2 hb3 hzz hwords hown8 hgrow8 hrow8
      obtain ⟨T2, hT2, ho9, hs9, hF9, hn9⟩ := hp
      have hb8 : Below w.heap.size w w8 := ((hnx.trans (hb3.mono hzz)).alloc (by omega) _).grown hgrow8 (by simp; omega) (fun j hj => (hown.out.2.1.lt j hj).1)
      go_roundw
      case rel => exact ⟨k + 1, T2, by omega, by go_num, Lib.hid ⟨by rw [hT2, hown.out.1, List.take_succ_eq_append_getElem hlt, HE.out], ho9, hs9, hF9 ▸ hn9⟩, hb8⟩
      case measure => simp [intOf] <;> omega
    · obtain rfl : k = l.length := by omega
      go_wp2
      go_ret
      obtain ⟨h1, h2, h3, h4⟩ := hown.out
      exact ⟨_, _, rfl, ⟨T, by rw [h1, List.take_length], h2, h3, rfl, h4⟩, hnx⟩
end Go.Proofs.YteikagdinecfoaaGreatDoor.Lc
