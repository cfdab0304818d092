/- The reference's Names, rising and Close. -/
import Derived.Test.YtjhimmljanbjcaaGreatDoorRg
import Derived.Test.YtjhimmljanbjcaaGreatDoorCn
import Derived.Test.YtjhimmljanbjcaaGreatDoorSp
set_option linter.unusedVariables false
set_option linter.unusedSimpArgs false
namespace Go.Proofs.YtjhimmljanbjcaaGreatDoor.Rd
open Go.RowKit Lb Gr Pd Fl Go.Proofs.YtjhimmljanbjcaaGreatDoor.Pm Bk Ru Lc Is Go.Proofs.YtjhimmljanbjcaaGreatDoor.So Go.Proofs.YtjhimmljanbjcaaGreatDoor.Rs Go.Proofs.YtjhimmljanbjcaaGreatDoor.Cn
attribute [local go_sem ↓] Go.wp_at_zero Go.wp_at_succ

set_option maxHeartbeats 4000000 in
set_option maxRecDepth 100000 in
theorem rNamesC (x : Vs) (p : PolD) (w : World) (h : RdP w 0 w.heap.size x p) (hl : p.els.length * 16 ≤ 140737488355328) : Calls Tryz.prog 46 #[polV x p] w fun e w' =>
    ∃ A c, e = .returned (.slice A (nms p).length c) ∧ Own w' w.heap.size (.slice A (nms p).length c) (nms p) ∧ Below w.heap.size w w' := by
  obtain ⟨j0, hj, jw0, jw1, jw2⟩ := info_parts infoStr
  obtain ⟨A1, c1, A2, c2, A3, c3, A4, c4, rfl, q1, q2, q3, q4, q5, q6, q7, q8⟩ := h.form
  have HRD : Hid (∀ W, Below w.heap.size w W → kdE.rd W 0 w.heap.size (.slice A1 p.els.length c1) p.els) := Lib.hid fun W hW => (h.stay (stay_below hW (Nat.le_refl _))).1
  obtain ⟨N, hN⟩ : ∃ N, N = nms p := ⟨_, rfl⟩
  rw [← hN]
  have hNl : N.length = p.els.length := by rw [hN]; simp [nms]
  have HNK : Hid (∀ k (h : k < p.els.length) (h2 : k < N.length), N[k] = p.els[k].name) := Lib.hid (by subst hN; intro k h h2; simp [nms])
  have hn : (p.els.length : Int) ≤ 9223372036854775807 := by omega
  clear h hN q1 q2 q3 q4 q5 q6 q7 q8
  unfold polV
  obtain ⟨W0, hW0⟩ : ∃ W, W = w.alloc (.cells #[.slice A1 p.els.length c1, .slice A2 p.glob.length c2, .slice A3 p.schemes.length c3, .bool p.rel, .slice A4 p.drop.length c4, .int .i64 p.depth, .int .i64 p.window] 26) := ⟨_, rfl⟩
  have hb0 : Below w.heap.size w W0 := hW0 ▸ (Below.refl _ _).alloc (Nat.le_refl _) _
  have k0 : Bl W0 w.heap.size 26 [.slice A1 p.els.length c1, .slice A2 p.glob.length c2, .slice A3 p.schemes.length c3, .bool p.rel, .slice A4 p.drop.length c4, .int .i64 p.depth, .int .i64 p.window] := hW0 ▸ Bl.new w _ _ rfl
  have g0 := k0.cell 0 rfl
  have HX0 := Lib.hid hW0
  clear hW0 k0
  go_enter Tryz.func46, Tryz.ntmps46
  go_upto_region 1 with fail
  rw [← HX0.out]
  go_wp2
  go_loopw [3, 9] (fun v i wr => ∃ k : Nat, k ≤ p.els.length ∧ i = .int .i64 k ∧ Hid (Own wr w.heap.size v (N.take k)) ∧ Below w.heap.size w wr) (fun _ i _ => p.els.length - (intOf i).toNat)
  case atStart => exact ⟨0, by omega, rfl, Lib.hid (by rw [List.take_zero]; exact Own.nil _ _), hb0⟩
  case round =>
    clear g0
    obtain ⟨k, hk, rfl, hst, hnx⟩ := hrel
    have hzr := hnx.size
    obtain ⟨A7, c7, rfl⟩ := hst.out.form
    have htl : (N.take k).length = k := by rw [List.length_take]; omega
    by_cases hlt : k < p.els.length
    · obtain ⟨b, off, u, rfl, _, hb2, hu, hcell⟩ := fmE.rd_at (HRD.out _ hnx) hlt
      have x0 := hcell 0 _ rfl
      have x1 := hcell 1 _ rfl
      rw [show off + (k * fmE.size + 0) = off + k * 2 from rfl] at x0
      rw [show off + (k * fmE.size + 1) = off + k * 2 + 1 from by show off + (k * 2 + 1) = _; omega] at x1
      obtain ⟨A5, c5, rfl, _⟩ := fmR.rd_form hu
      have hk0 : (0 : Int) ≤ (k : Int) := by omega
      have hk1 : (k : Int) < (p.els.length : Int) := by omega
      have hkN : k < N.length := by omega
      have hnk := Lib.hid (HNK.out k hlt hkN)
      obtain ⟨nm, hnm⟩ : ∃ nm, nm = p.els[k].name := ⟨_, rfl⟩
      rw [← hnm] at x0 hnk
      have how := hst.out
      have HTL := Lib.hid htl
      have r1 : (N.take k).length + 1 ≤ maxLen := by unfold maxLen; omega
      have r2 : ((N.take k).length + 1) * 16 ≤ 140737488355328 := by omega
      clear hcell hu hnm htl
      go_upto_region 5 with fail
      obtain ⟨W2, hW2⟩ : ∃ W, W = wr.alloc (.cells #[.string nm, .slice A5 (fmE.sub p.els[k]).length c5] 45) := ⟨_, rfl⟩
      have hb3 : Below wr.heap.size wr W2 := hW2 ▸ (Below.refl _ _).alloc (Nat.le_refl _) _
      have k5 : Bl W2 wr.heap.size 45 [.string nm, .slice A5 (fmE.sub p.els[k]).length c5] := hW2 ▸ Bl.new wr _ _ rfl
      have y0 := k5.cell 0 rfl
      have how2 := how.below hb3
      have hz2 := hb3.size
      rw [← hW2]
      have HX2 := Lib.hid hW2
      clear hW2 x0 x1 k5
      go_wp2_with (at_builtin; refine wpList_append_src _ rfl (.tmp 13) (.tmp 16) 24 rfl w.heap.size 9 j0 _ 1 16 Tryz.underlying24 hj jw0 jw1 jw2 rfl (by decide) _ _ _ rfl (how2.alloc _) (some ⟨W2.heap.size, 0, none⟩) 1 1 [.string nm] rfl rfl (news_src W2 _ _) (by simp [Value.oneCell']) r1 r2 (by simp; omega) ?_; intro v9 w9 hown9 hgrow9 hrow9)
      have hn9 : Below w.heap.size w w9 := ((hnx.trans (hb3.mono hzr)).alloc (by omega) _).grown hgrow9 (by simp; omega) (fun j hj => how2.ge j hj)
      have hnew : Hid (Own w9 w.heap.size v9 (N.take (k + 1))) := Lib.hid (by rw [List.take_succ_eq_append_getElem hkN, hnk.out]; exact Own.push hown9)
      clear hown9 hgrow9 hrow9 how how2 y0
      go_roundw
      case rel => exact ⟨k + 1, by omega, by go_num, hnew, hn9⟩
      case measure => simp [intOf] <;> omega
    · obtain rfl : k = p.els.length := by omega
      have hfin := hst.out
      rw [List.take_of_length_le (by omega)] at hfin ⊢
      have HF := Lib.hid hfin
      clear hfin hst
      go_wp2
      go_ret
      exact ⟨A7, c7, rfl, HF.out, hnx⟩

set_option maxHeartbeats 8000000 in
set_option maxRecDepth 100000 in
theorem risingC (v : Value) (l0 : List ByteArray) (w : World) (h : kdW.rd w 0 w.heap.size v l0) (hl : l0.length * 16 ≤ 140737488355328) :
    Calls Tryz.prog 70 #[v] w fun e w' => ∃ A c, e = .returned (.slice A (srt l0).length c) ∧ Own w' w.heap.size (.slice A (srt l0).length c) (srt l0) ∧ Below w.heap.size w w' := by
  obtain ⟨j0, hj, jw0, jw1, jw2⟩ := info_parts infoStr
  obtain ⟨A1, c1, rfl, q1, q2⟩ := rdW_form h
  have hb0 : Below w.heap.size w (w.alloc (.cells #[] 9)) := (Below.refl _ _).alloc (Nat.le_refl _) _
  have ho0 := own_empty w w.heap.size rfl
  have hsrc := rd_src (kdW.stay h (stay_below hb0 (Nat.le_refl _)))
  have r1 : 0 + l0.length ≤ maxLen := by unfold maxLen; omega
  have r2 : (0 + l0.length) * 16 ≤ 140737488355328 := by omega
  have HSL := Lib.hid (srt_len l0)
  clear h
  go_enter Tryz.func70, Tryz.ntmps70
  go_wp2_with (at_builtin; refine wpList_append_src _ rfl (.tmp 6) (.tmp 7) 24 rfl w.heap.size 9 j0 _ 1 16 Tryz.underlying24 hj jw0 jw1 jw2 rfl (by decide) _ _ _ rfl ho0 A1 l0.length c1 (l0.map Value.string) rfl (by simp) hsrc (by simp [Value.oneCell']) r1 r2 (by simp) ?_; intro v9 w9 hown9 hgrow9 hrow9; rw [Nat.zero_add, List.nil_append] at hown9; obtain ⟨A, c, rfl, _⟩ := own_slice hown9)
  have hb9 : Below w.heap.size w w9 := hb0.grown hgrow9 (by simp) (fun j hj => by have h7 : w.heap.size = j := Option.some.inj hj; omega)
  obtain ⟨n, hn⟩ : ∃ n, n = l0.length := ⟨_, rfl⟩
  have HO : Hid (Own w9 w.heap.size (.slice A n c) l0) := Lib.hid (by rw [hn]; exact hown9)
  have HG := Lib.hid (World.grownBy.refl w9 (Value.slice A n c).ownBlock)
  have HL0 : Hid (n = l0.length) := Lib.hid hn
  have hnm : (n : Int) ≤ 9223372036854775807 := by omega
  rw [← hn]
  clear hown9 hgrow9 hrow9 hsrc ho0 hn
  go_loopw [11] (fun i wr => ∃ (j : Nat) (l : List ByteArray), j ≤ n ∧ i = .int .i64 j ∧ Hid (Own wr w.heap.size (.slice A n c) l) ∧ Hid (w9.grownBy wr (Value.slice A n c).ownBlock) ∧ Hid (Out l0 l j) ∧ Hid (n = l.length)) (fun i _ => n - (intOf i).toNat)
  case atStart => exact ⟨0, l0, Nat.zero_le _, rfl, HO, HG, Lib.hid ⟨[], l0, rfl, rfl, List.Pairwise.nil, List.Perm.refl _⟩, HL0⟩
  case round =>
    obtain ⟨j, l, hj, rfl, ho, hg, hout, hln⟩ := hrel
    by_cases hlt : j < n
    · have hjl : j < l.length := by have := hln.out; omega
      have hinn := Lib.hid (inn_start hout.out hjl)
      have hb3 : (j : Int) < (n : Int) := by omega
      clear hout
      go_wp2
      go_loopw [5] (fun i wr => ∃ (k : Nat) (l : List ByteArray), k ≤ j ∧ i = .int .i64 k ∧ Hid (Own wr w.heap.size (.slice A n c) l) ∧ Hid (w9.grownBy wr (Value.slice A n c).ownBlock) ∧ Hid (Inn l0 l j k) ∧ Hid (n = l.length)) (fun i _ => (intOf i).toNat)
      case atStart => exact ⟨j, l, Nat.le_refl _, rfl, ho, hg, hinn, hln⟩
      case round =>
        clear ho hg hinn hln hjl
        obtain ⟨k, l2, hk, rfl, ho2, hg2, hin2, hln2⟩ := hrel
        cases k with
        | zero =>
          have hout2 := Lib.hid (inn_stop hin2.out (fun _ _ h => absurd h (Nat.lt_irrefl 0)))
          have hz : ¬ (0 : Int) < ((0 : Nat) : Int) := by omega
          have hz2 : decide ((0 : Int) < ((0 : Nat) : Int)) = false := by simp
          go_wp2
          go_quiet (fail)
          go_wp2
          go_roundw
          case rel => exact ⟨j + 1, l2, by omega, by go_num, Lib.hid ho2.out, Lib.hid (grown_drewN hg2.out _), hout2, hln2⟩
          case measure => simp [intOf] <;> omega
        | succ k =>
          have hkl : k + 1 < l2.length := by have := hln2.out; omega
          obtain ⟨g, rfl, hBg, hgw, hfz1, hc1, hst1⟩ := ho2.out.store hkl (l2.getD k ⟨#[]⟩)
          obtain ⟨g2, e2, _, _, hfz0, hc0, _⟩ := ho2.out.store (j := k) (by omega) ⟨#[]⟩
          injection e2 with e2
          injection e2 with e2
          subst e2
          have e1 : l2[k + 1] = l2.getD (k + 1) ⟨#[]⟩ := by rw [List.getD_eq_getElem?_getD, List.getElem?_eq_getElem hkl, Option.getD_some]
          have e0 : l2[k] = l2.getD k ⟨#[]⟩ := by rw [List.getD_eq_getElem?_getD, List.getElem?_eq_getElem (by omega), Option.getD_some]
          rw [e1] at hc1
          rw [e0] at hc0
          have hz : (0 : Int) < ((k + 1 : Nat) : Int) := by omega
          have hi1 : ((k + 1 : Nat) : Int) - 1 = (k : Int) := by omega
          have hi2 : ((k + 1 : Nat) : Int) < (n : Int) := by omega
          have hi3 : (k : Int) < (n : Int) := by omega
          have hwk : IntKind.i64.wrap (((k + 1 : Nat) : Int) - 1) = (k : Int) := by rw [IntKind.wrap_i64] <;> omega
          have hnk : k + 1 - 1 = k := rfl
          have HLN := Lib.hid hln2.out
          clear e1 e0 hst1
          generalize hx : l2.getD (k + 1) ⟨#[]⟩ = x at *
          generalize hy : l2.getD k ⟨#[]⟩ = y at *
          have HX := Lib.hid hx
          have HY := Lib.hid hy
          clear hx hy
          cases hless : Op.bytesLess x.toList y.toList
          · have hout2 := Lib.hid (inn_stop hin2.out (fun h1 h2 _ => by
              have e3 : l2[k + 1] = x := by rw [← HX.out, List.getD_eq_getElem?_getD, List.getElem?_eq_getElem hkl, Option.getD_some]
              have e4 : l2[k + 1 - 1] = y := by rw [← HY.out, List.getD_eq_getElem?_getD, List.getElem?_eq_getElem (by omega), Option.getD_some]; rfl
              rw [e3, e4]; exact less_no hless))
            go_wp2
            go_quiet (fail)
            go_wp2
            go_roundw
            case rel => exact ⟨j + 1, l2, by omega, by go_num, Lib.hid ho2.out, Lib.hid (grown_drewN hg2.out _), hout2, hln2⟩
            case measure => simp [intOf] <;> omega
          · have hin3 := Lib.hid (inn_swap hin2.out (by rw [HX.out, HY.out]; exact less_yes hless))
            rw [HX.out, HY.out] at hin3
            go_wp2
            go_quiet (fail)
            go_wp2
            go_region
            go_wp2
            go_roundw
            case rel =>
              have ho3 : Own (wr.drewN (nq + 1)) w.heap.size (.slice (some ⟨g, 0, none⟩) n c) l2 := ho2.out
              exact ⟨k, _, by omega, rfl, Lib.hid (own_swap ho3 hkl (by omega) y x), Lib.hid (grown_set (grown_set (grown_drewN hg2.out _) _ _) _ _), hin3, Lib.hid (by rw [set_len2]; exact HLN.out)⟩
            case measure => simp [intOf] <;> omega
    · have hfin := Lib.hid (out_end hout.out (by have := hln.out; omega))
      have hfo : Own wr w.heap.size (.slice A n c) (srt l0) := by rw [← hfin.out]; exact ho.out
      have hfb : Below w.heap.size w wr := hb9.grown hg.out hb9.size (fun j hj => hfo.ge j hj)
      have HSN : Hid ((srt l0).length = n) := Lib.hid (by rw [HSL.out, HL0.out])
      have HF := Lib.hid hfo
      clear hfo
      go_wp2
      go_ret
      rw [HSN.out]
      exact ⟨A, c, rfl, HF.out, hfb⟩
end Go.Proofs.YtjhimmljanbjcaaGreatDoor.Rd
