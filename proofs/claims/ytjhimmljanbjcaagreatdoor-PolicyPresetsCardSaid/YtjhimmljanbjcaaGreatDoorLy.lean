/- A policy's text: the reference's line, joined; its Parse. -/
import Derived.Test.YtjhimmljanbjcaaGreatDoorLx
import Derived.Test.YtjhimmljanbjcaaGreatDoorLz
import Derived.Test.YtjhimmljanbjcaaGreatDoorRk
set_option linter.unusedVariables false
set_option linter.unusedSimpArgs false
namespace Go.Proofs.YtjhimmljanbjcaaGreatDoor.Ly
open Go.RowKit Lb Gr Pd Fl Go.Proofs.YtjhimmljanbjcaaGreatDoor.Pm Bk Is Ru Co Go.Proofs.YtjhimmljanbjcaaGreatDoor.Sl Go.Proofs.YtjhimmljanbjcaaGreatDoor.Ck Go.Proofs.YtjhimmljanbjcaaGreatDoor.Th Go.Proofs.YtjhimmljanbjcaaGreatDoor.Lk Go.Proofs.YtjhimmljanbjcaaGreatDoor.Ro Go.Proofs.YtjhimmljanbjcaaGreatDoor.Vd Go.Proofs.YtjhimmljanbjcaaGreatDoor.Ow Pt Pn Po Go.Proofs.YtjhimmljanbjcaaGreatDoor.Ru Rw Go.Proofs.YtjhimmljanbjcaaGreatDoor.Rx Go.Proofs.YtjhimmljanbjcaaGreatDoor.Lx Go.Proofs.YtjhimmljanbjcaaGreatDoor.Lq Go.Proofs.YtjhimmljanbjcaaGreatDoor.Rk Go.Proofs.YtjhimmljanbjcaaGreatDoor.Tr
attribute [local go_sem ↓] Go.wp_at_zero Go.wp_at_succ
theorem rLineC (w : World) (B g h : Nat) (x : Vs) (st : RS) (F : List Nat) (v : Value) (ws : List ByteArray) (hs : St w B g h x st F) (hv : kdW.rd w 0 w.heap.size v ws) (hwne : ws ≠ []) (hwz : ws.length * 48 ≤ 140737488355328) (n : Nat) (hn : n ≤ 4294967296) (hl : LenP st.p n) :
    Calls Tryz.prog 107 #[.pointer (some ⟨g, 0, none⟩), .pointer (some ⟨h, 0, none⟩), v] w (LineR w B g h st ws) := by
  by_cases he : hasT ws ByteArray.empty = true
  · exact rLineE w B g h x st F v ws hs hv he
  · have he' : hasT ws ByteArray.empty = false := by simpa using he
    obtain ⟨l1, l2, l3, l4, l5⟩ := hl
    match ws, hv, hwne, hwz, he' with
    | [], _, h0, _, _ => exact absurd rfl h0
    | w0 :: l, hv, _, hwz, he' =>
      have hlz : (l.length + 1) * 48 ≤ 140737488355328 := by simpa using hwz
      by_cases e0 : w0 = wRel
      · subst e0
        by_cases h0 : l = []
        · subst h0
          cases hr : st.sr
          · exact rLineRel w B g h x st F v hs hv he' hr
          · exact rLineRel2 w B g h x st F v hs hv he' hr
        · exact rLineNRel w B g h x st F v l hs hv he' h0 hlz
      by_cases e1 : w0 = wDepth
      · subst e1
        by_cases h0 : l.length = 1
        · obtain ⟨x1, rfl⟩ := List.length_eq_one_iff.1 h0
          cases hb : numB x1
          · exact rLineDepth2 w B g h x st F v x1 hb hs hv he'
          · cases hd : st.sd
            · exact rLineDepth w B g h x st F v x1 hd hb hs hv he'
            · exact rLineDepth3 w B g h x st F v x1 hd hb hs hv he'
        · exact rLineNDepth w B g h x st F v l hs hv he' h0 hlz
      by_cases e2 : w0 = wWindow
      · subst e2
        by_cases h0 : l.length = 1
        · obtain ⟨x1, rfl⟩ := List.length_eq_one_iff.1 h0
          cases hb : numB x1
          · exact rLineWindow2 w B g h x st F v x1 hb hs hv he'
          · cases hd : st.sw
            · exact rLineWindow w B g h x st F v x1 hd hb hs hv he'
            · exact rLineWindow3 w B g h x st F v x1 hd hb hs hv he'
        · exact rLineNWindow w B g h x st F v l hs hv he' h0 hlz
      by_cases e3 : w0 = wScheme
      · subst e3
        by_cases h0 : l.length = 1
        · obtain ⟨x1, rfl⟩ := List.length_eq_one_iff.1 h0
          exact rLineScheme w B g h x st F v x1 (by omega) hs hv he'
        · exact rLineNScheme w B g h x st F v l hs hv he' h0 hlz
      by_cases e4 : w0 = wDrop
      · subst e4
        by_cases h0 : l.length = 1
        · obtain ⟨x1, rfl⟩ := List.length_eq_one_iff.1 h0
          exact rLineDrop w B g h x st F v x1 (by omega) hs hv he'
        · exact rLineNDrop w B g h x st F v l hs hv he' h0 hlz
      by_cases e5 : w0 = wElement
      · subst e5
        by_cases h0 : l.length = 1
        · obtain ⟨x1, rfl⟩ := List.length_eq_one_iff.1 h0
          exact rLineElement w B g h x st F v x1 (by omega) hs hv he'
        · exact rLineNElement w B g h x st F v l hs hv he' h0 hlz
      by_cases e6 : w0 = wGlobal
      · subst e6
        cases hro : ruleO l with
        | none => exact rLineGlobal2 w B g h x st F v l hs hv he' hro hlz
        | some r => exact rLineGlobal w B g h x st F v r (by omega) l hs hv he' hro hlz
      by_cases e7 : w0 = wAttr
      · subst e7
        cases hro : ruleO l with
        | none => exact rLineAttr2 w B g h x st F v l hs hv he' hro hlz
        | some r =>
          cases hel : st.p.els.length with
          | zero => exact rLineAttr0 w B g h x st F v r (List.eq_nil_of_length_eq_zero hel) l hs hv he' hro hlz
          | succ i => exact rLineAttr w B g h x st F v r i hel (fun e h => by have := l5 e h; omega) l hs hv he' hro hlz
      · exact rLineX w B g h x st F v w0 e0 e1 e2 e3 e4 e5 e6 e7 l hs hv he' hlz
/-- a text's words -/
theorem rWordsC (s : ByteArray) (c : UInt8) (w : World) (hs : s.size ≤ 2147483647) (ws : List ByteArray) (n : Nat) (hws : cutS s c = ws) (hn : ws.length = n) : Calls Tryz.prog 106 #[.string s, .int .u8 (c.toNat : Int)] w fun e w' =>
    ∃ b off cp, e = .returned (.slice (some ⟨b, off, none⟩) n cp) ∧ w.heap.size ≤ b ∧ b < w'.heap.size ∧ n ≤ cp ∧ cp ≤ maxLen ∧ kdW.rd w' 0 w'.heap.size (.slice (some ⟨b, off, none⟩) n cp) ws ∧
      (∀ i (h : i < ws.length), w'.cell? ⟨b, off + i, none⟩ = some (.string ws[i])) ∧ Below w.heap.size w w' := by
  subst hws
  subst hn
  refine (rCutC s c w hs).mono ?_
  rintro e w' ⟨v, rfl, ho, hb⟩
  have hr := kdW.read (own_F ho) (Nat.le_refl _) (Nat.le_refl _)
  have hp : 0 < (cutS s c).length := by unfold cutS; rw [List.length_map]; exact cut_len_pos c _
  obtain ⟨A', c', rfl, h3, h4⟩ := rdW_form hr
  obtain ⟨b, off, rfl, h1, h2, _⟩ := rdW_at hr (i := 0) hp
  refine ⟨b, off, c', rfl, h1, h2, h3, h4, kdW.wide hr (Nat.zero_le _) (Nat.le_refl _), fun i hi => ?_, hb⟩
  obtain ⟨b', off', hA, _, _, h5⟩ := rdW_at hr (i := i) hi
  injection hA with hA
  injection hA with e1 e2
  subst e1 e2
  exact h5
theorem cell_old2 {w w' : World} {B g h : Nat} (hk : Kpt w B g h w') {p : Addr} (h1 : p.block < B) (h2 : p.block ≠ g) (h3 : p.block ≠ h) : w'.cell? p = w.cell? p := World.cell?_of_block (hk.old p.block h1 h2 h3)
theorem lineR_none {w w2 : World} {B g h : Nat} {st : RS} {ws : List ByteArray} {e : Ending} (hr : LineR w B g h st ws e w2) (hl : lineO st ws = none) : e = .returned (.bool false) ∧ Kpt w B g h w2 := by
  unfold LineR at hr
  rw [hl] at hr
  exact ⟨hr.2, hr.1⟩
theorem lineR_some {w w2 : World} {B g h : Nat} {st st' : RS} {ws : List ByteArray} {e : Ending} (hr : LineR w B g h st ws e w2) (hl : lineO st ws = some st') : e = .returned (.bool true) ∧ (∃ x' F', St w2 B g h x' st' F') ∧ Kpt w B g h w2 := by
  unfold LineR at hr
  rw [hl] at hr
  exact ⟨hr.2.1, hr.2.2, hr.1⟩
theorem fitr_of {M n : Nat} {l : List RuleD} (hM : M ≤ 4294967296) (hn : n ≤ 4294967296) (h : ∀ r ∈ l, TxR M r) (hl : l.length ≤ n) : FitR l := ⟨by omega, fun i hi => by
  obtain ⟨_, _, _, h4, _⟩ := h _ (List.getElem_mem hi)
  omega⟩
theorem fitp_of {M n : Nat} {p : PolD} (hM : M ≤ 4294967296) (hn : n ≤ 4294967296) (h : TxP M p) (hl : LenP p n) : FitP p := by
  obtain ⟨l1, l2, l3, l4, l5⟩ := hl
  exact ⟨⟨by omega, fun i hi => fitr_of hM hn (h.els _ (List.getElem_mem hi)).2 (l5 _ (List.getElem_mem hi))⟩, fitr_of hM hn h.glob l2, by omega, by omega⟩
set_option maxHeartbeats 8000000 in
set_option maxRecDepth 100000 in
theorem rParseC (s : ByteArray) (w : World) (hz : s.size ≤ 2147483647) : Calls Tryz.prog 44 #[.string s] w (PaR (parseQ s) w) := by
  obtain ⟨Wa, hWa⟩ : ∃ W, W = w.alloc (.cells #[.slice none 0 0, .slice none 0 0, .slice none 0 0, .bool false, .slice none 0 0, .int .i64 0, .int .i64 0] 26) := ⟨_, rfl⟩
  obtain ⟨Wb, hWb⟩ : ∃ W, W = Wa.alloc (.cells #[.slice none 0 0, .slice none 0 0, .slice none 0 0, .bool false, .slice none 0 0, .int .i64 64, .int .i64 65536] 26) := ⟨_, rfl⟩
  obtain ⟨W0, hW0⟩ : ∃ W, W = Wb.alloc (.cells #[.bool false, .bool false, .bool false] 126) := ⟨_, rfl⟩
  have hza : Wa.heap.size = w.heap.size + 1 := by rw [hWa]; simp
  have hzb : Wb.heap.size = w.heap.size + 2 := by rw [hWb]; simp; omega
  have hba : Below w.heap.size w Wa := hWa ▸ (Below.refl _ _).alloc (Nat.le_refl _) _
  have hbb : Below w.heap.size w Wb := hWb ▸ hba.alloc (by omega) _
  have hb0 : Below w.heap.size w W0 := hW0 ▸ hbb.alloc (by omega) _
  have hsz0 : W0.heap.size = w.heap.size + 3 := by rw [hW0]; simp; omega
  have k0 : Bl W0 w.heap.size 26 [.slice none 0 0, .slice none 0 0, .slice none 0 0, .bool false, .slice none 0 0, .int .i64 0, .int .i64 0] := hW0 ▸ (hWb ▸ (hWa ▸ Bl.new w _ _ rfl : Bl Wa w.heap.size _ _).alloc _ : Bl Wb w.heap.size _ _).alloc _
  have k1 : Bl W0 Wa.heap.size 26 [.slice none 0 0, .slice none 0 0, .slice none 0 0, .bool false, .slice none 0 0, .int .i64 64, .int .i64 65536] := hW0 ▸ (hWb ▸ Bl.new Wa _ _ rfl : Bl Wb Wa.heap.size _ _).alloc _
  have k2 : Bl W0 Wb.heap.size 126 [.bool false, .bool false, .bool false] := hW0 ▸ Bl.new Wb _ _ rfl
  obtain ⟨L, hL⟩ : ∃ L, cutS s 10 = L := ⟨_, rfl⟩
  obtain ⟨n, hn⟩ : ∃ n, L.length = n := ⟨_, rfl⟩
  have hnz : n ≤ s.size + 1 := by rw [← hn, ← hL]; exact Pt.cutS_le s 10
  have hLz : Hid (∀ x ∈ L, x.size ≤ s.size) := Lib.hid (by rw [← hL]; exact cutS_size s 10)
  have HSP : Hid (Calls Tryz.prog 106 #[.string s, .int .u8 10] W0 fun e w' => ∃ b off cp, e = .returned (.slice (some ⟨b, off, none⟩) n cp) ∧ W0.heap.size ≤ b ∧ b < w'.heap.size ∧ n ≤ cp ∧ cp ≤ maxLen ∧ kdW.rd w' 0 w'.heap.size (.slice (some ⟨b, off, none⟩) n cp) L ∧ (∀ i (h : i < L.length), w'.cell? ⟨b, off + i, none⟩ = some (.string L[i])) ∧ Below W0.heap.size W0 w') := Lib.hid (rWordsC s 10 W0 hz L n hL hn)
  have HCW : Hid (∀ W ln ws n2, ln.size ≤ 2147483647 → cutS ln 32 = ws → ws.length = n2 → Calls Tryz.prog 106 #[.string ln, .int .u8 32] W fun e w' => ∃ b off cp, e = .returned (.slice (some ⟨b, off, none⟩) n2 cp) ∧ kdW.rd w' 0 w'.heap.size (.slice (some ⟨b, off, none⟩) n2 cp) ws ∧ Below W.heap.size W w') := Lib.hid fun W ln ws n2 h1 h2 h3 => (rWordsC ln 32 W h1 ws n2 h2 h3).mono fun e w' ⟨b, off, cp, he, _, _, _, _, hr, _, hb⟩ => ⟨b, off, cp, he, hr, hb⟩
  have HLC : Hid (∀ W B g h x st F v ws k, St W B g h x st F → kdW.rd W 0 W.heap.size v ws → ws ≠ [] → ws.length * 48 ≤ 140737488355328 → k ≤ 4294967296 → LenP st.p k → Calls Tryz.prog 107 #[.pointer (some ⟨g, 0, none⟩), .pointer (some ⟨h, 0, none⟩), v] W (LineR W B g h st ws)) :=
    Lib.hid fun W B g h x st F v ws k h1 h2 h3 h4 h5 h6 => rLineC W B g h x st F v ws h1 h2 h3 h4 k h5 h6
  have HCK : Hid (∀ W x p, Below w.heap.size w W → RdP W 0 W.heap.size x p → FitP p → OkP p → Calls Tryz.prog 13 #[.agg #[x.e, x.g, x.s, .bool p.rel, x.d, .int .i64 p.depth, .int .i64 p.window]] W fun e w' => e = .returned (.int .i64 (checkI p)) ∧ Below W.heap.size W w') :=
    Lib.hid fun W x p hb hr hf ho => rCheckC x p W hr hf ho
  have HPQ : Hid (parseF st0 0 (L.drop 0) = parseQ s) := Lib.hid (by unfold parseQ; rw [hL]; rfl)
  have HLN := Lib.hid hn
  have HX0 := Lib.hid hW0
  have HXA := Lib.hid hWa
  have HXB := Lib.hid hWb
  obtain ⟨g, hg⟩ : ∃ g, g = Wa.heap.size := ⟨_, rfl⟩
  obtain ⟨h, hh⟩ : ∃ h, h = Wb.heap.size := ⟨_, rfl⟩
  rw [← hg] at k1 hza
  rw [← hh] at k2 hzb
  have HGE := Lib.hid hg
  have HHE := Lib.hid hh
  have hg1 : w.heap.size < g := by omega
  have hg2 : h < W0.heap.size := by omega
  have hg3 : g < h := by omega
  generalize parseQ s = res at *
  clear hL hn hW0 hWa hWb hba hbb hza hzb hsz0 hg hh
  go_enter Tryz.func44, Tryz.ntmps44
  go_upto_region 1 with fail
  rw [← HXA.out]
  go_upto_region 2 with fail
  rw [← HXB.out, ← HGE.out]
  go_upto_region 3 with fail
  rw [← HX0.out, ← HHE.out]
  go_wp2_with (go_at_call 106; refine HSP.out.mono ?_; rintro e w1 ⟨b, off, cp, rfl, hb2, hb1, hn1, hn2, hr1, hc1, hw1⟩; have HC1 := Lib.hid hc1; have HW1 := Lib.hid hw1; have HR1 := Lib.hid hr1; clear hr1 hc1 hw1)
  have hq1 : n ≤ cp := hn1
  have hq2 : (n : Int) ≤ 9223372036854775807 := by omega
  have hsp0 : Hid (St w1 w1.heap.size g h zeroV st0 []) := Lib.hid ⟨⟨[], [], [], [], fmE.own_nil _ _, fmR.own_nil _ _, ⟨World.ownsRow_nil _ _ _ _, rfl⟩, ⟨World.ownsRow_nil _ _ _ _, rfl⟩, rfl, by simp⟩, k1.below HW1.out, k2.below HW1.out, hg3, by omega, Nat.le_refl _⟩
  have hst0 : Hid (LenP st0.p 0 ∧ TxP (s.size + 1) st0.p ∧ parseF st0 0 (L.drop 0) = res) := Lib.hid ⟨st0_len 0, st0_tx _, HPQ.out⟩
  have hkp0 : Kpt w1 w1.heap.size g h w1 := Kpt.of (by omega) (Nat.le_refl _) (Below.refl _ _)
  go_loopw [16] (fun i wr => ∃ (k : Nat) (x : Vs) (st : RS) (F : List Nat), k ≤ n ∧ i = .int .i64 k ∧ Hid (St wr w1.heap.size g h x st F) ∧ Hid (LenP st.p k ∧ TxP (s.size + 1) st.p ∧ parseF st k (L.drop k) = res) ∧ Kpt w1 w1.heap.size g h wr) (fun i _ => n - (intOf i).toNat)
  case atStart => exact ⟨0, zeroV, st0, [], Nat.zero_le _, rfl, hsp0, hst0, hkp0⟩
  case round =>
    obtain ⟨k, x, st, F, hk, rfl, hsp, hst, hkp⟩ := hrel
    have hbw : Below w.heap.size w wr := (hb0.trans (HW1.out.mono (by omega))).trans (hkp.below.mono (by omega))
    have HBW := Lib.hid hbw
    have k0w : Bl wr w.heap.size 26 [.slice none 0 0, .slice none 0 0, .slice none 0 0, .bool false, .slice none 0 0, .int .i64 0, .int .i64 0] := (k0.below HW1.out).of (hkp.old _ (by have := k0.lt; have := HW1.out.size; omega) (by omega) (by omega))
    have hwz := hbw.size
    by_cases hlt : k < n
    · have hkL : k < L.length := by have := HLN.out; omega
      obtain ⟨ln, hln⟩ : ∃ ln, ln = L[k] := ⟨_, rfl⟩
      have y0 : wr.cell? ⟨b, off + k, none⟩ = some (.string ln) := by
        rw [cell_old2 hkp (p := ⟨b, off + k, none⟩) hb1 (by show b ≠ g; omega) (by show b ≠ h; omega), hln]
        exact HC1.out k hkL
      have hlz := hLz.out ln (by rw [hln]; exact List.getElem_mem hkL)
      have HLE := Lib.hid hln
      clear hln
      by_cases h0 : ln.size = 0
      · have e0 := toList_nil h0
        have hst2 : Hid (LenP st.p (k + 1) ∧ TxP (s.size + 1) st.p ∧ parseF st (k + 1) (L.drop (k + 1)) = res) := Lib.hid ⟨len_up hst.out.1, hst.out.2.1, by rw [← parse_skip hkL HLE.out (skip_0 h0)]; exact hst.out.2.2⟩
        clear hst
        go_wp2
        go_roundw
        case rel => exact ⟨k + 1, x, st, F, by omega, by go_num, hsp, hst2, hkp⟩
        case measure => simp [intOf] <;> omega
      · have e0 := toList_ne (s := ln) (by omega)
        have e1 := isEmpty_ne (s := ln) (by omega)
        have h1 : 0 < ln.size := by omega
        by_cases h35 : ln[0].toNat = 35
        · have b1 : ((ln[0].toNat : Int) == 35) = true := by rw [h35]; rfl
          have hst2 : Hid (LenP st.p (k + 1) ∧ TxP (s.size + 1) st.p ∧ parseF st (k + 1) (L.drop (k + 1)) = res) := Lib.hid ⟨len_up hst.out.1, hst.out.2.1, by rw [← parse_skip hkL HLE.out (by rw [skip_at h1, decide_eq_true h35])]; exact hst.out.2.2⟩
          clear hst h35
          go_wp2
          go_roundw
          case rel => exact ⟨k + 1, x, st, F, by omega, by go_num, hsp, hst2, hkp⟩
          case measure => simp [intOf] <;> omega
        · have b1 : ((ln[0].toNat : Int) == 35) = false := by simp; omega
          have hsk : Hid (skipB ln = false) := Lib.hid (by rw [skip_at h1, decide_eq_false h35])
          obtain ⟨ws, hws⟩ : ∃ ws, ws = cutS ln 32 := ⟨_, rfl⟩
          have HWS := Lib.hid hws
          obtain ⟨n2, hn2'⟩ : ∃ n2, ws.length = n2 := ⟨_, rfl⟩
          have hwne : ws ≠ [] := fun e => by
            have := cut_len_pos 32 ln.data.toList
            rw [hws] at e
            unfold cutS at e
            rw [List.map_eq_nil_iff] at e
            rw [e] at this
            simp at this
          have hwz : ws.length * 48 ≤ 140737488355328 := by rw [hws]; have := Pt.cutS_le ln 32; omega
          have HCW1 := Lib.hid (HCW.out wr ln ws n2 (by omega) hws.symm hn2')
          have HL1 : Hid (∀ W v, Below wr.heap.size wr W → kdW.rd W 0 W.heap.size v ws → Calls Tryz.prog 107 #[.pointer (some ⟨g, 0, none⟩), .pointer (some ⟨h, 0, none⟩), v] W (LineR W w1.heap.size g h st ws)) := Lib.hid fun W v hW hv => HLC.out W _ g h x st F v ws k (Go.Proofs.YtjhimmljanbjcaaGreatDoor.Lx.St.below hsp.out hW) hv hwne hwz (by omega) hst.out.1
          obtain ⟨o, hlo⟩ : ∃ o, lineO st ws = o := ⟨_, rfl⟩
          have hkw : Hid (∀ W, Below wr.heap.size wr W → Kpt wr w1.heap.size g h W) := Lib.hid fun W hW => hsp.out.kpt hW
          clear h35 hws hn2'
          cases o with
          | none =>
            have HL2 : Hid (∀ W v, Below wr.heap.size wr W → kdW.rd W 0 W.heap.size v ws → Calls Tryz.prog 107 #[.pointer (some ⟨g, 0, none⟩), .pointer (some ⟨h, 0, none⟩), v] W fun e w3 => e = .returned (.bool false) ∧ Kpt wr w1.heap.size g h w3) := Lib.hid fun W v hW hv => (HL1.out W v hW hv).mono fun e w3 h9 => ⟨(lineR_none h9 hlo).1, (hkw.out W hW).trans (lineR_none h9 hlo).2⟩
            have hres : Hid (res = (zeroP, (k : Int) + 1, 145)) := Lib.hid (by rw [← hst.out.2.2]; exact parse_none hkL HLE.out hsk.out (HWS.out ▸ hlo))
            clear HL1 hst hlo
            go_upto_region 8 with (first
              | (go_at_call 106; refine HCW1.out.mono ?_; rintro e w2 ⟨b2, off2, cp2, rfl, hr2, hb3⟩; have HR2 := Lib.hid hr2; clear hr2)
              | (go_at_call 107; refine (HL2.out _ _ hb3 HR2.out).mono ?_; rintro e w3 ⟨rfl, hk2⟩))
            have m1 := k0w.of (hk2.old w.heap.size (by have := HW1.out.size; omega) (by omega) (by omega))
            have hbw2 : Below w.heap.size w w3 := HBW.out.trans (hk2.below.mono (by omega))
            obtain ⟨s0, s1, s2, s3, s4, s5, s6, s7, s8, s9, s10, s11, s12, s13⟩ := m1.store7 (.slice none 0 0) (.slice none 0 0) (.slice none 0 0) (.bool false) (.slice none 0 0) (.int .i64 0) (.int .i64 0)
            have jz := m1.seven (.slice none 0 0) (.slice none 0 0) (.slice none 0 0) (.bool false) (.slice none 0 0) (.int .i64 0) (.int .i64 0)
            have hfz := Fr.set7 w3 w.heap.size (.slice none 0 0) (.slice none 0 0) (.slice none 0 0) (.bool false) (.slice none 0 0) (.int .i64 0) (.int .i64 0)
            have hwr : IntKind.i64.wrap ((k : Int) + 1) = (k : Int) + 1 := by rw [IntKind.wrap_i64] <;> omega
            go_wp2
            refine bodyPost_ret (res_cell3 Tryz.results44 rfl jz Tryz.underlying26 rfl (by kernel_rfl)) rfl ?_
            refine ⟨zeroV, [], ?_, ?_, hbw2.trans (hfz.below hbw2.size (by simp))⟩
            · rw [hres.out]; rfl
            · rw [hres.out]; exact own_zero _ _
          | some st' =>
            have HL2 : Hid (∀ W v, Below wr.heap.size wr W → kdW.rd W 0 W.heap.size v ws → Calls Tryz.prog 107 #[.pointer (some ⟨g, 0, none⟩), .pointer (some ⟨h, 0, none⟩), v] W fun e w3 => e = .returned (.bool true) ∧ (∃ x' F', St w3 w1.heap.size g h x' st' F') ∧ Kpt wr w1.heap.size g h w3) := Lib.hid fun W v hW hv => (HL1.out W v hW hv).mono fun e w3 h9 => ⟨(lineR_some h9 hlo).1, (lineR_some h9 hlo).2.1, (hkw.out W hW).trans (lineR_some h9 hlo).2.2⟩
            have hst2 : Hid (LenP st'.p (k + 1) ∧ TxP (s.size + 1) st'.p ∧ parseF st' (k + 1) (L.drop (k + 1)) = res) := Lib.hid ⟨line_len hlo hst.out.1, line_tx hlo (fun y hy => by rw [HWS.out] at hy; have := cutS_size ln 32 y hy; omega) (by rw [HWS.out]; have := Pt.cutS_le ln 32; omega) hst.out.2.1, by rw [← parse_some hkL HLE.out hsk.out (HWS.out ▸ hlo)]; exact hst.out.2.2⟩
            clear HL1 hst hlo
            go_wp2_with (first
              | (go_at_call 106; refine HCW1.out.mono ?_; rintro e w2 ⟨b2, off2, cp2, rfl, hr2, hb3⟩; have HR2 := Lib.hid hr2; clear hr2)
              | (go_at_call 107; refine (HL2.out _ _ hb3 HR2.out).mono ?_; rintro e w3 ⟨rfl, ⟨x', F', hsp2⟩, hk2⟩; have HSP2 := Lib.hid hsp2; clear hsp2))
            go_roundw
            case rel => exact ⟨k + 1, x', st', F', by omega, by go_num, HSP2, hst2, hkp.trans hk2⟩
            case measure => simp [intOf] <;> omega
    · obtain rfl : k = n := by omega
      have hkL : L.length ≤ k := by have := HLN.out; omega
      have hend := parse_end (st := st) hkL
      rw [hst.out.2.2] at hend
      have HEND := Lib.hid hend
      have hok := okp_of (M := s.size + 1) (n := k) (by omega) (by omega) hst.out.2.1 hst.out.1
      have hrd := hsp.out.own.rd (lo := 0) (hi := wr.heap.size) (Nat.zero_le _) (Nat.le_refl _)
      have hfit := fitp_of (M := s.size + 1) (n := k) (by omega) (by omega) hst.out.2.1 hst.out.1
      have HC2 := Lib.hid (HCK.out wr x st.p hbw hrd hfit hok)
      have hbg := hsp.out.bg
      have a0 := hbg.cell 0 rfl
      have a1 := hbg.cell 1 rfl
      have a2 := hbg.cell 2 rfl
      have a3 := hbg.cell 3 rfl
      have a4 := hbg.cell 4 rfl
      have a5 := hbg.cell 5 rfl
      have a6 := hbg.cell 6 rfl
      have HOW := Lib.hid hsp.out.own
      have hgl := hbg.lt
      obtain ⟨p, hp⟩ : ∃ p, p = st.p := ⟨_, rfl⟩
      rw [← hp] at HC2 HOW HEND a3 a5 a6 hbg
      clear hend hok hfit hrd hst hp hsp
      by_cases hc : checkI p = 0
      · rw [hc] at HC2
        have HRES : Hid (res = (p, 0, 0)) := Lib.hid (by rw [HEND.out, if_pos hc])
        clear HEND hc
        go_upto_region 13 with (go_at_call 13; refine HC2.out.mono ?_; rintro e w2 ⟨rfl, hb3⟩)
        have m1 := k0w.below hb3
        obtain ⟨A1, d1, A2, d2, A3, d3, A4, d4, hxx, _⟩ := (HOW.out.rd (lo := 0) (hi := wr.heap.size) (Nat.zero_le _) (Nat.le_refl _)).form
        subst hxx
        have m2 : Bl w2 g 26 [.slice A1 p.els.length d1, .slice A2 p.glob.length d2, .slice A3 p.schemes.length d3, .bool p.rel, .slice A4 p.drop.length d4, .int .i64 p.depth, .int .i64 p.window] := hbg.below hb3
        clear a0 a1 a2 a3 a4 a5 a6 hbg
        have c0 := m2.cell 0 rfl
        have c1 := m2.cell 1 rfl
        have c2 := m2.cell 2 rfl
        have c3 := m2.cell 3 rfl
        have c4 := m2.cell 4 rfl
        have c5 := m2.cell 5 rfl
        have c6 := m2.cell 6 rfl
        obtain ⟨s0, s1, s2, s3, s4, s5, s6, s7, s8, s9, s10, s11, s12, s13⟩ := m1.store7 (.slice A1 p.els.length d1) (.slice A2 p.glob.length d2) (.slice A3 p.schemes.length d3) (.bool p.rel) (.slice A4 p.drop.length d4) (.int .i64 p.depth) (.int .i64 p.window)
        have jz := m1.seven (.slice A1 p.els.length d1) (.slice A2 p.glob.length d2) (.slice A3 p.schemes.length d3) (.bool p.rel) (.slice A4 p.drop.length d4) (.int .i64 p.depth) (.int .i64 p.window)
        have hfz := Fr.set7 w2 w.heap.size (.slice A1 p.els.length d1) (.slice A2 p.glob.length d2) (.slice A3 p.schemes.length d3) (.bool p.rel) (.slice A4 p.drop.length d4) (.int .i64 p.depth) (.int .i64 p.window)
        have hbw2 : Below w.heap.size w w2 := HBW.out.trans (hb3.mono hwz)
        have ho2 : OwnP w2 w1.heap.size ⟨.slice A1 p.els.length d1, .slice A2 p.glob.length d2, .slice A3 p.schemes.length d3, .slice A4 p.drop.length d4⟩ p F := HOW.out.keep hb3.size fun j hj => hb3.block j (HOW.out.ge j hj).2
        have HO2 := Lib.hid ho2
        have hw1z := HW1.out.size
        clear ho2
        go_wp2
        refine bodyPost_ret (res_cell3 Tryz.results44 rfl jz Tryz.underlying26 rfl (by kernel_rfl)) rfl ?_
        refine Exists.intro (⟨.slice A1 p.els.length d1, .slice A2 p.glob.length d2, .slice A3 p.schemes.length d3, .slice A4 p.drop.length d4⟩ : Vs) (Exists.intro F (And.intro ?_ (And.intro ?_ (hbw2.trans (hfz.below hbw2.size (by simp))))))
        · rw [HRES.out]; rfl
        · rw [HRES.out]
          exact (HO2.out.keep hfz.size fun j hj => hfz.block j (HO2.out.ge j hj).2 (by have := (HO2.out.ge j hj).1; simp; omega)).low (by omega)
      · have hc2 : (checkI p != 0) = true := by simpa using hc
        have HRES : Hid (res = (zeroP, 0, checkI p)) := Lib.hid (by rw [HEND.out, if_neg hc])
        clear HEND hc
        generalize checkI p = c at *
        go_upto_region 12 with (go_at_call 13; refine HC2.out.mono ?_; rintro e w2 ⟨rfl, hb3⟩)
        have m1 := k0w.below hb3
        obtain ⟨s0, s1, s2, s3, s4, s5, s6, s7, s8, s9, s10, s11, s12, s13⟩ := m1.store7 (.slice none 0 0) (.slice none 0 0) (.slice none 0 0) (.bool false) (.slice none 0 0) (.int .i64 0) (.int .i64 0)
        have jz := m1.seven (.slice none 0 0) (.slice none 0 0) (.slice none 0 0) (.bool false) (.slice none 0 0) (.int .i64 0) (.int .i64 0)
        have hfz := Fr.set7 w2 w.heap.size (.slice none 0 0) (.slice none 0 0) (.slice none 0 0) (.bool false) (.slice none 0 0) (.int .i64 0) (.int .i64 0)
        have hbw2 : Below w.heap.size w w2 := HBW.out.trans (hb3.mono hwz)
        go_wp2
        refine bodyPost_ret (res_cell3 Tryz.results44 rfl jz Tryz.underlying26 rfl (by kernel_rfl)) rfl ?_
        refine ⟨zeroV, [], ?_, ?_, hbw2.trans (hfz.below hbw2.size (by simp))⟩
        · rw [HRES.out]; rfl
        · rw [HRES.out]; exact own_zero _ _
end Go.Proofs.YtjhimmljanbjcaaGreatDoor.Ly
