/- The reference's Close. -/
import Derived.Test.YteikagdinecfoaaGreatDoorRd
set_option linter.unusedVariables false
set_option linter.unusedSimpArgs false
namespace Go.Proofs.YteikagdinecfoaaGreatDoor.Re
open Go.RowKit Lb Gr Pd Fl Go.Proofs.YteikagdinecfoaaGreatDoor.Pm Bk Ru Lc Dp Is Go.Proofs.YteikagdinecfoaaGreatDoor.So Go.Proofs.YteikagdinecfoaaGreatDoor.Cn Go.Proofs.YteikagdinecfoaaGreatDoor.Cl Go.Proofs.YteikagdinecfoaaGreatDoor.Rc Go.Proofs.YteikagdinecfoaaGreatDoor.Rd
attribute [local go_sem ↓] Go.wp_at_zero Go.wp_at_succ

theorem hasT_app (a b : List ByteArray) (s : ByteArray) : hasT (a ++ b) s = (hasT a s || hasT b s) := by unfold hasT; rw [List.any_append]
theorem own_kept {w w' : World} {B : Nat} {v : Value} {l : List ByteArray} {row : Option Nat} (h : Own w B v l) (hg : w.grownBy w' row) (hne : ∀ b, row = some b → v.ownBlock ≠ some b) : Own w' B v l := by
  refine World.ownsRow.kept h hg ?_
  cases hv : v.ownBlock with
  | none => exact .inl rfl
  | some k => exact .inr fun e => hne k e.symm hv
/-- the row of another one grows -/
theorem Sep.grows {wf wr w9 : World} {lo : Nat} {v u : Value} {o : Obj} (h : Sep wf wr lo v) (hu : Sep wf wr lo u) (hg : (wr.alloc o).grownBy w9 u.ownBlock) : Sep wf w9 lo v := by
  have hs := h.size
  refine ⟨fun k h1 h2 => ?_, ?_, h.sep⟩
  · rw [hg.block k (by simp; omega) (fun e => by have := hu.sep k e.symm; omega), Below.heap_alloc _ _ _ (by omega)]
    exact h.keep k h1 h2
  · have := hg.size
    simp at this
    omega
theorem rd_nilR (w : World) (lo hi : Nat) : kdR.rd w lo hi (.slice none 0 0) [] := ⟨[], rfl, ⟨none, 0, rfl, Nat.le_refl _, by simp, fun h => by simp [Fm.cells] at h⟩, by simp⟩
theorem own_emptyE (W : World) (g : Nat) (h : W.heap.size = g) : (W.alloc (.cells #[] 45 (0, 0))).ownsRow g 45 2 (.slice (some ⟨g, 0, none⟩) 0 0) 0 [] := by
  subst h
  exact ⟨rfl, .inr ⟨_, 0, #[], rfl, Nat.le_refl _, heap_alloc_new W _, Nat.le_refl _, by simp, rfl, rfl⟩⟩
/-- two rows of names: all of them, and those that were put to them -/
structure Two (w : World) (B : Nat) (v3 v4 : Value) (N m : List ByteArray) : Prop where
  o3 : Own w B v3 (N ++ m)
  o4 : Own w B v4 m
  ap : ∀ b, v3.ownBlock = some b → v4.ownBlock ≠ some b
theorem Two.below {w w' : World} {B : Nat} {v3 v4 : Value} {N m : List ByteArray} (h : Two w B v3 v4 N m) (hb : Below w.heap.size w w') : Two w' B v3 v4 N m := ⟨h.o3.below hb, h.o4.below hb, h.ap⟩
theorem Two.add {w w8 w9 : World} {B : Nat} {v3 v4 v8 v9 : Value} {N m : List ByteArray} {y : ByteArray} {o o' : Obj} (h : Two w B v3 v4 N m)
    (h8 : Own w8 B v8 (N ++ m ++ [y])) (g8 : (w.alloc o).grownBy w8 v3.ownBlock) (r8 : v8.ownBlock = v3.ownBlock ∨ v8.ownBlock = some (w.alloc o).heap.size)
    (h9 : Own w9 B v9 (m ++ [y])) (g9 : (w8.alloc o').grownBy w9 v4.ownBlock) (r9 : v9.ownBlock = v4.ownBlock ∨ v9.ownBlock = some (w8.alloc o').heap.size) : Two w9 B v8 v9 N (m ++ [y]) := by
  have l3 := own_low' h.o3
  have l4 := own_low' h.o4
  have l8 := own_low' h8
  have hne : ∀ b, v4.ownBlock = some b → v8.ownBlock ≠ some b := fun b hb e => by
    rcases r8 with r | r
    · exact h.ap b (r ▸ e) hb
    · rw [r] at e
      have h1 := Option.some.inj e
      have h2 := l4 b hb
      simp at h1
      omega
  refine ⟨?_, h9, fun b hb e => ?_⟩
  · rw [← List.append_assoc]
    exact own_kept (w := w8.alloc o') (h8.below ((Below.refl _ _).alloc (Nat.le_refl _) _)) g9 hne
  · rcases r9 with r | r
    · exact hne b (r ▸ e) hb
    · rw [r] at e
      have h1 := Option.some.inj e
      have h2 := l8 b hb
      simp at h1
      omega
theorem take_more {N m m' : List ByteArray} {i : Nat} (h : m <+: m') (hi : i ≤ (N ++ m).length) : (N ++ m').take i = (N ++ m).take i := by
  obtain ⟨r, rfl⟩ := h
  rw [← List.append_assoc, List.take_append_of_le_length hi]

/-- what is read, behind whatever leaves the old and the new blocks -/
theorem close_read {w Wf : World} {up bx : Nat} {q : PolD} {v1 v2 v3 v4 : Value} {T : List (It ElD)} (hB9 : Below w.heap.size w Wf) (hup : up ≤ w.heap.size) (hbx : w.heap.size ≤ bx) (hT : T.map (·.a) = q.els) (how : Wf.ownsRow (bx + 1) 45 2 v1 T.length (fmE.cells T))
    (hs : ∀ t ∈ T, kdR.rd w 0 up t.v t.a.rules) (h2 : kdR.rd Wf 0 up v2 q.glob) (h3 : kdW.rd Wf 0 up v3 q.schemes) (h4 : kdW.rd Wf 0 up v4 q.drop) (w2 : World) (k1 : Wf.heap.size ≤ w2.heap.size) (k2 : ∀ k, (k < up ∨ w.heap.size ≤ k) → k < Wf.heap.size → w2.heap[k]? = Wf.heap[k]?) : RdP w2 0 w2.heap.size ⟨v1, v2, v3, v4⟩ q := by
  have hge := own_ge2 how
  have hq := hB9.size
  exact ⟨⟨T, hT, Sl2.of_own (own_stay how fun k hk => k2 k (.inr (by have := (hge k hk).1; omega)) (hge k hk).2) (Nat.zero_le _) (Nat.le_refl _), fun t ht => kdR.wide (kdR.stay (rd_below (hs t ht) hB9 hup) fun k _ hk => k2 k (.inl hk) (by omega)) (Nat.le_refl _) (by omega)⟩, kdR.wide (kdR.stay h2 fun k _ hk => k2 k (.inl hk) (by omega)) (Nat.le_refl _) (by omega), kdW.wide (kdW.stay h3 fun k _ hk => k2 k (.inl hk) (by omega)) (Nat.le_refl _) (by omega), kdW.wide (kdW.stay h4 fun k _ hk => k2 k (.inl hk) (by omega)) (Nat.le_refl _) (by omega)⟩

set_option maxHeartbeats 8000000 in
set_option maxRecDepth 100000 in
theorem rCloseC (x : Vs) (p : PolD) (w : World) (up : Nat) (hup : up ≤ w.heap.size) (h : RdP w 0 up x p) (hl : (p.els.length + 9) * 40 ≤ 140737488355328) : Calls Tryz.prog 40 #[polV x p] w fun e w' =>
    ∃ m y, Full (nms p) m ∧ e = .returned (polV y (closeP p m)) ∧ (∀ w2 : World, w'.heap.size ≤ w2.heap.size → (∀ k, (k < up ∨ w.heap.size ≤ k) → k < w'.heap.size → w2.heap[k]? = w'.heap[k]?) → RdP w2 0 w2.heap.size y (closeP p m)) ∧ Below w.heap.size w w' := by
  obtain ⟨i0, hi, iz0, iz1, iz2⟩ := info_parts infoEl
  obtain ⟨j0, hj', jw0, jw1, jw2⟩ := info_parts infoStr
  obtain ⟨A1, c1, A2, c2, A3, c3, A4, c4, rfl, q1, q2, q3, q4, q5, q6, q7, q8⟩ := h.form
  have hrd : ∀ W, Below w.heap.size w W → RdP W 0 W.heap.size ⟨.slice A1 p.els.length c1, .slice A2 p.glob.length c2, .slice A3 p.schemes.length c3, .slice A4 p.drop.length c4⟩ p := fun W hW => (h.stay (stay_below hW hup)).wide (Nat.le_refl _) (Nat.le_trans hup hW.size)
  have HNA : Hid (∀ W, Below w.heap.size w W → Calls Tryz.prog 54 #[polV ⟨.slice A1 p.els.length c1, .slice A2 p.glob.length c2, .slice A3 p.schemes.length c3, .slice A4 p.drop.length c4⟩ p] W fun e w' => ∃ A c, e = .returned (.slice A (nms p).length c) ∧ Own w' W.heap.size (.slice A (nms p).length c) (nms p) ∧ Below W.heap.size W w') := Lib.hid fun W hW => rNamesC _ p W (hrd W hW) (by omega)
  have HND : Hid (∀ W s, Calls Tryz.prog 43 #[.string s] W fun e w' => ∃ A c G, e = .returned (.slice A (needsL s).length c) ∧ kdW.own w' W.heap.size (.slice A (needsL s).length c) (needsL s) G ∧ Below W.heap.size W w') := Lib.hid fun W s => rNeedsC s W
  have HRI : Hid (∀ W B A c (m : List ByteArray), Own W B (.slice A m.length c) m → m.length ≤ 9 → Calls Tryz.prog 76 #[.slice A m.length c] W fun e w' => ∃ A c, e = .returned (.slice A (srt m).length c) ∧ Own w' W.heap.size (.slice A (srt m).length c) (srt m) ∧ Below W.heap.size W w') := Lib.hid fun W B A c m ho hn => risingC _ m W (rd_own ho) (by omega)
  have HE0 : Hid (kdE.rd w 0 up (.slice A1 p.els.length c1) p.els) := Lib.hid h.1
  have HRD : Hid (∀ W, Below w.heap.size w W → RdP W 0 up ⟨.slice A1 p.els.length c1, .slice A2 p.glob.length c2, .slice A3 p.schemes.length c3, .slice A4 p.drop.length c4⟩ p) := Lib.hid fun W hW => h.stay (stay_below hW hup)
  obtain ⟨N, hN⟩ : ∃ N, N = nms p := ⟨_, rfl⟩
  rw [← hN] at HNA
  have hNl : N.length = p.els.length := by rw [hN]; simp [nms]
  have HNE := Lib.hid hN
  have HNl := Lib.hid hNl
  have hl2 : (N.length + 9) * 40 ≤ 140737488355328 := by omega
  unfold polV at HNA ⊢
  simp only at HNA
  clear h hrd q1 q2 q3 q4 q5 q6 q7 q8 hN hNl hl
  obtain ⟨W0, hW0⟩ : ∃ W, W = (w.alloc (.cells #[.slice A1 p.els.length c1, .slice A2 p.glob.length c2, .slice A3 p.schemes.length c3, .bool p.rel, .slice A4 p.drop.length c4, .int .i64 p.depth, .int .i64 p.window] 29)).alloc (.cells #[.slice none 0 0, .slice none 0 0, .slice none 0 0, .bool false, .slice none 0 0, .int .i64 0, .int .i64 0] 29) := ⟨_, rfl⟩
  have hb0 : Below w.heap.size w W0 := hW0 ▸ ((Below.refl _ _).alloc (Nat.le_refl _) _).alloc (by simp) _
  have hs0 : W0.heap.size = w.heap.size + 2 := by rw [hW0]; simp
  have k0 : Bl W0 w.heap.size 29 [.slice A1 p.els.length c1, .slice A2 p.glob.length c2, .slice A3 p.schemes.length c3, .bool p.rel, .slice A4 p.drop.length c4, .int .i64 p.depth, .int .i64 p.window] := hW0 ▸ (Bl.new w _ _ rfl).alloc _
  have k1 : Bl W0 (w.heap.size + 1) 29 [.slice none 0 0, .slice none 0 0, .slice none 0 0, .bool false, .slice none 0 0, .int .i64 0, .int .i64 0] := hW0 ▸ Bl.new _ _ _ (by simp)
  have g0 := k0.cell 0 rfl
  have g1 := k0.cell 1 rfl
  have g2 := k0.cell 2 rfl
  have g3 := k0.cell 3 rfl
  have g4 := k0.cell 4 rfl
  have g5 := k0.cell 5 rfl
  have g6 := k0.cell 6 rfl
  have HX0 := Lib.hid hW0
  have hz0 := hb0.size
  obtain ⟨B, hB⟩ : ∃ B, B = W0.heap.size := ⟨_, rfl⟩
  clear hW0
  go_enter Tryz.func40, Tryz.ntmps40
  go_upto_region 1 with fail
  rw [← HX0.out]
  go_wp2_with (go_at_call 54; refine (HNA.out _ hb0).mono ?_; rintro e w1 ⟨D1, e1, rfl, ho1, hb1⟩)
  have h1 : Below W0.heap.size W0 w1 := hb1
  have hst1 : Hid (Two w1 B (.slice D1 N.length e1) (.slice none 0 0) N [] ∧ Iv N [] ∧ Dn N [] ((N ++ []).take 0)) := Lib.hid ⟨⟨by rw [List.append_nil, hB]; exact ho1, Own.nil _ _, fun b _ e => by cases e⟩, Iv.nil _, by rw [List.take_zero]; exact Dn.nil _ _⟩
  clear g0 g1 g2 g3 g4 g5 g6 ho1
  go_loopw [3, 4, 5] (fun v3 v4 i wr => ∃ (k : Nat) (m : List ByteArray), k ≤ N.length + m.length ∧ i = .int .i64 k ∧ Hid (Two wr B v3 v4 N m ∧ Iv N m ∧ Dn N m ((N ++ m).take k)) ∧ Below W0.heap.size W0 wr) (fun _ _ i _ => N.length + 9 - (intOf i).toNat)
  case atStart => exact ⟨0, [], by omega, rfl, hst1, h1⟩
  case round =>
    clear hst1
    obtain ⟨k, m, hk, rfl, hst, hnx⟩ := hrel
    obtain ⟨L, hL⟩ : ∃ L, L = N ++ m := ⟨_, rfl⟩
    have o3L : Hid (Own wr B u3 L) := Lib.hid (by rw [hL]; exact hst.out.1.o3)
    have HL := Lib.hid hL
    have hlm : Hid (L.length = N.length + m.length) := Lib.hid (by rw [hL]; exact List.length_append)
    clear hL
    obtain ⟨A5, c5, rfl⟩ := o3L.out.form
    obtain ⟨A6, c6, rfl⟩ := hst.out.1.o4.form
    have hm9 := hst.out.2.1.len
    have hzr := hnx.size
    have hkL : k ≤ L.length := by rw [hlm.out]; exact hk
    by_cases hlt : k < L.length
    · obtain ⟨b, off, rfl, _, _, hcx⟩ := rdW_at (rd_own o3L.out) hlt
      obtain ⟨nm, hnm⟩ : ∃ nm, nm = L[k] := ⟨_, rfl⟩
      have HNM := Lib.hid hnm
      rw [← hnm] at hcx
      have hk0 : (0 : Int) ≤ (k : Int) := by omega
      have hk1 : (k : Int) < (L.length : Int) := by omega
      have hnm2 : Hid (nm ∈ N ∨ nm ∈ m) := Lib.hid (List.mem_append.1 (by rw [← HL.out, hnm]; exact List.getElem_mem _))
      obtain ⟨lo, hlo⟩ : ∃ lo, lo = wr.heap.size := ⟨_, rfl⟩
      clear hnm
      go_wp2_with (go_at_call 43; refine (HND.out _ nm).mono ?_; rintro e w4 ⟨A9, c9, G9, rfl, ho9, hb4⟩)
      have hn4 : Below W0.heap.size W0 w4 := hnx.trans (hb4.mono hzr)
      have HROW : Hid (kdW.rd w4 lo w4.heap.size (.slice A9 (needsL nm).length c9) (needsL nm)) := Lib.hid (kdW.read ho9 (by omega) (Nat.le_refl _))
      have h5 := needs_len nm
      have hst4 : Hid (Two w4 B (.slice (some ⟨b, off, none⟩) L.length c5) (.slice A6 m.length c6) N m ∧ Iv N m ∧ Dn N m ((N ++ m).take k) ∧ m <+: m ∧ Hd N m (needsL nm) 0) := Lib.hid ⟨hst.out.1.below hb4, hst.out.2.1, hst.out.2.2, List.prefix_refl _, Hd.zero _ _ _⟩
      have hsep : Hid (Sep w4 w4 lo (.slice (some ⟨b, off, none⟩) L.length c5) ∧ Sep w4 w4 lo (.slice A6 m.length c6)) := Lib.hid ⟨by rw [hlo]; exact Sep.start' o3L.out, by rw [hlo]; exact Sep.start' hst.out.1.o4⟩
      clear ho9 hcx hst hlo o3L
      go_loopw [3, 4, 25] (fun v3 v4 i wr => ∃ (j : Nat) (m3 : List ByteArray), j ≤ (needsL nm).length ∧ i = .int .i64 j ∧ Hid (Two wr B v3 v4 N m3 ∧ Iv N m3 ∧ Dn N m3 ((N ++ m).take k) ∧ m <+: m3 ∧ Hd N m3 (needsL nm) j) ∧ Hid (Sep w4 wr lo v3 ∧ Sep w4 wr lo v4) ∧ Below W0.heap.size W0 wr) (fun _ _ i _ => (needsL nm).length - (intOf i).toNat)
      case atStart => exact ⟨0, m, by omega, rfl, hst4, hsep, hn4⟩
      case round =>
        clear hst4 hsep
        obtain ⟨j, m3, hj, rfl, hin, hse, hnx⟩ := hrel
        obtain ⟨L3, hL3⟩ : ∃ L, L = N ++ m3 := ⟨_, rfl⟩
        have o3L : Hid (Own wr B u3 L3) := Lib.hid (by rw [hL3]; exact hin.out.1.o3)
        have HL3 := Lib.hid hL3
        have hlm3 : Hid (L3.length = N.length + m3.length) := Lib.hid (by rw [hL3]; exact List.length_append)
        clear hL3
        obtain ⟨A7, c7, rfl⟩ := o3L.out.form
        obtain ⟨A8, c8, rfl⟩ := hin.out.1.o4.form
        have hm93 := hin.out.2.1.len
        have hzr := hnx.size
        by_cases hltj : j < (needsL nm).length
        · obtain ⟨b2, off2, rfl, _, _, hcl⟩ := rdW_at (kdW.stay HROW.out hse.out.1.keep) hltj
          obtain ⟨y, hy⟩ : ∃ y, y = (needsL nm)[j] := ⟨_, rfl⟩
          have hyN : y ∈ needsL nm := hy ▸ List.getElem_mem _
          have HY := Lib.hid hy
          rw [← hy] at hcl
          have hj0 : (0 : Int) ≤ (j : Int) := by omega
          have hj1 : (j : Int) < ((needsL nm).length : Int) := by omega
          have HH := rHasC L3 (.slice A7 L3.length c7) y wr (rd_own o3L.out)
          rw [show hasT L3 y = (hasT N y || hasT m3 y) from by rw [HL3.out, hasT_app]] at HH
          clear hy
          cases hq : (hasT N y || hasT m3 y)
          · rw [hq] at HH
            have HH2 := Lib.hid HH
            rw [Bool.or_eq_false_iff] at hq
            have HQ := Lib.hid hq
            have o3 := o3L.out
            have o4 := hin.out.1.o4
            have hl3 := hlm3.out
            have r1 : L3.length + 1 ≤ maxLen := by unfold maxLen; omega
            have r2 : (L3.length + 1) * 16 ≤ 140737488355328 := by omega
            have r3 : m3.length + 1 ≤ maxLen := by unfold maxLen; omega
            have r4 : (m3.length + 1) * 16 ≤ 140737488355328 := by omega
            clear HH hq hl3
            go_wp2_with (first
              | (go_at_call 56; refine HH2.out.mono ?_; rintro e w7 ⟨rfl, h7⟩; obtain rfl := h7.symm)
              | (at_builtin; refine wpList_append_src _ rfl (.tmp 33) (.tmp 35) 27 rfl B 9 j0 _ 1 16 Tryz.underlying27 hj' jw0 jw1 jw2 rfl (by decide) _ _ _ rfl (o3.alloc _) (some ⟨wr.heap.size, 0, none⟩) 1 1 [.string y] rfl rfl (news_src wr _ _) (by simp [Value.oneCell']) r1 r2 (by simp; omega) ?_; intro v8 w8 hown8 hgrow8 hrow8; have o4' := own_kept (w := wr.alloc _) (o4.alloc _) hgrow8 (fun b hb => hin.out.1.ap b hb); have hz8 := hgrow8.size)
              | (at_builtin; refine wpList_append_src _ rfl (.tmp 37) (.tmp 39) 27 rfl B 9 j0 _ 1 16 Tryz.underlying27 hj' jw0 jw1 jw2 rfl (by decide) _ _ _ rfl (o4'.alloc _) (some ⟨w8.heap.size, 0, none⟩) 1 1 [.string y] rfl rfl (news_src w8 _ _) (by simp [Value.oneCell']) r3 r4 (by simp at hz8 ⊢; omega) ?_; intro v9 w9 hown9 hgrow9 hrow9))
            have hz8' : wr.heap.size + 1 ≤ w8.heap.size := by simpa using hz8
            have hn8 : Below W0.heap.size W0 w8 := (hnx.alloc hzr _).grown hgrow8 (by simp; omega) (fun j hj => by rw [← hB]; exact o3.ge j hj)
            have hn9 : Below W0.heap.size W0 w9 := (hn8.alloc (by omega) _).grown hgrow9 (by simp; omega) (fun j hj => by rw [← hB]; exact o4.ge j hj)
            have p8 : Own w8 B v8 (N ++ m3 ++ [y]) := by rw [← HL3.out]; exact Own.push hown8
            have hnew : Hid (Two w9 B v8 v9 N (m3 ++ [y]) ∧ Iv N (m3 ++ [y]) ∧ Dn N (m3 ++ [y]) ((N ++ m).take k) ∧ m <+: (m3 ++ [y]) ∧ Hd N (m3 ++ [y]) (needsL nm) (j + 1)) := Lib.hid ⟨hin.out.1.add p8 hgrow8 hrow8 (Own.push hown9) hgrow9 hrow9, hin.out.2.1.add (hnm2.out.imp id fun h => hin.out.2.2.2.1.subset h) hyN HQ.out.1 HQ.out.2, hin.out.2.2.1.more (fun x hx => List.mem_append_left _ hx), hin.out.2.2.2.1.trans (List.prefix_append _ _), by rw [HY.out]; exact hin.out.2.2.2.2.add hltj⟩
            have s3 := hse.out.1.push hgrow8 hrow8
            have s4 := Sep.grows hse.out.2 hse.out.1 hgrow8
            have hse9 : Hid (Sep w4 w9 lo v8 ∧ Sep w4 w9 lo v9) := Lib.hid ⟨Sep.grows s3 s4 hgrow9, s4.push hgrow9 hrow9⟩
            clear hown8 hgrow8 hrow8 hown9 hgrow9 hrow9 s3 s4 o3 o4 o4' p8
            go_roundw
            case rel => exact ⟨j + 1, _, by omega, by go_num, hnew, hse9, hn9⟩
            case measure => simp [intOf] <;> omega
          · rw [hq] at HH
            have HH2 := Lib.hid HH
            rw [Bool.or_eq_true] at hq
            have HQ := Lib.hid hq
            clear HH hq
            go_wp2_with (go_at_call 56; refine HH2.out.mono ?_; rintro e w7 ⟨rfl, h7⟩; obtain rfl := h7.symm)
            have hnew : Hid (Two wr B (.slice A7 L3.length c7) (.slice A8 m3.length c8) N m3 ∧ Iv N m3 ∧ Dn N m3 ((N ++ m).take k) ∧ m <+: m3 ∧ Hd N m3 (needsL nm) (j + 1)) := Lib.hid ⟨hin.out.1, hin.out.2.1, hin.out.2.2.1, hin.out.2.2.2.1, hin.out.2.2.2.2.had hltj (by rw [← HY.out]; exact HQ.out)⟩
            go_roundw
            case rel => exact ⟨j + 1, _, by omega, by go_num, hnew, hse, hnx⟩
            case measure => simp [intOf] <;> omega
        · obtain rfl : j = (needsL nm).length := by omega
          have hle := hin.out.2.2.2.1.length_le
          have hnew : Hid (Two wr B (.slice A7 L3.length c7) (.slice A8 m3.length c8) N m3 ∧ Iv N m3 ∧ Dn N m3 ((N ++ m3).take (k + 1))) := Lib.hid ⟨hin.out.1, hin.out.2.1, by
            rw [take_more hin.out.2.2.2.1 (by rw [← HL.out]; omega), ← HL.out]
            have h9 := hin.out.2.2.1
            rw [← HL.out] at h9
            exact h9.next hlt (by rw [← HNM.out]; exact hin.out.2.2.2.2)⟩
          go_wp2
          go_roundw
          case rel => exact ⟨k + 1, m3, by have := hlm.out; omega, by go_num, hnew, hnx⟩
          case measure => have h9 := hlm.out; simp [intOf] <;> omega
    · obtain rfl : k = L.length := by omega
      have hfull : Hid (Full N m) := Lib.hid ⟨hst.out.2.1, by
        have h9 := hst.out.2.2
        rw [HL.out, List.take_length] at h9
        exact clo_of (fun n hn => h9 n (List.mem_append_left _ hn)) (fun n hn => h9 n (List.mem_append_right _ hn))⟩
      have hw := hb0.trans (hnx.mono hz0)
      have j0' := k0.below hnx
      have g0 := j0'.cell 0 rfl
      have g1 := j0'.cell 1 rfl
      have g2 := j0'.cell 2 rfl
      have g3 := j0'.cell 3 rfl
      have g4 := j0'.cell 4 rfl
      have g5 := j0'.cell 5 rfl
      have g6 := j0'.cell 6 rfl
      have o4 := hst.out.1.o4
      have hzw := hw.size
      obtain ⟨T0, hT0, hsl0, hsub0⟩ := HE0.out
      have hT0l : T0.length = p.els.length := by rw [← hT0, List.length_map]
      go_upto_region 14 with fail
      obtain ⟨W2, hW2⟩ : ∃ W, W = wr.alloc (.cells #[.slice A1 p.els.length c1, .slice A2 p.glob.length c2, .slice A3 p.schemes.length c3, .bool p.rel, .slice A4 p.drop.length c4, .int .i64 p.depth, .int .i64 p.window] 29) := ⟨_, rfl⟩
      have hc2 : Below wr.heap.size wr W2 := hW2 ▸ (Below.refl _ _).alloc (Nat.le_refl _) _
      have k2 : Bl W2 wr.heap.size 29 [.slice A1 p.els.length c1, .slice A2 p.glob.length c2, .slice A3 p.schemes.length c3, .bool p.rel, .slice A4 p.drop.length c4, .int .i64 p.depth, .int .i64 p.window] := hW2 ▸ Bl.new wr _ _ rfl
      have hs2 : W2.heap.size = wr.heap.size + 1 := by rw [hW2]; simp
      have k02 := j0'.below hc2
      have d0 := k02.cell 0 rfl
      have k03 := k02.alloc (.cells #[] 45)
      have d1 := k03.cell 0 rfl
      have k3 := k2.alloc (.cells #[] 45)
      have ho0 := own_emptyE W2 (wr.heap.size + 1) hs2
      have hc3 : Below wr.heap.size wr (W2.alloc (.cells #[] 45)) := hc2.alloc hc2.size _
      have hsrc : 0 < (fmE.cells T0).length → ∃ b off, A1 = some ⟨b, off, none⟩ ∧ ∀ j u, (fmE.cells T0)[j]? = some u → (W2.alloc (.cells #[] 45)).cell? ⟨b, off + j, none⟩ = some u := fun hp => by
        obtain ⟨A', c', hv, _, _, h3⟩ := hsl0.stay (w' := W2.alloc (.cells #[] 45)) (stay_below (hw.trans (hc3.mono hzw)) hup)
        injection hv with e1 e2 e3
        subst e1
        obtain ⟨b, off, rfl, _, _, hc⟩ := h3 hp
        exact ⟨b, off, rfl, hc⟩
      have hone := fmE.cells_one' hsub0
      have hNl := HNl.out
      have r1 : 0 + p.els.length ≤ maxLen := by unfold maxLen; omega
      have r2 : (0 + p.els.length) * 40 ≤ 140737488355328 := by omega
      have hcl : (fmE.cells T0).length = p.els.length * 2 := by rw [fmE.cells_len, hT0l]; rfl
      have HSB := Lib.hid hsub0
      have HT0 := Lib.hid hT0
      have HT0l := Lib.hid hT0l
      rw [← hW2]
      have HX2 := Lib.hid hW2
      clear hW2 g0 g1 g2 g3 g4 g5 g6 hsub0 hT0 hT0l hsl0 hNl
      go_upto_region 15 with (at_builtin; refine wpList_append_src _ rfl (.tmp 43) (.tmp 45) 25 rfl (wr.heap.size + 1) 45 i0 _ 2 40 Tryz.underlying25 hi iz0 iz1 iz2 rfl (by decide) _ _ _ rfl ho0 A1 p.els.length c1 (fmE.cells T0) rfl hcl hsrc hone r1 r2 (by simp; omega) ?_; intro v9 w9 hown9 hgrow9 hrow9; rw [Nat.zero_add, List.nil_append] at hown9; obtain ⟨E9, f9, rfl, _⟩ := own_slice hown9; have k9 := k3.of (hgrow9.block _ k3.lt (fun e => by have h7 : wr.heap.size = wr.heap.size + 1 := Option.some.inj e; omega)); have y2 := k9.cell 0 rfl; have y3 := k9.fz 0)
      have hb9 : Below wr.heap.size wr w9 := hc3.grown hgrow9 (by simp; omega) (fun j hj => by have h7 : wr.heap.size + 1 = j := Option.some.inj hj; omega)
      have k10 := k9.set 0 (.slice E9 p.els.length f9)
      have hfr : Fr [wr.heap.size] w9 (w9.setCell ⟨wr.heap.size, 0, none⟩ (.slice E9 p.els.length f9)) := Fr.setCell _ _ _ (.inl (by simp))
      obtain ⟨W3, hW3⟩ : ∃ W, W = w9.setCell ⟨wr.heap.size, 0, none⟩ (.slice E9 p.els.length f9) := ⟨_, rfl⟩
      rw [← hW3] at k10 hfr ⊢
      have HX3 := Lib.hid hW3
      clear hW3
      have hb10 : Below wr.heap.size wr W3 := hb9.trans (hfr.below hb9.size (by simp))
      have how3 : W3.ownsRow (wr.heap.size + 1) 45 2 (.slice E9 p.els.length f9) p.els.length (fmE.cells T0) := own_stay hown9 fun k hk => hfr.block k (own_ge2 hown9 k hk).2 (by have := (own_ge2 hown9 k hk).1; simp; omega)
      have o43 := o4.below hb10
      have hn3 : Below w.heap.size w W3 := hw.trans (hb10.mono hzw)
      have hbr3 := (k1.below hnx).below hb10
      clear hown9 hgrow9 hrow9 k9 y2 y3 d0 d1 k03 k3 ho0 hsrc hone hcl o4
      go_wp2_with (go_at_call 76; refine (HRI.out _ B A6 c6 m o43 hm9).mono ?_; rintro e w10 ⟨A9, c9, rfl, ho9, hbb⟩)
      have hsl := srt_len m
      have hz3 := hb10.size
      have HROW6 : Hid (kdW.rd w10 W3.heap.size w10.heap.size (.slice A9 (srt m).length c9) (srt m)) := Lib.hid (kdW.read (F := (Value.slice A9 (srt m).length c9).ownBlock.toList) ⟨ho9, rfl⟩ (Nat.le_refl _) (Nat.le_refl _))
      have hbx := k10.below hbb
      have hbr := hbr3.below hbb
      have hn10 : Below w.heap.size w w10 := hn3.trans (hbb.mono hn3.size)
      have hst6 : Hid (T0.map (·.a) = (clK p m 0).els ∧ w10.ownsRow (wr.heap.size + 1) 45 2 (.slice E9 p.els.length f9) T0.length (fmE.cells T0) ∧ (∀ t ∈ T0, kdR.rd w 0 up t.v t.a.rules)) := Lib.hid ⟨by rw [clK_zero]; exact HT0.out, by rw [HT0l.out]; exact own_stay how3 fun k hk => hbb.block k (own_ge2 how3 k hk).2, HSB.out⟩
      have hsep6 : Hid (Sep w10 w10 W3.heap.size (.slice E9 p.els.length f9)) := Lib.hid ⟨fun _ _ _ => rfl, Nat.le_refl _, fun b hb => .inl (own_ge2 how3 b (by rw [hb]; simp)).2⟩
      obtain ⟨bx, hbxe⟩ : ∃ bx, bx = wr.heap.size := ⟨_, rfl⟩
      have hB3 : bx < W3.heap.size := by have := k10.lt; omega
      have hwbx : w.heap.size + 2 ≤ bx := by have := hnx.size; omega
      rw [← hbxe] at hst6 hbx ⊢
      have hpl : (p.els.length + 9) * 40 ≤ 140737488355328 := by have h9 := HNl.out; omega
      obtain ⟨lo, hlo⟩ : ∃ lo, lo = W3.heap.size := ⟨_, rfl⟩
      rw [← hlo] at HROW6 hsep6 hB3
      have hbx10 : bx + 1 ≤ w10.heap.size := by have := hbx.lt; omega
      have HSLL := Lib.hid hsl
      have HBXE := Lib.hid hbxe
      clear how3 k10 o43 hbr3 ho9 hst hbxe hlo hs2 hsl
      go_loopw [51] (fun i wr => ∃ (j : Nat) (v0 : Value) (T : List (It ElD)), j ≤ m.length ∧ i = .int .i64 j ∧ Hid (T.map (·.a) = (clK p m j).els ∧ wr.ownsRow (bx + 1) 45 2 v0 T.length (fmE.cells T) ∧ (∀ t ∈ T, kdR.rd w 0 up t.v t.a.rules)) ∧ Bl wr bx 29 [v0, .slice A2 p.glob.length c2, .slice A3 p.schemes.length c3, .bool p.rel, .slice A4 p.drop.length c4, .int .i64 p.depth, .int .i64 p.window] ∧ Bl wr (w.heap.size + 1) 29 [.slice none 0 0, .slice none 0 0, .slice none 0 0, .bool false, .slice none 0 0, .int .i64 0, .int .i64 0] ∧ Hid (Sep w10 wr lo v0) ∧ Below w.heap.size w wr) (fun i _ => m.length - (intOf i).toNat)
      case atStart => exact ⟨0, _, T0, by omega, rfl, hst6, hbx, hbr, hsep6, hn10⟩
      case round =>
        clear hst6 hbx hbr hsep6
        obtain ⟨j, v0, T, hj, rfl, hst, hbx, hbr, hse, hwr⟩ := hrel
        have hzz := hwr.size
        have hz6 := hse.out.size
        have ho := hst.out.2.1
        have HTL : Hid (T.length = p.els.length + j) := Lib.hid (by rw [← clK_len (p := p) (m := m) hj, ← hst.out.1, List.length_map])
        obtain ⟨E1, f1, rfl, _⟩ := own_slice ho
        have x0 := hbx.cell 0 rfl
        by_cases hltj : j < m.length
        · obtain ⟨b, off, rfl, _, _, hcx⟩ := rdW_at (kdW.stay HROW6.out hse.out.keep) (i := j) (by rw [HSLL.out]; exact hltj)
          obtain ⟨y, hy⟩ : ∃ y, y = (srt m)[j]'(by rw [HSLL.out]; exact hltj) := ⟨_, rfl⟩
          rw [← hy] at hcx
          have HS := Lib.hid (clK_succ (p := p) (m := m) (j := j) (by rw [HSLL.out]; exact hltj))
          rw [← hy] at HS
          have hTl := HTL.out
          have r1 : T.length + 1 ≤ maxLen := by unfold maxLen; omega
          have r2 : (T.length + 1) * 40 ≤ 140737488355328 := by omega
          have hj0 : (0 : Int) ≤ (j : Int) := by omega
          have hj1 : (j : Int) < ((srt m).length : Int) := by rw [HSLL.out]; omega
          have hb5 := hbx.alloc (.cells #[.string y, .slice none 0 0] 45)
          have x1 := hb5.cell 0 rfl
          have hog := Lib.hid (own_ge2 ho)
          clear hy hTl
          go_wp2_with (at_builtin; go_loud (refine wpList_append_src _ rfl (.tmp 56) (.tmp 59) 25 rfl (bx + 1) 45 i0 _ 2 40 Tryz.underlying25 hi iz0 iz1 iz2 rfl (by decide) _ _ _ rfl (ho.alloc _) (some ⟨wr.heap.size, 0, none⟩) 1 1 [.string y, .slice none 0 0] rfl rfl (news_src wr _ _) (by simp [Value.oneCell']) r1 r2 (by simp; omega) ?_; intro v9 w9 hown9 hgrow9 hrow9; obtain ⟨E9, f9, rfl, _⟩ := own_slice hown9; have hb9 := hb5.of (hgrow9.block _ hb5.lt (fun e => by have h7 : (Value.slice E1 T.length f1).ownBlock = some bx := e.symm; have h8 := (hog.out bx (by rw [h7]; simp)).1; omega)); have x2 := hb9.cell 0 rfl; have x3 := hb9.fz 0))
          obtain ⟨T2, hT2⟩ : ∃ T2 : List (It ElD), T2 = T ++ [⟨⟨y, []⟩, .slice none 0 0, []⟩] := ⟨_, rfl⟩
          have hT2l : T2.length = T.length + 1 := by rw [hT2]; simp
          have hst' : Hid (T2.map (·.a) = (clK p m (j + 1)).els ∧ (w9.setCell ⟨bx, 0, none⟩ (.slice E9 (T.length + 1) f9)).ownsRow (bx + 1) 45 2 (.slice E9 (T.length + 1) f9) T2.length (fmE.cells T2) ∧ (∀ t ∈ T2, kdR.rd w 0 up t.v t.a.rules)) := Lib.hid (by
            refine ⟨by rw [HS.out, hT2, List.map_append, hst.out.1]; rfl, ?_, fun t ht => ?_⟩
            · rw [hT2l, hT2, fmE.cells_app, fmE.cells_one]
              exact own_stay hown9 fun k hk => Below.heap_setCell _ _ _ _ (by have := (own_ge2 hown9 k hk).1; show k ≠ bx; omega)
            · rw [hT2] at ht
              rcases List.mem_append.1 ht with ht | ht
              · exact hst.out.2.2 t ht
              · simp at ht; subst ht; exact rd_nilR _ _ _)
          have hbx' := hb9.set 0 (.slice E9 (T.length + 1) f9)
          have hbr' := ((hbr.alloc (.cells #[.string y, .slice none 0 0] 45)).of (hgrow9.block _ (by have := hbr.lt; simp; omega) (fun e => by have h7 : (Value.slice E1 T.length f1).ownBlock = some (w.heap.size + 1) := e.symm; have h9 := (hog.out (w.heap.size + 1) (by rw [h7]; simp)).1; omega))).other (p := ⟨bx, 0, none⟩) (by show w.heap.size + 1 ≠ bx; omega) (.slice E9 (T.length + 1) f9)
          have hse' : Hid (Sep w10 (w9.setCell ⟨bx, 0, none⟩ (.slice E9 (T.length + 1) f9)) lo (.slice E9 (T.length + 1) f9)) := Lib.hid ((hse.out.push hgrow9 hrow9).set (by show bx < lo; omega) _)
          have hwr' : Below w.heap.size w (w9.setCell ⟨bx, 0, none⟩ (.slice E9 (T.length + 1) f9)) := ((hwr.alloc hzz _).grown hgrow9 (by simp; omega) (fun j hj => by have h7 : (Value.slice E1 T.length f1).ownBlock = some j := hj; have h9 := (hog.out j (by rw [h7]; simp)).1; omega)).setCell (p := ⟨bx, 0, none⟩) (by show w.heap.size ≤ bx; omega) _
          clear hown9 hgrow9 hrow9 hb9 hb5 x0 x1 x2 x3 ho hT2 hT2l hcx hog
          go_wp2
          go_roundw
          case rel => exact ⟨j + 1, _, T2, by omega, by go_num, hst', hbx', hbr', hse', hwr'⟩
          case measure => simp [intOf] <;> omega
        · obtain rfl : j = m.length := by omega
          have hfin := hst.out
          rw [clK_all] at hfin
          have HFN := Lib.hid hfin
          have hx : (closeP p m).els.length = T.length := by rw [← hfin.1, List.length_map]
          have HXL := Lib.hid hx
          have g1 := hbx.cell 1 rfl
          have g2 := hbx.cell 2 rfl
          have g3 := hbx.cell 3 rfl
          have g4 := hbx.cell 4 rfl
          have g5 := hbx.cell 5 rfl
          have g6 := hbx.cell 6 rfl
          obtain ⟨s0, s1, s2, s3, s4, s5, s6, s7, s8, s9, s10, s11, s12, s13⟩ := hbr.store7 (.slice E1 T.length f1) (.slice A2 p.glob.length c2) (.slice A3 p.schemes.length c3) (.bool p.rel) (.slice A4 p.drop.length c4) (.int .i64 p.depth) (.int .i64 p.window)
          have jz := hbr.seven (.slice E1 T.length f1) (.slice A2 p.glob.length c2) (.slice A3 p.schemes.length c3) (.bool p.rel) (.slice A4 p.drop.length c4) (.int .i64 p.depth) (.int .i64 p.window)
          have hfz := Fr.set7 wr (w.heap.size + 1) (.slice E1 T.length f1) (.slice A2 p.glob.length c2) (.slice A3 p.schemes.length c3) (.bool p.rel) (.slice A4 p.drop.length c4) (.int .i64 p.depth) (.int .i64 p.window)
          have hnl : ¬ ((m.length : Int) < ((srt m).length : Int)) := by rw [HSLL.out]; omega
          clear hfin hst hse hx ho
          go_wp2
          refine bodyPost_ret (res_cell Tryz.results40 rfl jz Tryz.underlying29 rfl (by kernel_rfl)) rfl ?_
          have hB9 := hwr.trans (hfz.below hzz (by simp))
          have hR := (HRD.out _ hB9)
          have hq := hB9.size
          have how9 := own_stay HFN.out.2.1 fun k hk => hfz.block k (own_ge2 HFN.out.2.1 k hk).2 (by have := (own_ge2 HFN.out.2.1 k hk).1; simp; omega)
          have hF9 : Full (nms p) m := by rw [← HNE.out]; exact hfull.out
          have hR9 := close_read (q := closeP p m) hB9 hup (show w.heap.size ≤ bx by omega) HFN.out.1 how9 HFN.out.2.2 hR.2.1 hR.2.2.1 hR.2.2.2
          first
            | exact ⟨m, ⟨.slice E1 T.length f1, .slice A2 p.glob.length c2, .slice A3 p.schemes.length c3, .slice A4 p.drop.length c4⟩, hF9, rfl, hR9, hB9⟩
            | exact ⟨m, hF9, ⟨.slice E1 T.length f1, .slice A2 p.glob.length c2, .slice A3 p.schemes.length c3, .slice A4 p.drop.length c4⟩, rfl, hR9, hB9⟩
end Go.Proofs.YteikagdinecfoaaGreatDoor.Re
