/- The law's own: a policy in new memory. -/
import Derived.Deep.AppendLies
import Derived.Test.YteikagdinecfoaaGreatDoorLc
set_option linter.unusedVariables false
set_option linter.unusedSimpArgs false
namespace Go.Proofs.YteikagdinecfoaaGreatDoor.Ow
open Go.RowKit Lb Gr Pd Fl Go.Proofs.YteikagdinecfoaaGreatDoor.Pm Bk Ru Co Lc
attribute [local go_sem ↓] Go.wp_at_zero Go.wp_at_succ

/-- append of whatever is read, at a step of a region that draws -/
theorem step_append_src {P : Program} (w : World) {ops : Array Oper} {o : Oper} {a : Act} {K : Act → World → Prop} {Q : Exit → Act → World → Prop} {E : Prop} (hgd : o.guard = none) (s x : Operand) (t : TypeId)
    (ho : o.op = .call { callee := .builtin .append, args := #[s, x], argTypes := #[t, t] })
    (base : Nat) (e : TypeId) (i : TypeInfo) (z : Value) (size bytes : Nat) (ht : P.underlying t = some (.slice e)) (hi : P.info? e = some i) (hz : i.zero = some z)
    (hsize : i.size = size) (hby : i.bytes = bytes) (hzs : z.cells.size = size) (hsz : 0 < size) (v : Value) (n : Nat) (xs : List Value) (hs : a.eval s = v) (hown : w.ownsRow base e size v n xs)
    (A : Option Addr) (m c : Nat) (news : List Value) (hx : a.eval x = .slice A m c) (hl : news.length = m * size) (hcell : 0 < news.length → ∃ b off, A = some ⟨b, off, none⟩ ∧ ∀ j u, news[j]? = some u → w.cell? ⟨b, off + j, none⟩ = some u)
    (h1 : ∀ u ∈ news, u.oneCell' = true) (h63 : n + m ≤ maxLen) (hbytes : (n + m) * bytes ≤ 140737488355328) (hbase : base ≤ w.heap.size)
    (h : ∀ v' w', w'.ownsRow base e size v' (n + m) (xs ++ news) → w.grownBy w' v.ownBlock → (v'.ownBlock = v.ownBlock ∨ v'.ownBlock = some w.heap.size) → K (a.put o.dst v') w') :
    if Region.wanted o (yielded ops a.tmps) = true then Oper.wp P o a w K Q else E := by
  have hw : Region.wanted o (yielded ops a.tmps) = true := by simp [Region.wanted, hgd]
  rw [if_pos hw]
  obtain ⟨v', w', hr, h2, h3, h4⟩ := run_append_src (P := P) w base t o.type e i z size bytes ht hi hz hsize hby hzs hsz v n xs hown A m c news hl hcell h1 h63 hbytes hbase
  have hK := h v' w' h2 h3 h4
  unfold Oper.wp execOp
  simp only [ho, resolve, invoke, builtin, Sem.run_bind, Sem.run_pure, Result.andThen_ok, List.map_toArray, List.map_cons, List.map_nil, hs, hx, hr]
  exact hK

/-- two rows, appended to new empty ones -/
structure Aft (wb w8 : World) (n : Nat) (v6 v8 : Value) (S D : List ByteArray) : Prop where
  o3 : kdW.own w8 n v6 S v6.ownBlock.toList
  o4 : kdW.own w8 n v8 D v8.ownBlock.toList
  dis : ∀ a ∈ v6.ownBlock.toList, ∀ b ∈ v8.ownBlock.toList, a ≠ b
  bel : Below wb.heap.size wb w8
theorem aft1 {wb w9 w8 : World} {n : Nat} {v6 v8 : Value} {S D : List ByteArray} {B9 B8 : Nat} (hn : wb.heap.size = n) (h9 : w9.ownsRow B9 9 1 v6 S.length (S.map Value.string)) (hB9 : n ≤ B9)
    (hb9 : Below wb.heap.size wb w9) (h8 : w8.ownsRow B8 9 1 v8 D.length (D.map Value.string)) (hB8 : B8 = w9.heap.size) (hb8 : Below w9.heap.size w9 w8) : Aft wb w8 n v6 v8 S D := by
  have hs := hb9.size
  have q9 : kdW.own w9 n v6 S v6.ownBlock.toList := ⟨own_low h9 hB9, rfl⟩
  refine ⟨kdW.keep q9 hb8.size fun k hk => hb8.block k (kdW.ge q9 k hk).2, ⟨own_low h8 (by omega), rfl⟩, fun a ha b hb => ?_, hb9.trans (hb8.mono hs)⟩
  have h1 := (own_ge2 h9 a ha).2
  have h2 := (own_ge2 h8 b hb).1
  omega
theorem aft2 {wb W2 w9 w8 : World} {n gA gB B9 B8 : Nat} {v6 v8 : Value} {S D : List ByteArray} (hn : wb.heap.size = n) (hg : (gA = n ∧ gB = n + 1) ∨ (gA = n + 1 ∧ gB = n)) (hW : W2.heap.size = n + 2) (hbW : Below wb.heap.size wb W2)
    (h9 : w9.ownsRow B9 9 1 v6 S.length (S.map Value.string)) (hB9 : B9 = gA) (hg9 : W2.grownBy w9 (some gA)) (hr9 : v6.ownBlock = some gA ∨ v6.ownBlock = some W2.heap.size)
    (h8 : w8.ownsRow B8 9 1 v8 D.length (D.map Value.string)) (hB8 : B8 = gB) (hg8 : w9.grownBy w8 (some gB)) (hr8 : v8.ownBlock = some gB ∨ v8.ownBlock = some w9.heap.size) : Aft wb w8 n v6 v8 S D := by
  subst hB9 hB8
  have hb9 : Below wb.heap.size wb w9 := hbW.grown hg9 (by omega) (fun j hj => by cases hj; omega)
  have hs9 := hg9.size
  have hb8 : Below wb.heap.size wb w8 := hb9.grown hg8 (by omega) (fun j hj => by cases hj; omega)
  have q9 : kdW.own w9 n v6 S v6.ownBlock.toList := ⟨own_low h9 (by omega), rfl⟩
  have hne : ∀ a ∈ v6.ownBlock.toList, a = B9 ∨ a = n + 2 := fun a ha => by
    rcases hr9 with e | e <;> rw [e] at ha <;> simp at ha
    · exact .inl ha
    · right; omega
  refine ⟨kdW.keep q9 hg8.size fun k hk => hg8.block k (kdW.ge q9 k hk).2 (fun e => ?_), ⟨own_low h8 (by omega), rfl⟩, fun a ha b hb => ?_, hb8⟩
  · have := Option.some.inj e
    rcases hne k hk with h | h <;> omega
  · have h1 := (kdW.ge q9 a ha).2
    have h2 := hne a ha
    rcases hr8 with e | e <;> rw [e] at hb <;> simp at hb <;> omega

set_option maxHeartbeats 8000000 in
set_option maxRecDepth 100000 in
theorem ownC (x : Vs) (p : PolD) (w : World) (h : RdP w 0 w.heap.size x p) (hf : FitP p) : Calls Tryz.prog 18 #[polV x p] w fun e w' =>
    ∃ y F, e = .returned (polV y p) ∧ OwnP w' w.heap.size y p F ∧ Below w.heap.size w w' := by
  obtain ⟨i0, hi, hz0, hz1, hz2⟩ := info_parts infoEl
  obtain ⟨j0, hj, hw0, hw1, hw2⟩ := info_parts infoStr
  obtain ⟨A1, c1, A2, c2, A3, c3, A4, c4, rfl, q1, q2, q3, q4, q5, q6, q7, q8⟩ := h.form
  obtain ⟨⟨hf1, hf2⟩, hf3, hf4, hf5⟩ := hf
  have HRS : Hid (∀ W l v, kdR.rd W 0 W.heap.size v l → FitR l → Calls Tryz.prog 53 #[v] W fun e w' => ∃ v' F, e = .returned v' ∧ kdR.own w' W.heap.size v' l F ∧ Below W.heap.size W w') := Lib.hid fun W l v hv hl => lCopiedC l v W hv hl
  have HRD : Hid (∀ W, Below w.heap.size w W → RdP W 0 w.heap.size ⟨.slice A1 p.els.length c1, .slice A2 p.glob.length c2, .slice A3 p.schemes.length c3, .slice A4 p.drop.length c4⟩ p) := Lib.hid fun W hW => h.stay (stay_below hW (Nat.le_refl _))
  have HF2 := Lib.hid hf2
  have HF3 := Lib.hid hf3
  clear h hf2 hf3
  unfold polV
  go_enter Tryz.func18, Tryz.ntmps18
  go_wp2
  go_loopw [3, 9] (fun v0 i wr => ∃ (k : Nat) (T : List (It ElD)), k ≤ p.els.length ∧ i = .int .i64 k ∧ Hid (T.map (·.a) = p.els.take k ∧ wr.ownsRow (w.heap.size + 2) 45 2 v0 T.length (fmE.cells T) ∧ (∀ t ∈ T, kdR.own wr (w.heap.size + 2) t.v t.a.rules t.G) ∧ (v0.ownBlock.toList ++ outG T).Nodup) ∧
    Bl wr w.heap.size 29 [.slice A1 p.els.length c1, .slice A2 p.glob.length c2, .slice A3 p.schemes.length c3, .bool p.rel, .slice A4 p.drop.length c4, .int .i64 p.depth, .int .i64 p.window] ∧
    Bl wr (w.heap.size + 1) 29 [.slice none 0 0, .slice none 0 0, .slice none 0 0, .bool false, .slice none 0 0, .int .i64 0, .int .i64 0] ∧ Below w.heap.size w wr) (fun _ i _ => p.els.length - (intOf i).toNat)
  case atStart =>
    refine ⟨0, [], by omega, rfl, Lib.hid ⟨rfl, World.ownsRow_nil _ _ _ _, by simp, by simp [Value.ownBlock, outG]⟩, (Bl.new w _ _ rfl).alloc _, Bl.new _ _ _ (by simp), ((Below.refl _ _).alloc (Nat.le_refl _) _).alloc (by simp) _⟩
  case round =>
    obtain ⟨k, T, hk, rfl, hown, m1, m2, hnx⟩ := hrel
    by_cases hlt : k < p.els.length
    · obtain ⟨b, off, u, rfl, hb1, hb2, hu, hcell⟩ := fmE.rd_at (HRD.out _ hnx).1 hlt
      have e0 := hcell 0 _ rfl
      have e1 := hcell 1 _ rfl
      rw [show off + (k * fmE.size + 0) = off + k * 2 from rfl] at e0
      rw [show off + (k * fmE.size + 1) = off + k * 2 + 1 from by show off + (k * 2 + 1) = _; omega] at e1
      obtain ⟨A5, c5, rfl, _⟩ := fmR.rd_form hu
      clear hcell
      have HU : Hid (∀ W, Below wr.heap.size wr W → kdR.rd W 0 W.heap.size (.slice A5 p.els[k].rules.length c5) p.els[k].rules) := Lib.hid fun W hW => kdR.wide (rd_below hu hW hnx.size) (Nat.le_refl _) (Nat.le_trans hnx.size hW.size)
      have hzz := hnx.size
      have hTl := mapE_take hown.out.1 hk
      have g1 : T.length + 1 ≤ maxLen := by unfold maxLen; omega
      have g2 : (T.length + 1) * 40 ≤ 140737488355328 := by omega
      have HTL := Lib.hid hTl
      have hm2 := m2.lt
      clear hTl
      go_upto_region 5 with fail
      obtain ⟨W0, hW0⟩ : ∃ W, W = wr.alloc (.cells #[.string p.els[k].name, .slice A5 (fmE.sub p.els[k]).length c5] 45) := ⟨_, rfl⟩
      have hb0 : Below wr.heap.size wr W0 := hW0 ▸ (Below.refl _ _).alloc (Nat.le_refl _) _
      have k5 : Bl W0 wr.heap.size 45 [.string p.els[k].name, .slice A5 (fmE.sub p.els[k]).length c5] := hW0 ▸ Bl.new wr _ _ rfl
      have y0 := k5.cell 0 rfl
      have y1 := k5.cell 1 rfl
      rw [← hW0]
      have HX := Lib.hid hW0
      clear hW0
      have how := hown.out.2.1
      go_region_law (first
          | (go_simp; go_at_call 53; refine (HRS.out _ p.els[k].rules (.slice A5 p.els[k].rules.length c5) (by exact HU.out _ hb0.drew) (HF2.out k hlt)).mono ?_; rintro e w2 ⟨u2, G, rfl, ho2, hb2'⟩; obtain ⟨A6, c6, rfl, _⟩ := fmR.own_form ho2; have hb3 : Below wr.heap.size wr w2 := hb0.drew.trans (hb2'.mono hb0.size); have hzy := hb3.size; have k6 := (k5.below (w' := W0.drew) (drw W0 1)).below hb2'; have z0 := k6.cell 0 rfl; have z1 := k6.cell 1 rfl; have k7 := k6.alloc (.cells #[.string p.els[k].name, .slice A6 p.els[k].rules.length c6] 45); have z2 := k7.cell 0 rfl; have z3 := k7.cell 1 rfl; have how2 := own_stay how (w' := w2) (fun k hk => hb3.block k (own_ge2 how k hk).2))
          | (refine step_append_lies _ (by rfl) (.tmp 13) (.tmp 20) 25 (by rfl) (w.heap.size + 2) 45 i0 _ 2 40 Tryz.underlying25 hi hz0 hz1 hz2 rfl (by decide) u3 T.length (fmE.cells T) (by rfl) (by exact how2.alloc _) ⟨w2.heap.size, 0, none⟩ 1 1 [.string p.els[k].name, .slice A6 p.els[k].rules.length c6] (by rfl) (by rfl) (by exact World.news_of_block (heap_alloc_new w2 _)) (by simp [Value.oneCell']) (by decide) g1 g2 (by simp; omega) _ rfl ?_; intro g9 cap9 w9 hown9 hgrow9 hat9 hlt9; have k9 := k7.of (hgrow9.block _ (by simp; omega) (fun e => by have := (how.lt _ e.symm).2; omega)); have z4 := k9.cell 0 rfl; have z5 := k9.cell 1 rfl))
      all_goals (
        have hp := fmE.push (t := ⟨p.els[k], .slice A6 p.els[k].rules.length c6, G⟩) how hown.out.2.2.1 hown.out.2.2.2 hb3 (by omega) (kdR.low ho2 hb0.size) hown9 hgrow9 (hat9.elim (fun h => .inl h.symm) (fun h => .inr (congrArg some h)))
        have hgr : ∀ j, j < wr.heap.size → u3.ownBlock ≠ some j → w9.heap[j]? = wr.heap[j]? := fun j hj hn => (hgrow9.block j (by simp; omega) (fun e => hn e.symm)).trans ((Below.heap_alloc w2 _ j (by omega)).trans (hb3.block j hj))
        have hnb : ∀ j, j < w.heap.size + 2 → u3.ownBlock ≠ some j := fun j hj e => by have := (how.lt _ e).1; omega
        have m1' := m1.of (hgr _ m1.lt (hnb _ (by omega)))
        have m2' := m2.of (hgr _ m2.lt (hnb _ (by omega)))
        obtain ⟨T2, hT2, ho9, hs9, hF9', hn9⟩ := hp
        have hb9 : Below w.heap.size w w9 := ((hnx.trans (hb3.mono hzz)).alloc (by omega) _).grown hgrow9 (by simp; omega) (fun j hj => by have := (how.lt j hj).1; omega)
        have hrel : Hid (T2.map (·.a) = p.els.take (k + 1) ∧ w9.ownsRow (w.heap.size + 2) 45 2 (.slice (some ⟨g9, 0, none⟩) (T.length + 1) cap9) T2.length (fmE.cells T2) ∧ (∀ t ∈ T2, kdR.own w9 (w.heap.size + 2) t.v t.a.rules t.G) ∧ ((Value.slice (some ⟨g9, 0, none⟩) (T.length + 1) cap9).ownBlock.toList ++ outG T2).Nodup) :=
          Lib.hid ⟨by rw [hT2, hown.out.1, List.take_succ_eq_append_getElem hlt], ho9, hs9, hF9' ▸ hn9⟩
        clear hgr hnb ho9 hs9 hF9' hn9 hT2 hown9 hgrow9 hat9 how how2 ho2 k6 k7 k9 y0 y1 z0 z1 z2 z3 z4 z5
        go_wp2
        go_roundw
        case rel => exact ⟨k + 1, T2, by omega, by go_num, hrel, m1', m2', hb9⟩
        case measure => simp [intOf] <;> omega)
    · obtain rfl : k = p.els.length := by omega
      have l1 := m1.cell 1 rfl
      have hG : kdR.rd wr 0 wr.heap.size (.slice A2 p.glob.length c2) p.glob := kdR.wide (HRD.out _ hnx).2.1 (Nat.le_refl _) hnx.size
      have hzz := hnx.size
      have hm2 := m2.lt
      have how := hown.out.2.1
      obtain ⟨A0, c0, rfl, _⟩ := own_slice how
      go_upto_region 8 with (go_at_call 53; refine (HRS.out _ p.glob (.slice A2 p.glob.length c2) hG HF3.out).mono ?_; rintro e wa ⟨ua, Ga, rfl, hoa, hba⟩; obtain ⟨Aa, ca, rfl, _⟩ := fmR.own_form hoa; have a1 := m1.below hba; have a2 := m2.below hba; have s0 := a1.cell 0 rfl; have s1 := a1.fz 0; have a3 := a1.set 0 (.slice A0 T.length c0); have s2 := a3.cell 1 rfl; have s3 := a3.fz 1)
      have a4 := a3.set 1 (.slice Aa p.glob.length ca)
      have b2 := (a2.other (p := ⟨w.heap.size, 0, none⟩) (by show w.heap.size + 1 ≠ w.heap.size; omega) (.slice A0 T.length c0)).other (p := ⟨w.heap.size, 1, none⟩) (by show w.heap.size + 1 ≠ w.heap.size; omega) (.slice Aa p.glob.length ca)
      have hfa : Fr [w.heap.size] wa ((wa.setCell ⟨w.heap.size, 0, none⟩ (.slice A0 T.length c0)).setCell ⟨w.heap.size, 1, none⟩ (.slice Aa p.glob.length ca)) := Fr.set2 wa w.heap.size _ _
      obtain ⟨wb, hwb⟩ : ∃ W, W = (wa.setCell ⟨w.heap.size, 0, none⟩ (.slice A0 T.length c0)).setCell ⟨w.heap.size, 1, none⟩ (.slice Aa p.glob.length ca) := ⟨_, rfl⟩
      rw [← hwb] at a4 b2 hfa ⊢
      have HWB := Lib.hid hwb
      clear hwb
      have hsb : wb.heap.size = wa.heap.size := by rw [HWB.out]; simp [World.setCell]
      have d2 := a4.cell 2 rfl
      have d4 := a4.cell 4 rfl
      have a5 := a4.alloc (.cells #[] 9)
      have d2' := a5.cell 2 rfl
      have d4' := a5.cell 4 rfl
      have hbb : Below w.heap.size w wb := (hnx.trans (hba.mono hzz)).trans (hfa.below (Nat.le_trans hzz hba.size) (by simp))
      have hbb5 : Below wb.heap.size wb (wb.alloc (.cells #[] 9)) := (Below.refl _ _).alloc (Nat.le_refl _) _
      have hoA := own_empty wb wa.heap.size hsb
      have hsA := rd_src ((HRD.out _ (hbb.trans (hbb5.mono hbb.size))).2.2.1)
      have r1 : 0 + p.schemes.length ≤ maxLen := by unfold maxLen; omega
      have r2 : (0 + p.schemes.length) * 16 ≤ 140737488355328 := by omega
      have r3 : 0 + p.drop.length ≤ maxLen := by unfold maxLen; omega
      have r4 : (0 + p.drop.length) * 16 ≤ 140737488355328 := by omega
      have hwz := hba.size
      have hzb := hbb.size
      obtain ⟨W2, hW2⟩ : ∃ W, W = ((wb.alloc (.cells #[] 9)).alloc (.cells #[] 9)).drew := ⟨_, rfl⟩
      have hW2s : W2.heap.size = wa.heap.size + 2 := by rw [hW2]; show ((wb.alloc _).alloc _).heap.size = _; simp; omega
      have hbb6 : Below wb.heap.size wb W2 := hW2 ▸ (((Below.refl _ _).alloc (Nat.le_refl _) _).alloc (by simp) _).trans ((drw _ 1).mono (by simp; omega))
      have a6 := (a5.alloc (.cells #[] 9))
      have d2'' := a6.cell 2 rfl
      have d4'' := a6.cell 4 rfl
      have hoA2 : W2.ownsRow wa.heap.size 9 1 (.slice (some ⟨wa.heap.size, 0, none⟩) 0 0) 0 [] := hW2 ▸ (own_empty wb wa.heap.size hsb).alloc _
      have hoB2 : W2.ownsRow (wa.heap.size + 1) 9 1 (.slice (some ⟨wa.heap.size + 1, 0, none⟩) 0 0) 0 [] := hW2 ▸ own_empty (wb.alloc (.cells #[] 9)) (wa.heap.size + 1) (by simp; omega)
      have hsA2 := rd_src ((HRD.out W2 (hbb.trans (hbb6.mono hbb.size))).2.2.1)
      subst hW2
      go_region_law (first
        | (refine step_append_src _ (by rfl) (.tmp 29) (.tmp 31) 27 (by rfl) (wa.heap.size) 9 j0 _ 1 16 Tryz.underlying27 hj hw0 hw1 hw2 rfl (by decide) (.slice (some ⟨wa.heap.size, 0, none⟩) 0 0) 0 [] (by rfl) (by exact hoA) A3 p.schemes.length c3 (p.schemes.map Value.string) (by rfl) (by simp) (by exact hsA) (by simp [Value.oneCell']) r1 r2 (by simp; omega) ?_; intro v9 w9 hown9 hgrow9 hrow9; rw [Nat.zero_add, List.nil_append] at hown9; obtain ⟨A6, c6, rfl, _⟩ := own_slice hown9; have hord : True := trivial; have hb9 : Below wb.heap.size wb w9 := (hbb5.trans ((drw _ 1).mono (by simp))).grown hgrow9 (by simp) (fun j hj => by have h7 : wa.heap.size = j := Option.some.inj hj; omega); have a9 := a4.below hb9; have l4 := a9.cell 4 rfl; have b9 := a9.alloc (.cells #[] 9); have l4' := b9.cell 4 rfl; have hoB := own_empty w9 w9.heap.size rfl; have hb99 : Below wb.heap.size wb (w9.alloc (.cells #[] 9)) := hb9.alloc hb9.size _; have hsB := rd_src ((HRD.out _ (hbb.trans (hb99.mono hzb))).2.2.2))
        | (refine step_append_src _ (by rfl) (.tmp 33) (.tmp 35) 27 (by rfl) (w9.heap.size) 9 j0 _ 1 16 Tryz.underlying27 hj hw0 hw1 hw2 rfl (by decide) (.slice (some ⟨w9.heap.size, 0, none⟩) 0 0) 0 [] (by rfl) (by exact hoB) A4 p.drop.length c4 (p.drop.map Value.string) (by rfl) (by simp) (by exact hsB) (by simp [Value.oneCell']) r3 r4 (by simp <;> omega) ?_; intro v8 w8 hown8 hgrow8 hrow8; rw [Nat.zero_add, List.nil_append] at hown8; obtain ⟨A8, c8, rfl, _⟩ := own_slice hown8; have _z := hord; have hb8 : Below w9.heap.size w9 w8 := ((Below.refl _ _).alloc (Nat.le_refl _) _).grown hgrow8 (by simp) (fun j hj => by have h7 : w9.heap.size = j := Option.some.inj hj; omega); have hAft := aft1 hsb hown9 (Nat.le_refl _) hb9 hown8 rfl hb8; have a8 := a4.below hAft.bel; have i0' := a8.cell 2 rfl; have i1' := a8.fz 2; have a10 := a8.set 2 (.slice A6 p.schemes.length c6); have i2' := a10.cell 4 rfl; have i3' := a10.fz 4)
        | (refine step_append_src _ (by rfl) (.tmp 29) (.tmp 31) 27 (by rfl) (wa.heap.size) 9 j0 _ 1 16 Tryz.underlying27 hj hw0 hw1 hw2 rfl (by decide) (.slice (some ⟨wa.heap.size, 0, none⟩) 0 0) 0 [] (by rfl) (by exact hoA2) A3 p.schemes.length c3 (p.schemes.map Value.string) (by rfl) (by simp) (by exact hsA2) (by simp [Value.oneCell']) r1 r2 (by simp; omega) ?_; intro v9 w9 hown9 hgrow9 hrow9; rw [Nat.zero_add, List.nil_append] at hown9; obtain ⟨A6, c6, rfl, _⟩ := own_slice hown9; have hord2 : True := trivial; have hgr : (((wb.alloc (.cells #[] 9)).alloc (.cells #[] 9)).drew).grownBy w9 (some (wa.heap.size)) := hgrow9; have hb9 : Below wb.heap.size wb w9 := hbb6.grown hgr (by have h7 := hgr.size; omega) (fun j hj => by have h7 := Option.some.inj hj; omega); have a9 := a4.below hb9; have l4 := a9.cell 4 rfl; have hoB := own_stay hoB2 (w' := w9) (fun k hk => hgr.block k (own_ge2 hoB2 k hk).2 (fun e => by have h7 := Option.some.inj e; simp [Value.ownBlock] at hk; omega)); have hsB := rd_src ((HRD.out _ (hbb.trans (hb9.mono hzb))).2.2.2))
        | (refine step_append_src _ (by rfl) (.tmp 33) (.tmp 35) 27 (by rfl) (wa.heap.size + 1) 9 j0 _ 1 16 Tryz.underlying27 hj hw0 hw1 hw2 rfl (by decide) (.slice (some ⟨wa.heap.size + 1, 0, none⟩) 0 0) 0 [] (by rfl) (by exact hoB) A4 p.drop.length c4 (p.drop.map Value.string) (by rfl) (by simp) (by exact hsB) (by simp [Value.oneCell']) r3 r4 (by have h7 := hgr.size; have h8 : wb.heap.size + 1 + 1 ≤ w9.heap.size := (by simpa using h7); omega) ?_; intro v8 w8 hown8 hgrow8 hrow8; rw [Nat.zero_add, List.nil_append] at hown8; obtain ⟨A8, c8, rfl, _⟩ := own_slice hown8; have _z := hord2; have hAft := aft2 hsb (by omega) hW2s hbb6 hown9 rfl hgr hrow9 hown8 rfl hgrow8 hrow8; have a8 := a4.below hAft.bel; have i0' := a8.cell 2 rfl; have i1' := a8.fz 2; have a10 := a8.set 2 (.slice A6 p.schemes.length c6); have i2' := a10.cell 4 rfl; have i3' := a10.fz 4)
        | (refine step_append_src _ (by rfl) (.tmp 29) (.tmp 31) 27 (by rfl) (wa.heap.size + 1) 9 j0 _ 1 16 Tryz.underlying27 hj hw0 hw1 hw2 rfl (by decide) (.slice (some ⟨wa.heap.size + 1, 0, none⟩) 0 0) 0 [] (by rfl) (by exact hoB2) A3 p.schemes.length c3 (p.schemes.map Value.string) (by rfl) (by simp) (by exact hsA2) (by simp [Value.oneCell']) r1 r2 (by simp; omega) ?_; intro v9 w9 hown9 hgrow9 hrow9; rw [Nat.zero_add, List.nil_append] at hown9; obtain ⟨A6, c6, rfl, _⟩ := own_slice hown9; have hord3 : True := trivial; have hgr : (((wb.alloc (.cells #[] 9)).alloc (.cells #[] 9)).drew).grownBy w9 (some (wa.heap.size + 1)) := hgrow9; have hb9 : Below wb.heap.size wb w9 := hbb6.grown hgr (by have h7 := hgr.size; omega) (fun j hj => by have h7 := Option.some.inj hj; omega); have a9 := a4.below hb9; have l4 := a9.cell 4 rfl; have hoB := own_stay hoA2 (w' := w9) (fun k hk => hgr.block k (own_ge2 hoA2 k hk).2 (fun e => by have h7 := Option.some.inj e; simp [Value.ownBlock] at hk; omega)); have hsB := rd_src ((HRD.out _ (hbb.trans (hb9.mono hzb))).2.2.2))
        | (refine step_append_src _ (by rfl) (.tmp 33) (.tmp 35) 27 (by rfl) (wa.heap.size) 9 j0 _ 1 16 Tryz.underlying27 hj hw0 hw1 hw2 rfl (by decide) (.slice (some ⟨wa.heap.size, 0, none⟩) 0 0) 0 [] (by rfl) (by exact hoB) A4 p.drop.length c4 (p.drop.map Value.string) (by rfl) (by simp) (by exact hsB) (by simp [Value.oneCell']) r3 r4 (by have h7 := hgr.size; have h8 : wb.heap.size + 1 + 1 ≤ w9.heap.size := (by simpa using h7); omega) ?_; intro v8 w8 hown8 hgrow8 hrow8; rw [Nat.zero_add, List.nil_append] at hown8; obtain ⟨A8, c8, rfl, _⟩ := own_slice hown8; have _z := hord3; have hAft := aft2 hsb (by omega) hW2s hbb6 hown9 rfl hgr hrow9 hown8 rfl hgrow8 hrow8; have a8 := a4.below hAft.bel; have i0' := a8.cell 2 rfl; have i1' := a8.fz 2; have a10 := a8.set 2 (.slice A6 p.schemes.length c6); have i2' := a10.cell 4 rfl; have i3' := a10.fz 4))
      all_goals (
        have a11 := a10.set 4 (.slice A8 p.drop.length c8)
        have b8 := ((b2.below hAft.bel).other (p := ⟨w.heap.size, 2, none⟩) (by show w.heap.size + 1 ≠ w.heap.size; omega) (.slice A6 p.schemes.length c6)).other (p := ⟨w.heap.size, 4, none⟩) (by show w.heap.size + 1 ≠ w.heap.size; omega) (.slice A8 p.drop.length c8)
        have hfb : Fr [w.heap.size] w8 ((w8.setCell ⟨w.heap.size, 2, none⟩ (.slice A6 p.schemes.length c6)).setCell ⟨w.heap.size, 4, none⟩ (.slice A8 p.drop.length c8)) := (Fr.setCell w8 ⟨w.heap.size, 2, none⟩ _ (.inl (by simp))).trans (Fr.setCell _ ⟨w.heap.size, 4, none⟩ _ (.inl (by simp)))
        have hA := hAft
        clear hown9 hgrow9 hrow9 hown8 hgrow8 hrow8 i0' i1' i2' i3' a8 a10 hAft
        obtain ⟨W9, hW9⟩ : ∃ W, W = (w8.setCell ⟨w.heap.size, 2, none⟩ (.slice A6 p.schemes.length c6)).setCell ⟨w.heap.size, 4, none⟩ (.slice A8 p.drop.length c8) := ⟨_, rfl⟩
        rw [← hW9] at a11 b8 hfb ⊢
        have HW9 := Lib.hid hW9
        clear hW9
        have r0 := a11.cell 0 rfl
        have r1 := a11.cell 1 rfl
        have r2 := a11.cell 2 rfl
        have r3 := a11.cell 3 rfl
        have r4 := a11.cell 4 rfl
        have r5 := a11.cell 5 rfl
        have r6 := a11.cell 6 rfl
        obtain ⟨s0, s1, s2, s3, s4, s5, s6, s7, s8, s9, s10, s11, s12, s13⟩ := b8.store7 (.slice A0 T.length c0) (.slice Aa p.glob.length ca) (.slice A6 p.schemes.length c6) (.bool p.rel) (.slice A8 p.drop.length c8) (.int .i64 p.depth) (.int .i64 p.window)
        have jz := b8.seven (.slice A0 T.length c0) (.slice Aa p.glob.length ca) (.slice A6 p.schemes.length c6) (.bool p.rel) (.slice A8 p.drop.length c8) (.int .i64 p.depth) (.int .i64 p.window)
        have hfz := Fr.set7 W9 (w.heap.size + 1) (.slice A0 T.length c0) (.slice Aa p.glob.length ca) (.slice A6 p.schemes.length c6) (.bool p.rel) (.slice A8 p.drop.length c8) (.int .i64 p.depth) (.int .i64 p.window)
        go_wp2
        refine bodyPost_ret (res_cell Tryz.results18 rfl jz Tryz.underlying29 rfl (by kernel_rfl)) rfl ?_
        obtain ⟨h1, h2, h3, h4⟩ := hown.out
        have y3 := (hfb.mono (G := [w.heap.size, w.heap.size + 1]) (by simp)).trans (hfz.mono (by simp))
        have y2 := ((hfa.mono (G := [w.heap.size, w.heap.size + 1]) (by simp)).trans (Fr.of_below hA.bel)).trans y3
        have y1 := (Fr.of_below (F := [w.heap.size, w.heap.size + 1]) hba).trans y2
        have hE : kdE.own wr (w.heap.size + 2) (.slice A0 T.length c0) p.els _ := ⟨T, by rw [h1, List.take_length], h2, h3, rfl, h4⟩
        have z1 := hba.size
        have z2 := hA.bel.size
        have q1 := kdE.keep hE y1.size fun k hk => y1.block k (kdE.ge hE k hk).2 (by have := (kdE.ge hE k hk).1; simp; omega)
        have q2 := kdR.keep hoa y2.size fun k hk => y2.block k (kdR.ge hoa k hk).2 (by have := (kdR.ge hoa k hk).1; simp; omega)
        have q3 := kdW.keep hA.o3 y3.size fun k hk => y3.block k (kdW.ge hA.o3 k hk).2 (by have := (kdW.ge hA.o3 k hk).1; simp; omega)
        have q4 := kdW.keep hA.o4 y3.size fun k hk => y3.block k (kdW.ge hA.o4 k hk).2 (by have := (kdW.ge hA.o4 k hk).1; simp; omega)
        refine ⟨⟨.slice A0 T.length c0, .slice Aa p.glob.length ca, .slice A6 p.schemes.length c6, .slice A8 p.drop.length c8⟩, _, rfl, ⟨_, _, _, _, kdE.low q1 (by omega), kdR.low q2 (by omega), kdW.low q3 (by omega), kdW.low q4 (by omega), rfl, ?_⟩, hnx.trans (y1.below hzz (by simp))⟩
        refine nod wr.heap.size (kdE.nodup hE) (nod wa.heap.size (kdR.nodup hoa) (List.nodup_append.2 ⟨kdW.nodup hA.o3, kdW.nodup hA.o4, hA.dis⟩) (fun k hk => (kdR.ge hoa k hk).2) (fun k hk => ?_)) (fun k hk => (kdE.ge hE k hk).2) (fun k hk => ?_)
        · rcases List.mem_append.1 hk with hk | hk
          · exact (kdW.ge hA.o3 k hk).1
          · exact (kdW.ge hA.o4 k hk).1
        · rcases List.mem_append.1 hk with hk | hk
          · exact (kdR.ge hoa k hk).1
          · rcases List.mem_append.1 hk with hk | hk
            · have := (kdW.ge hA.o3 k hk).1; omega
            · have := (kdW.ge hA.o4 k hk).1; omega)
end Go.Proofs.YteikagdinecfoaaGreatDoor.Ow
