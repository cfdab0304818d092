/- The closure of Print that writes a rule. -/
import Derived.Test.YteikagdinecfoaaGreatDoorPl
set_option linter.unusedVariables false
set_option linter.unusedSimpArgs false
namespace Go.Proofs.YteikagdinecfoaaGreatDoor.Py
open Go.RowKit Lb Gr Pd Fl Go.Proofs.YteikagdinecfoaaGreatDoor.Pm Bk Is Sl Go.Proofs.YteikagdinecfoaaGreatDoor.Pl
attribute [local go_sem ↓] Go.wp_at_zero Go.wp_at_succ

section
variable {P : Program} (w : World)
/-- an append, the source nil, empty or not, at a step of a region that draws its order -/
theorem step_append_src {ops : Array Oper} {o : Oper} {a : Act} {K : Act → World → Prop} {Q : Exit → Act → World → Prop} {E : Prop} (hgd : o.guard = none) (s x : Operand) (t : TypeId)
    (ho : o.op = .call { callee := .builtin .append, args := #[s, x], argTypes := #[t, t] })
    (base : Nat) (e : TypeId) (i : TypeInfo) (z : Value) (size bytes : Nat) (ht : P.underlying t = some (.slice e)) (hi : P.info? e = some i) (hz : i.zero = some z)
    (hsize : i.size = size) (hby : i.bytes = bytes) (hzs : z.cells.size = size) (hsz : 0 < size) (v : Value) (n : Nat) (xs : List Value) (hs : a.eval s = v) (hown : w.ownsRow base e size v n xs)
    (A : Option Addr) (m c : Nat) (news : List Value) (hx : a.eval x = .slice A m c) (hl : news.length = m * size) (hcell : 0 < news.length → ∃ b off, A = some ⟨b, off, none⟩ ∧ ∀ j u, news[j]? = some u → w.cell? ⟨b, off + j, none⟩ = some u)
    (h1 : ∀ u ∈ news, u.oneCell' = true) (h63 : n + m ≤ maxLen) (hbytes : (n + m) * bytes ≤ 140737488355328) (hbase : base ≤ w.heap.size)
    (h : ∀ v' w', w'.ownsRow base e size v' (n + m) (xs ++ news) → w.grownBy w' v.ownBlock → (v'.ownBlock = v.ownBlock ∨ v'.ownBlock = some w.heap.size) → K (a.put o.dst v') w') :
    if Region.wanted o (yielded ops a.tmps) = true then Oper.wp P o a w K Q else E := by
  have hw : Region.wanted o (yielded ops a.tmps) = true := by simp [Region.wanted, hgd]
  rw [if_pos hw]
  obtain ⟨v', w', hr, h2, h3, h4⟩ := run_append_src (P := P) w base t o.type e i z size bytes ht hi hz hsize hby hzs hsz v n xs hown A m c news hl hcell h1 h63 hbytes hbase
  unfold Oper.wp execOp
  simp only [ho, resolve, invoke, builtin, Sem.run_bind, Sem.run_pure, Result.andThen_ok, List.map_toArray, List.map_cons, List.map_nil, hs, hx, hr]
  exact h v' w' h2 h3 h4
end

/-- the closure that writes a line, in its variable -/
def lineV (bb : Nat) : Value := .func (.func 62) #[] #[.pointer (some ⟨bb, 0, none⟩)]
theorem strs_one (l : List ByteArray) : ∀ u ∈ l.map Value.string, u.oneCell' = true := by
  intro u hu
  obtain ⟨s, _, rfl⟩ := List.mem_map.1 hu
  rfl
theorem rd_src {w : World} {lo hi m c : Nat} {A : Option Addr} {ws : List ByteArray} (h : kdW.rd w lo hi (.slice A m c) ws) : 0 < (ws.map Value.string).length → ∃ b off, A = some ⟨b, off, none⟩ ∧ ∀ j u, (ws.map Value.string)[j]? = some u → w.cell? ⟨b, off + j, none⟩ = some u := by
  intro hp
  obtain ⟨A', c', hv, _, _, h3⟩ := h
  injection hv with e1 e2 e3
  subst e1
  obtain ⟨b, off, rfl, _, _, hc⟩ := h3 hp
  exact ⟨b, off, rfl, hc⟩
theorem rd_three {w9 : World} {B m c : Nat} {A : Option Addr} {a b d : ByteArray} {ws : List ByteArray} (h : w9.ownsRow B 9 1 (.slice A (3 + m) c) (3 + m) ([Value.string a, .string b, .string d] ++ ws.map Value.string)) (hm : m = ws.length) : kdW.rd w9 0 w9.heap.size (.slice A (3 + m) c) (a :: b :: d :: ws) := by
  have h2 := Sl2.of_own (lo := 0) (hi := w9.heap.size) h (Nat.zero_le _) (Nat.le_refl _)
  have e : (a :: b :: d :: ws).length = 3 + m := by simp only [List.length_cons]; omega
  show Sl2 w9 0 w9.heap.size _ (a :: b :: d :: ws).length ((a :: b :: d :: ws).map Value.string)
  rw [e]
  exact h2
theorem below_row {w2 w9 : World} {cs : Array Value} {t : TypeId} {n c : Nat} (hg : (w2.alloc (.cells cs t)).grownBy w9 (Value.slice (some ⟨w2.heap.size, 0, none⟩) n c).ownBlock) : Below w2.heap.size w2 w9 :=
  ((Below.refl _ _).alloc (Nat.le_refl _) _).grown hg (by simp) (fun j hj => by simp [Value.ownBlock] at hj; omega)
/-- the kinds' names, with the block in which they lie -/
theorem kindsR (kn : Nat) (hk : kn < 9) (kd : ByteArray) (hkd : kd = kindN kn) (w : World) : Calls Tryz.prog 66 #[] w fun e w' => ∃ g cur, e = .returned (.slice (some ⟨g, 0, none⟩) 9 9) ∧ w.heap.size ≤ g ∧ w'.heap[g]? = some (.cells cur 9 (0, 0)) ∧ w'.cell? ⟨g, kn, none⟩ = some (.string kd) ∧ Below w.heap.size w w' :=
  (kindsC w).mono (by
    rintro e w' ⟨A, G, rfl, ho, hb⟩
    have hkl : kn < kindsL.length := hk
    have e : kindsL[kn] = kd := by rw [hkd]; unfold kindN; rw [List.getD_eq_getElem?_getD, List.getElem?_eq_getElem hkl]; rfl
    rcases ho.1.2 with ⟨hv, h0⟩ | ⟨g, cap, cur, hv, hbg, hg, _⟩
    · cases hv
    · injection hv with e1 e2 e3
      subst e1
      obtain ⟨b9, o9, he, _, _, q9⟩ := rdW_at (kdW.read (lo := 0) (hi := w'.heap.size) ho (Nat.zero_le _) (Nat.le_refl _)) (i := kn) hkl
      injection he with he
      injection he with he1 he2
      subst he1 he2
      rw [Nat.zero_add, e] at q9
      exact ⟨g, cur, rfl, hbg, hg, q9, hb⟩)
section
open Go
/-- in the middle of a region: more is held from here on -/
theorem anyH_mono {P : Program} {md : Region.Mode} {ops : Array Oper} {Q : Exit → Act → World → Prop} {S S2 : World → Prop} (hs : ∀ w, S2 w → S w) : ∀ (fuel : Nat) (listed : Array Bool) (a : Act) (w : World), wpAnyH P md ops Q S2 fuel listed a w → wpAnyH P md ops Q S fuel listed a w
  | 0, _, _, _, h => h
  | fuel + 1, _, _, _, h => ⟨h.1, fun i hi => wpOp_mono (fun a' w' h' => ⟨hs _ h'.1, anyH_mono hs fuel _ a' w' h'.2⟩) (h.2 i hi)⟩
theorem held_up {P : Program} {md : Region.Mode} {ops : Array Oper} {Q : Exit → Act → World → Prop} {S : World → Prop} (S2 : World → Prop) {fuel : Nat} {listed : Array Bool} {a : Act} {w : World} (hs : ∀ w, S2 w → S w) (h : S2 w ∧ wpAnyH P md ops Q S2 fuel listed a w) : S w ∧ wpAnyH P md ops Q S fuel listed a w :=
  ⟨hs _ h.1, anyH_mono hs _ _ _ _ h.2⟩
end
set_option maxHeartbeats 8000000 in
set_option maxRecDepth 100000 in
theorem sayC {w : World} {lo hi m c bb fb kn : Nat} {A : Option Addr} {nm word : ByteArray} {ws : List ByteArray} {txt : List UInt8} (h : kdW.rd w lo hi (.slice A m c) ws) (hh : hi ≤ w.heap.size) (hk9 : kn < 9) (hB : Bd w bb txt) (hf : Bl w fb 89 [lineV bb]) (hfb : fb ≠ bb)
    (hlen : txt.length + (lineL (word :: nm :: kindN kn :: ws)).length ≤ 140737488355328) (hN : (3 + m) * 16 ≤ 140737488355328) :
    Calls Tryz.prog 65 #[.string word, .agg #[.string nm, .int .i64 (kn : Int), .slice A m c], .pointer (some ⟨fb, 0, none⟩)] w fun e w' => e = .returned (.tuple #[]) ∧ Bd w' bb (txt ++ lineL (word :: nm :: kindN kn :: ws)) ∧ Kp bb w w' := by
  obtain ⟨i0, hi0, hz0, hz1, hz2⟩ := info_parts infoStr
  have hm := rd0 h
  obtain ⟨W0, hW0⟩ : ∃ W, W = w.alloc (.cells #[.string nm, .int .i64 (kn : Int), .slice A m c] 50) := ⟨_, rfl⟩
  have hb0 : Below w.heap.size w W0 := hW0 ▸ (Below.refl _ _).alloc (Nat.le_refl _) _
  have k5 : Bl W0 w.heap.size 50 [.string nm, .int .i64 (kn : Int), .slice A m c] := hW0 ▸ Bl.new w _ _ rfl
  have hbx := k5.lt
  have hfl := hf.lt
  have hbb := hB.lt
  have f5 := hf.below hb0
  have y0 := k5.cell 0 rfl
  have y1 := k5.cell 1 rfl
  have y2 := k5.cell 2 rfl
  have y3 := f5.cell 0 rfl
  have HRD : Hid (∀ W, Below w.heap.size w W → kdW.rd W lo hi (.slice A m c) ws) := Lib.hid fun W hW => rd_below h hW hh
  have HB : Hid (∀ W, Below w.heap.size w W → Bd W bb txt) := Lib.hid fun W hW => hB.below hW
  obtain ⟨kd, hkd⟩ : ∃ kd, kd = kindN kn := ⟨_, rfl⟩
  rw [← hkd] at hlen
  have hkl : kn < kindsL.length := hk9
  have HK : Hid (∀ W, Calls Tryz.prog 66 #[] W fun e w' => ∃ g cur, e = .returned (.slice (some ⟨g, 0, none⟩) 9 9) ∧ W.heap.size ≤ g ∧ w'.heap[g]? = some (.cells cur 9 (0, 0)) ∧ w'.cell? ⟨g, kn, none⟩ = some (.string kd) ∧ Below W.heap.size W w') := Lib.hid fun W => kindsR kn hk9 kd hkd W
  rw [← hkd]
  have HM := Lib.hid hm
  have HLEN := Lib.hid hlen
  have HX := Lib.hid hW0
  have hmm : m ≤ 8796093022208 := by omega
  have hki : (kn : Int) < 9 := by omega
  have hki0 : (0 : Int) ≤ (kn : Int) := by omega
  have hki9 : kn < 9 := hk9
  have HLN : Hid (∀ W A8 c8, Below w.heap.size w W → kdW.rd W 0 W.heap.size (.slice A8 (3 + m) c8) (word :: nm :: kd :: ws) → Calls Tryz.prog 62 #[.slice A8 (3 + m) c8, .pointer (some ⟨bb, 0, none⟩)] W fun e w' => e = .returned (.tuple #[]) ∧ Bd w' bb (txt ++ lineL (word :: nm :: kd :: ws)) ∧ Kp bb W w') := Lib.hid fun W A8 c8 hW hr => lineC hr (Nat.le_refl _) (by simp) (hB.below hW) hlen (by simp only [List.length_cons]; omega)
  clear h hB hf hkd hm hlen hW0 hkl
  unfold lineV at *
  go_enter Tryz.func65, Tryz.ntmps65
  go_upto_region 1 with fail
  rw [← HX.out]
  -- region
  refine wp_region_noPanic ?_
  refine wp_region_held_drew (S := fun W' => W'.cell? ⟨w.heap.size, 0, none⟩ = some (.string nm) ∧ W'.cell? ⟨w.heap.size, 1, none⟩ = some (.int .i64 (kn : Int)) ∧ W'.cell? ⟨w.heap.size, 2, none⟩ = some (.slice A m c) ∧ W'.cell? ⟨fb, 0, none⟩ = some (.func (.func 62) #[] #[.pointer (some ⟨bb, 0, none⟩)])) (by kernel_rfl) ⟨y0, y1, y2, y3⟩ (fun hH => ?_)
  refine wpAnyH_take (i := 0) (oi := _) (v := ?_) rfl (by kernel_rfl) (by kernel_rfl) (by kernel_rfl) (fun _ _ _ h => h) (Or.inl ⟨by rfl, ?_⟩) hH ?_
  rotate_left
  focus ((intro wz hSw; (try dsimp only at hSw); go_simp); (try with_reducible rfl))
  try simp only [Act.put, List.setIfInBounds_toArray, List.set_cons_zero, List.set_cons_succ]
  refine wpAnyH_take (i := 1) (oi := _) (v := ?_) rfl (by kernel_rfl) (by kernel_rfl) (by kernel_rfl) (fun _ _ _ h => h) (Or.inl ⟨by rfl, ?_⟩) hH ?_
  rotate_left
  focus ((intro wz hSw; (try dsimp only at hSw); go_simp); (try with_reducible rfl))
  try simp only [Act.put, List.setIfInBounds_toArray, List.set_cons_zero, List.set_cons_succ]
  refine wpAnyH_take (i := 2) (oi := _) (v := ?_) rfl (by kernel_rfl) (by kernel_rfl) (by kernel_rfl) (fun _ _ _ h => h) (Or.inl ⟨by rfl, ?_⟩) hH ?_
  rotate_left
  focus ((intro wz hSw; (try dsimp only at hSw); go_simp); (try with_reducible rfl))
  try simp only [Act.put, List.setIfInBounds_toArray, List.set_cons_zero, List.set_cons_succ]
  refine wpAnyH_take (i := 3) (oi := _) (v := ?_) rfl (by kernel_rfl) (by kernel_rfl) (by kernel_rfl) (fun _ _ _ h => h) (Or.inl ⟨by rfl, ?_⟩) hH ?_
  rotate_left
  focus ((intro wz hSw; (try dsimp only at hSw); go_simp); (try with_reducible rfl))
  try simp only [Act.put, List.setIfInBounds_toArray, List.set_cons_zero, List.set_cons_succ]
  refine wpAnyH_take (i := 5) (oi := _) (v := ?_) rfl (by kernel_rfl) (by kernel_rfl) (by kernel_rfl) (fun _ _ _ h => h) (Or.inl ⟨by rfl, ?_⟩) hH ?_
  rotate_left
  focus ((intro wz hSw; (try dsimp only at hSw); go_simp); (try with_reducible rfl))
  try simp only [Act.put, List.setIfInBounds_toArray, List.set_cons_zero, List.set_cons_succ]
  refine wpAnyH_take (i := 6) (oi := _) (v := ?_) rfl (by kernel_rfl) (by kernel_rfl) (by kernel_rfl) (fun _ _ _ h => h) (Or.inl ⟨by rfl, ?_⟩) hH ?_
  rotate_left
  focus ((intro wz hSw; (try dsimp only at hSw); go_simp); (try with_reducible rfl))
  try simp only [Act.put, List.setIfInBounds_toArray, List.set_cons_zero, List.set_cons_succ]
  refine wpAnyH_take (i := 10) (oi := _) (v := ?_) rfl (by kernel_rfl) (by kernel_rfl) (by kernel_rfl) (fun _ _ _ h => h) (Or.inl ⟨by rfl, ?_⟩) hH ?_
  rotate_left
  focus ((intro wz hSw; (try dsimp only at hSw); go_simp); (try with_reducible rfl))
  try simp only [Act.put, List.setIfInBounds_toArray, List.set_cons_zero, List.set_cons_succ]
  refine wpAnyH_take (i := 11) (oi := _) (v := ?_) rfl (by kernel_rfl) (by kernel_rfl) (by kernel_rfl) (fun _ _ _ h => h) (Or.inl ⟨by rfl, ?_⟩) hH ?_
  rotate_left
  focus ((intro wz hSw; (try dsimp only at hSw); go_simp); (try with_reducible rfl))
  try simp only [Act.put, List.setIfInBounds_toArray, List.set_cons_zero, List.set_cons_succ]
  refine wpAnyH_ready (rs := [4]) (by kernel_rfl) (by simp) (AllReadyH.cons rfl (fun K hK => ?_) AllReadyH.nil)
  go_simp
  go_at_call 66
  refine (HK.out _).mono ?_
  rintro e w2 ⟨g9, cur, rfl, hg9, hr9, z4, hb9⟩
  have hb3 : Below W0.heap.size W0 w2 := (drw W0 1).trans hb9
  have hg8 : W0.heap.size ≤ g9 := hg9
  have hlt9 := (Array.getElem?_eq_some_iff.1 hr9).1
  have k6 := k5.below hb3
  have f6 := f5.below hb3
  have z0 := k6.cell 0 rfl
  have z1 := k6.cell 1 rfl
  have z2 := k6.cell 2 rfl
  have z3 := f6.cell 0 rfl
  have k7 := k6.alloc (.cells #[.string word, .string nm, .string kd] 9)
  have f7 := f6.alloc (.cells #[.string word, .string nm, .string kd] 9)
  have v0 := k7.cell 0 rfl
  have v1 := k7.cell 1 rfl
  have v2 := k7.cell 2 rfl
  have v3 := f7.cell 0 rfl
  have v4 := (World.cell?_of_block (a := ⟨g9, kn, none⟩) (Below.heap_alloc w2 (.cells #[.string word, .string nm, .string kd] 9) g9 hlt9)).trans z4
  refine hK.out _ _ ⟨z0, z1, z2, z3⟩ (fun hH2 => ?_)
  clear hK K
  try simp only [Act.put, List.setIfInBounds_toArray, List.set_cons_zero, List.set_cons_succ]
  refine anyH_mono (S2 := fun W' => W'.cell? ⟨w.heap.size, 0, none⟩ = some (.string nm) ∧ W'.cell? ⟨w.heap.size, 1, none⟩ = some (.int .i64 (kn : Int)) ∧ W'.cell? ⟨w.heap.size, 2, none⟩ = some (.slice A m c) ∧ W'.cell? ⟨fb, 0, none⟩ = some (.func (.func 62) #[] #[.pointer (some ⟨bb, 0, none⟩)]) ∧ W'.cell? ⟨g9, kn, none⟩ = some (.string kd)) (fun _ h => ⟨h.1, h.2.1, h.2.2.1, h.2.2.2.1⟩) _ _ _ _ ?_
  have hH3 : w2.cell? ⟨w.heap.size, 0, none⟩ = some (.string nm) ∧ w2.cell? ⟨w.heap.size, 1, none⟩ = some (.int .i64 (kn : Int)) ∧ w2.cell? ⟨w.heap.size, 2, none⟩ = some (.slice A m c) ∧ w2.cell? ⟨fb, 0, none⟩ = some (.func (.func 62) #[] #[.pointer (some ⟨bb, 0, none⟩)]) ∧ w2.cell? ⟨g9, kn, none⟩ = some (.string kd) := ⟨z0, z1, z2, z3, z4⟩
  refine wpAnyH_take (i := 7) (oi := _) (v := ?_) rfl (by kernel_rfl) (by kernel_rfl) (by kernel_rfl) (fun _ _ _ h => h) (Or.inl ⟨by rfl, ?_⟩) hH3 ?_
  rotate_left
  focus ((intro wz hSw; (try dsimp only at hSw); go_simp); (try with_reducible rfl))
  try simp only [Act.put, List.setIfInBounds_toArray, List.set_cons_zero, List.set_cons_succ]
  refine wpAnyH_take (i := 8) (oi := _) (v := ?_) rfl (by kernel_rfl) (by kernel_rfl) (by kernel_rfl) (fun _ _ _ h => h) (Or.inl ⟨by rfl, ?_⟩) hH3 ?_
  rotate_left
  focus ((intro wz hSw; (try dsimp only at hSw); go_simp); (try with_reducible rfl))
  try simp only [Act.put, List.setIfInBounds_toArray, List.set_cons_zero, List.set_cons_succ]
  refine wpAnyH_ready (rs := [9]) (by kernel_rfl) (by simp) (AllReadyH.cons rfl (fun K hK => ?_) AllReadyH.nil)
  go_simp
  refine hK.out _ _ ⟨v0, v1, v2, v3, v4⟩ (fun hH4 => ?_)
  clear hK K
  try simp only [Act.put, List.setIfInBounds_toArray, List.set_cons_zero, List.set_cons_succ]
  refine wpAnyH_ready (rs := [12]) (by kernel_rfl) (by simp) (AllReadyH.cons rfl (fun K hK => ?_) AllReadyH.nil)
  refine step_append_src _ (by rfl) (.tmp 14) (.tmp 16) 27 (by rfl) w2.heap.size 9 i0 _ 1 16 Tryz.underlying27 hi0 hz0 hz1 hz2 rfl (by decide) (.slice (some ⟨w2.heap.size, 0, none⟩) 3 3) 3 [.string word, .string nm, .string kd] (by rfl) (World.ownsRow_lit (base := w2.heap.size) (e := 9) (size := 1) w2 #[.string word, .string nm, .string kd] 3 (Nat.le_refl _) (by simp [maxLen]) rfl) A m c (ws.map Value.string) (by rfl) (by rw [List.length_map, Nat.mul_one]; exact HM.out.symm) (rd_src (HRD.out _ ((hb0.trans (hb3.mono hb0.size)).alloc (Nat.le_trans hb0.size hb3.size) _))) (strs_one ws) (by unfold maxLen; omega) hN (by simp) ?_
  intro v9 w9 hown9 hgrow9 hrow9
  obtain ⟨A8, c8, rfl, _⟩ := own_slice hown9
  have hb4 : Below w2.heap.size w2 w9 := below_row hgrow9
  have hb5 : Below w.heap.size w w9 := (hb0.trans (hb3.mono hb0.size)).trans (hb4.mono (Nat.le_trans hb0.size hb3.size))
  have k9 := k6.below hb4
  have f9 := f6.below hb4
  have x0 := k9.cell 0 rfl
  have x1 := k9.cell 1 rfl
  have x2 := k9.cell 2 rfl
  have x3 := f9.cell 0 rfl
  have hr8 := (hb4.block g9 hlt9).trans hr9
  have x4 := (World.cell?_of_block (a := ⟨g9, kn, none⟩) (hb4.block g9 hlt9)).trans z4
  refine hK.out _ _ ⟨x0, x1, x2, x3, x4⟩ (fun hH5 => ?_)
  clear hK K
  try simp only [Act.put, List.setIfInBounds_toArray, List.set_cons_zero, List.set_cons_succ]
  refine wpAnyH_ready (rs := [13]) (by kernel_rfl) (by simp) (AllReadyH.cons rfl (fun K hK => ?_) AllReadyH.nil)
  go_simp
  go_at_call 62
  refine (HLN.out _ _ _ hb5 (rd_three hown9 HM.out)).mono ?_
  rintro e w10 ⟨rfl, hB10, hk10⟩
  have s0 := (Bl.kp k9 hk10 (by omega) (by decide)).cell 0 rfl
  have s1 := (Bl.kp k9 hk10 (by omega) (by decide)).cell 1 rfl
  have s2 := (Bl.kp k9 hk10 (by omega) (by decide)).cell 2 rfl
  have s3 := (Bl.kp f9 hk10 hfb (by decide)).cell 0 rfl
  have s4 := (World.cell?_of_block (a := ⟨g9, kn, none⟩) ((hk10.others g9 _ hr8 (fun e => by injection e with e; omega) (fun c fz e => by injection e with _ e2 _; exact absurd e2 (by decide))).trans hr8.symm)).trans x4
  refine hK.out _ _ ⟨s0, s1, s2, s3, s4⟩ (fun hH6 => ?_)
  clear hK K
  try simp only [Act.put, List.setIfInBounds_toArray, List.set_cons_zero, List.set_cons_succ]
  refine wpAnyH_done (by kernel_rfl) ?_ _
  refine NoPanic.normal ?_
  go_end0
  exact ⟨rfl, hB10, (Kp.of hb5 (Nat.le_of_lt hbb)).trans hk10⟩
end Go.Proofs.YteikagdinecfoaaGreatDoor.Py
