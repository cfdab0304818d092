/- Package filter: start, of a tag that is not allowed, and of one that has no attributes. -/
import Derived.Test.YtejpdbiiikcmmaaGreatDoorFn
import Derived.Test.YtejpdbiiikcmmaaGreatDoorFr
set_option linter.unusedVariables false
set_option linter.unusedSimpArgs false
namespace Go.Proofs.YtejpdbiiikcmmaaGreatDoor.Fi
open Go.RowKit Lb Gr Pd Fl Fpl Kf Mp Is Go.Proofs.YtejpdbiiikcmmaaGreatDoor.Pm Bk Lc Ck Ea
attribute [local go_sem ↓] Go.wp_at_zero Go.wp_at_succ

theorem infoFin2 : (Tryz.prog.info? 64).map (fun i => (i.zero, i.size, i.bytes)) = some (some (.agg #[.int .i64 0, .int .i64 0, .int .i64 0, .int .i64 0, .string ByteArray.empty]), 5, 48) := by kernel_rfl
theorem look_fnd (s : ByteArray) : ∀ E : List (ElD × Nat), (lookL s (E.map fun x => (x.1.name, Value.map (some x.2))) = none ∧ fndE (E.map (·.1)) s = none) ∨ ∃ x ∈ E, lookL s (E.map fun x => (x.1.name, Value.map (some x.2))) = some (.map (some x.2)) ∧ fndE (E.map (·.1)) s = some x.1
  | [] => .inl ⟨rfl, rfl⟩
  | x :: r => by
    rw [List.map_cons, List.map_cons]
    unfold lookL fndE
    rw [List.find?_cons]
    by_cases h : s = x.1.name
    · refine .inr ⟨x, List.mem_cons_self .., by rw [if_pos h], ?_⟩
      rw [decide_eq_true h.symm]
    · rw [if_neg h, decide_eq_false (fun e => h e.symm)]
      rcases look_fnd s r with h1 | ⟨y, hy, h1, h2⟩
      · exact .inl h1
      · exact .inr ⟨y, List.mem_cons_of_mem _ hy, h1, h2⟩
theorem look_has (s : ByteArray) : ∀ l : List ByteArray, lookL s (l.map fun s => (s, Value.bool true)) = if hasT l s then some (.bool true) else none
  | [] => rfl
  | x :: r => by
    rw [List.map_cons]
    have ih := look_has s r
    unfold hasT at ih ⊢
    rw [List.any_cons]
    unfold lookL
    by_cases h : s = x
    · rw [if_pos h, decide_eq_true h.symm]; rfl
    · rw [if_neg h, decide_eq_false (fun e => h e.symm), Bool.false_or]; exact ih
/-- what a filter's call gives: rows of tokens and findings in new memory -/
def OutT (w' : World) (B : Nat) (v : Value) (l : List TokD) : Prop := ∃ T : List (It TokD), T.map (·.a) = l ∧ w'.ownsRow B 39 8 v T.length (fmT.cells T) ∧ (∀ t ∈ T, ∃ A n c, t.v = .slice A n c)
theorem OutT.nil (w' : World) (B : Nat) : OutT w' B (.slice none 0 0) [] := ⟨[], rfl, World.ownsRow_nil _ _ _ _, fun t h => by cases h⟩
theorem lit_eq (s : ByteArray) (l : List UInt8) : (s.toList == l) = decide (s = str l) := by
  rw [Lib.toList_data]
  by_cases h : s = str l
  · rw [decide_eq_true h, h, str_toList]; exact beq_self_eq_true l
  · rw [decide_eq_false h]
    exact beq_eq_false_iff_ne.2 fun e => h (by rw [← str_of s, e])
set_option maxHeartbeats 16000000 in
set_option maxRecDepth 100000 in
theorem startNone (g base : Nat) (p : PolD) (X : ByteArray) (N : Int) (t : TokD) (v : Value) (w : World) (ht : Tab w) (em gm dm : Nat) (sv : Value) (E : List (ElD × Nat)) (hD : FilD w g base em gm dm sv E p X N) (hno : fndE p.els t.name = none) (hcase : (inS t.name 0 = false ∧ hasT p.drop t.name = true) ∨ (inS t.name 0 = false ∧ hasT p.drop t.name = false ∧ inS t.name 3 = false ∧ t.name ≠ scriptT ∧ t.name ≠ plainT)) :
    Calls Tryz.prog 58 #[.pointer (some ⟨g, 0, none⟩), tokV t v] w fun e w' => ∃ u, e = .returned (.tuple #[.slice none 0 0, u]) ∧ kdN.own w' w.heap.size u [⟨t.byte, t.line, t.col, if dropQ p t.name then 1 else 0, t.name⟩] u.ownBlock.toList ∧ FilD w' g base em gm dm sv E p (if dropQ p t.name then t.name else X) (if dropQ p t.name then 1 else N) ∧ Fr [g] w w' := by
  obtain ⟨kd, nm, tx, ats, sf, p1, p2, p3⟩ := t
  simp only at hno hcase ⊢
  have hl0 : lookL nm (E.map fun x => (x.1.name, Value.map (some x.2))) = none := by
    rcases look_fnd nm E with h | ⟨x, hx, h1, h2⟩
    · exact h.1
    · rw [hD.eq, hno] at h2; cases h2
  have HL0 := Lib.hid hl0
  have HLD := Lib.hid (look_has nm p.drop)
  clear hl0 hno
  unfold tokV
  simp only
  obtain ⟨W0, hW0⟩ : ∃ W, W = w.alloc (.cells #[.int .i64 kd, .string nm, .string tx, v, .bool sf, .int .i64 p1, .int .i64 p2, .int .i64 p3] 39) := ⟨_, rfl⟩
  have hb0 : Below w.heap.size w W0 := hW0 ▸ (Below.refl _ _).alloc (Nat.le_refl _) _
  have k0 : Bl W0 w.heap.size 39 [.int .i64 kd, .string nm, .string tx, v, .bool sf, .int .i64 p1, .int .i64 p2, .int .i64 p3] := hW0 ▸ Bl.new w _ _ rfl
  have d0 := hD.below hb0
  have HX := Lib.hid hW0
  clear hW0
  have y1 := k0.cell 1 rfl
  have y5 := k0.cell 5 rfl
  have y6 := k0.cell 6 rfl
  have y7 := k0.cell 7 rfl
  have x0 := d0.blk.cell 0 rfl
  have hlk : ∀ n, (Instr.lookup 72 (.map (some em)) (.string nm) true).run Tryz.prog (W0.drewN n) = .ok (.tuple #[.map none, .bool false]) (W0.drewN n) := fun n => by
    have h2 := run_look (P := Tryz.prog) (w := W0.drewN n) Tryz.underlying72 Tryz.underlying9 (d0.below (drw W0 n)).emm nm (z := .map none) (Tryz.zeroValue73 _) true
    rw [HL0.out] at h2
    exact h2
  have hlk0 := hlk 0
  obtain ⟨i1, hi1, hz1, hz2, hz3⟩ := info_parts infoFin2
  have HT := Lib.hid (fun W (h : Below w.heap.size w W) => ht.below h)
  clear ht
  go_enter Tryz.func58, Tryz.ntmps58
  go_upto_region 1 with fail
  rw [← HX.out]
  go_quiet (fail)
  go_wp2
  obtain ⟨W1, hW1⟩ : ∃ X, X = W0.drewN nq := ⟨_, rfl⟩
  rw [← hW1]
  have hb01 : Below W0.heap.size W0 W1 := hW1 ▸ drw W0 nq
  clear hW1 hlk hlk0
  have dd := d0.below hb01
  have kd1 := k0.below hb01
  have r1 := kd1.cell 1 rfl
  have hcc : Below w.heap.size w W1 := hb0.trans (hb01.mono hb0.size)
  have q1 := lit_eq nm [115, 99, 114, 105, 112, 116]
  have q2 := lit_eq nm [112, 108, 97, 105, 110, 116, 101, 120, 116]
  clear y1 y5 y6 y7 x0
  have HIN : Hid (∀ W, Below w.heap.size w W → Calls Tryz.prog 116 #[.string nm, .int .i64 0] W fun e w' => e = .returned (.bool (inS nm 0)) ∧ Below W.heap.size W w') := Lib.hid fun W hW => nIn nm 0 W (HT.out W hW)
  have HIN3 : Hid (∀ W, Below w.heap.size w W → Calls Tryz.prog 116 #[.string nm, .int .i64 3] W fun e w' => e = .returned (.bool (inS nm 3)) ∧ Below W.heap.size W w') := Lib.hid fun W hW => nIn nm 3 W (HT.out W hW)
  have HLK : Hid (∀ W, MapS W dm (p.drop.map fun s => (s, Value.bool true)) → (Instr.lookup 74 (.map (some dm)) (.string nm) false).run Tryz.prog W = .ok (.bool (hasT p.drop nm)) W) := Lib.hid fun W hW => by
    have h2 := run_look (P := Tryz.prog) (w := W) Tryz.underlying74 Tryz.underlying9 hW nm (z := .bool false) (Tryz.zeroValue4 W) false
    rw [HLD.out] at h2
    cases hh : hasT p.drop nm <;> rw [hh] at h2 <;> exact h2
  have ddr := dd.below (drw W1 1)
  have kdr := kd1.below (drw W1 1)
  have hcd := hcc.trans ((drw W1 1).mono hcc.size)
  have e1 := kdr.cell 1 rfl
  have e2 := ddr.blk.cell 2 rfl
  have e3 := ddr.dmm
  rcases hcase with ⟨hv, hd⟩ | ⟨hv, hd, hr, hs, hp⟩
  · skip
    rw [hd] at HLK
    have hdq : Hid (dropQ p nm = true) := Lib.hid (by unfold dropQ; simp [*])
    rw [hv] at HIN
    refine wp_region_held_drew (S := fun W => W.cell? ⟨w.heap.size, 1, none⟩ = some (.string nm) ∧ W.cell? ⟨g, 2, none⟩ = some (.map (some dm)) ∧ MapS W dm (p.drop.map fun s => (s, Value.bool true))) (by kernel_rfl) ⟨e1, e2, e3⟩ (fun hHeld => ?_)
    clear hHeld
    refine wpAnyH_take (i := 0) (oi := _) (v := ?v1) rfl (by kernel_rfl) (by kernel_rfl) (by kernel_rfl) (fun _ _ _ h => h) (Or.inl ⟨by kernel_rfl, ?y1⟩) (⟨e1, e2, e3⟩) ?r1
    case y1 => (intro w hSw; (try dsimp only at hSw); (first | (go_simp; done) | (go_simp; with_reducible rfl)))
    (try simp only [List.getElem_toArray, List.getElem_cons_succ, List.getElem_cons_zero, Act.put, List.setIfInBounds_toArray, List.set_cons_zero, List.set_cons_succ])
    refine wpAnyH_take (i := 1) (oi := _) (v := ?v2) rfl (by kernel_rfl) (by kernel_rfl) (by kernel_rfl) (fun _ _ _ h => h) (Or.inl ⟨by kernel_rfl, ?y2⟩) (⟨e1, e2, e3⟩) ?r2
    case y2 => (intro w hSw; (try dsimp only at hSw); (first | (go_simp; done) | (go_simp; with_reducible rfl)))
    (try simp only [List.getElem_toArray, List.getElem_cons_succ, List.getElem_cons_zero, Act.put, List.setIfInBounds_toArray, List.set_cons_zero, List.set_cons_succ])
    refine wpAnyH_ready (rs := [2]) (by kernel_rfl) (by simp) ?_
    refine AllReadyH.cons (o := _) rfl (fun K hK => ?_) AllReadyH.nil
    go_simp
    go_at_call 116
    refine (HIN.out _ hcd).mono ?_
    rintro e w1 ⟨rfl, hb1⟩
    have d1 := ddr.below hb1
    have k1 := kdr.below hb1
    have v1 := k1.cell 1 rfl
    have v2 := d1.blk.cell 2 rfl
    have v3 := d1.dmm
    have hc1 := hcd.trans (hb1.mono hcd.size)
    refine hK.out _ _ ⟨v1, v2, v3⟩ (fun hHeld => ?_)
    clear hK K hHeld
    (try simp only [List.getElem_toArray, List.getElem_cons_succ, List.getElem_cons_zero, Act.put, List.setIfInBounds_toArray, List.set_cons_zero, List.set_cons_succ])
    refine wpAnyH_take (i := 3) (oi := _) (v := ?v3) rfl (by kernel_rfl) (by kernel_rfl) (by kernel_rfl) (fun _ _ _ h => h) (Or.inl ⟨by kernel_rfl, ?y3⟩) (⟨v1, v2, v3⟩) ?r3
    case y3 => (intro w hSw; (try dsimp only at hSw); (first | (go_simp; done) | (go_simp; with_reducible rfl)))
    (try simp only [List.getElem_toArray, List.getElem_cons_succ, List.getElem_cons_zero, Act.put, List.setIfInBounds_toArray, List.set_cons_zero, List.set_cons_succ])
    refine wpAnyH_take (i := 4) (oi := _) (v := ?v4) rfl (by kernel_rfl) (by kernel_rfl) (by kernel_rfl) (fun _ _ _ h => h) (Or.inl ⟨by kernel_rfl, ?y4⟩) (⟨v1, v2, v3⟩) ?r4
    case y4 => (intro w hSw; (try dsimp only at hSw); (first | (go_simp; done) | (go_simp; with_reducible rfl)))
    (try simp only [List.getElem_toArray, List.getElem_cons_succ, List.getElem_cons_zero, Act.put, List.setIfInBounds_toArray, List.set_cons_zero, List.set_cons_succ])
    refine wpAnyH_take (i := 5) (oi := _) (v := ?v5) rfl (by kernel_rfl) (by kernel_rfl) (by kernel_rfl) (fun _ _ _ h => h) (Or.inl ⟨by kernel_rfl, ?y5⟩) (⟨v1, v2, v3⟩) ?r5
    case y5 => (intro w hSw; (try dsimp only at hSw); (first | (go_simp; done) | (go_simp; with_reducible rfl)))
    (try simp only [List.getElem_toArray, List.getElem_cons_succ, List.getElem_cons_zero, Act.put, List.setIfInBounds_toArray, List.set_cons_zero, List.set_cons_succ])
    refine wpAnyH_take (i := 6) (oi := _) (v := ?v6) rfl (by kernel_rfl) (by kernel_rfl) (by kernel_rfl) (fun _ _ _ h => h) (Or.inl ⟨by kernel_rfl, ?y6⟩) (⟨v1, v2, v3⟩) ?r6
    case y6 => (intro w hSw; (try dsimp only at hSw); (first | (go_simp; done) | (go_simp; with_reducible rfl)))
    (try simp only [List.getElem_toArray, List.getElem_cons_succ, List.getElem_cons_zero, Act.put, List.setIfInBounds_toArray, List.set_cons_zero, List.set_cons_succ])
    refine wpAnyH_take (i := 7) (oi := _) (v := ?v7) rfl (by kernel_rfl) (by kernel_rfl) (by kernel_rfl) (fun _ _ _ h => h) (Or.inl ⟨by kernel_rfl, ?y7⟩) (⟨v1, v2, v3⟩) ?r7
    case y7 => (intro w hSw; (try dsimp only at hSw); (first | (go_simp; done) | (go_simp; with_reducible rfl)))
    (try simp only [List.getElem_toArray, List.getElem_cons_succ, List.getElem_cons_zero, Act.put, List.setIfInBounds_toArray, List.set_cons_zero, List.set_cons_succ])
    refine wpAnyH_take (i := 8) (oi := _) (v := ?v8) rfl (by kernel_rfl) (by kernel_rfl) (by kernel_rfl) (fun _ _ _ h => h) (Or.inl ⟨by kernel_rfl, ?y8⟩) (⟨v1, v2, v3⟩) ?r8
    case y8 => (intro w hSw; (try dsimp only at hSw); (first | (go_simp; done) | (go_simp; with_reducible rfl)))
    (try simp only [List.getElem_toArray, List.getElem_cons_succ, List.getElem_cons_zero, Act.put, List.setIfInBounds_toArray, List.set_cons_zero, List.set_cons_succ])
    refine wpAnyH_take (i := 9) (oi := _) (v := ?v9) rfl (by kernel_rfl) (by kernel_rfl) (by kernel_rfl) (fun _ _ _ h => h) (Or.inl ⟨by kernel_rfl, ?y9⟩) (⟨v1, v2, v3⟩) ?r9
    case y9 => (intro w hSw; (try dsimp only at hSw); (first | (go_simp; done) | (go_simp; with_reducible rfl)))
    (try simp only [List.getElem_toArray, List.getElem_cons_succ, List.getElem_cons_zero, Act.put, List.setIfInBounds_toArray, List.set_cons_zero, List.set_cons_succ])
    refine wpAnyH_take (i := 10) (oi := _) (v := ?v10) rfl (by kernel_rfl) (by kernel_rfl) (by kernel_rfl) (fun _ _ _ h => h) (Or.inl ⟨by kernel_rfl, ?y10⟩) (⟨v1, v2, v3⟩) ?r10
    case y10 => (intro w hSw; (try dsimp only at hSw); (first | (go_simp; done) | (go_simp; with_reducible rfl)))
    (try simp only [List.getElem_toArray, List.getElem_cons_succ, List.getElem_cons_zero, Act.put, List.setIfInBounds_toArray, List.set_cons_zero, List.set_cons_succ])
    refine wpAnyH_take (i := 11) (oi := _) (v := ?v11) rfl (by kernel_rfl) (by kernel_rfl) (by kernel_rfl) (fun _ _ _ h => h) (Or.inl ⟨by kernel_rfl, ?y11⟩) (⟨v1, v2, v3⟩) ?r11
    case y11 => (intro w hSw; (try dsimp only at hSw); have hlkw := HLK.out w hSw.2.2; (first | (go_simp; done) | (go_simp; with_reducible rfl)))
    (try simp only [List.getElem_toArray, List.getElem_cons_succ, List.getElem_cons_zero, Act.put, List.setIfInBounds_toArray, List.set_cons_zero, List.set_cons_succ])
    refine wpAnyH_take (i := 12) (oi := _) (v := ?v12) rfl (by kernel_rfl) (by kernel_rfl) (by kernel_rfl) (fun _ _ _ h => h) (Or.inl ⟨by kernel_rfl, ?y12⟩) (⟨v1, v2, v3⟩) ?r12
    case y12 => (intro w hSw; (try dsimp only at hSw); (first | (go_simp; done) | (go_simp; with_reducible rfl)))
    (try simp only [List.getElem_toArray, List.getElem_cons_succ, List.getElem_cons_zero, Act.put, List.setIfInBounds_toArray, List.set_cons_zero, List.set_cons_succ])
    refine wpAnyH_take (i := 13) (oi := _) (v := undef) rfl (by kernel_rfl) (by kernel_rfl) (by kernel_rfl) (fun _ _ _ h => h) (Or.inr ⟨by kernel_rfl, rfl⟩) (⟨v1, v2, v3⟩) ?_
    (try simp only [List.getElem_toArray, List.getElem_cons_succ, List.getElem_cons_zero, Act.put, List.setIfInBounds_toArray, List.set_cons_zero, List.set_cons_succ])
    refine wpAnyH_take (i := 14) (oi := _) (v := undef) rfl (by kernel_rfl) (by kernel_rfl) (by kernel_rfl) (fun _ _ _ h => h) (Or.inr ⟨by kernel_rfl, rfl⟩) (⟨v1, v2, v3⟩) ?_
    (try simp only [List.getElem_toArray, List.getElem_cons_succ, List.getElem_cons_zero, Act.put, List.setIfInBounds_toArray, List.set_cons_zero, List.set_cons_succ])
    refine wpAnyH_take (i := 15) (oi := _) (v := undef) rfl (by kernel_rfl) (by kernel_rfl) (by kernel_rfl) (fun _ _ _ h => h) (Or.inr ⟨by kernel_rfl, rfl⟩) (⟨v1, v2, v3⟩) ?_
    (try simp only [List.getElem_toArray, List.getElem_cons_succ, List.getElem_cons_zero, Act.put, List.setIfInBounds_toArray, List.set_cons_zero, List.set_cons_succ])
    refine wpAnyH_take (i := 16) (oi := _) (v := ?v13) rfl (by kernel_rfl) (by kernel_rfl) (by kernel_rfl) (fun _ _ _ h => h) (Or.inl ⟨by kernel_rfl, ?y13⟩) (⟨v1, v2, v3⟩) ?r13
    case y13 => (intro w hSw; (try dsimp only at hSw); (first | (go_simp; done) | (go_simp; with_reducible rfl)))
    (try simp only [List.getElem_toArray, List.getElem_cons_succ, List.getElem_cons_zero, Act.put, List.setIfInBounds_toArray, List.set_cons_zero, List.set_cons_succ])
    refine wpAnyH_take (i := 17) (oi := _) (v := ?v14) rfl (by kernel_rfl) (by kernel_rfl) (by kernel_rfl) (fun _ _ _ h => h) (Or.inl ⟨by kernel_rfl, ?y14⟩) (⟨v1, v2, v3⟩) ?r14
    case y14 => (intro w hSw; (try dsimp only at hSw); (first | (go_simp; done) | (go_simp; with_reducible rfl)))
    (try simp only [List.getElem_toArray, List.getElem_cons_succ, List.getElem_cons_zero, Act.put, List.setIfInBounds_toArray, List.set_cons_zero, List.set_cons_succ])
    refine wpAnyH_take (i := 18) (oi := _) (v := undef) rfl (by kernel_rfl) (by kernel_rfl) (by kernel_rfl) (fun _ _ _ h => h) (Or.inr ⟨by kernel_rfl, rfl⟩) (⟨v1, v2, v3⟩) ?_
    (try simp only [List.getElem_toArray, List.getElem_cons_succ, List.getElem_cons_zero, Act.put, List.setIfInBounds_toArray, List.set_cons_zero, List.set_cons_succ])
    refine wpAnyH_take (i := 19) (oi := _) (v := undef) rfl (by kernel_rfl) (by kernel_rfl) (by kernel_rfl) (fun _ _ _ h => h) (Or.inr ⟨by kernel_rfl, rfl⟩) (⟨v1, v2, v3⟩) ?_
    (try simp only [List.getElem_toArray, List.getElem_cons_succ, List.getElem_cons_zero, Act.put, List.setIfInBounds_toArray, List.set_cons_zero, List.set_cons_succ])
    refine wpAnyH_take (i := 20) (oi := _) (v := undef) rfl (by kernel_rfl) (by kernel_rfl) (by kernel_rfl) (fun _ _ _ h => h) (Or.inr ⟨by kernel_rfl, rfl⟩) (⟨v1, v2, v3⟩) ?_
    (try simp only [List.getElem_toArray, List.getElem_cons_succ, List.getElem_cons_zero, Act.put, List.setIfInBounds_toArray, List.set_cons_zero, List.set_cons_succ])
    refine wpAnyH_take (i := 21) (oi := _) (v := ?v15) rfl (by kernel_rfl) (by kernel_rfl) (by kernel_rfl) (fun _ _ _ h => h) (Or.inl ⟨by kernel_rfl, ?y15⟩) (⟨v1, v2, v3⟩) ?r15
    case y15 => (intro w hSw; (try dsimp only at hSw); (first | (go_simp; done) | (go_simp; with_reducible rfl)))
    (try simp only [List.getElem_toArray, List.getElem_cons_succ, List.getElem_cons_zero, Act.put, List.setIfInBounds_toArray, List.set_cons_zero, List.set_cons_succ])
    refine wpAnyH_take (i := 22) (oi := _) (v := ?v16) rfl (by kernel_rfl) (by kernel_rfl) (by kernel_rfl) (fun _ _ _ h => h) (Or.inl ⟨by kernel_rfl, ?y16⟩) (⟨v1, v2, v3⟩) ?r16
    case y16 => (intro w hSw; (try dsimp only at hSw); (first | (go_simp; done) | (go_simp; with_reducible rfl)))
    (try simp only [List.getElem_toArray, List.getElem_cons_succ, List.getElem_cons_zero, Act.put, List.setIfInBounds_toArray, List.set_cons_zero, List.set_cons_succ])
    refine wpAnyH_take (i := 23) (oi := _) (v := undef) rfl (by kernel_rfl) (by kernel_rfl) (by kernel_rfl) (fun _ _ _ h => h) (Or.inr ⟨by kernel_rfl, rfl⟩) (⟨v1, v2, v3⟩) ?_
    (try simp only [List.getElem_toArray, List.getElem_cons_succ, List.getElem_cons_zero, Act.put, List.setIfInBounds_toArray, List.set_cons_zero, List.set_cons_succ])
    refine wpAnyH_take (i := 24) (oi := _) (v := undef) rfl (by kernel_rfl) (by kernel_rfl) (by kernel_rfl) (fun _ _ _ h => h) (Or.inr ⟨by kernel_rfl, rfl⟩) (⟨v1, v2, v3⟩) ?_
    (try simp only [List.getElem_toArray, List.getElem_cons_succ, List.getElem_cons_zero, Act.put, List.setIfInBounds_toArray, List.set_cons_zero, List.set_cons_succ])
    refine wpAnyH_take (i := 25) (oi := _) (v := undef) rfl (by kernel_rfl) (by kernel_rfl) (by kernel_rfl) (fun _ _ _ h => h) (Or.inr ⟨by kernel_rfl, rfl⟩) (⟨v1, v2, v3⟩) ?_
    (try simp only [List.getElem_toArray, List.getElem_cons_succ, List.getElem_cons_zero, Act.put, List.setIfInBounds_toArray, List.set_cons_zero, List.set_cons_succ])
    refine wpAnyH_take (i := 26) (oi := _) (v := ?v17) rfl (by kernel_rfl) (by kernel_rfl) (by kernel_rfl) (fun _ _ _ h => h) (Or.inl ⟨by kernel_rfl, ?y17⟩) (⟨v1, v2, v3⟩) ?r17
    case y17 => (intro w hSw; (try dsimp only at hSw); (first | (go_simp; done) | (go_simp; with_reducible rfl)))
    (try simp only [List.getElem_toArray, List.getElem_cons_succ, List.getElem_cons_zero, Act.put, List.setIfInBounds_toArray, List.set_cons_zero, List.set_cons_succ])
    refine wpAnyH_take (i := 27) (oi := _) (v := ?v18) rfl (by kernel_rfl) (by kernel_rfl) (by kernel_rfl) (fun _ _ _ h => h) (Or.inl ⟨by kernel_rfl, ?y18⟩) (⟨v1, v2, v3⟩) ?r18
    case y18 => (intro w hSw; (try dsimp only at hSw); (first | (go_simp; done) | (go_simp; with_reducible rfl)))
    (try simp only [List.getElem_toArray, List.getElem_cons_succ, List.getElem_cons_zero, Act.put, List.setIfInBounds_toArray, List.set_cons_zero, List.set_cons_succ])
    refine wpAnyH_done (by kernel_rfl) ?_ _
    have x6 := d1.blk.cell 6 rfl
    have f6 := d1.blk.fz 6
    have b7 := d1.blk.set 6 (.string nm)
    have x7 := b7.cell 7 rfl
    have f7 := b7.fz 7
    have y1 := k1.cell 1 rfl
    have hne := d1.low.1
    go_upto_region 6 with fail
    go_upto_region 7 with fail
    obtain ⟨w5, hw5⟩ : ∃ X, X = (w1.setCell ⟨g, 6, none⟩ (.string nm)).setCell ⟨g, 7, none⟩ (.int .i64 1) := ⟨_, rfl⟩
    rw [← hw5]
    have hf5 : Fr [g] w1 w5 := hw5 ▸ (Fr.setCell w1 ⟨g, 6, none⟩ _ (.inl (by simp))).trans (Fr.setCell _ ⟨g, 7, none⟩ _ (.inl (by simp)))
    have b8 : Bl w5 g 76 (filV em gm dm sv p nm 1) := hw5 ▸ b7.set 7 (.int .i64 1)
    clear hw5
    have d5 := d1.move (W' := w5) hf5.size (fun j _ h2 h3 _ _ => hf5.block j h2 (by simp; exact h3)) b8 (MapS.stay d1.emm (hf5.block em d1.emm.lt (by simp; exact d1.ne.1))) d1.eq (fun x hx => .inl hx) (MapS.stay d1.dmm (hf5.block dm d1.dmm.lt (by simp; exact d1.ne.2.1)))
    have k5 := k1.of (w' := w5) (hf5.block _ k1.lt (by have := hD.blk.lt; simp; omega))
    have hfr5 : Fr [g] w w5 := (Fr.of_below hc1).trans hf5
    have a1 := k5.cell 1 rfl
    have a5 := k5.cell 5 rfl
    have a6 := k5.cell 6 rfl
    have a7 := k5.cell 7 rfl
    go_wp2_with (at_builtin; refine wpList_append_src _ rfl (.tmp 64) (.tmp 71) 29 rfl w5.heap.size 64 i1 _ 5 48 Tryz.underlying29 hi1 hz1 hz2 hz3 rfl (by decide) _ 0 [] rfl (World.ownsRow_nil _ _ _ _) (some ⟨w5.heap.size, 0, none⟩) 1 1 [.int .i64 p1, .int .i64 p2, .int .i64 p3, .int .i64 1, .string nm] rfl rfl (news_src w5 _ _) (by simp [Value.oneCell']) (by decide) (by decide) (by simp) ?_; intro v9 w9 hown9 hgrow9 hrow9; obtain ⟨A9, c9, rfl, hcl9⟩ := own_slice hown9)
    all_goals (
      go_ret2
      have hgn : (w5.alloc (.cells #[.int .i64 p1, .int .i64 p2, .int .i64 p3, .int .i64 1, .string nm] 64)).grownBy w9 none := hgrow9
      have hb59 : Below w5.heap.size w5 w9 := (((Below.refl _ _).alloc (Nat.le_refl _) _).trans ((Fr.of_grown hgn).below (by simp) (by simp)))
      have hs5 := hfr5.size
      first
        | exact ⟨_, rfl, ⟨own_low hown9 hs5, rfl⟩, d5.below hb59, hfr5.trans (Fr.of_below hb59)⟩
        | exact absurd hdq.out ‹¬ dropQ p nm = true›
        | (exfalso; have hz := hdq.out; rw [‹dropQ p nm = true›] at hz; cases hz))
  · skip
    rw [hd] at HLK
    have hsd : decide (nm = str [115, 99, 114, 105, 112, 116]) = false := decide_eq_false hs
    rw [hsd] at q1
    have hpd : decide (nm = str [112, 108, 97, 105, 110, 116, 101, 120, 116]) = false := decide_eq_false hp
    rw [hpd] at q2
    have hdq : Hid (dropQ p nm = false) := Lib.hid (by unfold dropQ; simp [*])
    rw [hv] at HIN
    rw [hr] at HIN3
    refine wp_region_held_drew (S := fun W => W.cell? ⟨w.heap.size, 1, none⟩ = some (.string nm) ∧ W.cell? ⟨g, 2, none⟩ = some (.map (some dm)) ∧ MapS W dm (p.drop.map fun s => (s, Value.bool true))) (by kernel_rfl) ⟨e1, e2, e3⟩ (fun hHeld => ?_)
    clear hHeld
    refine wpAnyH_take (i := 0) (oi := _) (v := ?v19) rfl (by kernel_rfl) (by kernel_rfl) (by kernel_rfl) (fun _ _ _ h => h) (Or.inl ⟨by kernel_rfl, ?y19⟩) (⟨e1, e2, e3⟩) ?r19
    case y19 => (intro w hSw; (try dsimp only at hSw); (first | (go_simp; done) | (go_simp; with_reducible rfl)))
    (try simp only [List.getElem_toArray, List.getElem_cons_succ, List.getElem_cons_zero, Act.put, List.setIfInBounds_toArray, List.set_cons_zero, List.set_cons_succ])
    refine wpAnyH_take (i := 1) (oi := _) (v := ?v20) rfl (by kernel_rfl) (by kernel_rfl) (by kernel_rfl) (fun _ _ _ h => h) (Or.inl ⟨by kernel_rfl, ?y20⟩) (⟨e1, e2, e3⟩) ?r20
    case y20 => (intro w hSw; (try dsimp only at hSw); (first | (go_simp; done) | (go_simp; with_reducible rfl)))
    (try simp only [List.getElem_toArray, List.getElem_cons_succ, List.getElem_cons_zero, Act.put, List.setIfInBounds_toArray, List.set_cons_zero, List.set_cons_succ])
    refine wpAnyH_ready (rs := [2]) (by kernel_rfl) (by simp) ?_
    refine AllReadyH.cons (o := _) rfl (fun K hK => ?_) AllReadyH.nil
    go_simp
    go_at_call 116
    refine (HIN.out _ hcd).mono ?_
    rintro e w1 ⟨rfl, hb1⟩
    have d1 := ddr.below hb1
    have k1 := kdr.below hb1
    have v1 := k1.cell 1 rfl
    have v2 := d1.blk.cell 2 rfl
    have v3 := d1.dmm
    have hc1 := hcd.trans (hb1.mono hcd.size)
    refine hK.out _ _ ⟨v1, v2, v3⟩ (fun hHeld => ?_)
    clear hK K hHeld
    (try simp only [List.getElem_toArray, List.getElem_cons_succ, List.getElem_cons_zero, Act.put, List.setIfInBounds_toArray, List.set_cons_zero, List.set_cons_succ])
    refine wpAnyH_take (i := 3) (oi := _) (v := ?v21) rfl (by kernel_rfl) (by kernel_rfl) (by kernel_rfl) (fun _ _ _ h => h) (Or.inl ⟨by kernel_rfl, ?y21⟩) (⟨v1, v2, v3⟩) ?r21
    case y21 => (intro w hSw; (try dsimp only at hSw); (first | (go_simp; done) | (go_simp; with_reducible rfl)))
    (try simp only [List.getElem_toArray, List.getElem_cons_succ, List.getElem_cons_zero, Act.put, List.setIfInBounds_toArray, List.set_cons_zero, List.set_cons_succ])
    refine wpAnyH_take (i := 4) (oi := _) (v := ?v22) rfl (by kernel_rfl) (by kernel_rfl) (by kernel_rfl) (fun _ _ _ h => h) (Or.inl ⟨by kernel_rfl, ?y22⟩) (⟨v1, v2, v3⟩) ?r22
    case y22 => (intro w hSw; (try dsimp only at hSw); (first | (go_simp; done) | (go_simp; with_reducible rfl)))
    (try simp only [List.getElem_toArray, List.getElem_cons_succ, List.getElem_cons_zero, Act.put, List.setIfInBounds_toArray, List.set_cons_zero, List.set_cons_succ])
    refine wpAnyH_take (i := 5) (oi := _) (v := ?v23) rfl (by kernel_rfl) (by kernel_rfl) (by kernel_rfl) (fun _ _ _ h => h) (Or.inl ⟨by kernel_rfl, ?y23⟩) (⟨v1, v2, v3⟩) ?r23
    case y23 => (intro w hSw; (try dsimp only at hSw); (first | (go_simp; done) | (go_simp; with_reducible rfl)))
    (try simp only [List.getElem_toArray, List.getElem_cons_succ, List.getElem_cons_zero, Act.put, List.setIfInBounds_toArray, List.set_cons_zero, List.set_cons_succ])
    refine wpAnyH_take (i := 6) (oi := _) (v := ?v24) rfl (by kernel_rfl) (by kernel_rfl) (by kernel_rfl) (fun _ _ _ h => h) (Or.inl ⟨by kernel_rfl, ?y24⟩) (⟨v1, v2, v3⟩) ?r24
    case y24 => (intro w hSw; (try dsimp only at hSw); (first | (go_simp; done) | (go_simp; with_reducible rfl)))
    (try simp only [List.getElem_toArray, List.getElem_cons_succ, List.getElem_cons_zero, Act.put, List.setIfInBounds_toArray, List.set_cons_zero, List.set_cons_succ])
    refine wpAnyH_take (i := 7) (oi := _) (v := ?v25) rfl (by kernel_rfl) (by kernel_rfl) (by kernel_rfl) (fun _ _ _ h => h) (Or.inl ⟨by kernel_rfl, ?y25⟩) (⟨v1, v2, v3⟩) ?r25
    case y25 => (intro w hSw; (try dsimp only at hSw); (first | (go_simp; done) | (go_simp; with_reducible rfl)))
    (try simp only [List.getElem_toArray, List.getElem_cons_succ, List.getElem_cons_zero, Act.put, List.setIfInBounds_toArray, List.set_cons_zero, List.set_cons_succ])
    refine wpAnyH_take (i := 8) (oi := _) (v := ?v26) rfl (by kernel_rfl) (by kernel_rfl) (by kernel_rfl) (fun _ _ _ h => h) (Or.inl ⟨by kernel_rfl, ?y26⟩) (⟨v1, v2, v3⟩) ?r26
    case y26 => (intro w hSw; (try dsimp only at hSw); (first | (go_simp; done) | (go_simp; with_reducible rfl)))
    (try simp only [List.getElem_toArray, List.getElem_cons_succ, List.getElem_cons_zero, Act.put, List.setIfInBounds_toArray, List.set_cons_zero, List.set_cons_succ])
    refine wpAnyH_take (i := 9) (oi := _) (v := ?v27) rfl (by kernel_rfl) (by kernel_rfl) (by kernel_rfl) (fun _ _ _ h => h) (Or.inl ⟨by kernel_rfl, ?y27⟩) (⟨v1, v2, v3⟩) ?r27
    case y27 => (intro w hSw; (try dsimp only at hSw); (first | (go_simp; done) | (go_simp; with_reducible rfl)))
    (try simp only [List.getElem_toArray, List.getElem_cons_succ, List.getElem_cons_zero, Act.put, List.setIfInBounds_toArray, List.set_cons_zero, List.set_cons_succ])
    refine wpAnyH_take (i := 10) (oi := _) (v := ?v28) rfl (by kernel_rfl) (by kernel_rfl) (by kernel_rfl) (fun _ _ _ h => h) (Or.inl ⟨by kernel_rfl, ?y28⟩) (⟨v1, v2, v3⟩) ?r28
    case y28 => (intro w hSw; (try dsimp only at hSw); (first | (go_simp; done) | (go_simp; with_reducible rfl)))
    (try simp only [List.getElem_toArray, List.getElem_cons_succ, List.getElem_cons_zero, Act.put, List.setIfInBounds_toArray, List.set_cons_zero, List.set_cons_succ])
    refine wpAnyH_take (i := 11) (oi := _) (v := ?v29) rfl (by kernel_rfl) (by kernel_rfl) (by kernel_rfl) (fun _ _ _ h => h) (Or.inl ⟨by kernel_rfl, ?y29⟩) (⟨v1, v2, v3⟩) ?r29
    case y29 => (intro w hSw; (try dsimp only at hSw); have hlkw := HLK.out w hSw.2.2; (first | (go_simp; done) | (go_simp; with_reducible rfl)))
    (try simp only [List.getElem_toArray, List.getElem_cons_succ, List.getElem_cons_zero, Act.put, List.setIfInBounds_toArray, List.set_cons_zero, List.set_cons_succ])
    refine wpAnyH_take (i := 12) (oi := _) (v := ?v30) rfl (by kernel_rfl) (by kernel_rfl) (by kernel_rfl) (fun _ _ _ h => h) (Or.inl ⟨by kernel_rfl, ?y30⟩) (⟨v1, v2, v3⟩) ?r30
    case y30 => (intro w hSw; (try dsimp only at hSw); (first | (go_simp; done) | (go_simp; with_reducible rfl)))
    (try simp only [List.getElem_toArray, List.getElem_cons_succ, List.getElem_cons_zero, Act.put, List.setIfInBounds_toArray, List.set_cons_zero, List.set_cons_succ])
    refine wpAnyH_take (i := 13) (oi := _) (v := ?v31) rfl (by kernel_rfl) (by kernel_rfl) (by kernel_rfl) (fun _ _ _ h => h) (Or.inl ⟨by kernel_rfl, ?y31⟩) (⟨v1, v2, v3⟩) ?r31
    case y31 => (intro w hSw; (try dsimp only at hSw); (first | (go_simp; done) | (go_simp; with_reducible rfl)))
    (try simp only [List.getElem_toArray, List.getElem_cons_succ, List.getElem_cons_zero, Act.put, List.setIfInBounds_toArray, List.set_cons_zero, List.set_cons_succ])
    refine wpAnyH_take (i := 14) (oi := _) (v := ?v32) rfl (by kernel_rfl) (by kernel_rfl) (by kernel_rfl) (fun _ _ _ h => h) (Or.inl ⟨by kernel_rfl, ?y32⟩) (⟨v1, v2, v3⟩) ?r32
    case y32 => (intro w hSw; (try dsimp only at hSw); (first | (go_simp; done) | (go_simp; with_reducible rfl)))
    (try simp only [List.getElem_toArray, List.getElem_cons_succ, List.getElem_cons_zero, Act.put, List.setIfInBounds_toArray, List.set_cons_zero, List.set_cons_succ])
    refine wpAnyH_ready (rs := [15]) (by kernel_rfl) (by simp) ?_
    refine AllReadyH.cons (o := _) rfl (fun K hK => ?_) AllReadyH.nil
    go_simp
    go_at_call 116
    refine (HIN3.out _ hc1).mono ?_
    rintro e w2 ⟨rfl, hb2⟩
    have d2 := d1.below hb2
    have k2 := k1.below hb2
    have z1 := k2.cell 1 rfl
    have z2 := d2.blk.cell 2 rfl
    have z3 := d2.dmm
    have hc2 := hc1.trans (hb2.mono hc1.size)
    refine hK.out _ _ ⟨z1, z2, z3⟩ (fun hHeld => ?_)
    clear hK K hHeld
    (try simp only [List.getElem_toArray, List.getElem_cons_succ, List.getElem_cons_zero, Act.put, List.setIfInBounds_toArray, List.set_cons_zero, List.set_cons_succ])
    refine wpAnyH_take (i := 16) (oi := _) (v := ?v33) rfl (by kernel_rfl) (by kernel_rfl) (by kernel_rfl) (fun _ _ _ h => h) (Or.inl ⟨by kernel_rfl, ?y33⟩) (⟨z1, z2, z3⟩) ?r33
    case y33 => (intro w hSw; (try dsimp only at hSw); (first | (go_simp; done) | (go_simp; with_reducible rfl)))
    (try simp only [List.getElem_toArray, List.getElem_cons_succ, List.getElem_cons_zero, Act.put, List.setIfInBounds_toArray, List.set_cons_zero, List.set_cons_succ])
    refine wpAnyH_take (i := 17) (oi := _) (v := ?v34) rfl (by kernel_rfl) (by kernel_rfl) (by kernel_rfl) (fun _ _ _ h => h) (Or.inl ⟨by kernel_rfl, ?y34⟩) (⟨z1, z2, z3⟩) ?r34
    case y34 => (intro w hSw; (try dsimp only at hSw); (first | (go_simp; done) | (go_simp; with_reducible rfl)))
    (try simp only [List.getElem_toArray, List.getElem_cons_succ, List.getElem_cons_zero, Act.put, List.setIfInBounds_toArray, List.set_cons_zero, List.set_cons_succ])
    refine wpAnyH_take (i := 18) (oi := _) (v := ?v35) rfl (by kernel_rfl) (by kernel_rfl) (by kernel_rfl) (fun _ _ _ h => h) (Or.inl ⟨by kernel_rfl, ?y35⟩) (⟨z1, z2, z3⟩) ?r35
    case y35 => (intro w hSw; (try dsimp only at hSw); (first | (go_simp; done) | (go_simp; with_reducible rfl)))
    (try simp only [List.getElem_toArray, List.getElem_cons_succ, List.getElem_cons_zero, Act.put, List.setIfInBounds_toArray, List.set_cons_zero, List.set_cons_succ])
    refine wpAnyH_take (i := 19) (oi := _) (v := ?v36) rfl (by kernel_rfl) (by kernel_rfl) (by kernel_rfl) (fun _ _ _ h => h) (Or.inl ⟨by kernel_rfl, ?y36⟩) (⟨z1, z2, z3⟩) ?r36
    case y36 => (intro w hSw; (try dsimp only at hSw); (first | (go_simp; done) | (go_simp; with_reducible rfl)))
    (try simp only [List.getElem_toArray, List.getElem_cons_succ, List.getElem_cons_zero, Act.put, List.setIfInBounds_toArray, List.set_cons_zero, List.set_cons_succ])
    refine wpAnyH_take (i := 20) (oi := _) (v := ?v37) rfl (by kernel_rfl) (by kernel_rfl) (by kernel_rfl) (fun _ _ _ h => h) (Or.inl ⟨by kernel_rfl, ?y37⟩) (⟨z1, z2, z3⟩) ?r37
    case y37 => (intro w hSw; (try dsimp only at hSw); (first | (go_simp; done) | (go_simp; with_reducible rfl)))
    (try simp only [List.getElem_toArray, List.getElem_cons_succ, List.getElem_cons_zero, Act.put, List.setIfInBounds_toArray, List.set_cons_zero, List.set_cons_succ])
    refine wpAnyH_take (i := 21) (oi := _) (v := ?v38) rfl (by kernel_rfl) (by kernel_rfl) (by kernel_rfl) (fun _ _ _ h => h) (Or.inl ⟨by kernel_rfl, ?y38⟩) (⟨z1, z2, z3⟩) ?r38
    case y38 => (intro w hSw; (try dsimp only at hSw); (first | (go_simp; done) | (go_simp; with_reducible rfl)))
    (try simp only [List.getElem_toArray, List.getElem_cons_succ, List.getElem_cons_zero, Act.put, List.setIfInBounds_toArray, List.set_cons_zero, List.set_cons_succ])
    refine wpAnyH_take (i := 22) (oi := _) (v := ?v39) rfl (by kernel_rfl) (by kernel_rfl) (by kernel_rfl) (fun _ _ _ h => h) (Or.inl ⟨by kernel_rfl, ?y39⟩) (⟨z1, z2, z3⟩) ?r39
    case y39 => (intro w hSw; (try dsimp only at hSw); (first | (go_simp; done) | (go_simp; with_reducible rfl)))
    (try simp only [List.getElem_toArray, List.getElem_cons_succ, List.getElem_cons_zero, Act.put, List.setIfInBounds_toArray, List.set_cons_zero, List.set_cons_succ])
    refine wpAnyH_take (i := 23) (oi := _) (v := ?v40) rfl (by kernel_rfl) (by kernel_rfl) (by kernel_rfl) (fun _ _ _ h => h) (Or.inl ⟨by kernel_rfl, ?y40⟩) (⟨z1, z2, z3⟩) ?r40
    case y40 => (intro w hSw; (try dsimp only at hSw); (first | (go_simp; done) | (go_simp; with_reducible rfl)))
    (try simp only [List.getElem_toArray, List.getElem_cons_succ, List.getElem_cons_zero, Act.put, List.setIfInBounds_toArray, List.set_cons_zero, List.set_cons_succ])
    refine wpAnyH_take (i := 24) (oi := _) (v := ?v41) rfl (by kernel_rfl) (by kernel_rfl) (by kernel_rfl) (fun _ _ _ h => h) (Or.inl ⟨by kernel_rfl, ?y41⟩) (⟨z1, z2, z3⟩) ?r41
    case y41 => (intro w hSw; (try dsimp only at hSw); (first | (go_simp; done) | (go_simp; with_reducible rfl)))
    (try simp only [List.getElem_toArray, List.getElem_cons_succ, List.getElem_cons_zero, Act.put, List.setIfInBounds_toArray, List.set_cons_zero, List.set_cons_succ])
    refine wpAnyH_take (i := 25) (oi := _) (v := ?v42) rfl (by kernel_rfl) (by kernel_rfl) (by kernel_rfl) (fun _ _ _ h => h) (Or.inl ⟨by kernel_rfl, ?y42⟩) (⟨z1, z2, z3⟩) ?r42
    case y42 => (intro w hSw; (try dsimp only at hSw); (first | (go_simp; done) | (go_simp; with_reducible rfl)))
    (try simp only [List.getElem_toArray, List.getElem_cons_succ, List.getElem_cons_zero, Act.put, List.setIfInBounds_toArray, List.set_cons_zero, List.set_cons_succ])
    refine wpAnyH_take (i := 26) (oi := _) (v := ?v43) rfl (by kernel_rfl) (by kernel_rfl) (by kernel_rfl) (fun _ _ _ h => h) (Or.inl ⟨by kernel_rfl, ?y43⟩) (⟨z1, z2, z3⟩) ?r43
    case y43 => (intro w hSw; (try dsimp only at hSw); (first | (go_simp; done) | (go_simp; with_reducible rfl)))
    (try simp only [List.getElem_toArray, List.getElem_cons_succ, List.getElem_cons_zero, Act.put, List.setIfInBounds_toArray, List.set_cons_zero, List.set_cons_succ])
    refine wpAnyH_take (i := 27) (oi := _) (v := ?v44) rfl (by kernel_rfl) (by kernel_rfl) (by kernel_rfl) (fun _ _ _ h => h) (Or.inl ⟨by kernel_rfl, ?y44⟩) (⟨z1, z2, z3⟩) ?r44
    case y44 => (intro w hSw; (try dsimp only at hSw); (first | (go_simp; done) | (go_simp; with_reducible rfl)))
    (try simp only [List.getElem_toArray, List.getElem_cons_succ, List.getElem_cons_zero, Act.put, List.setIfInBounds_toArray, List.set_cons_zero, List.set_cons_succ])
    refine wpAnyH_done (by kernel_rfl) ?_ _
    go_upto_region 7 with fail
    obtain ⟨w5, rfl⟩ : ∃ X, X = w2 := ⟨_, rfl⟩
    have d5 := d2
    have k5 := k2
    have hfr5 : Fr [g] w w5 := Fr.of_below hc2
    have a1 := k5.cell 1 rfl
    have a5 := k5.cell 5 rfl
    have a6 := k5.cell 6 rfl
    have a7 := k5.cell 7 rfl
    go_wp2_with (at_builtin; refine wpList_append_src _ rfl (.tmp 64) (.tmp 71) 29 rfl w5.heap.size 64 i1 _ 5 48 Tryz.underlying29 hi1 hz1 hz2 hz3 rfl (by decide) _ 0 [] rfl (World.ownsRow_nil _ _ _ _) (some ⟨w5.heap.size, 0, none⟩) 1 1 [.int .i64 p1, .int .i64 p2, .int .i64 p3, .int .i64 0, .string nm] rfl rfl (news_src w5 _ _) (by simp [Value.oneCell']) (by decide) (by decide) (by simp) ?_; intro v9 w9 hown9 hgrow9 hrow9; obtain ⟨A9, c9, rfl, hcl9⟩ := own_slice hown9)
    all_goals (
      go_ret2
      have hgn : (w5.alloc (.cells #[.int .i64 p1, .int .i64 p2, .int .i64 p3, .int .i64 0, .string nm] 64)).grownBy w9 none := hgrow9
      have hb59 : Below w5.heap.size w5 w9 := (((Below.refl _ _).alloc (Nat.le_refl _) _).trans ((Fr.of_grown hgn).below (by simp) (by simp)))
      have hs5 := hfr5.size
      first
        | exact ⟨_, rfl, ⟨own_low hown9 hs5, rfl⟩, d5.below hb59, hfr5.trans (Fr.of_below hb59)⟩
        | exact absurd hdq.out ‹¬ dropQ p nm = true›
        | (exfalso; have hz := hdq.out; rw [‹dropQ p nm = true›] at hz; cases hz))
end Go.Proofs.YtejpdbiiikcmmaaGreatDoor.Fi
