/- Package filter: New. Where the policy's lists are no longer than memory. -/
import Derived.Test.YtejpdbiiikcmmaaGreatDoorFn
import Derived.Deep.RegionHeld
set_option linter.unusedVariables false
set_option linter.unusedSimpArgs false
namespace Go.Proofs.YtejpdbiiikcmmaaGreatDoor.Fi
open Go.RowKit Lb Gr Pd Fl Fpl Kf Mp Is Go.Proofs.YtejpdbiiikcmmaaGreatDoor.Pm Bk Lc Ck Go.Proofs.YtejpdbiiikcmmaaGreatDoor.Lk Ru Co Go.Proofs.YtejpdbiiikcmmaaGreatDoor.Ch
attribute [local go_sem ↓] Go.wp_at_zero Go.wp_at_succ


theorem look_els (s : ByteArray) : ∀ E : List (ElD × Nat), (∀ e ∈ E.map (·.1), e.name ≠ s) → lookL s (E.map fun x => (x.1.name, Value.map (some x.2))) = none
  | [], _ => rfl
  | x :: r, h => by
    rw [List.map_cons]
    unfold lookL
    rw [if_neg (fun e => h x.1 (by simp) e.symm)]
    exact look_els s r fun e he => h e (by rw [List.map_cons]; exact List.mem_cons_of_mem _ he)
theorem look_drop (s : ByteArray) : ∀ l : List ByteArray, s ∉ l → lookL s (l.map fun s => (s, Value.bool true)) = none
  | [], _ => rfl
  | x :: r, h => by
    rw [List.map_cons]
    unfold lookL
    rw [if_neg (fun e => h (by rw [e]; exact List.mem_cons_self ..))]
    exact look_drop s r fun he => h (List.mem_cons_of_mem _ he)
theorem nodup_drop {l : List ByteArray} (h : l.Nodup) {k : Nat} (hk : k < l.length) : l[k] ∉ l.take k := fun he => by
  obtain ⟨i, hi, hn⟩ := List.getElem_of_mem he
  rw [List.length_take] at hi
  rw [List.getElem_take] at hn
  exact (List.pairwise_iff_getElem.1 h) i k (by omega) hk (by omega) hn
theorem nodup_take {l : List ElD} (h : (l.map (·.name)).Nodup) {k : Nat} (hk : k < l.length) : ∀ e ∈ l.take k, e.name ≠ l[k].name := fun e he hn => by
  obtain ⟨i, hi, rfl⟩ := List.getElem_of_mem he
  rw [List.length_take] at hi
  rw [List.getElem_take] at hn
  have h1 := (List.pairwise_iff_getElem.1 h) i k (by simp; omega) (by simpa using hk) (by omega)
  simp only [List.getElem_map] at h1
  exact h1 hn

set_option maxHeartbeats 16000000 in
set_option maxRecDepth 100000 in
theorem newC (x : Vs) (p : PolD) (w : World) (ht : Tab w) (hn : NevT w) (h : RdP w 0 w.heap.size x p) (hok : OkP p) (hf : FitP p) (hc : checkI p = 0) (hdg : Dis p.glob) (hde : ∀ e ∈ p.els, Dis e.rules) (hdn : (p.els.map (·.name)).Nodup) (hdd : p.drop.Nodup) :
    Calls Tryz.prog 23 #[polV x p] w fun e w' => ∃ g, e = .returned (.tuple #[.pointer (some ⟨g, 0, none⟩), .int .i64 0]) ∧ Fil w' g w.heap.size p ByteArray.empty 0 ∧ Below w.heap.size w w' := by
  obtain ⟨A1, c1, A2, c2, A3, c3, A4, c4, rfl, q1, q2, q3, q4, q5, q6, q7, q8⟩ := h.form
  obtain ⟨i0, hi0, hz0, hz1, hz2⟩ := info_parts infoStr
  obtain ⟨f1, f2, f3, f4⟩ := hf
  have HC : Hid (∀ W, Below w.heap.size w W → Calls Tryz.prog 35 #[.agg #[.slice A1 p.els.length c1, .slice A2 p.glob.length c2, .slice A3 p.schemes.length c3, .bool p.rel, .slice A4 p.drop.length c4, .int .i64 p.depth, .int .i64 p.window]] W fun e w' => e = .returned (.int .i64 0) ∧ Below W.heap.size W w') := Lib.hid fun W hW => by
    have := CheckC ⟨.slice A1 p.els.length c1, .slice A2 p.glob.length c2, .slice A3 p.schemes.length c3, .slice A4 p.drop.length c4⟩ p W (ht.below hW) (hn.below hW) ((h.stay (stay_below hW (Nat.le_refl _))).wide (Nat.le_refl _) hW.size) hok
    rw [hc] at this
    exact this
  have HRG : Hid (∀ W, Below w.heap.size w W → Calls Tryz.prog 56 #[.slice A2 p.glob.length c2] W fun e w' => ∃ B, e = .returned (.map (some B)) ∧ RulN w' W.heap.size w'.heap.size B p.glob ∧ Below W.heap.size W w') := Lib.hid fun W hW => rulesC p.glob _ W (kdR.wide (kdR.stay h.2.1 (stay_below hW (Nat.le_refl _))) (Nat.le_refl _) hW.size) hdg (fun k hk => by have := f2.2 k hk; omega) (by have := f2.1; omega)
  have HRE : Hid (∀ W, Below w.heap.size w W → ∀ k (hk : k < p.els.length) v, kdR.rd W 0 W.heap.size v p.els[k].rules → Calls Tryz.prog 56 #[v] W fun e w' => ∃ B, e = .returned (.map (some B)) ∧ RulN w' W.heap.size w'.heap.size B p.els[k].rules ∧ Below W.heap.size W w') := Lib.hid fun W hW k hk v hv => rulesC _ v W hv (hde _ (List.getElem_mem hk)) (fun j hj => by have := (f1.2 k hk).2 j hj; omega) (by have := (f1.2 k hk).1; omega)
  have HRS : Hid (∀ W, Below w.heap.size w W → kdW.rd W 0 w.heap.size (.slice A3 p.schemes.length c3) p.schemes) := Lib.hid fun W hW => kdW.stay h.2.2.1 (stay_below hW (Nat.le_refl _))
  have HRL : Hid (∀ W, Below w.heap.size w W → kdE.rd W 0 w.heap.size (.slice A1 p.els.length c1) p.els) := Lib.hid fun W hW => kdE.stay h.1 (stay_below hW (Nat.le_refl _))
  have HRD : Hid (∀ W, Below w.heap.size w W → kdW.rd W 0 w.heap.size (.slice A4 p.drop.length c4) p.drop) := Lib.hid fun W hW => kdW.stay h.2.2.2 (stay_below hW (Nat.le_refl _))
  have r1 : 0 + p.schemes.length ≤ maxLen := by omega
  have r2 : (0 + p.schemes.length) * 16 ≤ 140737488355328 := by omega
  have hdr : p.drop.length ≤ 9223372036854775807 := by omega
  have hel : p.els.length ≤ 9223372036854775807 := by have := f1.1; omega
  have HDN := Lib.hid hdn
  have HDD := Lib.hid hdd
  have HEQ : Hid (p = { p with els := p.els.take p.els.length, drop := p.drop.take p.drop.length }) := Lib.hid (by rw [List.take_length, List.take_length])
  clear h ht hn hok hc hdg hde hdn hdd f1 f2 f3 f4
  unfold polV
  simp only
  obtain ⟨W0, hW0⟩ : ∃ W, W = w.alloc (.cells #[.slice A1 p.els.length c1, .slice A2 p.glob.length c2, .slice A3 p.schemes.length c3, .bool p.rel, .slice A4 p.drop.length c4, .int .i64 p.depth, .int .i64 p.window] 27) := ⟨_, rfl⟩
  have hb0 : Below w.heap.size w W0 := hW0 ▸ (Below.refl _ _).alloc (Nat.le_refl _) _
  have k0 : Bl W0 w.heap.size 27 [.slice A1 p.els.length c1, .slice A2 p.glob.length c2, .slice A3 p.schemes.length c3, .bool p.rel, .slice A4 p.drop.length c4, .int .i64 p.depth, .int .i64 p.window] := hW0 ▸ Bl.new w _ _ rfl
  have HX := Lib.hid hW0
  clear hW0
  have y0 := k0.cell 0 rfl
  have y1 := k0.cell 1 rfl
  have y2 := k0.cell 2 rfl
  have y3 := k0.cell 3 rfl
  have y4 := k0.cell 4 rfl
  have y5 := k0.cell 5 rfl
  have y6 := k0.cell 6 rfl
  have hmm := @run_makeMap Tryz.prog
  go_enter Tryz.func23, Tryz.ntmps23
  go_upto_region 1 with fail
  rw [← HX.out]
  go_upto_region 4 with (go_at_call 35; refine (HC.out _ hb0).mono ?_; rintro e w1 ⟨rfl, hb1⟩)
  have k1 := k0.below hb1
  have hb10 : Below w.heap.size w w1 := hb0.trans (hb1.mono hb0.size)
  have HS : Hid (∀ W, Below w1.heap.size w1 W → W.cell? ⟨w.heap.size, 1, none⟩ = some (.slice A2 p.glob.length c2) ∧ W.cell? ⟨w.heap.size, 2, none⟩ = some (.slice A3 p.schemes.length c3) ∧ W.cell? ⟨w.heap.size, 3, none⟩ = some (.bool p.rel) ∧ W.cell? ⟨w.heap.size, 6, none⟩ = some (.int .i64 p.window)) := Lib.hid fun W hW => by
    have k := k1.below hW
    exact ⟨k.cell 1 rfl, k.cell 2 rfl, k.cell 3 rfl, k.cell 6 rfl⟩
  clear y0 y1 y2 y3 y4 y5 y6
  go_cut [5] from 10 (fun s wx => ∃ g em gm dm sv, s = .pointer (some ⟨g, 0, none⟩) ∧ Hid (FilD wx g w1.heap.size em gm dm sv [] { p with els := [], drop := [] } ByteArray.empty 0) ∧ Hid (Below w1.heap.size w1 wx))
  case first =>
    obtain ⟨v0, hv0⟩ : ∃ X, X = w1.drew := ⟨_, rfl⟩
    have hd0 : Below w1.heap.size w1 v0 := hv0 ▸ drw w1 1
    have n0 := NW.nil w1 p hd0
    refine wp_region_held_drew (S := fun W => W.cell? ⟨w.heap.size, 1, none⟩ = some (.slice A2 p.glob.length c2) ∧ W.cell? ⟨w.heap.size, 2, none⟩ = some (.slice A3 p.schemes.length c3) ∧ W.cell? ⟨w.heap.size, 3, none⟩ = some (.bool p.rel) ∧ W.cell? ⟨w.heap.size, 6, none⟩ = some (.int .i64 p.window)) (by kernel_rfl) (HS.out _ (drw w1 1)) (fun hHeld => ?_)
    clear hHeld
    rw [← hv0]
    clear hv0
    refine wpAnyH_take (i := 1) (oi := _) (v := ?v1) rfl (by kernel_rfl) (by kernel_rfl) (by kernel_rfl) (fun _ _ _ h => h) (Or.inl ⟨by kernel_rfl, ?y1⟩) (HS.out _ hd0) ?r1
    case y1 => (intro w hSw; (try dsimp only at hSw); (first | (go_simp; done) | (go_simp; with_reducible rfl)))
    (try simp only [List.getElem_toArray, List.getElem_cons_succ, List.getElem_cons_zero, Act.put, List.setIfInBounds_toArray, List.set_cons_zero, List.set_cons_succ])
    refine wpAnyH_take (i := 2) (oi := _) (v := ?v2) rfl (by kernel_rfl) (by kernel_rfl) (by kernel_rfl) (fun _ _ _ h => h) (Or.inl ⟨by kernel_rfl, ?y2⟩) (HS.out _ hd0) ?r2
    case y2 => (intro w hSw; (try dsimp only at hSw); (first | (go_simp; done) | (go_simp; with_reducible rfl)))
    (try simp only [List.getElem_toArray, List.getElem_cons_succ, List.getElem_cons_zero, Act.put, List.setIfInBounds_toArray, List.set_cons_zero, List.set_cons_succ])
    refine wpAnyH_take (i := 5) (oi := _) (v := ?v3) rfl (by kernel_rfl) (by kernel_rfl) (by kernel_rfl) (fun _ _ _ h => h) (Or.inl ⟨by kernel_rfl, ?y3⟩) (HS.out _ hd0) ?r3
    case y3 => (intro w hSw; (try dsimp only at hSw); (first | (go_simp; done) | (go_simp; with_reducible rfl)))
    (try simp only [List.getElem_toArray, List.getElem_cons_succ, List.getElem_cons_zero, Act.put, List.setIfInBounds_toArray, List.set_cons_zero, List.set_cons_succ])
    refine wpAnyH_take (i := 6) (oi := _) (v := ?v4) rfl (by kernel_rfl) (by kernel_rfl) (by kernel_rfl) (fun _ _ _ h => h) (Or.inl ⟨by kernel_rfl, ?y4⟩) (HS.out _ hd0) ?r4
    case y4 => (intro w hSw; (try dsimp only at hSw); (first | (go_simp; done) | (go_simp; with_reducible rfl)))
    (try simp only [List.getElem_toArray, List.getElem_cons_succ, List.getElem_cons_zero, Act.put, List.setIfInBounds_toArray, List.set_cons_zero, List.set_cons_succ])
    refine wpAnyH_take (i := 8) (oi := _) (v := ?v5) rfl (by kernel_rfl) (by kernel_rfl) (by kernel_rfl) (fun _ _ _ h => h) (Or.inl ⟨by kernel_rfl, ?y5⟩) (HS.out _ hd0) ?r5
    case y5 => (intro w hSw; (try dsimp only at hSw); (first | (go_simp; done) | (go_simp; with_reducible rfl)))
    (try simp only [List.getElem_toArray, List.getElem_cons_succ, List.getElem_cons_zero, Act.put, List.setIfInBounds_toArray, List.set_cons_zero, List.set_cons_succ])
    refine wpAnyH_take (i := 9) (oi := _) (v := ?v6) rfl (by kernel_rfl) (by kernel_rfl) (by kernel_rfl) (fun _ _ _ h => h) (Or.inl ⟨by kernel_rfl, ?y6⟩) (HS.out _ hd0) ?r6
    case y6 => (intro w hSw; (try dsimp only at hSw); (first | (go_simp; done) | (go_simp; with_reducible rfl)))
    (try simp only [List.getElem_toArray, List.getElem_cons_succ, List.getElem_cons_zero, Act.put, List.setIfInBounds_toArray, List.set_cons_zero, List.set_cons_succ])
    refine wpAnyH_take (i := 10) (oi := _) (v := ?v7) rfl (by kernel_rfl) (by kernel_rfl) (by kernel_rfl) (fun _ _ _ h => h) (Or.inl ⟨by kernel_rfl, ?y7⟩) (HS.out _ hd0) ?r7
    case y7 => (intro w hSw; (try dsimp only at hSw); (first | (go_simp; done) | (go_simp; with_reducible rfl)))
    (try simp only [List.getElem_toArray, List.getElem_cons_succ, List.getElem_cons_zero, Act.put, List.setIfInBounds_toArray, List.set_cons_zero, List.set_cons_succ])
    refine wpAnyH_take (i := 11) (oi := _) (v := ?v8) rfl (by kernel_rfl) (by kernel_rfl) (by kernel_rfl) (fun _ _ _ h => h) (Or.inl ⟨by kernel_rfl, ?y8⟩) (HS.out _ hd0) ?r8
    case y8 => (intro w hSw; (try dsimp only at hSw); (first | (go_simp; done) | (go_simp; with_reducible rfl)))
    (try simp only [List.getElem_toArray, List.getElem_cons_succ, List.getElem_cons_zero, Act.put, List.setIfInBounds_toArray, List.set_cons_zero, List.set_cons_succ])
    refine wpAnyH_ready (rs := [0, 3, 4]) (by kernel_rfl) (by simp) ?_
    refine AllReadyH.cons (o := _) rfl (fun K hK => ?_) ?_
    · go_simp
      obtain ⟨v9, hv9⟩ : ∃ X, X = v0.alloc (.map #[] 0) := ⟨_, rfl⟩
      have tn9 := n0.em
      rw [← hv9] at tn9 ⊢
      clear hv9
      have tb9 := tn9.bel
      refine hK.out _ _ (HS.out _ tb9) (fun hHeld => ?_)
      clear hK K hHeld
      (try simp only [List.getElem_toArray, List.getElem_cons_succ, List.getElem_cons_zero, Act.put, List.setIfInBounds_toArray, List.set_cons_zero, List.set_cons_succ])
      refine wpAnyH_ready (rs := [3, 4]) (by kernel_rfl) (by simp) ?_
      refine AllReadyH.cons (o := _) rfl (fun K hK => ?_) ?_
      · go_simp
        go_at_call 56
        refine (HRG.out _ (hb10.trans (tb9.mono hb10.size))).mono ?_
        rintro e v10 ⟨B10, rfl, hrr10, tc10⟩
        have tn10 := tn9.gm tc10 hrr10
        have tb10 := tn10.bel
        refine hK.out _ _ (HS.out _ tb10) (fun hHeld => ?_)
        clear hK K hHeld
        (try simp only [List.getElem_toArray, List.getElem_cons_succ, List.getElem_cons_zero, Act.put, List.setIfInBounds_toArray, List.set_cons_zero, List.set_cons_succ])
        refine wpAnyH_ready (rs := [4, 7]) (by kernel_rfl) (by simp) ?_
        refine AllReadyH.cons (o := _) rfl (fun K hK => ?_) ?_
        · go_simp
          obtain ⟨v11, hv11⟩ : ∃ X, X = v10.alloc (.map #[] 0) := ⟨_, rfl⟩
          have tn11 := tn10.dm
          rw [← hv11] at tn11 ⊢
          clear hv11
          have tb11 := tn11.bel
          refine hK.out _ _ (HS.out _ tb11) (fun hHeld => ?_)
          clear hK K hHeld
          (try simp only [List.getElem_toArray, List.getElem_cons_succ, List.getElem_cons_zero, Act.put, List.setIfInBounds_toArray, List.set_cons_zero, List.set_cons_succ])
          refine wpAnyH_ready (rs := [7]) (by kernel_rfl) (by simp) ?_
          refine AllReadyH.cons (o := _) rfl (fun K hK => ?_) AllReadyH.nil
          · refine Ow.step_append_src _ rfl (.const (.slice none 0 0)) (.tmp 21) 25 rfl v11.heap.size 9 i0 _ 1 16 Tryz.underlying25 hi0 hz0 hz1 hz2 rfl (by decide) _ 0 [] rfl (World.ownsRow_nil _ _ _ _) A3 p.schemes.length c3 (p.schemes.map Value.string) rfl (by simp) (rd_src (HRS.out _ (hb10.trans (tb11.mono hb10.size)))) (by simp [Value.oneCell']) r1 r2 (Nat.le_refl _) ?_
            intro u12 v12 ho12 hg12 hrow12
            obtain ⟨A12, cc12, rfl, _⟩ := own_slice ho12
            rw [Nat.zero_add, List.nil_append] at ho12
            have hgn12 : v11.grownBy v12 none := hg12
            have tc12 : Below v11.heap.size v11 v12 := (Fr.of_grown hgn12).below (Nat.le_refl _) (by simp)
            have tn12 := tn11.sv tc12 (kdW.read (F := _) ⟨ho12, rfl⟩ (Nat.le_refl _) (Nat.le_refl _))
            have tb12 := tn12.bel
            refine hK.out _ _ (HS.out _ tb12) (fun hHeld => ?_)
            clear hK K hHeld hrow12 hg12
            (try simp only [List.getElem_toArray, List.getElem_cons_succ, List.getElem_cons_zero, Act.put, List.setIfInBounds_toArray, List.set_cons_zero, List.set_cons_succ])
            refine wpAnyH_take (i := 12) (oi := _) (v := ?v14) rfl (by kernel_rfl) (by kernel_rfl) (by kernel_rfl) (fun _ _ _ h => h) (Or.inl ⟨by kernel_rfl, ?y14⟩) (HS.out _ tb12) ?r14
            case y14 => (intro w hSw; (try dsimp only at hSw); (first | (go_simp; done) | (go_simp; with_reducible rfl)))
            (try simp only [List.getElem_toArray, List.getElem_cons_succ, List.getElem_cons_zero, Act.put, List.setIfInBounds_toArray, List.set_cons_zero, List.set_cons_succ])
            refine wpAnyH_ready (rs := [13]) (by kernel_rfl) (by simp) ?_
            refine AllReadyH.cons (o := _) rfl (fun K hK => ?_) AllReadyH.nil
            go_simp
            have hl13 : Below w1.heap.size w1 (v12.alloc (.cells (filV v0.heap.size B10 v10.heap.size (.slice A12 p.schemes.length cc12) p ByteArray.empty 0).toArray 76)) := tb12.alloc tb12.size _
            refine hK.out _ _ (HS.out _ hl13) (fun hHeld => ?_)
            clear hK K hHeld
            (try simp only [List.getElem_toArray, List.getElem_cons_succ, List.getElem_cons_zero, Act.put, List.setIfInBounds_toArray, List.set_cons_zero, List.set_cons_succ])
            refine wpAnyH_take (i := 14) (oi := _) (v := ?v15) rfl (by kernel_rfl) (by kernel_rfl) (by kernel_rfl) (fun _ _ _ h => h) (Or.inl ⟨by kernel_rfl, ?y15⟩) (HS.out _ hl13) ?r15
            case y15 => (intro w hSw; (try dsimp only at hSw); (first | (go_simp; done) | (go_simp; with_reducible rfl)))
            (try simp only [List.getElem_toArray, List.getElem_cons_succ, List.getElem_cons_zero, Act.put, List.setIfInBounds_toArray, List.set_cons_zero, List.set_cons_succ])
            refine wpAnyH_done (by kernel_rfl) ?_ _
            go_wp2
            go_meet
            exact ⟨_, _, _, _, _, rfl, Lib.hid tn12.fil, Lib.hid hl13⟩

        refine AllReadyH.cons (o := _) rfl (fun K hK => ?_) AllReadyH.nil
        · refine Ow.step_append_src _ rfl (.const (.slice none 0 0)) (.tmp 21) 25 rfl v10.heap.size 9 i0 _ 1 16 Tryz.underlying25 hi0 hz0 hz1 hz2 rfl (by decide) _ 0 [] rfl (World.ownsRow_nil _ _ _ _) A3 p.schemes.length c3 (p.schemes.map Value.string) rfl (by simp) (rd_src (HRS.out _ (hb10.trans (tb10.mono hb10.size)))) (by simp [Value.oneCell']) r1 r2 (Nat.le_refl _) ?_
          intro u16 v16 ho16 hg16 hrow16
          obtain ⟨A16, cc16, rfl, _⟩ := own_slice ho16
          rw [Nat.zero_add, List.nil_append] at ho16
          have hgn16 : v10.grownBy v16 none := hg16
          have tc16 : Below v10.heap.size v10 v16 := (Fr.of_grown hgn16).below (Nat.le_refl _) (by simp)
          have tn16 := tn10.sv tc16 (kdW.read (F := _) ⟨ho16, rfl⟩ (Nat.le_refl _) (Nat.le_refl _))
          have tb16 := tn16.bel
          refine hK.out _ _ (HS.out _ tb16) (fun hHeld => ?_)
          clear hK K hHeld hrow16 hg16
          (try simp only [List.getElem_toArray, List.getElem_cons_succ, List.getElem_cons_zero, Act.put, List.setIfInBounds_toArray, List.set_cons_zero, List.set_cons_succ])
          refine wpAnyH_ready (rs := [4]) (by kernel_rfl) (by simp) ?_
          refine AllReadyH.cons (o := _) rfl (fun K hK => ?_) AllReadyH.nil
          · go_simp
            obtain ⟨v17, hv17⟩ : ∃ X, X = v16.alloc (.map #[] 0) := ⟨_, rfl⟩
            have tn17 := tn16.dm
            rw [← hv17] at tn17 ⊢
            clear hv17
            have tb17 := tn17.bel
            refine hK.out _ _ (HS.out _ tb17) (fun hHeld => ?_)
            clear hK K hHeld
            (try simp only [List.getElem_toArray, List.getElem_cons_succ, List.getElem_cons_zero, Act.put, List.setIfInBounds_toArray, List.set_cons_zero, List.set_cons_succ])
            refine wpAnyH_take (i := 12) (oi := _) (v := ?v19) rfl (by kernel_rfl) (by kernel_rfl) (by kernel_rfl) (fun _ _ _ h => h) (Or.inl ⟨by kernel_rfl, ?y19⟩) (HS.out _ tb17) ?r19
            case y19 => (intro w hSw; (try dsimp only at hSw); (first | (go_simp; done) | (go_simp; with_reducible rfl)))
            (try simp only [List.getElem_toArray, List.getElem_cons_succ, List.getElem_cons_zero, Act.put, List.setIfInBounds_toArray, List.set_cons_zero, List.set_cons_succ])
            refine wpAnyH_ready (rs := [13]) (by kernel_rfl) (by simp) ?_
            refine AllReadyH.cons (o := _) rfl (fun K hK => ?_) AllReadyH.nil
            go_simp
            have hl18 : Below w1.heap.size w1 (v17.alloc (.cells (filV v0.heap.size B10 v16.heap.size (.slice A16 p.schemes.length cc16) p ByteArray.empty 0).toArray 76)) := tb17.alloc tb17.size _
            refine hK.out _ _ (HS.out _ hl18) (fun hHeld => ?_)
            clear hK K hHeld
            (try simp only [List.getElem_toArray, List.getElem_cons_succ, List.getElem_cons_zero, Act.put, List.setIfInBounds_toArray, List.set_cons_zero, List.set_cons_succ])
            refine wpAnyH_take (i := 14) (oi := _) (v := ?v20) rfl (by kernel_rfl) (by kernel_rfl) (by kernel_rfl) (fun _ _ _ h => h) (Or.inl ⟨by kernel_rfl, ?y20⟩) (HS.out _ hl18) ?r20
            case y20 => (intro w hSw; (try dsimp only at hSw); (first | (go_simp; done) | (go_simp; with_reducible rfl)))
            (try simp only [List.getElem_toArray, List.getElem_cons_succ, List.getElem_cons_zero, Act.put, List.setIfInBounds_toArray, List.set_cons_zero, List.set_cons_succ])
            refine wpAnyH_done (by kernel_rfl) ?_ _
            go_wp2
            go_meet
            exact ⟨_, _, _, _, _, rfl, Lib.hid tn17.fil, Lib.hid hl18⟩


      refine AllReadyH.cons (o := _) rfl (fun K hK => ?_) AllReadyH.nil
      · go_simp
        obtain ⟨v21, hv21⟩ : ∃ X, X = v9.alloc (.map #[] 0) := ⟨_, rfl⟩
        have tn21 := tn9.dm
        rw [← hv21] at tn21 ⊢
        clear hv21
        have tb21 := tn21.bel
        refine hK.out _ _ (HS.out _ tb21) (fun hHeld => ?_)
        clear hK K hHeld
        (try simp only [List.getElem_toArray, List.getElem_cons_succ, List.getElem_cons_zero, Act.put, List.setIfInBounds_toArray, List.set_cons_zero, List.set_cons_succ])
        refine wpAnyH_ready (rs := [3]) (by kernel_rfl) (by simp) ?_
        refine AllReadyH.cons (o := _) rfl (fun K hK => ?_) AllReadyH.nil
        · go_simp
          go_at_call 56
          refine (HRG.out _ (hb10.trans (tb21.mono hb10.size))).mono ?_
          rintro e v22 ⟨B22, rfl, hrr22, tc22⟩
          have tn22 := tn21.gm tc22 hrr22
          have tb22 := tn22.bel
          refine hK.out _ _ (HS.out _ tb22) (fun hHeld => ?_)
          clear hK K hHeld
          (try simp only [List.getElem_toArray, List.getElem_cons_succ, List.getElem_cons_zero, Act.put, List.setIfInBounds_toArray, List.set_cons_zero, List.set_cons_succ])
          refine wpAnyH_ready (rs := [7]) (by kernel_rfl) (by simp) ?_
          refine AllReadyH.cons (o := _) rfl (fun K hK => ?_) AllReadyH.nil
          · refine Ow.step_append_src _ rfl (.const (.slice none 0 0)) (.tmp 21) 25 rfl v22.heap.size 9 i0 _ 1 16 Tryz.underlying25 hi0 hz0 hz1 hz2 rfl (by decide) _ 0 [] rfl (World.ownsRow_nil _ _ _ _) A3 p.schemes.length c3 (p.schemes.map Value.string) rfl (by simp) (rd_src (HRS.out _ (hb10.trans (tb22.mono hb10.size)))) (by simp [Value.oneCell']) r1 r2 (Nat.le_refl _) ?_
            intro u23 v23 ho23 hg23 hrow23
            obtain ⟨A23, cc23, rfl, _⟩ := own_slice ho23
            rw [Nat.zero_add, List.nil_append] at ho23
            have hgn23 : v22.grownBy v23 none := hg23
            have tc23 : Below v22.heap.size v22 v23 := (Fr.of_grown hgn23).below (Nat.le_refl _) (by simp)
            have tn23 := tn22.sv tc23 (kdW.read (F := _) ⟨ho23, rfl⟩ (Nat.le_refl _) (Nat.le_refl _))
            have tb23 := tn23.bel
            refine hK.out _ _ (HS.out _ tb23) (fun hHeld => ?_)
            clear hK K hHeld hrow23 hg23
            (try simp only [List.getElem_toArray, List.getElem_cons_succ, List.getElem_cons_zero, Act.put, List.setIfInBounds_toArray, List.set_cons_zero, List.set_cons_succ])
            refine wpAnyH_take (i := 12) (oi := _) (v := ?v25) rfl (by kernel_rfl) (by kernel_rfl) (by kernel_rfl) (fun _ _ _ h => h) (Or.inl ⟨by kernel_rfl, ?y25⟩) (HS.out _ tb23) ?r25
            case y25 => (intro w hSw; (try dsimp only at hSw); (first | (go_simp; done) | (go_simp; with_reducible rfl)))
            (try simp only [List.getElem_toArray, List.getElem_cons_succ, List.getElem_cons_zero, Act.put, List.setIfInBounds_toArray, List.set_cons_zero, List.set_cons_succ])
            refine wpAnyH_ready (rs := [13]) (by kernel_rfl) (by simp) ?_
            refine AllReadyH.cons (o := _) rfl (fun K hK => ?_) AllReadyH.nil
            go_simp
            have hl24 : Below w1.heap.size w1 (v23.alloc (.cells (filV v0.heap.size B22 v9.heap.size (.slice A23 p.schemes.length cc23) p ByteArray.empty 0).toArray 76)) := tb23.alloc tb23.size _
            refine hK.out _ _ (HS.out _ hl24) (fun hHeld => ?_)
            clear hK K hHeld
            (try simp only [List.getElem_toArray, List.getElem_cons_succ, List.getElem_cons_zero, Act.put, List.setIfInBounds_toArray, List.set_cons_zero, List.set_cons_succ])
            refine wpAnyH_take (i := 14) (oi := _) (v := ?v26) rfl (by kernel_rfl) (by kernel_rfl) (by kernel_rfl) (fun _ _ _ h => h) (Or.inl ⟨by kernel_rfl, ?y26⟩) (HS.out _ hl24) ?r26
            case y26 => (intro w hSw; (try dsimp only at hSw); (first | (go_simp; done) | (go_simp; with_reducible rfl)))
            (try simp only [List.getElem_toArray, List.getElem_cons_succ, List.getElem_cons_zero, Act.put, List.setIfInBounds_toArray, List.set_cons_zero, List.set_cons_succ])
            refine wpAnyH_done (by kernel_rfl) ?_ _
            go_wp2
            go_meet
            exact ⟨_, _, _, _, _, rfl, Lib.hid tn23.fil, Lib.hid hl24⟩



    refine AllReadyH.cons (o := _) rfl (fun K hK => ?_) ?_
    · go_simp
      go_at_call 56
      refine (HRG.out _ (hb10.trans (hd0.mono hb10.size))).mono ?_
      rintro e v27 ⟨B27, rfl, hrr27, tc27⟩
      have tn27 := n0.gm tc27 hrr27
      have tb27 := tn27.bel
      refine hK.out _ _ (HS.out _ tb27) (fun hHeld => ?_)
      clear hK K hHeld
      (try simp only [List.getElem_toArray, List.getElem_cons_succ, List.getElem_cons_zero, Act.put, List.setIfInBounds_toArray, List.set_cons_zero, List.set_cons_succ])
      refine wpAnyH_ready (rs := [0, 4, 7]) (by kernel_rfl) (by simp) ?_
      refine AllReadyH.cons (o := _) rfl (fun K hK => ?_) ?_
      · go_simp
        obtain ⟨v28, hv28⟩ : ∃ X, X = v27.alloc (.map #[] 0) := ⟨_, rfl⟩
        have tn28 := tn27.em
        rw [← hv28] at tn28 ⊢
        clear hv28
        have tb28 := tn28.bel
        refine hK.out _ _ (HS.out _ tb28) (fun hHeld => ?_)
        clear hK K hHeld
        (try simp only [List.getElem_toArray, List.getElem_cons_succ, List.getElem_cons_zero, Act.put, List.setIfInBounds_toArray, List.set_cons_zero, List.set_cons_succ])
        refine wpAnyH_ready (rs := [4, 7]) (by kernel_rfl) (by simp) ?_
        refine AllReadyH.cons (o := _) rfl (fun K hK => ?_) ?_
        · go_simp
          obtain ⟨v29, hv29⟩ : ∃ X, X = v28.alloc (.map #[] 0) := ⟨_, rfl⟩
          have tn29 := tn28.dm
          rw [← hv29] at tn29 ⊢
          clear hv29
          have tb29 := tn29.bel
          refine hK.out _ _ (HS.out _ tb29) (fun hHeld => ?_)
          clear hK K hHeld
          (try simp only [List.getElem_toArray, List.getElem_cons_succ, List.getElem_cons_zero, Act.put, List.setIfInBounds_toArray, List.set_cons_zero, List.set_cons_succ])
          refine wpAnyH_ready (rs := [7]) (by kernel_rfl) (by simp) ?_
          refine AllReadyH.cons (o := _) rfl (fun K hK => ?_) AllReadyH.nil
          · refine Ow.step_append_src _ rfl (.const (.slice none 0 0)) (.tmp 21) 25 rfl v29.heap.size 9 i0 _ 1 16 Tryz.underlying25 hi0 hz0 hz1 hz2 rfl (by decide) _ 0 [] rfl (World.ownsRow_nil _ _ _ _) A3 p.schemes.length c3 (p.schemes.map Value.string) rfl (by simp) (rd_src (HRS.out _ (hb10.trans (tb29.mono hb10.size)))) (by simp [Value.oneCell']) r1 r2 (Nat.le_refl _) ?_
            intro u30 v30 ho30 hg30 hrow30
            obtain ⟨A30, cc30, rfl, _⟩ := own_slice ho30
            rw [Nat.zero_add, List.nil_append] at ho30
            have hgn30 : v29.grownBy v30 none := hg30
            have tc30 : Below v29.heap.size v29 v30 := (Fr.of_grown hgn30).below (Nat.le_refl _) (by simp)
            have tn30 := tn29.sv tc30 (kdW.read (F := _) ⟨ho30, rfl⟩ (Nat.le_refl _) (Nat.le_refl _))
            have tb30 := tn30.bel
            refine hK.out _ _ (HS.out _ tb30) (fun hHeld => ?_)
            clear hK K hHeld hrow30 hg30
            (try simp only [List.getElem_toArray, List.getElem_cons_succ, List.getElem_cons_zero, Act.put, List.setIfInBounds_toArray, List.set_cons_zero, List.set_cons_succ])
            refine wpAnyH_take (i := 12) (oi := _) (v := ?v32) rfl (by kernel_rfl) (by kernel_rfl) (by kernel_rfl) (fun _ _ _ h => h) (Or.inl ⟨by kernel_rfl, ?y32⟩) (HS.out _ tb30) ?r32
            case y32 => (intro w hSw; (try dsimp only at hSw); (first | (go_simp; done) | (go_simp; with_reducible rfl)))
            (try simp only [List.getElem_toArray, List.getElem_cons_succ, List.getElem_cons_zero, Act.put, List.setIfInBounds_toArray, List.set_cons_zero, List.set_cons_succ])
            refine wpAnyH_ready (rs := [13]) (by kernel_rfl) (by simp) ?_
            refine AllReadyH.cons (o := _) rfl (fun K hK => ?_) AllReadyH.nil
            go_simp
            have hl31 : Below w1.heap.size w1 (v30.alloc (.cells (filV v27.heap.size B27 v28.heap.size (.slice A30 p.schemes.length cc30) p ByteArray.empty 0).toArray 76)) := tb30.alloc tb30.size _
            refine hK.out _ _ (HS.out _ hl31) (fun hHeld => ?_)
            clear hK K hHeld
            (try simp only [List.getElem_toArray, List.getElem_cons_succ, List.getElem_cons_zero, Act.put, List.setIfInBounds_toArray, List.set_cons_zero, List.set_cons_succ])
            refine wpAnyH_take (i := 14) (oi := _) (v := ?v33) rfl (by kernel_rfl) (by kernel_rfl) (by kernel_rfl) (fun _ _ _ h => h) (Or.inl ⟨by kernel_rfl, ?y33⟩) (HS.out _ hl31) ?r33
            case y33 => (intro w hSw; (try dsimp only at hSw); (first | (go_simp; done) | (go_simp; with_reducible rfl)))
            (try simp only [List.getElem_toArray, List.getElem_cons_succ, List.getElem_cons_zero, Act.put, List.setIfInBounds_toArray, List.set_cons_zero, List.set_cons_succ])
            refine wpAnyH_done (by kernel_rfl) ?_ _
            go_wp2
            go_meet
            exact ⟨_, _, _, _, _, rfl, Lib.hid tn30.fil, Lib.hid hl31⟩

        refine AllReadyH.cons (o := _) rfl (fun K hK => ?_) AllReadyH.nil
        · refine Ow.step_append_src _ rfl (.const (.slice none 0 0)) (.tmp 21) 25 rfl v28.heap.size 9 i0 _ 1 16 Tryz.underlying25 hi0 hz0 hz1 hz2 rfl (by decide) _ 0 [] rfl (World.ownsRow_nil _ _ _ _) A3 p.schemes.length c3 (p.schemes.map Value.string) rfl (by simp) (rd_src (HRS.out _ (hb10.trans (tb28.mono hb10.size)))) (by simp [Value.oneCell']) r1 r2 (Nat.le_refl _) ?_
          intro u34 v34 ho34 hg34 hrow34
          obtain ⟨A34, cc34, rfl, _⟩ := own_slice ho34
          rw [Nat.zero_add, List.nil_append] at ho34
          have hgn34 : v28.grownBy v34 none := hg34
          have tc34 : Below v28.heap.size v28 v34 := (Fr.of_grown hgn34).below (Nat.le_refl _) (by simp)
          have tn34 := tn28.sv tc34 (kdW.read (F := _) ⟨ho34, rfl⟩ (Nat.le_refl _) (Nat.le_refl _))
          have tb34 := tn34.bel
          refine hK.out _ _ (HS.out _ tb34) (fun hHeld => ?_)
          clear hK K hHeld hrow34 hg34
          (try simp only [List.getElem_toArray, List.getElem_cons_succ, List.getElem_cons_zero, Act.put, List.setIfInBounds_toArray, List.set_cons_zero, List.set_cons_succ])
          refine wpAnyH_ready (rs := [4]) (by kernel_rfl) (by simp) ?_
          refine AllReadyH.cons (o := _) rfl (fun K hK => ?_) AllReadyH.nil
          · go_simp
            obtain ⟨v35, hv35⟩ : ∃ X, X = v34.alloc (.map #[] 0) := ⟨_, rfl⟩
            have tn35 := tn34.dm
            rw [← hv35] at tn35 ⊢
            clear hv35
            have tb35 := tn35.bel
            refine hK.out _ _ (HS.out _ tb35) (fun hHeld => ?_)
            clear hK K hHeld
            (try simp only [List.getElem_toArray, List.getElem_cons_succ, List.getElem_cons_zero, Act.put, List.setIfInBounds_toArray, List.set_cons_zero, List.set_cons_succ])
            refine wpAnyH_take (i := 12) (oi := _) (v := ?v37) rfl (by kernel_rfl) (by kernel_rfl) (by kernel_rfl) (fun _ _ _ h => h) (Or.inl ⟨by kernel_rfl, ?y37⟩) (HS.out _ tb35) ?r37
            case y37 => (intro w hSw; (try dsimp only at hSw); (first | (go_simp; done) | (go_simp; with_reducible rfl)))
            (try simp only [List.getElem_toArray, List.getElem_cons_succ, List.getElem_cons_zero, Act.put, List.setIfInBounds_toArray, List.set_cons_zero, List.set_cons_succ])
            refine wpAnyH_ready (rs := [13]) (by kernel_rfl) (by simp) ?_
            refine AllReadyH.cons (o := _) rfl (fun K hK => ?_) AllReadyH.nil
            go_simp
            have hl36 : Below w1.heap.size w1 (v35.alloc (.cells (filV v27.heap.size B27 v34.heap.size (.slice A34 p.schemes.length cc34) p ByteArray.empty 0).toArray 76)) := tb35.alloc tb35.size _
            refine hK.out _ _ (HS.out _ hl36) (fun hHeld => ?_)
            clear hK K hHeld
            (try simp only [List.getElem_toArray, List.getElem_cons_succ, List.getElem_cons_zero, Act.put, List.setIfInBounds_toArray, List.set_cons_zero, List.set_cons_succ])
            refine wpAnyH_take (i := 14) (oi := _) (v := ?v38) rfl (by kernel_rfl) (by kernel_rfl) (by kernel_rfl) (fun _ _ _ h => h) (Or.inl ⟨by kernel_rfl, ?y38⟩) (HS.out _ hl36) ?r38
            case y38 => (intro w hSw; (try dsimp only at hSw); (first | (go_simp; done) | (go_simp; with_reducible rfl)))
            (try simp only [List.getElem_toArray, List.getElem_cons_succ, List.getElem_cons_zero, Act.put, List.setIfInBounds_toArray, List.set_cons_zero, List.set_cons_succ])
            refine wpAnyH_done (by kernel_rfl) ?_ _
            go_wp2
            go_meet
            exact ⟨_, _, _, _, _, rfl, Lib.hid tn35.fil, Lib.hid hl36⟩


      refine AllReadyH.cons (o := _) rfl (fun K hK => ?_) ?_
      · go_simp
        obtain ⟨v39, hv39⟩ : ∃ X, X = v27.alloc (.map #[] 0) := ⟨_, rfl⟩
        have tn39 := tn27.dm
        rw [← hv39] at tn39 ⊢
        clear hv39
        have tb39 := tn39.bel
        refine hK.out _ _ (HS.out _ tb39) (fun hHeld => ?_)
        clear hK K hHeld
        (try simp only [List.getElem_toArray, List.getElem_cons_succ, List.getElem_cons_zero, Act.put, List.setIfInBounds_toArray, List.set_cons_zero, List.set_cons_succ])
        refine wpAnyH_ready (rs := [0, 7]) (by kernel_rfl) (by simp) ?_
        refine AllReadyH.cons (o := _) rfl (fun K hK => ?_) ?_
        · go_simp
          obtain ⟨v40, hv40⟩ : ∃ X, X = v39.alloc (.map #[] 0) := ⟨_, rfl⟩
          have tn40 := tn39.em
          rw [← hv40] at tn40 ⊢
          clear hv40
          have tb40 := tn40.bel
          refine hK.out _ _ (HS.out _ tb40) (fun hHeld => ?_)
          clear hK K hHeld
          (try simp only [List.getElem_toArray, List.getElem_cons_succ, List.getElem_cons_zero, Act.put, List.setIfInBounds_toArray, List.set_cons_zero, List.set_cons_succ])
          refine wpAnyH_ready (rs := [7]) (by kernel_rfl) (by simp) ?_
          refine AllReadyH.cons (o := _) rfl (fun K hK => ?_) AllReadyH.nil
          · refine Ow.step_append_src _ rfl (.const (.slice none 0 0)) (.tmp 21) 25 rfl v40.heap.size 9 i0 _ 1 16 Tryz.underlying25 hi0 hz0 hz1 hz2 rfl (by decide) _ 0 [] rfl (World.ownsRow_nil _ _ _ _) A3 p.schemes.length c3 (p.schemes.map Value.string) rfl (by simp) (rd_src (HRS.out _ (hb10.trans (tb40.mono hb10.size)))) (by simp [Value.oneCell']) r1 r2 (Nat.le_refl _) ?_
            intro u41 v41 ho41 hg41 hrow41
            obtain ⟨A41, cc41, rfl, _⟩ := own_slice ho41
            rw [Nat.zero_add, List.nil_append] at ho41
            have hgn41 : v40.grownBy v41 none := hg41
            have tc41 : Below v40.heap.size v40 v41 := (Fr.of_grown hgn41).below (Nat.le_refl _) (by simp)
            have tn41 := tn40.sv tc41 (kdW.read (F := _) ⟨ho41, rfl⟩ (Nat.le_refl _) (Nat.le_refl _))
            have tb41 := tn41.bel
            refine hK.out _ _ (HS.out _ tb41) (fun hHeld => ?_)
            clear hK K hHeld hrow41 hg41
            (try simp only [List.getElem_toArray, List.getElem_cons_succ, List.getElem_cons_zero, Act.put, List.setIfInBounds_toArray, List.set_cons_zero, List.set_cons_succ])
            refine wpAnyH_take (i := 12) (oi := _) (v := ?v43) rfl (by kernel_rfl) (by kernel_rfl) (by kernel_rfl) (fun _ _ _ h => h) (Or.inl ⟨by kernel_rfl, ?y43⟩) (HS.out _ tb41) ?r43
            case y43 => (intro w hSw; (try dsimp only at hSw); (first | (go_simp; done) | (go_simp; with_reducible rfl)))
            (try simp only [List.getElem_toArray, List.getElem_cons_succ, List.getElem_cons_zero, Act.put, List.setIfInBounds_toArray, List.set_cons_zero, List.set_cons_succ])
            refine wpAnyH_ready (rs := [13]) (by kernel_rfl) (by simp) ?_
            refine AllReadyH.cons (o := _) rfl (fun K hK => ?_) AllReadyH.nil
            go_simp
            have hl42 : Below w1.heap.size w1 (v41.alloc (.cells (filV v39.heap.size B27 v27.heap.size (.slice A41 p.schemes.length cc41) p ByteArray.empty 0).toArray 76)) := tb41.alloc tb41.size _
            refine hK.out _ _ (HS.out _ hl42) (fun hHeld => ?_)
            clear hK K hHeld
            (try simp only [List.getElem_toArray, List.getElem_cons_succ, List.getElem_cons_zero, Act.put, List.setIfInBounds_toArray, List.set_cons_zero, List.set_cons_succ])
            refine wpAnyH_take (i := 14) (oi := _) (v := ?v44) rfl (by kernel_rfl) (by kernel_rfl) (by kernel_rfl) (fun _ _ _ h => h) (Or.inl ⟨by kernel_rfl, ?y44⟩) (HS.out _ hl42) ?r44
            case y44 => (intro w hSw; (try dsimp only at hSw); (first | (go_simp; done) | (go_simp; with_reducible rfl)))
            (try simp only [List.getElem_toArray, List.getElem_cons_succ, List.getElem_cons_zero, Act.put, List.setIfInBounds_toArray, List.set_cons_zero, List.set_cons_succ])
            refine wpAnyH_done (by kernel_rfl) ?_ _
            go_wp2
            go_meet
            exact ⟨_, _, _, _, _, rfl, Lib.hid tn41.fil, Lib.hid hl42⟩

        refine AllReadyH.cons (o := _) rfl (fun K hK => ?_) AllReadyH.nil
        · refine Ow.step_append_src _ rfl (.const (.slice none 0 0)) (.tmp 21) 25 rfl v39.heap.size 9 i0 _ 1 16 Tryz.underlying25 hi0 hz0 hz1 hz2 rfl (by decide) _ 0 [] rfl (World.ownsRow_nil _ _ _ _) A3 p.schemes.length c3 (p.schemes.map Value.string) rfl (by simp) (rd_src (HRS.out _ (hb10.trans (tb39.mono hb10.size)))) (by simp [Value.oneCell']) r1 r2 (Nat.le_refl _) ?_
          intro u45 v45 ho45 hg45 hrow45
          obtain ⟨A45, cc45, rfl, _⟩ := own_slice ho45
          rw [Nat.zero_add, List.nil_append] at ho45
          have hgn45 : v39.grownBy v45 none := hg45
          have tc45 : Below v39.heap.size v39 v45 := (Fr.of_grown hgn45).below (Nat.le_refl _) (by simp)
          have tn45 := tn39.sv tc45 (kdW.read (F := _) ⟨ho45, rfl⟩ (Nat.le_refl _) (Nat.le_refl _))
          have tb45 := tn45.bel
          refine hK.out _ _ (HS.out _ tb45) (fun hHeld => ?_)
          clear hK K hHeld hrow45 hg45
          (try simp only [List.getElem_toArray, List.getElem_cons_succ, List.getElem_cons_zero, Act.put, List.setIfInBounds_toArray, List.set_cons_zero, List.set_cons_succ])
          refine wpAnyH_ready (rs := [0]) (by kernel_rfl) (by simp) ?_
          refine AllReadyH.cons (o := _) rfl (fun K hK => ?_) AllReadyH.nil
          · go_simp
            obtain ⟨v46, hv46⟩ : ∃ X, X = v45.alloc (.map #[] 0) := ⟨_, rfl⟩
            have tn46 := tn45.em
            rw [← hv46] at tn46 ⊢
            clear hv46
            have tb46 := tn46.bel
            refine hK.out _ _ (HS.out _ tb46) (fun hHeld => ?_)
            clear hK K hHeld
            (try simp only [List.getElem_toArray, List.getElem_cons_succ, List.getElem_cons_zero, Act.put, List.setIfInBounds_toArray, List.set_cons_zero, List.set_cons_succ])
            refine wpAnyH_take (i := 12) (oi := _) (v := ?v48) rfl (by kernel_rfl) (by kernel_rfl) (by kernel_rfl) (fun _ _ _ h => h) (Or.inl ⟨by kernel_rfl, ?y48⟩) (HS.out _ tb46) ?r48
            case y48 => (intro w hSw; (try dsimp only at hSw); (first | (go_simp; done) | (go_simp; with_reducible rfl)))
            (try simp only [List.getElem_toArray, List.getElem_cons_succ, List.getElem_cons_zero, Act.put, List.setIfInBounds_toArray, List.set_cons_zero, List.set_cons_succ])
            refine wpAnyH_ready (rs := [13]) (by kernel_rfl) (by simp) ?_
            refine AllReadyH.cons (o := _) rfl (fun K hK => ?_) AllReadyH.nil
            go_simp
            have hl47 : Below w1.heap.size w1 (v46.alloc (.cells (filV v45.heap.size B27 v27.heap.size (.slice A45 p.schemes.length cc45) p ByteArray.empty 0).toArray 76)) := tb46.alloc tb46.size _
            refine hK.out _ _ (HS.out _ hl47) (fun hHeld => ?_)
            clear hK K hHeld
            (try simp only [List.getElem_toArray, List.getElem_cons_succ, List.getElem_cons_zero, Act.put, List.setIfInBounds_toArray, List.set_cons_zero, List.set_cons_succ])
            refine wpAnyH_take (i := 14) (oi := _) (v := ?v49) rfl (by kernel_rfl) (by kernel_rfl) (by kernel_rfl) (fun _ _ _ h => h) (Or.inl ⟨by kernel_rfl, ?y49⟩) (HS.out _ hl47) ?r49
            case y49 => (intro w hSw; (try dsimp only at hSw); (first | (go_simp; done) | (go_simp; with_reducible rfl)))
            (try simp only [List.getElem_toArray, List.getElem_cons_succ, List.getElem_cons_zero, Act.put, List.setIfInBounds_toArray, List.set_cons_zero, List.set_cons_succ])
            refine wpAnyH_done (by kernel_rfl) ?_ _
            go_wp2
            go_meet
            exact ⟨_, _, _, _, _, rfl, Lib.hid tn46.fil, Lib.hid hl47⟩


      refine AllReadyH.cons (o := _) rfl (fun K hK => ?_) AllReadyH.nil
      · refine Ow.step_append_src _ rfl (.const (.slice none 0 0)) (.tmp 21) 25 rfl v27.heap.size 9 i0 _ 1 16 Tryz.underlying25 hi0 hz0 hz1 hz2 rfl (by decide) _ 0 [] rfl (World.ownsRow_nil _ _ _ _) A3 p.schemes.length c3 (p.schemes.map Value.string) rfl (by simp) (rd_src (HRS.out _ (hb10.trans (tb27.mono hb10.size)))) (by simp [Value.oneCell']) r1 r2 (Nat.le_refl _) ?_
        intro u50 v50 ho50 hg50 hrow50
        obtain ⟨A50, cc50, rfl, _⟩ := own_slice ho50
        rw [Nat.zero_add, List.nil_append] at ho50
        have hgn50 : v27.grownBy v50 none := hg50
        have tc50 : Below v27.heap.size v27 v50 := (Fr.of_grown hgn50).below (Nat.le_refl _) (by simp)
        have tn50 := tn27.sv tc50 (kdW.read (F := _) ⟨ho50, rfl⟩ (Nat.le_refl _) (Nat.le_refl _))
        have tb50 := tn50.bel
        refine hK.out _ _ (HS.out _ tb50) (fun hHeld => ?_)
        clear hK K hHeld hrow50 hg50
        (try simp only [List.getElem_toArray, List.getElem_cons_succ, List.getElem_cons_zero, Act.put, List.setIfInBounds_toArray, List.set_cons_zero, List.set_cons_succ])
        refine wpAnyH_ready (rs := [0, 4]) (by kernel_rfl) (by simp) ?_
        refine AllReadyH.cons (o := _) rfl (fun K hK => ?_) ?_
        · go_simp
          obtain ⟨v51, hv51⟩ : ∃ X, X = v50.alloc (.map #[] 0) := ⟨_, rfl⟩
          have tn51 := tn50.em
          rw [← hv51] at tn51 ⊢
          clear hv51
          have tb51 := tn51.bel
          refine hK.out _ _ (HS.out _ tb51) (fun hHeld => ?_)
          clear hK K hHeld
          (try simp only [List.getElem_toArray, List.getElem_cons_succ, List.getElem_cons_zero, Act.put, List.setIfInBounds_toArray, List.set_cons_zero, List.set_cons_succ])
          refine wpAnyH_ready (rs := [4]) (by kernel_rfl) (by simp) ?_
          refine AllReadyH.cons (o := _) rfl (fun K hK => ?_) AllReadyH.nil
          · go_simp
            obtain ⟨v52, hv52⟩ : ∃ X, X = v51.alloc (.map #[] 0) := ⟨_, rfl⟩
            have tn52 := tn51.dm
            rw [← hv52] at tn52 ⊢
            clear hv52
            have tb52 := tn52.bel
            refine hK.out _ _ (HS.out _ tb52) (fun hHeld => ?_)
            clear hK K hHeld
            (try simp only [List.getElem_toArray, List.getElem_cons_succ, List.getElem_cons_zero, Act.put, List.setIfInBounds_toArray, List.set_cons_zero, List.set_cons_succ])
            refine wpAnyH_take (i := 12) (oi := _) (v := ?v54) rfl (by kernel_rfl) (by kernel_rfl) (by kernel_rfl) (fun _ _ _ h => h) (Or.inl ⟨by kernel_rfl, ?y54⟩) (HS.out _ tb52) ?r54
            case y54 => (intro w hSw; (try dsimp only at hSw); (first | (go_simp; done) | (go_simp; with_reducible rfl)))
            (try simp only [List.getElem_toArray, List.getElem_cons_succ, List.getElem_cons_zero, Act.put, List.setIfInBounds_toArray, List.set_cons_zero, List.set_cons_succ])
            refine wpAnyH_ready (rs := [13]) (by kernel_rfl) (by simp) ?_
            refine AllReadyH.cons (o := _) rfl (fun K hK => ?_) AllReadyH.nil
            go_simp
            have hl53 : Below w1.heap.size w1 (v52.alloc (.cells (filV v50.heap.size B27 v51.heap.size (.slice A50 p.schemes.length cc50) p ByteArray.empty 0).toArray 76)) := tb52.alloc tb52.size _
            refine hK.out _ _ (HS.out _ hl53) (fun hHeld => ?_)
            clear hK K hHeld
            (try simp only [List.getElem_toArray, List.getElem_cons_succ, List.getElem_cons_zero, Act.put, List.setIfInBounds_toArray, List.set_cons_zero, List.set_cons_succ])
            refine wpAnyH_take (i := 14) (oi := _) (v := ?v55) rfl (by kernel_rfl) (by kernel_rfl) (by kernel_rfl) (fun _ _ _ h => h) (Or.inl ⟨by kernel_rfl, ?y55⟩) (HS.out _ hl53) ?r55
            case y55 => (intro w hSw; (try dsimp only at hSw); (first | (go_simp; done) | (go_simp; with_reducible rfl)))
            (try simp only [List.getElem_toArray, List.getElem_cons_succ, List.getElem_cons_zero, Act.put, List.setIfInBounds_toArray, List.set_cons_zero, List.set_cons_succ])
            refine wpAnyH_done (by kernel_rfl) ?_ _
            go_wp2
            go_meet
            exact ⟨_, _, _, _, _, rfl, Lib.hid tn52.fil, Lib.hid hl53⟩

        refine AllReadyH.cons (o := _) rfl (fun K hK => ?_) AllReadyH.nil
        · go_simp
          obtain ⟨v56, hv56⟩ : ∃ X, X = v50.alloc (.map #[] 0) := ⟨_, rfl⟩
          have tn56 := tn50.dm
          rw [← hv56] at tn56 ⊢
          clear hv56
          have tb56 := tn56.bel
          refine hK.out _ _ (HS.out _ tb56) (fun hHeld => ?_)
          clear hK K hHeld
          (try simp only [List.getElem_toArray, List.getElem_cons_succ, List.getElem_cons_zero, Act.put, List.setIfInBounds_toArray, List.set_cons_zero, List.set_cons_succ])
          refine wpAnyH_ready (rs := [0]) (by kernel_rfl) (by simp) ?_
          refine AllReadyH.cons (o := _) rfl (fun K hK => ?_) AllReadyH.nil
          · go_simp
            obtain ⟨v57, hv57⟩ : ∃ X, X = v56.alloc (.map #[] 0) := ⟨_, rfl⟩
            have tn57 := tn56.em
            rw [← hv57] at tn57 ⊢
            clear hv57
            have tb57 := tn57.bel
            refine hK.out _ _ (HS.out _ tb57) (fun hHeld => ?_)
            clear hK K hHeld
            (try simp only [List.getElem_toArray, List.getElem_cons_succ, List.getElem_cons_zero, Act.put, List.setIfInBounds_toArray, List.set_cons_zero, List.set_cons_succ])
            refine wpAnyH_take (i := 12) (oi := _) (v := ?v59) rfl (by kernel_rfl) (by kernel_rfl) (by kernel_rfl) (fun _ _ _ h => h) (Or.inl ⟨by kernel_rfl, ?y59⟩) (HS.out _ tb57) ?r59
            case y59 => (intro w hSw; (try dsimp only at hSw); (first | (go_simp; done) | (go_simp; with_reducible rfl)))
            (try simp only [List.getElem_toArray, List.getElem_cons_succ, List.getElem_cons_zero, Act.put, List.setIfInBounds_toArray, List.set_cons_zero, List.set_cons_succ])
            refine wpAnyH_ready (rs := [13]) (by kernel_rfl) (by simp) ?_
            refine AllReadyH.cons (o := _) rfl (fun K hK => ?_) AllReadyH.nil
            go_simp
            have hl58 : Below w1.heap.size w1 (v57.alloc (.cells (filV v56.heap.size B27 v50.heap.size (.slice A50 p.schemes.length cc50) p ByteArray.empty 0).toArray 76)) := tb57.alloc tb57.size _
            refine hK.out _ _ (HS.out _ hl58) (fun hHeld => ?_)
            clear hK K hHeld
            (try simp only [List.getElem_toArray, List.getElem_cons_succ, List.getElem_cons_zero, Act.put, List.setIfInBounds_toArray, List.set_cons_zero, List.set_cons_succ])
            refine wpAnyH_take (i := 14) (oi := _) (v := ?v60) rfl (by kernel_rfl) (by kernel_rfl) (by kernel_rfl) (fun _ _ _ h => h) (Or.inl ⟨by kernel_rfl, ?y60⟩) (HS.out _ hl58) ?r60
            case y60 => (intro w hSw; (try dsimp only at hSw); (first | (go_simp; done) | (go_simp; with_reducible rfl)))
            (try simp only [List.getElem_toArray, List.getElem_cons_succ, List.getElem_cons_zero, Act.put, List.setIfInBounds_toArray, List.set_cons_zero, List.set_cons_succ])
            refine wpAnyH_done (by kernel_rfl) ?_ _
            go_wp2
            go_meet
            exact ⟨_, _, _, _, _, rfl, Lib.hid tn57.fil, Lib.hid hl58⟩



    refine AllReadyH.cons (o := _) rfl (fun K hK => ?_) AllReadyH.nil
    · go_simp
      obtain ⟨v61, hv61⟩ : ∃ X, X = v0.alloc (.map #[] 0) := ⟨_, rfl⟩
      have tn61 := n0.dm
      rw [← hv61] at tn61 ⊢
      clear hv61
      have tb61 := tn61.bel
      refine hK.out _ _ (HS.out _ tb61) (fun hHeld => ?_)
      clear hK K hHeld
      (try simp only [List.getElem_toArray, List.getElem_cons_succ, List.getElem_cons_zero, Act.put, List.setIfInBounds_toArray, List.set_cons_zero, List.set_cons_succ])
      refine wpAnyH_ready (rs := [0, 3]) (by kernel_rfl) (by simp) ?_
      refine AllReadyH.cons (o := _) rfl (fun K hK => ?_) ?_
      · go_simp
        obtain ⟨v62, hv62⟩ : ∃ X, X = v61.alloc (.map #[] 0) := ⟨_, rfl⟩
        have tn62 := tn61.em
        rw [← hv62] at tn62 ⊢
        clear hv62
        have tb62 := tn62.bel
        refine hK.out _ _ (HS.out _ tb62) (fun hHeld => ?_)
        clear hK K hHeld
        (try simp only [List.getElem_toArray, List.getElem_cons_succ, List.getElem_cons_zero, Act.put, List.setIfInBounds_toArray, List.set_cons_zero, List.set_cons_succ])
        refine wpAnyH_ready (rs := [3]) (by kernel_rfl) (by simp) ?_
        refine AllReadyH.cons (o := _) rfl (fun K hK => ?_) AllReadyH.nil
        · go_simp
          go_at_call 56
          refine (HRG.out _ (hb10.trans (tb62.mono hb10.size))).mono ?_
          rintro e v63 ⟨B63, rfl, hrr63, tc63⟩
          have tn63 := tn62.gm tc63 hrr63
          have tb63 := tn63.bel
          refine hK.out _ _ (HS.out _ tb63) (fun hHeld => ?_)
          clear hK K hHeld
          (try simp only [List.getElem_toArray, List.getElem_cons_succ, List.getElem_cons_zero, Act.put, List.setIfInBounds_toArray, List.set_cons_zero, List.set_cons_succ])
          refine wpAnyH_ready (rs := [7]) (by kernel_rfl) (by simp) ?_
          refine AllReadyH.cons (o := _) rfl (fun K hK => ?_) AllReadyH.nil
          · refine Ow.step_append_src _ rfl (.const (.slice none 0 0)) (.tmp 21) 25 rfl v63.heap.size 9 i0 _ 1 16 Tryz.underlying25 hi0 hz0 hz1 hz2 rfl (by decide) _ 0 [] rfl (World.ownsRow_nil _ _ _ _) A3 p.schemes.length c3 (p.schemes.map Value.string) rfl (by simp) (rd_src (HRS.out _ (hb10.trans (tb63.mono hb10.size)))) (by simp [Value.oneCell']) r1 r2 (Nat.le_refl _) ?_
            intro u64 v64 ho64 hg64 hrow64
            obtain ⟨A64, cc64, rfl, _⟩ := own_slice ho64
            rw [Nat.zero_add, List.nil_append] at ho64
            have hgn64 : v63.grownBy v64 none := hg64
            have tc64 : Below v63.heap.size v63 v64 := (Fr.of_grown hgn64).below (Nat.le_refl _) (by simp)
            have tn64 := tn63.sv tc64 (kdW.read (F := _) ⟨ho64, rfl⟩ (Nat.le_refl _) (Nat.le_refl _))
            have tb64 := tn64.bel
            refine hK.out _ _ (HS.out _ tb64) (fun hHeld => ?_)
            clear hK K hHeld hrow64 hg64
            (try simp only [List.getElem_toArray, List.getElem_cons_succ, List.getElem_cons_zero, Act.put, List.setIfInBounds_toArray, List.set_cons_zero, List.set_cons_succ])
            refine wpAnyH_take (i := 12) (oi := _) (v := ?v66) rfl (by kernel_rfl) (by kernel_rfl) (by kernel_rfl) (fun _ _ _ h => h) (Or.inl ⟨by kernel_rfl, ?y66⟩) (HS.out _ tb64) ?r66
            case y66 => (intro w hSw; (try dsimp only at hSw); (first | (go_simp; done) | (go_simp; with_reducible rfl)))
            (try simp only [List.getElem_toArray, List.getElem_cons_succ, List.getElem_cons_zero, Act.put, List.setIfInBounds_toArray, List.set_cons_zero, List.set_cons_succ])
            refine wpAnyH_ready (rs := [13]) (by kernel_rfl) (by simp) ?_
            refine AllReadyH.cons (o := _) rfl (fun K hK => ?_) AllReadyH.nil
            go_simp
            have hl65 : Below w1.heap.size w1 (v64.alloc (.cells (filV v61.heap.size B63 v0.heap.size (.slice A64 p.schemes.length cc64) p ByteArray.empty 0).toArray 76)) := tb64.alloc tb64.size _
            refine hK.out _ _ (HS.out _ hl65) (fun hHeld => ?_)
            clear hK K hHeld
            (try simp only [List.getElem_toArray, List.getElem_cons_succ, List.getElem_cons_zero, Act.put, List.setIfInBounds_toArray, List.set_cons_zero, List.set_cons_succ])
            refine wpAnyH_take (i := 14) (oi := _) (v := ?v67) rfl (by kernel_rfl) (by kernel_rfl) (by kernel_rfl) (fun _ _ _ h => h) (Or.inl ⟨by kernel_rfl, ?y67⟩) (HS.out _ hl65) ?r67
            case y67 => (intro w hSw; (try dsimp only at hSw); (first | (go_simp; done) | (go_simp; with_reducible rfl)))
            (try simp only [List.getElem_toArray, List.getElem_cons_succ, List.getElem_cons_zero, Act.put, List.setIfInBounds_toArray, List.set_cons_zero, List.set_cons_succ])
            refine wpAnyH_done (by kernel_rfl) ?_ _
            go_wp2
            go_meet
            exact ⟨_, _, _, _, _, rfl, Lib.hid tn64.fil, Lib.hid hl65⟩


      refine AllReadyH.cons (o := _) rfl (fun K hK => ?_) AllReadyH.nil
      · go_simp
        go_at_call 56
        refine (HRG.out _ (hb10.trans (tb61.mono hb10.size))).mono ?_
        rintro e v68 ⟨B68, rfl, hrr68, tc68⟩
        have tn68 := tn61.gm tc68 hrr68
        have tb68 := tn68.bel
        refine hK.out _ _ (HS.out _ tb68) (fun hHeld => ?_)
        clear hK K hHeld
        (try simp only [List.getElem_toArray, List.getElem_cons_succ, List.getElem_cons_zero, Act.put, List.setIfInBounds_toArray, List.set_cons_zero, List.set_cons_succ])
        refine wpAnyH_ready (rs := [0, 7]) (by kernel_rfl) (by simp) ?_
        refine AllReadyH.cons (o := _) rfl (fun K hK => ?_) ?_
        · go_simp
          obtain ⟨v69, hv69⟩ : ∃ X, X = v68.alloc (.map #[] 0) := ⟨_, rfl⟩
          have tn69 := tn68.em
          rw [← hv69] at tn69 ⊢
          clear hv69
          have tb69 := tn69.bel
          refine hK.out _ _ (HS.out _ tb69) (fun hHeld => ?_)
          clear hK K hHeld
          (try simp only [List.getElem_toArray, List.getElem_cons_succ, List.getElem_cons_zero, Act.put, List.setIfInBounds_toArray, List.set_cons_zero, List.set_cons_succ])
          refine wpAnyH_ready (rs := [7]) (by kernel_rfl) (by simp) ?_
          refine AllReadyH.cons (o := _) rfl (fun K hK => ?_) AllReadyH.nil
          · refine Ow.step_append_src _ rfl (.const (.slice none 0 0)) (.tmp 21) 25 rfl v69.heap.size 9 i0 _ 1 16 Tryz.underlying25 hi0 hz0 hz1 hz2 rfl (by decide) _ 0 [] rfl (World.ownsRow_nil _ _ _ _) A3 p.schemes.length c3 (p.schemes.map Value.string) rfl (by simp) (rd_src (HRS.out _ (hb10.trans (tb69.mono hb10.size)))) (by simp [Value.oneCell']) r1 r2 (Nat.le_refl _) ?_
            intro u70 v70 ho70 hg70 hrow70
            obtain ⟨A70, cc70, rfl, _⟩ := own_slice ho70
            rw [Nat.zero_add, List.nil_append] at ho70
            have hgn70 : v69.grownBy v70 none := hg70
            have tc70 : Below v69.heap.size v69 v70 := (Fr.of_grown hgn70).below (Nat.le_refl _) (by simp)
            have tn70 := tn69.sv tc70 (kdW.read (F := _) ⟨ho70, rfl⟩ (Nat.le_refl _) (Nat.le_refl _))
            have tb70 := tn70.bel
            refine hK.out _ _ (HS.out _ tb70) (fun hHeld => ?_)
            clear hK K hHeld hrow70 hg70
            (try simp only [List.getElem_toArray, List.getElem_cons_succ, List.getElem_cons_zero, Act.put, List.setIfInBounds_toArray, List.set_cons_zero, List.set_cons_succ])
            refine wpAnyH_take (i := 12) (oi := _) (v := ?v72) rfl (by kernel_rfl) (by kernel_rfl) (by kernel_rfl) (fun _ _ _ h => h) (Or.inl ⟨by kernel_rfl, ?y72⟩) (HS.out _ tb70) ?r72
            case y72 => (intro w hSw; (try dsimp only at hSw); (first | (go_simp; done) | (go_simp; with_reducible rfl)))
            (try simp only [List.getElem_toArray, List.getElem_cons_succ, List.getElem_cons_zero, Act.put, List.setIfInBounds_toArray, List.set_cons_zero, List.set_cons_succ])
            refine wpAnyH_ready (rs := [13]) (by kernel_rfl) (by simp) ?_
            refine AllReadyH.cons (o := _) rfl (fun K hK => ?_) AllReadyH.nil
            go_simp
            have hl71 : Below w1.heap.size w1 (v70.alloc (.cells (filV v68.heap.size B68 v0.heap.size (.slice A70 p.schemes.length cc70) p ByteArray.empty 0).toArray 76)) := tb70.alloc tb70.size _
            refine hK.out _ _ (HS.out _ hl71) (fun hHeld => ?_)
            clear hK K hHeld
            (try simp only [List.getElem_toArray, List.getElem_cons_succ, List.getElem_cons_zero, Act.put, List.setIfInBounds_toArray, List.set_cons_zero, List.set_cons_succ])
            refine wpAnyH_take (i := 14) (oi := _) (v := ?v73) rfl (by kernel_rfl) (by kernel_rfl) (by kernel_rfl) (fun _ _ _ h => h) (Or.inl ⟨by kernel_rfl, ?y73⟩) (HS.out _ hl71) ?r73
            case y73 => (intro w hSw; (try dsimp only at hSw); (first | (go_simp; done) | (go_simp; with_reducible rfl)))
            (try simp only [List.getElem_toArray, List.getElem_cons_succ, List.getElem_cons_zero, Act.put, List.setIfInBounds_toArray, List.set_cons_zero, List.set_cons_succ])
            refine wpAnyH_done (by kernel_rfl) ?_ _
            go_wp2
            go_meet
            exact ⟨_, _, _, _, _, rfl, Lib.hid tn70.fil, Lib.hid hl71⟩

        refine AllReadyH.cons (o := _) rfl (fun K hK => ?_) AllReadyH.nil
        · refine Ow.step_append_src _ rfl (.const (.slice none 0 0)) (.tmp 21) 25 rfl v68.heap.size 9 i0 _ 1 16 Tryz.underlying25 hi0 hz0 hz1 hz2 rfl (by decide) _ 0 [] rfl (World.ownsRow_nil _ _ _ _) A3 p.schemes.length c3 (p.schemes.map Value.string) rfl (by simp) (rd_src (HRS.out _ (hb10.trans (tb68.mono hb10.size)))) (by simp [Value.oneCell']) r1 r2 (Nat.le_refl _) ?_
          intro u74 v74 ho74 hg74 hrow74
          obtain ⟨A74, cc74, rfl, _⟩ := own_slice ho74
          rw [Nat.zero_add, List.nil_append] at ho74
          have hgn74 : v68.grownBy v74 none := hg74
          have tc74 : Below v68.heap.size v68 v74 := (Fr.of_grown hgn74).below (Nat.le_refl _) (by simp)
          have tn74 := tn68.sv tc74 (kdW.read (F := _) ⟨ho74, rfl⟩ (Nat.le_refl _) (Nat.le_refl _))
          have tb74 := tn74.bel
          refine hK.out _ _ (HS.out _ tb74) (fun hHeld => ?_)
          clear hK K hHeld hrow74 hg74
          (try simp only [List.getElem_toArray, List.getElem_cons_succ, List.getElem_cons_zero, Act.put, List.setIfInBounds_toArray, List.set_cons_zero, List.set_cons_succ])
          refine wpAnyH_ready (rs := [0]) (by kernel_rfl) (by simp) ?_
          refine AllReadyH.cons (o := _) rfl (fun K hK => ?_) AllReadyH.nil
          · go_simp
            obtain ⟨v75, hv75⟩ : ∃ X, X = v74.alloc (.map #[] 0) := ⟨_, rfl⟩
            have tn75 := tn74.em
            rw [← hv75] at tn75 ⊢
            clear hv75
            have tb75 := tn75.bel
            refine hK.out _ _ (HS.out _ tb75) (fun hHeld => ?_)
            clear hK K hHeld
            (try simp only [List.getElem_toArray, List.getElem_cons_succ, List.getElem_cons_zero, Act.put, List.setIfInBounds_toArray, List.set_cons_zero, List.set_cons_succ])
            refine wpAnyH_take (i := 12) (oi := _) (v := ?v77) rfl (by kernel_rfl) (by kernel_rfl) (by kernel_rfl) (fun _ _ _ h => h) (Or.inl ⟨by kernel_rfl, ?y77⟩) (HS.out _ tb75) ?r77
            case y77 => (intro w hSw; (try dsimp only at hSw); (first | (go_simp; done) | (go_simp; with_reducible rfl)))
            (try simp only [List.getElem_toArray, List.getElem_cons_succ, List.getElem_cons_zero, Act.put, List.setIfInBounds_toArray, List.set_cons_zero, List.set_cons_succ])
            refine wpAnyH_ready (rs := [13]) (by kernel_rfl) (by simp) ?_
            refine AllReadyH.cons (o := _) rfl (fun K hK => ?_) AllReadyH.nil
            go_simp
            have hl76 : Below w1.heap.size w1 (v75.alloc (.cells (filV v74.heap.size B68 v0.heap.size (.slice A74 p.schemes.length cc74) p ByteArray.empty 0).toArray 76)) := tb75.alloc tb75.size _
            refine hK.out _ _ (HS.out _ hl76) (fun hHeld => ?_)
            clear hK K hHeld
            (try simp only [List.getElem_toArray, List.getElem_cons_succ, List.getElem_cons_zero, Act.put, List.setIfInBounds_toArray, List.set_cons_zero, List.set_cons_succ])
            refine wpAnyH_take (i := 14) (oi := _) (v := ?v78) rfl (by kernel_rfl) (by kernel_rfl) (by kernel_rfl) (fun _ _ _ h => h) (Or.inl ⟨by kernel_rfl, ?y78⟩) (HS.out _ hl76) ?r78
            case y78 => (intro w hSw; (try dsimp only at hSw); (first | (go_simp; done) | (go_simp; with_reducible rfl)))
            (try simp only [List.getElem_toArray, List.getElem_cons_succ, List.getElem_cons_zero, Act.put, List.setIfInBounds_toArray, List.set_cons_zero, List.set_cons_succ])
            refine wpAnyH_done (by kernel_rfl) ?_ _
            go_wp2
            go_meet
            exact ⟨_, _, _, _, _, rfl, Lib.hid tn75.fil, Lib.hid hl76⟩




  case rest =>
    obtain ⟨g, em, gm, dm, sv, rfl, hfil, hbx⟩ := hcut
    obtain ⟨w2, rfl⟩ : ∃ W, W = wc := ⟨_, rfl⟩
    have k2 := k1.below hbx.out
    have hb2 : Below w.heap.size w w2 := hb10.trans (hbx.out.mono hb10.size)
    have z0 := k2.cell 0 rfl
    have z4 := k2.cell 4 rfl
    have hlow := hfil.out.low
    have hgl := hfil.out.blk.lt
    have hw12 := hbx.out.size
    have hw01 := hb10.size
    go_wp2
    go_loopw [32] (fun i wr => ∃ (k : Nat) (E : List (ElD × Nat)), k ≤ p.els.length ∧ i = .int .i64 k ∧ Hid (FilD wr g w1.heap.size em gm dm sv E { p with els := p.els.take k, drop := [] } ByteArray.empty 0) ∧ Hid (Below w1.heap.size w1 wr)) (fun i _ => p.els.length - (intOf i).toNat)
    case atStart => exact ⟨0, [], Nat.zero_le _, rfl, hfil, hbx⟩
    case round =>
      obtain ⟨k, E, hk, rfl, hfr, hbr⟩ := hrel
      have kr := k1.below hbr.out
      have hbwr : Below w.heap.size w wr := hb10.trans (hbr.out.mono hb10.size)
      have hwr := hbr.out.size
      by_cases hlt : k < p.els.length
      · obtain ⟨b, off, u, rfl, hb1, hb2, hu, hcell⟩ := fmE.rd_at (HRL.out _ hbwr) hlt
        have hu' : kdR.rd wr 0 w.heap.size u p.els[k].rules := hu
        clear hu
        have e0 := hcell 0 _ rfl
        have e1 := hcell 1 _ rfl
        rw [show off + (k * fmE.size + 0) = off + k * 2 from rfl] at e0
        rw [show off + (k * fmE.size + 1) = off + k * 2 + 1 from by show off + (k * 2 + 1) = _; omega] at e1
        obtain ⟨A5, c5, rfl, _⟩ := fmR.rd_form hu'
        clear hcell
        have hnone : Hid (lookL p.els[k].name (E.map fun x => (x.1.name, Value.map (some x.2))) = none) := Lib.hid (look_els _ E (by
          have h9 := hfr.out.eq
          simp only at h9
          rw [h9]
          exact nodup_take HDN.out hlt))
        have hEM : Hid (∀ B : Nat, (E ++ [(p.els[k], B)]).map (fun x : ElD × Nat => (x.1.name, Value.map (some x.2))) = (E.map fun x => (x.1.name, Value.map (some x.2))) ++ [(p.els[k].name, Value.map (some B))]) := Lib.hid (fun B => by rw [List.map_append]; rfl)
        have hEE : Hid (∀ B : Nat, (E ++ [(p.els[k], B)]).map (fun x : ElD × Nat => x.1) = p.els.take (k + 1)) := Lib.hid (fun B => by
          have h9 := hfr.out.eq
          simp only at h9
          rw [List.map_append, h9, List.take_succ_eq_append_getElem hlt]; rfl)
        have HRk := Lib.hid (fun W hW => HRE.out W hW k hlt)
        have HRUL : Hid (∀ W lo hi B, RulN W lo hi B p.els[k].rules → ∀ E' : ElD × Nat, E' = (p.els[k], B) → RulN W lo hi E'.2 E'.1.rules) := Lib.hid (fun W lo hi B h E' hE' => by rw [hE']; exact h)
        generalize p.els[k] = R at *
        obtain ⟨rn, rr⟩ := R
        simp only at e0 e1 hu' hnone HRk hEM
        obtain ⟨W0, hW0⟩ : ∃ W, W = wr.alloc (.cells #[.string rn, .slice A5 rr.length c5] 59) := ⟨_, rfl⟩
        have hb0 : Below wr.heap.size wr W0 := hW0 ▸ (Below.refl _ _).alloc (Nat.le_refl _) _
        have k5 : Bl W0 wr.heap.size 59 [.string rn, .slice A5 rr.length c5] := hW0 ▸ Bl.new wr _ _ rfl
        have hX0 := Lib.hid hW0
        clear hW0
        have hf0 := hfr.out.below hb0
        have y0 := hf0.blk.cell 0 rfl
        have x0 := k5.cell 0 rfl
        have x1 := k5.cell 1 rfl
        have hbW0 : Below w.heap.size w W0 := hbwr.trans (hb0.mono hbwr.size)
        have hu9 : kdR.rd W0 0 W0.heap.size (.slice A5 rr.length c5) rr := kdR.wide (kdR.stay hu' fun j _ hj => hb0.block j (by have := hbwr.size; omega)) (Nat.le_refl _) (by have := hbwr.size; have := hb0.size; omega)
        have HR0 := Lib.hid (HRk.out W0.drew hbW0.drew _ hu9)
        have hk0 : (0 : Int) ≤ (k : Int) := by omega
        go_upto_region 8 with fail
        rw [← hX0.out]
        have hfd := hf0.below (drw W0 1)
        have kd5 := k5.below (drw W0 1)
        have d0 := hfd.blk.cell 0 rfl
        have d1 := kd5.cell 0 rfl
        have d2 := kd5.cell 1 rfl
        go_region_held3 (fun W' => W'.cell? ⟨g, 0, none⟩ = some (.map (some em)) ∧ W'.cell? ⟨wr.heap.size, 0, none⟩ = some (.string rn) ∧ W'.cell? ⟨wr.heap.size, 1, none⟩ = some (.slice A5 rr.length c5))
          (first | exact ⟨d0, d1, d2⟩ | exact ⟨p0, p1, p2⟩ | exact ⟨s0, s1, s2⟩)
          (first | (go_at_call 56; refine HR0.out.mono ?_; rintro e w4 ⟨B, rfl, hrB, hb4⟩; have f4 := hfd.below hb4; have k54 := kd5.below hb4; have p0 := f4.blk.cell 0 rfl; have p1 := k54.cell 0 rfl; have p2 := k54.cell 1 rfl; obtain ⟨w5, hrun, m5, hg5⟩ := run_put (P := Tryz.prog) (w := w4) Tryz.underlying72 Tryz.underlying9 f4.emm (s := rn) (v := .map (some B)) hnone.out; have hf5 := Fr.of_grown hg5; have hne5 := hfr.out.ne; have hz4 := hb4.size; have hlt4 := hf0.blk.lt; have heml := hfr.out.emm.lt; have blk5 := f4.blk.of (hf5.block g f4.blk.lt (by simp; omega)); have k55 := k54.of (hf5.block wr.heap.size k54.lt (by simp; omega)); have s0 := blk5.cell 0 rfl; have s1 := k55.cell 0 rfl; have s2 := k55.cell 1 rfl))
        all_goals (
          have m5' := (hEM.out B).symm ▸ m5
          have hdz : W0.drew.heap.size = W0.heap.size := rfl
          have hz0 := hb0.size
          have hz5 := hf5.size
          have hdml := hfr.out.dmm.lt
          have hb5 : Below w1.heap.size w1 w5 := (((hbr.out.trans (hb0.mono hwr)).trans ((drw W0 1).mono (by omega))).trans (hb4.mono (by omega))).trans (hf5.below (by omega) (by simp; omega))
          have hnew : Hid (FilD w5 g w1.heap.size em gm dm sv (E ++ [(⟨rn, rr⟩, B)]) { p with els := p.els.take (k + 1), drop := [] } ByteArray.empty 0) := Lib.hid (f4.move (W' := w5) hf5.size (fun j h1 h2 h3 h4 h5 => hf5.block j h2 (by simp; exact h4)) blk5 m5' (hEE.out B) (fun x hx => by
            rcases List.mem_append.1 hx with hx | hx
            · exact .inl hx
            · refine .inr ⟨W0.drew.heap.size, w4.heap.size, ⟨by omega, by omega, .inl (by omega), .inl (by omega), .inl (by omega)⟩, ?_⟩
              have hx2 := List.mem_singleton.1 hx
              exact (HRUL.out _ _ _ _ hrB _ hx2).stay fun j h1 h2 => hf5.block j (by omega) (by simp; omega)) (MapS.stay f4.dmm (hf5.block dm (by omega) (by simp; omega))))
          go_wp2
          go_roundw
          case rel => exact ⟨k + 1, E ++ [(⟨rn, rr⟩, B)], by omega, by go_num, hnew, Lib.hid hb5⟩
          case measure => simp [intOf] <;> omega)
      · obtain rfl : k = p.els.length := by omega
        have z4 := kr.cell 4 rfl
        have hbz := hbr.out.size
        obtain ⟨w3, rfl⟩ : ∃ W, W = wr := ⟨_, rfl⟩
        go_wp2
        go_loopw [49] (fun i wr => ∃ (j : Nat), j ≤ p.drop.length ∧ i = .int .i64 j ∧ Hid (FilD wr g w1.heap.size em gm dm sv E { p with els := p.els.take p.els.length, drop := p.drop.take j } ByteArray.empty 0) ∧ Hid (Below w1.heap.size w1 wr)) (fun i _ => p.drop.length - (intOf i).toNat)
        case atStart => exact ⟨0, Nat.zero_le _, rfl, hfr, hbr⟩
        case round =>
          obtain ⟨j, hj, rfl, hfj, hbj⟩ := hrel
          have hbwj : Below w.heap.size w wr := hb10.trans (hbj.out.mono hb10.size)
          by_cases hlj : j < p.drop.length
          · obtain ⟨b, off, rfl, _, _, e0⟩ := rdW_at (HRD.out _ hbwj) hlj
            have hnone : Hid (lookL p.drop[j] ((p.drop.take j).map fun s => (s, Value.bool true)) = none) := Lib.hid (look_drop _ _ (nodup_drop HDD.out hlj))
            have hDM : Hid ((p.drop.take (j + 1)).map (fun s => (s, Value.bool true)) = ((p.drop.take j).map fun s => (s, Value.bool true)) ++ [(p.drop[j], Value.bool true)]) := Lib.hid (by rw [List.take_succ_eq_append_getElem hlj, List.map_append]; rfl)
            have y2 := hfj.out.blk.cell 2 rfl
            have hdm9 := hfj.out.dmm
            simp only at hdm9
            obtain ⟨w5, hrun, m5, hg5⟩ := run_put (P := Tryz.prog) (w := wr) Tryz.underlying74 Tryz.underlying9 hdm9 (s := p.drop[j]) (v := .bool true) hnone.out
            rw [← hDM.out] at m5
            have hf5 := Fr.of_grown hg5
            have hz5 := hf5.size
            have hne5 := hfj.out.ne
            have hgl5 := hfj.out.blk.lt
            have heml := hfj.out.emm.lt
            have hlw5 := hfj.out.low
            have hwj := hbj.out.size
            have hb5 : Below w1.heap.size w1 w5 := hbj.out.trans (hf5.below hwj (by simp; omega))
            have hnew : Hid (FilD w5 g w1.heap.size em gm dm sv E { p with els := p.els.take p.els.length, drop := p.drop.take (j + 1) } ByteArray.empty 0) := Lib.hid (hfj.out.move (W' := w5) hf5.size (fun i h1 h2 h3 h4 h5 => hf5.block i h2 (by simp; exact h5)) (hfj.out.blk.of (hf5.block g hgl5 (by simp; omega))) (MapS.stay hfj.out.emm (hf5.block em heml (by simp; omega))) hfj.out.eq (fun x hx => .inl hx) m5)
            generalize p.drop[j] = dn at *
            have hj0 : (0 : Int) ≤ (j : Int) := by omega
            clear hlw5 hwj heml hgl5 hne5 hz5
            go_wp2
            go_roundw
            case rel => exact ⟨j + 1, by omega, by go_num, hnew, Lib.hid hb5⟩
            case measure => simp [intOf] <;> omega
          · obtain rfl : j = p.drop.length := by omega
            go_wp2
            go_ret2
            exact ⟨g, rfl, ⟨em, gm, dm, sv, E, by have h9 := hfj.out; rw [← HEQ.out] at h9; exact h9.low' hb10.size⟩, hbwj⟩
end Go.Proofs.YtejpdbiiikcmmaaGreatDoor.Fi
