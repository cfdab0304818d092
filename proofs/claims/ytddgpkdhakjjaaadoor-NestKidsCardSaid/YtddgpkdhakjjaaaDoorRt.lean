/- nest: slices.Clone, the plan of a work, still, Right, Open, May. -/
import Derived.Deep.RegionLaw
import Derived.Test.YtddgpkdhakjjaaaDoorShelf
import Derived.Test.YtddgpkdhakjjaaaDoorAsk
set_option linter.unusedVariables false
set_option linter.unusedSimpArgs false
namespace Go.Proofs.YtddgpkdhakjjaaaDoor.Rt
open Go.RowKit Lb Fl Is Tp Np Wk Wp Wi Wo Oc Go.Proofs.YtddgpkdhakjjaaaDoor.Ask

theorem rd_take {w : World} {A : Option Addr} {n : Nat} {l : List ByteArray} (h : Rd w A n l) {k : Nat} (hk : k ≤ n) : Rd w A k (l.take k) := ((RdB.of h).take hk).rd (Nat.le_refl _)

/-- slices.Clone: the same texts, in memory of the call's own -/
theorem cloneC {A : Option Addr} {n c : Nat} {l : List ByteArray} (w : World) (hr : Rd w A n l) (hn : n ≤ 8796093022208) :
    Calls Tryd.prog 47 #[.slice A n c] w fun e w' => ∃ A' c', e = .returned (.slice A' n c') ∧ Fl.Own w' w.heap.size (.slice A' n c') l ∧ Below w.heap.size w w' := by
  have hl := hr.1
  rcases Nat.eq_zero_or_pos n with h0 | h0
  · have hnil : l = [] := List.eq_nil_of_length_eq_zero (by omega)
    subst hnil h0
    cases A with
    | none =>
      refine (Tryd.slices_Clone_string_nil 0 c w).mono ?_
      rintro e w' ⟨rfl, rfl⟩
      exact ⟨none, 0, rfl, Fl.Own.nil _ _, Below.refl _ _⟩
    | some a =>
      refine (Tryd.slices_Clone_string_zero a c w).mono ?_
      rintro e w' ⟨v, rfl, h, _, hb⟩
      have h' : Fl.Own w' w.heap.size v [] := h
      obtain ⟨A', c', rfl⟩ := h'.form
      exact ⟨A', c', rfl, h', hb⟩
  · obtain ⟨b, off, rfl, _, _⟩ := hr.2 0 (by omega)
    refine (Tryd.slices_Clone_string b off n c l w (by omega) (by omega) ?_).mono ?_
    · intro j hj
      obtain ⟨b2, off2, e, _, hc⟩ := hr.2 j hj
      injection e with e
      injection e with e1 e2
      subst e1 e2
      rw [hc w (Below.refl _ _), List.getD_eq_getElem?_getD, List.getElem?_eq_getElem hj, Option.getD_some]
    · rintro e w' ⟨v, rfl, h, _, hb⟩
      have h' : Fl.Own w' w.heap.size v l := by
        unfold Fl.Own
        rw [List.take_of_length_le (by omega)] at h
        rw [← hl]
        exact h
      obtain ⟨A', c', rfl⟩ := h'.form
      rw [← hl] at h'
      exact ⟨A', c', by rw [hl], h', hb⟩

def stillB (s : List ByteArray) (y : ByteArray) : Bool := ((askS y s).length : Int) == (s.length : Int) && ((askP y s).length : Int) == 0
set_option maxHeartbeats 1600000 in
set_option maxRecDepth 100000 in
theorem stillC (w : World) (ht : Tab w) (A : Option Addr) (n c : Nat) (s : List ByteArray) (y : ByteArray) (hr : Rd w A n s) (hc : n ≤ c) (hc2 : c ≤ 9223372036854775807) :
    Calls Tryd.prog 39 #[.slice A n c, .string y] w fun e w' => e = .returned (.bool (stillB s y)) ∧ Below w.heap.size w w' := by
  have hA := askC w ht A n c s y hr hc hc2
  unfold stillB
  have hl : s.length = n := hr.1.symm
  rw [hl]
  generalize askS y s = s2 at *
  generalize askP y s = p2 at *
  have HA := Lib.hid hA
  clear hA ht hr
  cases h1 : ((s2.length : Int) == (n : Int)) <;> cases h2 : ((p2.length : Int) == 0)
  all_goals
    go_enter Tryd.func39, Tryd.ntmps39
    go_wp2_with (go_at_call 43; refine HA.out.mono ?_; rintro e w1 ⟨rfl, ⟨r, A1, n1, c1, pv, hw, hc1, hc3, ⟨rfl, _⟩, ho, _, _⟩, hb⟩; obtain ⟨A2, c2, rfl⟩ := ho.form; have e0 := hw.c0; have e1 := hw.c1)
    go_ret
    exact ⟨rb (by first | rfl | simp), hb⟩

theorem own_mono {w : World} {B B' : Nat} {v : Value} {l : List ByteArray} (h : Fl.Own w B v l) (hB : B' ≤ B) : Fl.Own w B' v l := by
  refine ⟨h.1, ?_⟩
  rcases h.2 with h1 | ⟨g, cap, cur, h1, h2, h3⟩
  · exact .inl h1
  · exact .inr ⟨g, cap, cur, h1, Nat.le_trans hB h2, h3⟩
/-- block b is a plan with these -/
def Pl (w : World) (b : Nat) (u v x : Value) : Prop := w.heap[b]? = some (.cells #[u, v, x] 33 (0, 0))
theorem Pl.lt {w : World} {b : Nat} {u v x : Value} (h : Pl w b u v x) : b < w.heap.size := (Array.getElem?_eq_some_iff.1 h).1
theorem Pl.c0 {w : World} {b : Nat} {u v x : Value} (h : Pl w b u v x) : w.cell? ⟨b, 0, none⟩ = some u := by simp [World.cell?, show w.heap[b]? = _ from h]
theorem Pl.c1 {w : World} {b : Nat} {u v x : Value} (h : Pl w b u v x) : w.cell? ⟨b, 1, none⟩ = some v := by simp [World.cell?, show w.heap[b]? = _ from h]
theorem Pl.c2 {w : World} {b : Nat} {u v x : Value} (h : Pl w b u v x) : w.cell? ⟨b, 2, none⟩ = some x := by simp [World.cell?, show w.heap[b]? = _ from h]
theorem Pl.fz {w : World} {b : Nat} {u v x : Value} (h : Pl w b u v x) (j : Nat) : w.frozen? ⟨b, j, none⟩ = false := by simp [World.frozen?, show w.heap[b]? = _ from h]
theorem Pl.set0 {w : World} {b : Nat} {u v x : Value} (h : Pl w b u v x) (z : Value) : Pl (w.setCell ⟨b, 0, none⟩ z) b z v x := by
  unfold Pl at h ⊢
  simp [World.setCell, Array.getElem?_modify, h]
theorem Pl.set1 {w : World} {b : Nat} {u v x : Value} (h : Pl w b u v x) (z : Value) : Pl (w.setCell ⟨b, 1, none⟩ z) b u z x := by
  unfold Pl at h ⊢
  simp [World.setCell, Array.getElem?_modify, h]
theorem Pl.set2 {w : World} {b : Nat} {u v x : Value} (h : Pl w b u v x) (z : Value) : Pl (w.setCell ⟨b, 2, none⟩ z) b u v z := by
  unfold Pl at h ⊢
  simp [World.setCell, Array.getElem?_modify, h]
theorem Pl.below {w w' : World} {b : Nat} {u v x : Value} (h : Pl w b u v x) (hb : Below w.heap.size w w') : Pl w' b u v x := (hb.block b h.lt).trans h
theorem Pl.other {w : World} {b : Nat} {u v x : Value} (h : Pl w b u v x) {p : Addr} (hp : b ≠ p.block) (z : Value) : Pl (w.setCell p z) b u v x := (Below.heap_setCell w p z b hp).trans h
theorem Pl.new (w : World) (u v x : Value) (b : Nat) (h : w.heap.size = b) : Pl (w.alloc (.cells #[u, v, x] 33)) b u v x := by
  subst h
  exact (MapKept.heap_alloc w _).1

set_option maxHeartbeats 1600000 in
set_option maxRecDepth 100000 in
theorem planC (w : World) (B g : Nat) (r : Option Nat) (s p : List ByteArray) (A0 : Option Addr) (n0 c0 : Nat) (hB : B ≤ w.heap.size) (h : St w B g r s p) (hp : p.length ≤ 1000) (hn : n0 ≤ 9223372036854775807) :
    Calls Tryd.prog 44 #[.pointer (some ⟨g, 0, none⟩), .slice A0 n0 c0] w fun e w' => ∃ A c, e = .returned (.agg #[.int .i64 ((n0 : Int) - (s.length : Int)), .slice A p.length c, .bool false]) ∧ Fl.Own w' w.heap.size (.slice A p.length c) p ∧ Below w.heap.size w w' := by
  obtain ⟨A, n, c, pv, hw, hc, hc2, ⟨rfl, hr⟩, ho, hg, hrow⟩ := h
  obtain ⟨A2, c2, rfl⟩ := ho.form
  have hs2 : s.length ≤ 9223372036854775807 := by omega
  have hrd := ho.rd
  have hb0 : Below w.heap.size w (w.alloc (.cells #[.int .i64 0, .slice none 0 0, .bool false] 33)).drew := seq ((Below.refl _ _).alloc (Nat.le_refl _) _) (drw _)
  have hp0 : Pl (w.alloc (.cells #[.int .i64 0, .slice none 0 0, .bool false] 33)).drew w.heap.size (.int .i64 0) (.slice none 0 0) (.bool false) := (Pl.new w _ _ _ _ rfl).below (drw _)
  have e0 := (hw.below hb0).c0
  have e1 := (hw.below hb0).c1
  have hne : g ≠ w.heap.size := by have := hw.lt; omega
  have hwr : IntKind.i64.wrap ((n0 : Int) - (s.length : Int)) = (n0 : Int) - (s.length : Int) := by rw [IntKind.wrap_i64]; omega
  have HW := Lib.hid (hw.below hb0)
  have HR := Lib.hid (hrd.below hb0)
  have HB0 := Lib.hid hb0
  have HP := Lib.hid hp0
  have FIN : ∀ w1 w2 A3 c3, Below (w.alloc (.cells #[.int .i64 0, .slice none 0 0, .bool false] 33)).drew.heap.size (w.alloc (.cells #[.int .i64 0, .slice none 0 0, .bool false] 33)).drew w1 →
      Fl.Own w1 (w.alloc (.cells #[.int .i64 0, .slice none 0 0, .bool false] 33)).drew.heap.size (.slice A3 p.length c3) p → w2 = ((w1.setCell ⟨w.heap.size, 0, none⟩ (.int .i64 ((n0 : Int) - (s.length : Int)))).setCell ⟨w.heap.size, 1, none⟩ (.slice A3 p.length c3)).setCell ⟨w.heap.size, 2, none⟩ (.bool false) →
      Fl.Own w2 w.heap.size (.slice A3 p.length c3) p ∧ Below w.heap.size w w2 := by
    rintro w1 w2 A3 c3 h1 h2 rfl
    have h3 := seq hb0 h1
    have hap : (Value.slice A3 p.length c3).ownBlock ≠ some w.heap.size := by
      intro e
      have := h2.ge _ e
      have h4 : (w.alloc (.cells #[.int .i64 0, .slice none 0 0, .bool false] 33)).drew.heap.size = w.heap.size + 1 := by show (w.alloc _).heap.size = _; simp
      omega
    refine ⟨((((own_mono h2 hb0.size).other' hap).other' hap).other' hap), ((h3.setCell (p := ⟨w.heap.size, 0, none⟩) (Nat.le_refl _) _).setCell (p := ⟨w.heap.size, 1, none⟩) (Nat.le_refl _) _).setCell (p := ⟨w.heap.size, 2, none⟩) (Nat.le_refl _) _⟩
  have HF := Lib.hid FIN
  clear hr ho hw hrow hrd hb0 hp0 FIN
  go_enter Tryd.func44, Tryd.ntmps44
  go_wp2_with fail
  go_region_law (first
    | ((go_simp; refine (cloneC _ HR.out (by omega)).mono ?_; rintro e w1 ⟨A3, c3, rfl, ho3, hb3⟩; have f0 := (HW.out.below hb3).c0; have f1 := (HW.out.below hb3).c1; have P0 := HP.out.below hb3; have P1 := P0.set0 (.int .i64 ((n0 : Int) - (s.length : Int))); have P2 := P1.set1 (.slice A3 p.length c3); have P3 := P2.set2 (.bool false); have a0 := P0.c0; have b0 := P0.fz 0; have a1 := P1.c1; have b1 := P1.fz 1; have a2 := P2.c2; have b2 := P2.fz 2; have d0 := P3.c0; have d1 := P3.c1; have d2 := P3.c2; have hfin := Lib.hid (HF.out _ _ _ _ hb3 ho3 rfl))))
  all_goals (
    go_wp2
    refine bodyPost_ret (v := .agg #[.int .i64 ((n0 : Int) - (s.length : Int)), .slice A3 p.length c3, .bool false]) (by simp [results, Tryd.results44, go_sem, d0, d1, d2]) rfl ?_
    exact ⟨_, _, rfl, hfin.out⟩)

def okY (s : List ByteArray) (y : ByteArray) : Bool := inS y 15 && !inS y 0 && stillB s y
def rightB (s : List ByteArray) : Bool := (List.range s.length).all fun i => okY (s.take i) (s.getD i ⟨#[]⟩)
theorem right_all {s : List ByteArray} (h : ∀ j (hj : j < s.length), okY (s.take j) s[j] = true) : rightB s = true := by
  unfold rightB
  rw [List.all_eq_true]
  intro j hj
  rw [List.mem_range] at hj
  rw [List.getD_eq_getElem?_getD, List.getElem?_eq_getElem hj, Option.getD_some]
  exact h j hj
theorem right_at {s : List ByteArray} (h : rightB s = true) (j : Nat) (hj : j < s.length) : okY (s.take j) s[j] = true := by
  unfold rightB at h
  rw [List.all_eq_true] at h
  have := h j (List.mem_range.2 hj)
  rwa [List.getD_eq_getElem?_getD, List.getElem?_eq_getElem hj, Option.getD_some] at this
theorem right_bad {s : List ByteArray} (j : Nat) (hj : j < s.length) (h : okY (s.take j) s[j] = false) : rightB s = false := by
  rw [Bool.eq_false_iff]
  intro hc
  rw [right_at hc j hj] at h
  cases h

set_option maxHeartbeats 4000000 in
set_option maxRecDepth 100000 in
theorem rightC (w : World) (ht : Tab w) (A : Option Addr) (n c : Nat) (s : List ByteArray) (hr : Rd w A n s) (hc : n ≤ c) (hc2 : c ≤ 9223372036854775807) :
    Calls Tryd.prog 15 #[.slice A n c] w fun e w' => e = .returned (.bool (rightB s)) ∧ Below w.heap.size w w' := by
  have HT := Lib.hid (fun w1 (hb : Below w.heap.size w w1) => ht.below hb)
  have HR := Lib.hid hr
  have HL := Lib.hid hr.1
  clear hr ht
  go_enter Tryd.func15, Tryd.ntmps15
  go_wp2
  go_loopw [7] (fun i wr => ∃ k : Nat, k ≤ n ∧ i = .int .i64 k ∧ Below w.heap.size w wr ∧ Hid (∀ j (h : j < s.length), j < k → okY (s.take j) s[j] = true)) (fun i _ => n - (intOf i).toNat)
  case atStart => exact ⟨0, by omega, rfl, Below.refl _ _, Lib.hid (fun j _ hj => by omega)⟩
  case round =>
    obtain ⟨k, hk, rfl, hnx, hall⟩ := hrel
    by_cases hlt : k < n
    · have hks : k < s.length := by rw [← HL.out]; exact hlt
      obtain ⟨b1, o1, rfl, _, hc1⟩ := HR.out.get hks
      have hx1 := hc1 wr hnx
      obtain ⟨x, hx⟩ : ∃ x, x = s[k] := ⟨_, rfl⟩
      rw [← hx] at hx1
      have HX := Lib.hid hx
      clear hx hc1
      have hb1 : (k : Int) < (n : Int) := by omega
      have hb0 : (0 : Int) ≤ (k : Int) := by omega
      have hkc : k ≤ c := by omega
      have hnl : Hid (∀ b, okY (s.take k) x = b → okY (s.take k) s[k] = b) := Lib.hid (by rw [← HX.out]; exact fun _ h => h)
      cases h1 : inS x 15
      · have hfin := Lib.hid (right_bad k hks (hnl.out _ (by unfold okY; rw [h1]; rfl)))
        go_wp2_with (first
          | (go_at_call 17; refine (nIn _ _ _ (HT.out _ hnx)).mono ?_; rintro e w2 ⟨rfl, hb2⟩; have hnx := seq hnx hb2; first | rw [h1] | rw [h2]))
        go_ret
        exact ⟨rb hfin.out, hnx⟩
      · cases h2 : inS x 0
        · cases h3 : stillB (s.take k) x
          · have hfin := Lib.hid (right_bad k hks (hnl.out _ (by unfold okY; rw [h1, h2, h3]; rfl)))
            go_wp2_with (first
              | (go_at_call 17; refine (nIn _ _ _ (HT.out _ hnx)).mono ?_; rintro e w2 ⟨rfl, hb2⟩; have hnx := seq hnx hb2; first | rw [h1] | rw [h2])
              | (go_at_call 39; refine (stillC _ (HT.out _ hnx) _ k c (s.take k) x (rd_take (HR.out.below hnx) hk) hkc hc2).mono ?_; rintro e w4 ⟨rfl, hb4⟩; rw [h3]; have hnx := seq hnx hb4))
            go_ret
            exact ⟨rb hfin.out, hnx⟩
          · have hall2 : Hid (∀ j (h : j < s.length), j < k + 1 → okY (s.take j) s[j] = true) := Lib.hid (fun j hj hjk => by
              by_cases ex : j = k
              · subst ex; exact hnl.out _ (by unfold okY; rw [h1, h2, h3]; rfl)
              · exact hall.out j hj (by omega))
            go_wp2_with (first
              | (go_at_call 17; refine (nIn _ _ _ (HT.out _ hnx)).mono ?_; rintro e w2 ⟨rfl, hb2⟩; have hnx := seq hnx hb2; first | rw [h1] | rw [h2])
              | (go_at_call 39; refine (stillC _ (HT.out _ hnx) _ k c (s.take k) x (rd_take (HR.out.below hnx) hk) hkc hc2).mono ?_; rintro e w4 ⟨rfl, hb4⟩; rw [h3]; have hnx := seq hnx hb4))
            go_roundw
            case rel => exact ⟨k + 1, by omega, by go_num, hnx, hall2⟩
            case measure => simp [intOf] <;> omega
        · have hfin := Lib.hid (right_bad k hks (hnl.out _ (by unfold okY; rw [h1, h2]; rfl)))
          go_wp2_with (first
            | (go_at_call 17; refine (nIn _ _ _ (HT.out _ hnx)).mono ?_; rintro e w2 ⟨rfl, hb2⟩; have hnx := seq hnx hb2; first | rw [h1] | rw [h2]))
          go_ret
          exact ⟨rb hfin.out, hnx⟩
    · have hfin := Lib.hid (right_all (s := s) (fun j hj => hall.out j hj (by have := HL.out; omega)))
      go_wp2
      go_ret
      exact ⟨rb hfin.out, hnx⟩
end Go.Proofs.YtddgpkdhakjjaaaDoor.Rt
