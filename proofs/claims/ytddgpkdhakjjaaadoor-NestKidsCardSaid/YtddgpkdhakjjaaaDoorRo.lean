/- The reference's Allowed, Right, Open. -/
import Derived.Test.YtddgpkdhakjjaaaDoorEq
set_option linter.unusedVariables false
set_option linter.unusedSimpArgs false
namespace Go.Proofs.YtddgpkdhakjjaaaDoor.Ro
open Go.Proofs.YtddgpkdhakjjaaaDoor.Np hiding is_li is_dt is_dd is_textarea is_a
open Go.RowKit Lb Fl Is Tp Wk Wp Wi Wo Pt Oc Pm Go.Proofs.YtddgpkdhakjjaaaDoor.Ask Rt Go.Proofs.YtddgpkdhakjjaaaDoor.Op Aw Lt En El Rn Ri Rj Rp Rq Go.Proofs.YtddgpkdhakjjaaaDoor.Eq

theorem allowC (y : ByteArray) (w : World) : Calls Tryd.prog 22 #[.string y] w fun e w' => e = .returned (.bool (inS y 15)) ∧ Below w.heap.size w w' := by
  go_enter Tryd.func22, Tryd.ntmps22
  go_wp2_with (go_at_call 45; refine (rIn _ _ _).mono ?_; rintro e w' ⟨rfl, hb⟩)
  go_ret
  exact ⟨rfl, hb⟩

set_option maxHeartbeats 16000000 in
set_option maxRecDepth 100000 in
theorem rRightC (w : World) (A : Option Addr) (n c : Nat) (s : List ByteArray) (hr : Rd w A n s) (hc : n ≤ c) (hc2 : c ≤ 9223372036854775807) :
    Calls Tryd.prog 21 #[.slice A n c] w fun e w' => e = .returned (.bool (rightR s)) ∧ Below w.heap.size w w' := by
  have HR := Lib.hid hr
  have HL := Lib.hid hr.1
  clear hr
  have hnb : n ≤ 9223372036854775807 := by omega
  go_enter Tryd.func21, Tryd.ntmps21
  go_wp2
  go_loopw [9] (fun i wr => ∃ k : Nat, k ≤ n ∧ i = .int .i64 k ∧ Below w.heap.size w wr ∧ Hid (∀ j (h : j < s.length), j < k → okR s.length j (s.take j) s[j] = true)) (fun i _ => n - (intOf i).toNat)
  case atStart => exact ⟨0, by omega, rfl, Below.refl _ _, Lib.hid (fun j _ hj => absurd hj (Nat.not_lt_zero _))⟩
  case round =>
    obtain ⟨k, hk, rfl, hnx, hall⟩ := hrel
    by_cases hlt : k < n
    · have hks : k < s.length := by rw [← HL.out]; exact hlt
      obtain ⟨b1, o1, rfl, _, hc1⟩ := HR.out.get hks
      have hx1 := hc1 wr hnx
      obtain ⟨x, hx⟩ : ∃ x, x = s[k] := ⟨_, rfl⟩
      rw [← hx] at hx1
      have HX := Lib.hid hx
      have hnl : Hid (∀ b, okR n k (s.take k) x = b → okR s.length k (s.take k) s[k] = b) := Lib.hid (by rw [← HX.out, ← HL.out]; exact fun _ h => h)
      have HA : Hid (∀ W, Below w.heap.size w W → Calls Tryd.prog 46 #[.slice (some ⟨b1, o1, none⟩) k c, .string x] W (Two W.heap.size (some ⟨b1, o1, none⟩) c (rS x (s.take k)) (rP x (s.take k)) W)) :=
        Lib.hid fun W h => asksC W _ k c (s.take k) x (rd_take (HR.out.below h) hk) (by omega) hc2
      obtain ⟨L, hL⟩ : ∃ L, (rS x (s.take k)).length = L := ⟨_, rfl⟩
      obtain ⟨M, hM⟩ : ∃ M, (rP x (s.take k)).length = M := ⟨_, rfl⟩
      unfold Two at HA
      rw [hL, hM] at HA
      have HL5 := Lib.hid hL
      have HM6 := Lib.hid hM
      clear hx hc1 hL hM
      have hb1 : (k : Int) < (n : Int) := by omega
      have hb0 : (0 : Int) ≤ (k : Int) := by omega
      have hkc : k ≤ c := by omega
      have hwr : IntKind.i64.wrap ((n : Int) - 1) = (n : Int) - 1 := by rw [IntKind.wrap_i64]; omega
      cases h1 : inS x 15
      · 
        have hfin := Lib.hid (rightR_bad k hks (hnl.out _ (by unfold okR is_textarea; rw [h1]; rfl)))
        go_wp2_with (first
                | (go_at_call 22; refine (allowC _ _).mono ?_; rintro e w2 ⟨rfl, hb2⟩; rw [h1]; have hnx := seq hnx hb2))
        go_ret
        exact ⟨rb hfin.out, hnx⟩
      · cases h2 : inS x 0
        · cases h3 : (x.toList == [116, 101, 120, 116, 97, 114, 101, 97])
          · 
            by_cases h5 : L < k
            · have h5' : (L : Int) < (k : Int) := by omega
              have hfin := Lib.hid (rightR_bad k hks (hnl.out _ (by unfold okR is_textarea; rw [h1, h2, h3]; have : decide (k ≤ (rS x (s.take k)).length) = false := (by rw [HL5.out]; simp; omega); rw [this]; simp)))
              go_wp2_with (first
                | (go_at_call 22; refine (allowC _ _).mono ?_; rintro e w2 ⟨rfl, hb2⟩; rw [h1]; have hnx := seq hnx hb2)
                | (go_at_call 45; refine (rIn _ _ _).mono ?_; rintro e w3 ⟨rfl, hb3⟩; rw [h2]; have hnx := seq hnx hb3)
                | (go_at_call 46; refine (HA.out _ hnx).mono ?_; rintro e w4 ⟨A4, c4, rfl, ⟨hr4, hfr4⟩, hb4⟩; have hnx := seq hnx hb4))
              go_ret
              exact ⟨rb hfin.out, hnx⟩
            · have h5' : ¬ (L : Int) < (k : Int) := by omega
              by_cases h6 : 0 < M
              · have h6' : (0 : Int) < (M : Int) := by omega
                have hfin := Lib.hid (rightR_bad k hks (hnl.out _ (by unfold okR is_textarea; rw [h1, h2, h3]; have : decide ((rP x (s.take k)).length = 0) = false := (by rw [HM6.out]; simp; omega); rw [this]; simp)))
                go_wp2_with (first
                | (go_at_call 22; refine (allowC _ _).mono ?_; rintro e w2 ⟨rfl, hb2⟩; rw [h1]; have hnx := seq hnx hb2)
                | (go_at_call 45; refine (rIn _ _ _).mono ?_; rintro e w3 ⟨rfl, hb3⟩; rw [h2]; have hnx := seq hnx hb3)
                | (go_at_call 46; refine (HA.out _ hnx).mono ?_; rintro e w4 ⟨A4, c4, rfl, ⟨hr4, hfr4⟩, hb4⟩; have hnx := seq hnx hb4))
                go_ret
                exact ⟨rb hfin.out, hnx⟩
              · have h6' : ¬ (0 : Int) < (M : Int) := by omega
                have hok := hnl.out true (by unfold okR is_textarea; rw [h1, h2, h3]; rw [HL5.out, HM6.out]; simp; omega)
                have hall2 : Hid (∀ j (hj : j < s.length), j < k + 1 → okR s.length j (s.take j) s[j] = true) := Lib.hid (fun j hj hjk => by
                  by_cases ex : j = k
                  · subst ex; exact hok
                  · exact hall.out j hj (by omega))
                clear hok
                go_wp2_with (first
                | (go_at_call 22; refine (allowC _ _).mono ?_; rintro e w2 ⟨rfl, hb2⟩; rw [h1]; have hnx := seq hnx hb2)
                | (go_at_call 45; refine (rIn _ _ _).mono ?_; rintro e w3 ⟨rfl, hb3⟩; rw [h2]; have hnx := seq hnx hb3)
                | (go_at_call 46; refine (HA.out _ hnx).mono ?_; rintro e w4 ⟨A4, c4, rfl, ⟨hr4, hfr4⟩, hb4⟩; have hnx := seq hnx hb4))
                go_roundw
                case rel => exact ⟨k + 1, by omega, by go_num, hnx, hall2⟩
                case measure => simp [intOf] <;> omega
          · by_cases h4 : k + 1 < n
            · have h4' : (k : Int) < (n : Int) - 1 := by omega
              have hfin := Lib.hid (rightR_bad k hks (hnl.out _ (by unfold okR is_textarea; rw [h1, h2, h3]; simp [h4])))
              go_wp2_with (first
                | (go_at_call 22; refine (allowC _ _).mono ?_; rintro e w2 ⟨rfl, hb2⟩; rw [h1]; have hnx := seq hnx hb2)
                | (go_at_call 45; refine (rIn _ _ _).mono ?_; rintro e w3 ⟨rfl, hb3⟩; rw [h2]; have hnx := seq hnx hb3))
              go_ret
              exact ⟨rb hfin.out, hnx⟩
            · have h4' : ¬ (k : Int) < (n : Int) - 1 := by omega
              by_cases h5 : L < k
              · have h5' : (L : Int) < (k : Int) := by omega
                have hfin := Lib.hid (rightR_bad k hks (hnl.out _ (by unfold okR is_textarea; rw [h1, h2, h3, decide_eq_false h4]; have : decide (k ≤ (rS x (s.take k)).length) = false := (by rw [HL5.out]; simp; omega); rw [this]; simp)))
                go_wp2_with (first
                | (go_at_call 22; refine (allowC _ _).mono ?_; rintro e w2 ⟨rfl, hb2⟩; rw [h1]; have hnx := seq hnx hb2)
                | (go_at_call 45; refine (rIn _ _ _).mono ?_; rintro e w3 ⟨rfl, hb3⟩; rw [h2]; have hnx := seq hnx hb3)
                | (go_at_call 46; refine (HA.out _ hnx).mono ?_; rintro e w4 ⟨A4, c4, rfl, ⟨hr4, hfr4⟩, hb4⟩; have hnx := seq hnx hb4))
                go_ret
                exact ⟨rb hfin.out, hnx⟩
              · have h5' : ¬ (L : Int) < (k : Int) := by omega
                by_cases h6 : 0 < M
                · have h6' : (0 : Int) < (M : Int) := by omega
                  have hfin := Lib.hid (rightR_bad k hks (hnl.out _ (by unfold okR is_textarea; rw [h1, h2, h3, decide_eq_false h4]; have : decide ((rP x (s.take k)).length = 0) = false := (by rw [HM6.out]; simp; omega); rw [this]; simp)))
                  go_wp2_with (first
                | (go_at_call 22; refine (allowC _ _).mono ?_; rintro e w2 ⟨rfl, hb2⟩; rw [h1]; have hnx := seq hnx hb2)
                | (go_at_call 45; refine (rIn _ _ _).mono ?_; rintro e w3 ⟨rfl, hb3⟩; rw [h2]; have hnx := seq hnx hb3)
                | (go_at_call 46; refine (HA.out _ hnx).mono ?_; rintro e w4 ⟨A4, c4, rfl, ⟨hr4, hfr4⟩, hb4⟩; have hnx := seq hnx hb4))
                  go_ret
                  exact ⟨rb hfin.out, hnx⟩
                · have h6' : ¬ (0 : Int) < (M : Int) := by omega
                  have hok := hnl.out true (by unfold okR is_textarea; rw [h1, h2, h3, decide_eq_false h4]; rw [HL5.out, HM6.out]; simp; omega)
                  have hall2 : Hid (∀ j (hj : j < s.length), j < k + 1 → okR s.length j (s.take j) s[j] = true) := Lib.hid (fun j hj hjk => by
                    by_cases ex : j = k
                    · subst ex; exact hok
                    · exact hall.out j hj (by omega))
                  clear hok
                  go_wp2_with (first
                | (go_at_call 22; refine (allowC _ _).mono ?_; rintro e w2 ⟨rfl, hb2⟩; rw [h1]; have hnx := seq hnx hb2)
                | (go_at_call 45; refine (rIn _ _ _).mono ?_; rintro e w3 ⟨rfl, hb3⟩; rw [h2]; have hnx := seq hnx hb3)
                | (go_at_call 46; refine (HA.out _ hnx).mono ?_; rintro e w4 ⟨A4, c4, rfl, ⟨hr4, hfr4⟩, hb4⟩; have hnx := seq hnx hb4))
                  go_roundw
                  case rel => exact ⟨k + 1, by omega, by go_num, hnx, hall2⟩
                  case measure => simp [intOf] <;> omega
        · 
          have hfin := Lib.hid (rightR_bad k hks (hnl.out _ (by unfold okR is_textarea; rw [h1, h2]; rfl)))
          go_wp2_with (first
                | (go_at_call 22; refine (allowC _ _).mono ?_; rintro e w2 ⟨rfl, hb2⟩; rw [h1]; have hnx := seq hnx hb2)
                | (go_at_call 45; refine (rIn _ _ _).mono ?_; rintro e w3 ⟨rfl, hb3⟩; rw [h2]; have hnx := seq hnx hb3))
          go_ret
          exact ⟨rb hfin.out, hnx⟩
    · have hfin := Lib.hid (rightR_all (s := s) (fun j hj => hall.out j hj (by have := HL.out; omega)))
      go_wp2
      go_ret
      exact ⟨rb hfin.out, hnx⟩

theorem rd_keep {W W' : World} {A : Option Addr} {n : Nat} {l : List ByteArray} (h : Rd W A n l) (b : Nat) (hb : ∀ off z, W.cell? ⟨b, off, none⟩ ≠ some (.string z)) (hsz : W.heap.size ≤ W'.heap.size) (hk : ∀ k, k < W.heap.size → k ≠ b → W'.heap[k]? = W.heap[k]?) : Rd W' A n l := by
  refine ⟨h.1, fun j hj => ?_⟩
  obtain ⟨b1, off, e, hlt, hc⟩ := h.2 j hj
  have h0 := hc W (Below.refl _ _)
  have hne : b1 ≠ b := by
    rintro rfl
    exact hb _ _ h0
  have h1 := hk b1 hlt hne
  have h2 : W'.cell? ⟨b1, off + j, none⟩ = some (.string l[j]) := by
    rw [← h0]; unfold World.cell?; rw [h1]
  exact ⟨b1, off, e, by omega, fun w' hw => (hw.cell (p := ⟨b1, off + j, none⟩) (by show b1 < _; omega)).trans h2⟩
theorem rS_len (y : ByteArray) (s : List ByteArray) : (rS y s).length ≤ s.length := by
  have h0 := aS_len y s
  have hn : ∀ t : List ByteArray, (innS t).length ≤ t.length := fun t => by
    unfold innS
    rw [List.length_reverse]
    have : ∀ l : List ByteArray, (dropCg l).length ≤ l.length := fun l => by
      induction l with
      | nil => simp [dropCg]
      | cons x r ih => unfold dropCg; split <;> simp <;> omega
    have h1 := this t.reverse
    rw [List.length_reverse] at h1
    exact h1
  have hpl : ∀ pr (t : List ByteArray), (plS pr t).length ≤ t.length := fun pr t => by
    unfold plS
    split
    · rw [List.length_take]; omega
    · exact Nat.le_trans (hn _) (noS_len _)
  have hit : ∀ pr (t : List ByteArray), (rItS pr t).length ≤ t.length := fun pr t => by
    unfold rItS
    split
    · rw [List.length_take]; omega
    · exact hn _
  refine Nat.le_trans ?_ h0
  unfold rS
  split
  · exact hpl _ _
  · exact hpl _ _
  · exact hpl _ _
  · exact hpl _ _
  · split
    · exact hit _ _
    · split
      · exact hit _ _
      · exact hn _
set_option maxHeartbeats 3200000 in
set_option maxRecDepth 100000 in
theorem rOpenC (w : World) (A : Option Addr) (n c : Nat) (s : List ByteArray) (y : ByteArray) (hr : Rd w A n s) (hc : n ≤ c) (hc2 : c ≤ 9223372036854775807) :
    Calls Tryd.prog 25 #[.slice A n c, .string y] w fun e w' => ∃ A2 c2, e = .returned (.agg #[.int .i64 ((n : Int) - ((rS y s).length : Int)), .slice A2 (rP y s).length c2, .bool false]) ∧ (Rd w' A2 (rP y s).length (rP y s) ∧ Fr w.heap.size A2 (rP y s)) ∧ Below w.heap.size w w' := by
  obtain ⟨X0, hX0⟩ : ∃ X, X = w.alloc (.cells #[.int .i64 0, .slice none 0 0, .bool false] 33) := ⟨_, rfl⟩
  have hb0 : Below w.heap.size w X0 := hX0 ▸ (Below.refl _ _).alloc (Nat.le_refl _) _
  have hp0 : Pl X0 w.heap.size (.int .i64 0) (.slice none 0 0) (.bool false) := hX0 ▸ Pl.new w _ _ _ _ rfl
  have hbz := hb0.size
  have HP : Hid (∀ W, Below X0.heap.size X0 W → Pl W w.heap.size (.int .i64 0) (.slice none 0 0) (.bool false)) := Lib.hid fun W h => hp0.below h
  have hA := asksC X0 A n c s y (hr.below hb0) hc hc2
  have hlen := rS_len y s
  rw [← hr.1] at hlen
  have hnb : n ≤ 9223372036854775807 := by omega
  have hwr : IntKind.i64.wrap ((n : Int) - ((rS y s).length : Int)) = (n : Int) - ((rS y s).length : Int) := by rw [IntKind.wrap_i64]; omega
  have FIN : ∀ W A3 c3, Below X0.heap.size X0 W → Rd W A3 (rP y s).length (rP y s) →
      Rd (((W.setCell ⟨w.heap.size, 0, none⟩ (.int .i64 ((n : Int) - ((rS y s).length : Int)))).setCell ⟨w.heap.size, 1, none⟩ (.slice A3 (rP y s).length c3)).setCell ⟨w.heap.size, 2, none⟩ (.bool false)) A3 (rP y s).length (rP y s) ∧
      Below w.heap.size w (((W.setCell ⟨w.heap.size, 0, none⟩ (.int .i64 ((n : Int) - ((rS y s).length : Int)))).setCell ⟨w.heap.size, 1, none⟩ (.slice A3 (rP y s).length c3)).setCell ⟨w.heap.size, 2, none⟩ (.bool false)) := by
    intro W A3 c3 h1 h2
    have h3 := seq hb0 h1
    have hP := hp0.below h1
    refine ⟨rd_keep h2 w.heap.size (fun off z hz => ?_) (by simp) (fun k hk hne => ?_), ((h3.setCell (p := ⟨w.heap.size, 0, none⟩) (Nat.le_refl _) _).setCell (p := ⟨w.heap.size, 1, none⟩) (Nat.le_refl _) _).setCell (p := ⟨w.heap.size, 2, none⟩) (Nat.le_refl _) _⟩
    · have h4 : W.heap[w.heap.size]? = some (.cells #[.int .i64 0, .slice none 0 0, .bool false] 33 (0, 0)) := hP
      unfold World.cell? at hz
      simp only [h4] at hz
      rcases off with _ | _ | _ | off <;> simp at hz
    · rw [Below.heap_setCell _ ⟨w.heap.size, 2, none⟩ _ k hne, Below.heap_setCell _ ⟨w.heap.size, 1, none⟩ _ k hne, Below.heap_setCell _ ⟨w.heap.size, 0, none⟩ _ k hne]
  have HF := Lib.hid FIN
  have HA := Lib.hid hA
  have HX := Lib.hid hX0
  clear FIN hA hb0 hp0 hX0 hr hlen
  unfold Two at HA
  generalize (rP y s) = P at *
  generalize (rS y s).length = L at *
  go_enter Tryd.func25, Tryd.ntmps25
  go_wp2_with (go_at_call 46; rw [← HX.out]; refine HA.out.mono ?_; rintro e w1 ⟨A4, c4, rfl, ⟨hr4, hfr4⟩, hb4⟩; have hP := HP.out w1 hb4; obtain ⟨a0, b0, a1, b1, a2, b2, d0, d1, d2⟩ := pl3 hP (.int .i64 ((n : Int) - (L : Int))) (.slice A4 P.length c4) (.bool false))
  refine bodyPost_ret (v := .agg #[.int .i64 ((n : Int) - (L : Int)), .slice A4 P.length c4, .bool false]) (by simp [results, Tryd.results25, go_sem, d0, d1, d2]) rfl ?_
  have hh := HF.out _ _ c4 hb4 hr4
  exact ⟨A4, c4, rfl, ⟨hh.1, fun b off sp e hne => Nat.le_trans hbz (hfr4 b off sp e hne)⟩, hh.2⟩
end Go.Proofs.YtddgpkdhakjjaaaDoor.Ro
