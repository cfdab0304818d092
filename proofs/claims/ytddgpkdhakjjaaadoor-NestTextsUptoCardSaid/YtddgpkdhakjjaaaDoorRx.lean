/- The reference's Text; on right stacks it is the program's. -/
import Derived.Test.YtddgpkdhakjjaaaDoorRo
import Derived.Test.YtddgpkdhakjjaaaDoorTx
set_option linter.unusedVariables false
set_option linter.unusedSimpArgs false
namespace Go.Proofs.YtddgpkdhakjjaaaDoor.Rx
open Go.Proofs.YtddgpkdhakjjaaaDoor.Np hiding is_li is_dt is_dd is_textarea is_a
open Go.RowKit Lb Fl Is Tp Wk Wp Wi Wo Pt Oc Pm Go.Proofs.YtddgpkdhakjjaaaDoor.Ask Rt Go.Proofs.YtddgpkdhakjjaaaDoor.Op Aw Lt En El Rn Ri Rj Rp Rq Go.Proofs.YtddgpkdhakjjaaaDoor.Eq Ro Tx

def rtC (s : List ByteArray) : Bool := decide (0 < (innP s).length) || decide ((innS s).length < s.length)
def rtT (s : List ByteArray) : Bool := decide (0 < s.length) && is_textarea (topS s)
def rtGo (s : List ByteArray) (b : Bool) : Bool := !rtT s && !(b && rtC s)
def rtK (s : List ByteArray) (b : Bool) : Int := if rtGo s b then (s.length : Int) - ((innS s).length : Int) else 0
def rtP (s : List ByteArray) (b : Bool) : List ByteArray := if rtGo s b then innP s else []
def rtD (s : List ByteArray) (b : Bool) : Bool := !rtT s && (b && rtC s)

theorem innS_len (s : List ByteArray) : (innS s).length ≤ s.length := by
  unfold innS
  rw [List.length_reverse]
  have : ∀ l : List ByteArray, (dropCg l).length ≤ l.length := fun l => by
    induction l with
    | nil => simp [dropCg]
    | cons x r ih => unfold dropCg; split <;> simp <;> omega
  have h1 := this s.reverse
  rw [List.length_reverse] at h1
  exact h1

set_option maxHeartbeats 8000000 in
set_option maxRecDepth 100000 in
theorem rTextC (w : World) (A : Option Addr) (n c : Nat) (s : List ByteArray) (b : Bool) (hr : Rd w A n s) (hc : n ≤ c) (hc2 : c ≤ 9223372036854775807) :
    Calls Tryd.prog 32 #[.slice A n c, .bool b] w fun e w' => ∃ A2 c2, e = .returned (.agg #[.int .i64 (rtK s b), .slice A2 (rtP s b).length c2, .bool (rtD s b)]) ∧ Rd w' A2 (rtP s b).length (rtP s b) ∧ Below w.heap.size w w' := by
  obtain ⟨X0, hX0⟩ : ∃ X, X = w.alloc (.cells #[.int .i64 0, .slice none 0 0, .bool false] 33) := ⟨_, rfl⟩
  have hb0 : Below w.heap.size w X0 := hX0 ▸ (Below.refl _ _).alloc (Nat.le_refl _) _
  have hp0 : Pl X0 w.heap.size (.int .i64 0) (.slice none 0 0) (.bool false) := hX0 ▸ Pl.new w _ _ _ _ rfl
  have HP : Hid (∀ W, Below X0.heap.size X0 W → Pl W w.heap.size (.int .i64 0) (.slice none 0 0) (.bool false)) := Lib.hid fun W h => hp0.below h
  have hI := innerR X0.heap.size n A c s X0 (hr.below hb0) hc hc2 (Nat.le_refl _)
  have HX := Lib.hid hX0
  have hnl := hr.1
  have hSl := innS_len s
  rw [← hnl] at hSl
  have hnb : n ≤ 9223372036854775807 := by omega
  have hwr : IntKind.i64.wrap ((n : Int) - ((innS s).length : Int)) = (n : Int) - ((innS s).length : Int) := by rw [IntKind.wrap_i64]; omega
  have hkeep : ∀ W A3 (u v x : Value) l, Below X0.heap.size X0 W → Rd W A3 (List.length l) l → Rd (((W.setCell ⟨w.heap.size, 0, none⟩ u).setCell ⟨w.heap.size, 1, none⟩ v).setCell ⟨w.heap.size, 2, none⟩ x) A3 (List.length l) l ∧
      Below w.heap.size w (((W.setCell ⟨w.heap.size, 0, none⟩ u).setCell ⟨w.heap.size, 1, none⟩ v).setCell ⟨w.heap.size, 2, none⟩ x) := by
    intro W A3 u v x l h1 h2
    have hP := hp0.below h1
    have h3 := seq hb0 h1
    refine ⟨rd_keep h2 w.heap.size (fun off z hz => ?_) (by simp) (fun k hk hne => ?_), ((h3.setCell (p := ⟨w.heap.size, 0, none⟩) (Nat.le_refl _) _).setCell (p := ⟨w.heap.size, 1, none⟩) (Nat.le_refl _) _).setCell (p := ⟨w.heap.size, 2, none⟩) (Nat.le_refl _) _⟩
    · have h4 : W.heap[w.heap.size]? = some (.cells #[.int .i64 0, .slice none 0 0, .bool false] 33 (0, 0)) := hP
      unfold World.cell? at hz
      simp only [h4] at hz
      rcases off with _ | _ | _ | off <;> simp at hz
    · rw [Below.heap_setCell _ ⟨w.heap.size, 2, none⟩ _ k hne, Below.heap_setCell _ ⟨w.heap.size, 1, none⟩ _ k hne, Below.heap_setCell _ ⟨w.heap.size, 0, none⟩ _ k hne]
  have FIN0 : ∀ d : Bool, rtK s b = 0 → rtP s b = [] → rtD s b = d → ∀ W, Below X0.heap.size X0 W → (fun e w' => ∃ A2 c2, e = Ending.returned (.agg #[.int .i64 (rtK s b), .slice A2 (rtP s b).length c2, .bool (rtD s b)]) ∧ Rd w' A2 (rtP s b).length (rtP s b) ∧ Below w.heap.size w w')
      (.returned (.agg #[.int .i64 0, .slice none 0 0, .bool d])) (((W.setCell ⟨w.heap.size, 0, none⟩ (.int .i64 0)).setCell ⟨w.heap.size, 1, none⟩ (.slice none 0 0)).setCell ⟨w.heap.size, 2, none⟩ (.bool d)) := by
    intro d h1 h2 h3 W h
    have h5 := hkeep W none (.int .i64 0) (.slice none 0 0) (.bool d) [] h (rd_nil _ _)
    rw [h1, h2, h3]
    exact ⟨none, 0, rfl, h5.1, h5.2⟩
  have FIN1 : rtGo s b = true → rtD s b = false → ∀ W A3 c3, Below X0.heap.size X0 W → Rd W A3 (innP s).length (innP s) → (fun e w' => ∃ A2 c2, e = Ending.returned (.agg #[.int .i64 (rtK s b), .slice A2 (rtP s b).length c2, .bool (rtD s b)]) ∧ Rd w' A2 (rtP s b).length (rtP s b) ∧ Below w.heap.size w w')
      (.returned (.agg #[.int .i64 ((n : Int) - ((innS s).length : Int)), .slice A3 (innP s).length c3, .bool false])) (((W.setCell ⟨w.heap.size, 0, none⟩ (.int .i64 ((n : Int) - ((innS s).length : Int)))).setCell ⟨w.heap.size, 1, none⟩ (.slice A3 (innP s).length c3)).setCell ⟨w.heap.size, 2, none⟩ (.bool false)) := by
    intro h1 h2 W A3 c3 ha ho
    have h5 := hkeep W A3 (.int .i64 ((n : Int) - ((innS s).length : Int))) (.slice A3 (innP s).length c3) (.bool false) (innP s) ha ho
    unfold rtK rtP
    rw [h1, h2, ← hnl]
    exact ⟨A3, c3, rfl, h5.1, h5.2⟩
  have FINT : rtK s b = 0 → rtP s b = [] → rtD s b = false → (fun e w' => ∃ A2 c2, e = Ending.returned (.agg #[.int .i64 (rtK s b), .slice A2 (rtP s b).length c2, .bool (rtD s b)]) ∧ Rd w' A2 (rtP s b).length (rtP s b) ∧ Below w.heap.size w w') (.returned (.agg #[.int .i64 0, .slice none 0 0, .bool false])) X0 := by
    intro h1 h2 h3
    rw [h1, h2, h3]
    exact ⟨none, 0, rfl, rd_nil _ _, hb0⟩
  generalize hQ : (fun e w' => ∃ A2 c2, e = Ending.returned (.agg #[.int .i64 (rtK s b), .slice A2 (rtP s b).length c2, .bool (rtD s b)]) ∧ Rd w' A2 (rtP s b).length (rtP s b) ∧ Below w.heap.size w w') = Q at FIN0 FIN1 FINT ⊢
  have hE0 : (0 < n) → ∃ x b1 off, A = some ⟨b1, off, none⟩ ∧ topS s = x ∧ X0.cell? ⟨b1, off + (n - 1), none⟩ = some (.string x) := by
    intro h0
    have hks : n - 1 < s.length := by omega
    obtain ⟨b1, off, e, _, hcx⟩ := hr.get hks
    refine ⟨s[n - 1], b1, off, e, ?_, hcx X0 hb0⟩
    unfold topS
    rw [List.getLastD_eq_getLast?, List.getLast?_eq_getElem?, ← hnl, List.getElem?_eq_getElem hks, Option.getD_some]
  have hC : rtC s = (decide (0 < (innP s).length) || decide ((innS s).length < n)) := by unfold rtC; rw [hnl]
  have hTT : rtT s = (decide (0 < n) && is_textarea (topS s)) := by unfold rtT; rw [hnl]
  have HE0 := Lib.hid hE0
  have hGo : rtGo s b = (!rtT s && !(b && rtC s)) := rfl
  have hD : rtD s b = (!rtT s && (b && rtC s)) := rfl
  have hZK : rtGo s b = false → rtK s b = 0 ∧ rtP s b = [] := fun h => by unfold rtK rtP; rw [h]; exact ⟨rfl, rfl⟩
  unfold Two at hI
  generalize innS s = S at *
  generalize innP s = P at *
  obtain ⟨L, hL⟩ : ∃ L, S.length = L := ⟨_, rfl⟩
  obtain ⟨M, hM⟩ : ∃ M, P.length = M := ⟨_, rfl⟩
  rw [hL] at hI hC hwr hSl FIN1
  rw [hM] at hI hC FIN1
  have HI := Lib.hid hI
  have HC := Lib.hid hC
  have HTT := Lib.hid hTT
  have HGO := Lib.hid hGo
  have HD := Lib.hid hD
  have HZ := Lib.hid hZK
  have HF0 := Lib.hid FIN0
  have HF1 := Lib.hid FIN1
  have HFT := Lib.hid FINT
  clear hI hb0 hp0 hX0 hr hQ hkeep FIN0 FIN1 FINT hE0 hC hTT hGo hD hZK hnl hL hM
  have hbr := Below.refl X0.heap.size X0
  have hXX := HX.out
  clear HX
  subst hXX
  by_cases h0 : 0 < n
  · obtain ⟨x, b1, off, rfl, hx, hcx⟩ := HE0.out h0
    obtain ⟨m, rfl⟩ : ∃ m, n = m + 1 := ⟨n - 1, by omega⟩
    rw [Nat.add_sub_cancel] at hcx
    have g1 : (0 : Int) < ((m + 1 : Nat) : Int) := by omega
    have g2 : ((m + 1 : Nat) : Int) - 1 = (m : Int) := by omega
    have g3 : (m : Int) < ((m + 1 : Nat) : Int) := by omega
    have hwr2 : IntKind.i64.wrap ((m : Int) + 1 - (L : Int)) = (m : Int) + 1 - (L : Int) := by rw [IntKind.wrap_i64]; omega
    cases hta : (x.toList == [116, 101, 120, 116, 97, 114, 101, 97])
    · have ht : rtT s = false := by rw [HTT.out, hx]; unfold is_textarea; rw [hta]; simp
      by_cases h5 : 0 < M
      · have h5' : (0 : Int) < (M : Int) := by omega
        have h6 := True.intro
        cases b
        · 
          have HF := Lib.hid (HF1.out (by rw [HGO.out, ht, HC.out]; simp [h6, h5]) (by rw [HD.out, ht, HC.out]; simp [h6, h5]))
          go_enter Tryd.func32, Tryd.ntmps32
          go_wp2_with (go_at_call 57; refine HI.out.mono ?_; rintro e w1 ⟨A4, c4, rfl, ⟨hr4, _⟩, hb4⟩; obtain ⟨a0, a1, a2, a3, a4, a5, d0, d1, d2⟩ := pl3 (HP.out w1 hb4) (.int .i64 ((m : Int) + 1 - (L : Int))) (.slice A4 M c4) (.bool false))
          first
            | exact HF.out _ _ _ hb4 hr4
            | (refine bodyPost_ret (v := .agg #[.int .i64 ((m : Int) + 1 - (L : Int)), .slice A4 M c4, .bool false]) (by simp [results, Tryd.results32, go_sem, d0, d1, d2]) rfl ?_; exact HF.out _ _ _ hb4 hr4)
        · 
          have hz := HZ.out (by rw [HGO.out, ht, HC.out]; simp [h6, h5])
          have HF := Lib.hid (HF0.out true hz.1 hz.2 (by rw [HD.out, ht, HC.out]; simp [h6, h5]))
          go_enter Tryd.func32, Tryd.ntmps32
          go_wp2_with (go_at_call 57; refine HI.out.mono ?_; rintro e w1 ⟨A4, c4, rfl, ⟨hr4, _⟩, hb4⟩; obtain ⟨a0, a1, a2, a3, a4, a5, d0, d1, d2⟩ := pl3 (HP.out w1 hb4) (.int .i64 0) (.slice none 0 0) (.bool true))
          refine bodyPost_ret (v := .agg #[.int .i64 0, .slice none 0 0, .bool true]) (by simp [results, Tryd.results32, go_sem, d0, d1, d2]) rfl ?_
          exact HF.out _ hb4
      · have h5' : ¬ (0 : Int) < (M : Int) := by omega
        by_cases h6 : L < m + 1
        · have h6' : (L : Int) < (m : Int) + 1 := by omega
          cases b
          · 
            have HF := Lib.hid (HF1.out (by rw [HGO.out, ht, HC.out]; simp [h6, h5]) (by rw [HD.out, ht, HC.out]; simp [h6, h5]))
            go_enter Tryd.func32, Tryd.ntmps32
            go_wp2_with (go_at_call 57; refine HI.out.mono ?_; rintro e w1 ⟨A4, c4, rfl, ⟨hr4, _⟩, hb4⟩; obtain ⟨a0, a1, a2, a3, a4, a5, d0, d1, d2⟩ := pl3 (HP.out w1 hb4) (.int .i64 ((m : Int) + 1 - (L : Int))) (.slice A4 M c4) (.bool false))
            first
              | exact HF.out _ _ _ hb4 hr4
              | (refine bodyPost_ret (v := .agg #[.int .i64 ((m : Int) + 1 - (L : Int)), .slice A4 M c4, .bool false]) (by simp [results, Tryd.results32, go_sem, d0, d1, d2]) rfl ?_; exact HF.out _ _ _ hb4 hr4)
          · 
            have hz := HZ.out (by rw [HGO.out, ht, HC.out]; simp [h6, h5])
            have HF := Lib.hid (HF0.out true hz.1 hz.2 (by rw [HD.out, ht, HC.out]; simp [h6, h5]))
            go_enter Tryd.func32, Tryd.ntmps32
            go_wp2_with (go_at_call 57; refine HI.out.mono ?_; rintro e w1 ⟨A4, c4, rfl, ⟨hr4, _⟩, hb4⟩; obtain ⟨a0, a1, a2, a3, a4, a5, d0, d1, d2⟩ := pl3 (HP.out w1 hb4) (.int .i64 0) (.slice none 0 0) (.bool true))
            refine bodyPost_ret (v := .agg #[.int .i64 0, .slice none 0 0, .bool true]) (by simp [results, Tryd.results32, go_sem, d0, d1, d2]) rfl ?_
            exact HF.out _ hb4
        · have h6' : ¬ (L : Int) < (m : Int) + 1 := by omega
          cases b
          · 
            have HF := Lib.hid (HF1.out (by rw [HGO.out, ht, HC.out]; simp [h6, h5]) (by rw [HD.out, ht, HC.out]; simp [h6, h5]))
            go_enter Tryd.func32, Tryd.ntmps32
            go_wp2_with (go_at_call 57; refine HI.out.mono ?_; rintro e w1 ⟨A4, c4, rfl, ⟨hr4, _⟩, hb4⟩; obtain ⟨a0, a1, a2, a3, a4, a5, d0, d1, d2⟩ := pl3 (HP.out w1 hb4) (.int .i64 ((m : Int) + 1 - (L : Int))) (.slice A4 M c4) (.bool false))
            first
              | exact HF.out _ _ _ hb4 hr4
              | (refine bodyPost_ret (v := .agg #[.int .i64 ((m : Int) + 1 - (L : Int)), .slice A4 M c4, .bool false]) (by simp [results, Tryd.results32, go_sem, d0, d1, d2]) rfl ?_; exact HF.out _ _ _ hb4 hr4)
          · 
            have HF := Lib.hid (HF1.out (by rw [HGO.out, ht, HC.out]; simp [h6, h5]) (by rw [HD.out, ht, HC.out]; simp [h6, h5]))
            go_enter Tryd.func32, Tryd.ntmps32
            go_wp2_with (go_at_call 57; refine HI.out.mono ?_; rintro e w1 ⟨A4, c4, rfl, ⟨hr4, _⟩, hb4⟩; obtain ⟨a0, a1, a2, a3, a4, a5, d0, d1, d2⟩ := pl3 (HP.out w1 hb4) (.int .i64 ((m : Int) + 1 - (L : Int))) (.slice A4 M c4) (.bool false))
            first
              | exact HF.out _ _ _ hb4 hr4
              | (refine bodyPost_ret (v := .agg #[.int .i64 ((m : Int) + 1 - (L : Int)), .slice A4 M c4, .bool false]) (by simp [results, Tryd.results32, go_sem, d0, d1, d2]) rfl ?_; exact HF.out _ _ _ hb4 hr4)
    · have ht : rtT s = true := by rw [HTT.out, hx]; unfold is_textarea; rw [hta]; simp
      have hz := HZ.out (by rw [HGO.out, ht]; rfl)
      have HF := Lib.hid (HFT.out hz.1 hz.2 (by rw [HD.out, ht]; rfl))
      go_enter Tryd.func32, Tryd.ntmps32
      go_wp2
      refine bodyPost_ret (v := .agg #[.int .i64 0, .slice none 0 0, .bool false]) (by simp [results, Tryd.results32, go_sem]) rfl ?_
      exact HF.out
  · have hn0 : n = 0 := by omega
    subst hn0
    have ht : rtT s = false := by rw [HTT.out]; rfl
    have g1 : ¬ (0 : Int) < ((0 : Nat) : Int) := by omega
    obtain rfl : L = 0 := by omega
    by_cases h5 : 0 < M
    · have h5' : (0 : Int) < (M : Int) := by omega
      have h6 := True.intro
      cases b
      · 
        have HF := Lib.hid (HF1.out (by rw [HGO.out, ht, HC.out]; simp [h6, h5]) (by rw [HD.out, ht, HC.out]; simp [h6, h5]))
        go_enter Tryd.func32, Tryd.ntmps32
        go_wp2_with (go_at_call 57; refine HI.out.mono ?_; rintro e w1 ⟨A4, c4, rfl, ⟨hr4, _⟩, hb4⟩; obtain ⟨a0, a1, a2, a3, a4, a5, d0, d1, d2⟩ := pl3 (HP.out w1 hb4) (.int .i64 (0 : Int)) (.slice A4 M c4) (.bool false))
        first
          | exact HF.out _ _ _ hb4 hr4
          | (refine bodyPost_ret (v := .agg #[.int .i64 (0 : Int), .slice A4 M c4, .bool false]) (by simp [results, Tryd.results32, go_sem, d0, d1, d2]) rfl ?_; exact HF.out _ _ _ hb4 hr4)
      · 
        have hz := HZ.out (by rw [HGO.out, ht, HC.out]; simp [h6, h5])
        have HF := Lib.hid (HF0.out true hz.1 hz.2 (by rw [HD.out, ht, HC.out]; simp [h6, h5]))
        go_enter Tryd.func32, Tryd.ntmps32
        go_wp2_with (go_at_call 57; refine HI.out.mono ?_; rintro e w1 ⟨A4, c4, rfl, ⟨hr4, _⟩, hb4⟩; obtain ⟨a0, a1, a2, a3, a4, a5, d0, d1, d2⟩ := pl3 (HP.out w1 hb4) (.int .i64 0) (.slice none 0 0) (.bool true))
        refine bodyPost_ret (v := .agg #[.int .i64 0, .slice none 0 0, .bool true]) (by simp [results, Tryd.results32, go_sem, d0, d1, d2]) rfl ?_
        exact HF.out _ hb4
    · have h5' : ¬ (0 : Int) < (M : Int) := by omega
      by_cases h6 : (0 : Nat) < 0
      · exact absurd h6 (Nat.lt_irrefl 0)
      · have h6' : ¬ (0 : Int) < 0 := by omega
        cases b
        · 
          have HF := Lib.hid (HF1.out (by rw [HGO.out, ht, HC.out]; simp [h6, h5]) (by rw [HD.out, ht, HC.out]; simp [h6, h5]))
          go_enter Tryd.func32, Tryd.ntmps32
          go_wp2_with (go_at_call 57; refine HI.out.mono ?_; rintro e w1 ⟨A4, c4, rfl, ⟨hr4, _⟩, hb4⟩; obtain ⟨a0, a1, a2, a3, a4, a5, d0, d1, d2⟩ := pl3 (HP.out w1 hb4) (.int .i64 (0 : Int)) (.slice A4 M c4) (.bool false))
          first
            | exact HF.out _ _ _ hb4 hr4
            | (refine bodyPost_ret (v := .agg #[.int .i64 (0 : Int), .slice A4 M c4, .bool false]) (by simp [results, Tryd.results32, go_sem, d0, d1, d2]) rfl ?_; exact HF.out _ _ _ hb4 hr4)
        · 
          have HF := Lib.hid (HF1.out (by rw [HGO.out, ht, HC.out]; simp [h6, h5]) (by rw [HD.out, ht, HC.out]; simp [h6, h5]))
          go_enter Tryd.func32, Tryd.ntmps32
          go_wp2_with (go_at_call 57; refine HI.out.mono ?_; rintro e w1 ⟨A4, c4, rfl, ⟨hr4, _⟩, hb4⟩; obtain ⟨a0, a1, a2, a3, a4, a5, d0, d1, d2⟩ := pl3 (HP.out w1 hb4) (.int .i64 (0 : Int)) (.slice A4 M c4) (.bool false))
          first
            | exact HF.out _ _ _ hb4 hr4
            | (refine bodyPost_ret (v := .agg #[.int .i64 (0 : Int), .slice A4 M c4, .bool false]) (by simp [results, Tryd.results32, go_sem, d0, d1, d2]) rfl ?_; exact HF.out _ _ _ hb4 hr4)
end Go.Proofs.YtddgpkdhakjjaaaDoor.Rx
