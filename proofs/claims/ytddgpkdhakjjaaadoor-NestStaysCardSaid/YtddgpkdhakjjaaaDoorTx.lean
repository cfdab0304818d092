/- nest: Text: what a text asks. -/
import Derived.Test.YtddgpkdhakjjaaaDoorEl
set_option linter.unusedVariables false
set_option linter.unusedSimpArgs false
namespace Go.Proofs.YtddgpkdhakjjaaaDoor.Tx
open Go.Proofs.YtddgpkdhakjjaaaDoor.Np hiding is_li is_dt is_dd is_textarea is_a
open Go.RowKit Lb Fl Is Tp Wk Wp Wi Wo Pt Oc Go.Proofs.YtddgpkdhakjjaaaDoor.Ask Rt Go.Proofs.YtddgpkdhakjjaaaDoor.Op Aw Lt En El

/-- the top wants something around a text -/
def wantB (y : ByteArray) : Bool := is_colgroup y || (is_table y || (groupB y || (is_tr y || (listB y || is_dl y))))
def txGo (s : List ByteArray) (b : Bool) : Bool := rightB s && (!is_textarea (topS s) && !(b && wantB (topS s)))
def txD (s : List ByteArray) (b : Bool) : Bool := rightB s && (!is_textarea (topS s) && (b && wantB (topS s)))
def txK (s : List ByteArray) (b : Bool) : Int := if txGo s b then (s.length : Int) - ((inS2 s []).length : Int) else 0
def txP (s : List ByteArray) (b : Bool) : List ByteArray := if txGo s b then inP2 s [] else []

set_option maxHeartbeats 8000000 in
set_option maxRecDepth 100000 in
theorem textC (w : World) (ht : Tab w) (A : Option Addr) (n c : Nat) (s : List ByteArray) (b : Bool) (hr : Rd w A n s) (hc : n ≤ c) (hc2 : c ≤ 9223372036854775807) :
    Calls Tryd.prog 31 #[.slice A n c, .bool b] w (Gives w (txK s b) (txP s b) (txD s b) (endE s)) := by
  obtain ⟨X0, hX0⟩ : ∃ X, X = w.alloc (.cells #[.int .i64 0, .slice none 0 0, .bool false] 33) := ⟨_, rfl⟩
  have hb0 : Below w.heap.size w X0 := hX0 ▸ (Below.refl _ _).alloc (Nat.le_refl _) _
  have hp0 : Pl X0 w.heap.size (.int .i64 0) (.slice none 0 0) (.bool false) := hX0 ▸ Pl.new w _ _ _ _ rfl
  have hs0 : X0.heap.size = w.heap.size + 1 := by rw [hX0]; simp
  have HP : Hid (∀ W, Below X0.heap.size X0 W → Pl W w.heap.size (.int .i64 0) (.slice none 0 0) (.bool false)) := Lib.hid fun W h => hp0.below h
  have HT : Hid (∀ W, Below X0.heap.size X0 W → Tab W) := Lib.hid fun W h => ht.below (seq hb0 h)
  have HR : Hid (∀ W, Below X0.heap.size X0 W → Rd W A n s) := Lib.hid fun W h => hr.below (seq hb0 h)
  have HX := Lib.hid hX0
  have HNL := Lib.hid hr.1
  have hnb : n ≤ 9223372036854775807 := by omega
  have hbr := Lib.hid (Below.refl X0.heap.size X0)
  have HSZ : Hid (∀ (w1 w2 : World), Below w1.heap.size (w1.alloc (.cells #[.slice A n c, .slice none 0 0] 74)) w2 → w1.heap.size ≤ w2.heap.size) := Lib.hid fun w1 w2 h => by have := h.size; simp at this; omega
  have HBZ : Hid (∀ (w1 w2 w3 : World), Below X0.heap.size X0 w1 → Below w1.heap.size (w1.alloc (.cells #[.slice A n c, .slice none 0 0] 74)) w2 → Below w2.heap.size w2 w3 → Below X0.heap.size X0 w3) := Lib.hid fun w1 w2 w3 h1 h2 h3 => seq (seq h1 (((Below.refl _ _).alloc (Nat.le_refl _) _).trans h2)) h3
  have HIN : Hid (∀ w1, Below X0.heap.size X0 w1 → Calls Tryd.prog 56 #[.pointer (some ⟨w1.heap.size, 0, none⟩)] (w1.alloc (.cells #[.slice A n c, .slice none 0 0] 74)) (Wp.Ends (w1.alloc (.cells #[.slice A n c, .slice none 0 0] 74)) w1.heap.size w1.heap.size none (inS2 s []) (inP2 s []))) := Lib.hid fun w1 h => by
    have hbI : Below w1.heap.size w1 (w1.alloc (.cells #[.slice A n c, .slice none 0 0] 74)) := (Below.refl _ _).alloc (Nat.le_refl _) _
    have hw : Wrk (w1.alloc (.cells #[.slice A n c, .slice none 0 0] 74)) w1.heap.size (.slice A n c) (.slice none 0 0) := (MapKept.heap_alloc w1 _).1
    exact innerC _ _ _ none s [] hbI.size ⟨A, n, c, _, hw, hc, hc2, (RdB.of (HR.out w1 h)).below hbI, Fl.Own.nil _ _, Nat.le_refl _, rfl⟩ (by simp)
  have hpl := inP2_len s []
  simp only [List.length_nil] at hpl
  have FIN0 : ∀ (d : Bool) (code : Int), txK s b = 0 → txP s b = [] → txD s b = d → endE s = code → ∀ W, Below X0.heap.size X0 W → Gives w (txK s b) (txP s b) (txD s b) (endE s) (.returned (.tuple #[.agg #[.int .i64 0, .slice none 0 0, .bool d], .int .i64 code])) (((W.setCell ⟨w.heap.size, 0, none⟩ (.int .i64 0)).setCell ⟨w.heap.size, 1, none⟩ (.slice none 0 0)).setCell ⟨w.heap.size, 2, none⟩ (.bool d)) := by
    intro d code h1 h2 h3 h4 W h
    have h5 := put3 (v0 := .int .i64 0) (v1 := .slice none 0 0) (v2 := .bool d) (l := []) (seq hb0 h) (Fl.Own.nil _ _)
    rw [h1, h2, h3, h4]
    exact ⟨none, 0, rfl, h5.1, h5.2⟩
  have FIN1 : txGo s b = true → txD s b = false → endE s = 0 → ∀ (W W1 : World) A3 c3, Below X0.heap.size X0 W → X0.heap.size ≤ W1.heap.size → Fl.Own W W1.heap.size (.slice A3 (inP2 s []).length c3) (inP2 s []) → Gives w (txK s b) (txP s b) (txD s b) (endE s) (.returned (.tuple #[.agg #[.int .i64 ((n : Int) - ((inS2 s []).length : Int)), .slice A3 (inP2 s []).length c3, .bool false], .int .i64 0])) (((W.setCell ⟨w.heap.size, 0, none⟩ (.int .i64 ((n : Int) - ((inS2 s []).length : Int)))).setCell ⟨w.heap.size, 1, none⟩ (.slice A3 (inP2 s []).length c3)).setCell ⟨w.heap.size, 2, none⟩ (.bool false)) := by
    intro h1 h2 h3 W W1 A3 c3 ha hz ho
    have h5 := put3 (v0 := .int .i64 ((n : Int) - ((inS2 s []).length : Int))) (v1 := .slice A3 (inP2 s []).length c3) (v2 := .bool false) (seq hb0 ha) (own_mono ho (by omega))
    unfold txK txP
    rw [h1, h2, h3, ← HNL.out]
    exact ⟨A3, c3, rfl, h5.1, h5.2⟩
  have HZ0 : Hid (∀ (w1 w2 : World), Below X0.heap.size X0 w1 → w1.heap.size ≤ w2.heap.size → X0.heap.size ≤ w2.heap.size) := Lib.hid fun w1 w2 h1 h2 => Nat.le_trans h1.size h2
  generalize hQ : Gives w (txK s b) (txP s b) (txD s b) (endE s) = Q at FIN0 FIN1 ⊢
  clear hb0 hp0 hX0 hs0 hr ht hQ
  obtain ⟨y, hy⟩ : ∃ y, topS s = y := ⟨_, rfl⟩
  cases hr1 : rightB s
  · 
    have HF := Lib.hid (FIN0 false 161 (by simp [txK, txP, txD, txGo, endE, wantB, hr1]) (by simp [txK, txP, txD, txGo, endE, wantB, hr1]) (by simp [txK, txP, txD, txGo, endE, wantB, hr1]) (by simp [txK, txP, txD, txGo, endE, wantB, hr1]))
    go_enter Tryd.func31, Tryd.ntmps31
    go_wp2_with (first
      | (go_at_call 15; rw [← HX.out]; refine (rightC _ (HT.out _ hbr.out) A n c s (HR.out _ hbr.out) hc hc2).mono ?_; rintro e w1 ⟨rfl, hb1⟩; rw [hr1]; have hP := HP.out w1 hb1; obtain ⟨a0, b0, a1, b1, a2, b2, d0, d1, d2⟩ := pl3 hP (.int .i64 0) (.slice none 0 0) (.bool false)))
    refine bodyPost_ret (v := .tuple #[.agg #[.int .i64 0, .slice none 0 0, .bool false], .int .i64 161]) (by simp [results, Tryd.results31, go_sem, d0, d1, d2]) rfl ?_
    exact HF.out _ hb1
  · cases hta : (y.toList == [116, 101, 120, 116, 97, 114, 101, 97])
    · cases b
      · 
        have HF := Lib.hid (FIN1 (by simp [txGo, wantB, hr1, hy, is_textarea, hta]) (by simp [txD, wantB, hr1, hy, is_textarea, hta]) (by simp [endE, hr1, hy, is_textarea, hta]))
        generalize inS2 s [] = S at *
        generalize inP2 s [] = P at *
        go_enter Tryd.func31, Tryd.ntmps31
        go_wp2_with (first
          | (go_at_call 15; rw [← HX.out]; refine (rightC _ (HT.out _ hbr.out) A n c s (HR.out _ hbr.out) hc hc2).mono ?_; rintro e w1 ⟨rfl, hb1⟩; rw [hr1])
          | (go_at_call 53; refine (topC _ (HR.out _ hb1) hnb).mono ?_; rintro e wt ⟨rfl, rfl⟩; rw [hy])
          | (go_at_call 54; refine (groupC _ _).mono ?_; rintro e wg ⟨rfl, rfl⟩)
          | (go_at_call 55; refine (listC _ _).mono ?_; rintro e wl ⟨rfl, rfl⟩)
          | (go_at_call 56; refine (HIN.out w1 hb1).mono ?_; rintro e w2 ⟨rfl, ⟨r', hs2, _⟩, hbI, _, _⟩)
          | (go_at_call 44; refine (planC w2 w1.heap.size w1.heap.size r' S P A n c (HSZ.out w1 w2 hbI) hs2 (by omega) hnb).mono ?_; rintro e w3 ⟨A4, c4, rfl, ho4, hb4⟩; have hbZ := HBZ.out w1 w2 w3 hb1 hbI hb4; have hP := HP.out w3 hbZ; obtain ⟨a0, b0, a1, b1, a2, b2, d0, d1, d2⟩ := pl3 hP (.int .i64 ((n : Int) - (S.length : Int))) (.slice A4 P.length c4) (.bool false)))
        refine bodyPost_ret (v := .tuple #[.agg #[.int .i64 ((n : Int) - (S.length : Int)), .slice A4 P.length c4, .bool false], .int .i64 0]) (by simp [results, Tryd.results31, go_sem, d0, d1, d2]) rfl ?_
        exact HF.out _ w2 _ _ hbZ (HZ0.out w1 w2 hb1 (HSZ.out w1 w2 hbI)) ho4
      · cases h1 : (y.toList == [99, 111, 108, 103, 114, 111, 117, 112])
        · cases h2 : (y.toList == [116, 97, 98, 108, 101])
          · cases h3 : groupB y
            · cases h4 : (y.toList == [116, 114])
              · cases h5 : listB y
                · cases h6 : (y.toList == [100, 108])
                  · 
                    have HF := Lib.hid (FIN1 (by simp [txGo, wantB, hr1, hy, is_textarea, hta, h1, is_colgroup, h2, is_table, h3, h4, is_tr, h5, h6, is_dl]) (by simp [txD, wantB, hr1, hy, is_textarea, hta, h1, is_colgroup, h2, is_table, h3, h4, is_tr, h5, h6, is_dl]) (by simp [endE, hr1, hy, is_textarea, hta, h1, is_colgroup, h2, is_table, h3, h4, is_tr, h5, h6, is_dl]))
                    generalize inS2 s [] = S at *
                    generalize inP2 s [] = P at *
                    go_enter Tryd.func31, Tryd.ntmps31
                    go_wp2_with (first
                      | (go_at_call 15; rw [← HX.out]; refine (rightC _ (HT.out _ hbr.out) A n c s (HR.out _ hbr.out) hc hc2).mono ?_; rintro e w1 ⟨rfl, hb1⟩; rw [hr1])
                      | (go_at_call 53; refine (topC _ (HR.out _ hb1) hnb).mono ?_; rintro e wt ⟨rfl, rfl⟩; rw [hy])
                      | (go_at_call 54; refine (groupC _ _).mono ?_; rintro e wg ⟨rfl, rfl⟩)
                      | (go_at_call 55; refine (listC _ _).mono ?_; rintro e wl ⟨rfl, rfl⟩)
                      | (go_at_call 56; refine (HIN.out w1 hb1).mono ?_; rintro e w2 ⟨rfl, ⟨r', hs2, _⟩, hbI, _, _⟩)
                      | (go_at_call 44; refine (planC w2 w1.heap.size w1.heap.size r' S P A n c (HSZ.out w1 w2 hbI) hs2 (by omega) hnb).mono ?_; rintro e w3 ⟨A4, c4, rfl, ho4, hb4⟩; have hbZ := HBZ.out w1 w2 w3 hb1 hbI hb4; have hP := HP.out w3 hbZ; obtain ⟨a0, b0, a1, b1, a2, b2, d0, d1, d2⟩ := pl3 hP (.int .i64 ((n : Int) - (S.length : Int))) (.slice A4 P.length c4) (.bool false)))
                    refine bodyPost_ret (v := .tuple #[.agg #[.int .i64 ((n : Int) - (S.length : Int)), .slice A4 P.length c4, .bool false], .int .i64 0]) (by simp [results, Tryd.results31, go_sem, d0, d1, d2]) rfl ?_
                    exact HF.out _ w2 _ _ hbZ (HZ0.out w1 w2 hb1 (HSZ.out w1 w2 hbI)) ho4
                  · 
                    have HF := Lib.hid (FIN0 true 0 (by simp [txK, txP, txD, txGo, endE, wantB, hr1, hy, is_textarea, hta, h1, is_colgroup, h2, is_table, h3, h4, is_tr, h5, h6, is_dl]) (by simp [txK, txP, txD, txGo, endE, wantB, hr1, hy, is_textarea, hta, h1, is_colgroup, h2, is_table, h3, h4, is_tr, h5, h6, is_dl]) (by simp [txK, txP, txD, txGo, endE, wantB, hr1, hy, is_textarea, hta, h1, is_colgroup, h2, is_table, h3, h4, is_tr, h5, h6, is_dl]) (by simp [txK, txP, txD, txGo, endE, wantB, hr1, hy, is_textarea, hta, h1, is_colgroup, h2, is_table, h3, h4, is_tr, h5, h6, is_dl]))
                    go_enter Tryd.func31, Tryd.ntmps31
                    go_wp2_with (first
                      | (go_at_call 15; rw [← HX.out]; refine (rightC _ (HT.out _ hbr.out) A n c s (HR.out _ hbr.out) hc hc2).mono ?_; rintro e w1 ⟨rfl, hb1⟩; rw [hr1])
                      | (go_at_call 53; refine (topC _ (HR.out _ hb1) hnb).mono ?_; rintro e wt ⟨rfl, rfl⟩; rw [hy]; have hP := HP.out w1 hb1; obtain ⟨a0, b0, a1, b1, a2, b2, d0, d1, d2⟩ := pl3 hP (.int .i64 0) (.slice none 0 0) (.bool true))
                      | (go_at_call 54; refine (groupC _ _).mono ?_; rintro e wg ⟨rfl, rfl⟩)
                      | (go_at_call 55; refine (listC _ _).mono ?_; rintro e wl ⟨rfl, rfl⟩))
                    refine bodyPost_ret (v := .tuple #[.agg #[.int .i64 0, .slice none 0 0, .bool true], .int .i64 0]) (by simp [results, Tryd.results31, go_sem, d0, d1, d2]) rfl ?_
                    exact HF.out _ hb1
                · 
                  have HF := Lib.hid (FIN0 true 0 (by simp [txK, txP, txD, txGo, endE, wantB, hr1, hy, is_textarea, hta, h1, is_colgroup, h2, is_table, h3, h4, is_tr, h5]) (by simp [txK, txP, txD, txGo, endE, wantB, hr1, hy, is_textarea, hta, h1, is_colgroup, h2, is_table, h3, h4, is_tr, h5]) (by simp [txK, txP, txD, txGo, endE, wantB, hr1, hy, is_textarea, hta, h1, is_colgroup, h2, is_table, h3, h4, is_tr, h5]) (by simp [txK, txP, txD, txGo, endE, wantB, hr1, hy, is_textarea, hta, h1, is_colgroup, h2, is_table, h3, h4, is_tr, h5]))
                  go_enter Tryd.func31, Tryd.ntmps31
                  go_wp2_with (first
                    | (go_at_call 15; rw [← HX.out]; refine (rightC _ (HT.out _ hbr.out) A n c s (HR.out _ hbr.out) hc hc2).mono ?_; rintro e w1 ⟨rfl, hb1⟩; rw [hr1])
                    | (go_at_call 53; refine (topC _ (HR.out _ hb1) hnb).mono ?_; rintro e wt ⟨rfl, rfl⟩; rw [hy]; have hP := HP.out w1 hb1; obtain ⟨a0, b0, a1, b1, a2, b2, d0, d1, d2⟩ := pl3 hP (.int .i64 0) (.slice none 0 0) (.bool true))
                    | (go_at_call 54; refine (groupC _ _).mono ?_; rintro e wg ⟨rfl, rfl⟩)
                    | (go_at_call 55; refine (listC _ _).mono ?_; rintro e wl ⟨rfl, rfl⟩))
                  refine bodyPost_ret (v := .tuple #[.agg #[.int .i64 0, .slice none 0 0, .bool true], .int .i64 0]) (by simp [results, Tryd.results31, go_sem, d0, d1, d2]) rfl ?_
                  exact HF.out _ hb1
              · 
                have HF := Lib.hid (FIN0 true 0 (by simp [txK, txP, txD, txGo, endE, wantB, hr1, hy, is_textarea, hta, h1, is_colgroup, h2, is_table, h3, h4, is_tr]) (by simp [txK, txP, txD, txGo, endE, wantB, hr1, hy, is_textarea, hta, h1, is_colgroup, h2, is_table, h3, h4, is_tr]) (by simp [txK, txP, txD, txGo, endE, wantB, hr1, hy, is_textarea, hta, h1, is_colgroup, h2, is_table, h3, h4, is_tr]) (by simp [txK, txP, txD, txGo, endE, wantB, hr1, hy, is_textarea, hta, h1, is_colgroup, h2, is_table, h3, h4, is_tr]))
                go_enter Tryd.func31, Tryd.ntmps31
                go_wp2_with (first
                  | (go_at_call 15; rw [← HX.out]; refine (rightC _ (HT.out _ hbr.out) A n c s (HR.out _ hbr.out) hc hc2).mono ?_; rintro e w1 ⟨rfl, hb1⟩; rw [hr1])
                  | (go_at_call 53; refine (topC _ (HR.out _ hb1) hnb).mono ?_; rintro e wt ⟨rfl, rfl⟩; rw [hy]; have hP := HP.out w1 hb1; obtain ⟨a0, b0, a1, b1, a2, b2, d0, d1, d2⟩ := pl3 hP (.int .i64 0) (.slice none 0 0) (.bool true))
                  | (go_at_call 54; refine (groupC _ _).mono ?_; rintro e wg ⟨rfl, rfl⟩)
                  | (go_at_call 55; refine (listC _ _).mono ?_; rintro e wl ⟨rfl, rfl⟩))
                refine bodyPost_ret (v := .tuple #[.agg #[.int .i64 0, .slice none 0 0, .bool true], .int .i64 0]) (by simp [results, Tryd.results31, go_sem, d0, d1, d2]) rfl ?_
                exact HF.out _ hb1
            · 
              have HF := Lib.hid (FIN0 true 0 (by simp [txK, txP, txD, txGo, endE, wantB, hr1, hy, is_textarea, hta, h1, is_colgroup, h2, is_table, h3]) (by simp [txK, txP, txD, txGo, endE, wantB, hr1, hy, is_textarea, hta, h1, is_colgroup, h2, is_table, h3]) (by simp [txK, txP, txD, txGo, endE, wantB, hr1, hy, is_textarea, hta, h1, is_colgroup, h2, is_table, h3]) (by simp [txK, txP, txD, txGo, endE, wantB, hr1, hy, is_textarea, hta, h1, is_colgroup, h2, is_table, h3]))
              go_enter Tryd.func31, Tryd.ntmps31
              go_wp2_with (first
                | (go_at_call 15; rw [← HX.out]; refine (rightC _ (HT.out _ hbr.out) A n c s (HR.out _ hbr.out) hc hc2).mono ?_; rintro e w1 ⟨rfl, hb1⟩; rw [hr1])
                | (go_at_call 53; refine (topC _ (HR.out _ hb1) hnb).mono ?_; rintro e wt ⟨rfl, rfl⟩; rw [hy]; have hP := HP.out w1 hb1; obtain ⟨a0, b0, a1, b1, a2, b2, d0, d1, d2⟩ := pl3 hP (.int .i64 0) (.slice none 0 0) (.bool true))
                | (go_at_call 54; refine (groupC _ _).mono ?_; rintro e wg ⟨rfl, rfl⟩)
                | (go_at_call 55; refine (listC _ _).mono ?_; rintro e wl ⟨rfl, rfl⟩))
              refine bodyPost_ret (v := .tuple #[.agg #[.int .i64 0, .slice none 0 0, .bool true], .int .i64 0]) (by simp [results, Tryd.results31, go_sem, d0, d1, d2]) rfl ?_
              exact HF.out _ hb1
          · 
            have HF := Lib.hid (FIN0 true 0 (by simp [txK, txP, txD, txGo, endE, wantB, hr1, hy, is_textarea, hta, h1, is_colgroup, h2, is_table]) (by simp [txK, txP, txD, txGo, endE, wantB, hr1, hy, is_textarea, hta, h1, is_colgroup, h2, is_table]) (by simp [txK, txP, txD, txGo, endE, wantB, hr1, hy, is_textarea, hta, h1, is_colgroup, h2, is_table]) (by simp [txK, txP, txD, txGo, endE, wantB, hr1, hy, is_textarea, hta, h1, is_colgroup, h2, is_table]))
            go_enter Tryd.func31, Tryd.ntmps31
            go_wp2_with (first
              | (go_at_call 15; rw [← HX.out]; refine (rightC _ (HT.out _ hbr.out) A n c s (HR.out _ hbr.out) hc hc2).mono ?_; rintro e w1 ⟨rfl, hb1⟩; rw [hr1])
              | (go_at_call 53; refine (topC _ (HR.out _ hb1) hnb).mono ?_; rintro e wt ⟨rfl, rfl⟩; rw [hy]; have hP := HP.out w1 hb1; obtain ⟨a0, b0, a1, b1, a2, b2, d0, d1, d2⟩ := pl3 hP (.int .i64 0) (.slice none 0 0) (.bool true))
              | (go_at_call 54; refine (groupC _ _).mono ?_; rintro e wg ⟨rfl, rfl⟩)
              | (go_at_call 55; refine (listC _ _).mono ?_; rintro e wl ⟨rfl, rfl⟩))
            refine bodyPost_ret (v := .tuple #[.agg #[.int .i64 0, .slice none 0 0, .bool true], .int .i64 0]) (by simp [results, Tryd.results31, go_sem, d0, d1, d2]) rfl ?_
            exact HF.out _ hb1
        · 
          have HF := Lib.hid (FIN0 true 0 (by simp [txK, txP, txD, txGo, endE, wantB, hr1, hy, is_textarea, hta, h1, is_colgroup]) (by simp [txK, txP, txD, txGo, endE, wantB, hr1, hy, is_textarea, hta, h1, is_colgroup]) (by simp [txK, txP, txD, txGo, endE, wantB, hr1, hy, is_textarea, hta, h1, is_colgroup]) (by simp [txK, txP, txD, txGo, endE, wantB, hr1, hy, is_textarea, hta, h1, is_colgroup]))
          go_enter Tryd.func31, Tryd.ntmps31
          go_wp2_with (first
            | (go_at_call 15; rw [← HX.out]; refine (rightC _ (HT.out _ hbr.out) A n c s (HR.out _ hbr.out) hc hc2).mono ?_; rintro e w1 ⟨rfl, hb1⟩; rw [hr1])
            | (go_at_call 53; refine (topC _ (HR.out _ hb1) hnb).mono ?_; rintro e wt ⟨rfl, rfl⟩; rw [hy]; have hP := HP.out w1 hb1; obtain ⟨a0, b0, a1, b1, a2, b2, d0, d1, d2⟩ := pl3 hP (.int .i64 0) (.slice none 0 0) (.bool true))
            | (go_at_call 54; refine (groupC _ _).mono ?_; rintro e wg ⟨rfl, rfl⟩)
            | (go_at_call 55; refine (listC _ _).mono ?_; rintro e wl ⟨rfl, rfl⟩))
          refine bodyPost_ret (v := .tuple #[.agg #[.int .i64 0, .slice none 0 0, .bool true], .int .i64 0]) (by simp [results, Tryd.results31, go_sem, d0, d1, d2]) rfl ?_
          exact HF.out _ hb1
    · 
      have HF := Lib.hid (FIN0 false 0 (by simp [txK, txP, txD, txGo, endE, wantB, hr1, hy, is_textarea, hta]) (by simp [txK, txP, txD, txGo, endE, wantB, hr1, hy, is_textarea, hta]) (by simp [txK, txP, txD, txGo, endE, wantB, hr1, hy, is_textarea, hta]) (by simp [txK, txP, txD, txGo, endE, wantB, hr1, hy, is_textarea, hta]))
      go_enter Tryd.func31, Tryd.ntmps31
      go_wp2_with (first
        | (go_at_call 15; rw [← HX.out]; refine (rightC _ (HT.out _ hbr.out) A n c s (HR.out _ hbr.out) hc hc2).mono ?_; rintro e w1 ⟨rfl, hb1⟩; rw [hr1])
        | (go_at_call 53; refine (topC _ (HR.out _ hb1) hnb).mono ?_; rintro e wt ⟨rfl, rfl⟩; rw [hy]; have hP := HP.out w1 hb1; obtain ⟨a0, b0, a1, b1, a2, b2, d0, d1, d2⟩ := pl3 hP (.int .i64 0) (.slice none 0 0) (.bool false)))
      refine bodyPost_ret (v := .tuple #[.agg #[.int .i64 0, .slice none 0 0, .bool false], .int .i64 0]) (by simp [results, Tryd.results31, go_sem, d0, d1, d2]) rfl ?_
      exact HF.out _ hb1
end Go.Proofs.YtddgpkdhakjjaaaDoor.Tx
