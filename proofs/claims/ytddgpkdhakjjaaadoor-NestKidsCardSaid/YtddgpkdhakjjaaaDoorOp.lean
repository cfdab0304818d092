/- nest: Open, May; how long what is put in can be. -/
import Derived.Test.YtddgpkdhakjjaaaDoorRt
set_option linter.unusedVariables false
set_option linter.unusedSimpArgs false
namespace Go.Proofs.YtddgpkdhakjjaaaDoor.Op
open Go.RowKit Lb Fl Is Tp Np Wk Wp Wi Wo Pt Oc Go.Proofs.YtddgpkdhakjjaaaDoor.Ask Rt

theorem inP2_len (s p : List ByteArray) : (inP2 s p).length ≤ p.length + 3 := by
  unfold inP2
  have := addN_len (if p = [] then topS (inS2 s p) else topS p)
  simp only [List.length_append]
  omega
theorem ownP_len (pr : ByteArray → Bool) (f : ByteArray → List ByteArray) (s : List ByteArray) (hf : ∀ s, (f s).length ≤ 10) : (ownP pr f s []).length ≤ 20 := by
  unfold ownP
  have h1 := inP2_len (noS s) []
  have h2 := hf s_table
  have h3 := hf (s.getD (tm pr noB s).toNat ⟨#[]⟩)
  simp only [List.length_nil] at h1
  split
  · rw [List.nil_append]; omega
  · rw [List.length_append, List.length_cons]; omega
theorem itP_len (pr : ByteArray → Bool) (x : ByteArray) (s : List ByteArray) : (itP pr x s []).length ≤ 20 := by
  unfold itP
  have h1 := inP2_len s []
  simp only [List.length_nil] at h1
  split
  · simp
  · simp; omega
theorem askP_len (y : ByteArray) (s : List ByteArray) : (askP y s).length ≤ 20 := by
  unfold askP
  split
  · exact ownP_len _ _ _ (by simp [noneF])
  · exact ownP_len _ _ _ cellsF_len
  · exact ownP_len _ _ _ (fun s => by unfold colF; split <;> simp)
  · exact ownP_len _ _ _ (fun s => by unfold trF; split <;> simp)
  · split
    · exact itP_len _ _ _
    · split
      · exact itP_len _ _ _
      · have h1 := inP2_len (aS y s) []
        simp only [List.length_nil] at h1
        omega

/-- a plan's three cells, stored one by one -/
theorem pl3 {W : World} {b : Nat} {u v x : Value} (h : Pl W b u v x) (v0 v1 v2 : Value) :
    W.cell? ⟨b, 0, none⟩ = some u ∧ W.frozen? ⟨b, 0, none⟩ = false ∧ (W.setCell ⟨b, 0, none⟩ v0).cell? ⟨b, 1, none⟩ = some v ∧ (W.setCell ⟨b, 0, none⟩ v0).frozen? ⟨b, 1, none⟩ = false ∧
    ((W.setCell ⟨b, 0, none⟩ v0).setCell ⟨b, 1, none⟩ v1).cell? ⟨b, 2, none⟩ = some x ∧ ((W.setCell ⟨b, 0, none⟩ v0).setCell ⟨b, 1, none⟩ v1).frozen? ⟨b, 2, none⟩ = false ∧
    (((W.setCell ⟨b, 0, none⟩ v0).setCell ⟨b, 1, none⟩ v1).setCell ⟨b, 2, none⟩ v2).cell? ⟨b, 0, none⟩ = some v0 ∧ (((W.setCell ⟨b, 0, none⟩ v0).setCell ⟨b, 1, none⟩ v1).setCell ⟨b, 2, none⟩ v2).cell? ⟨b, 1, none⟩ = some v1 ∧
    (((W.setCell ⟨b, 0, none⟩ v0).setCell ⟨b, 1, none⟩ v1).setCell ⟨b, 2, none⟩ v2).cell? ⟨b, 2, none⟩ = some v2 :=
  have h1 := h.set0 v0
  have h2 := h1.set1 v1
  have h3 := h2.set2 v2
  ⟨h.c0, h.fz 0, h1.c1, h1.fz 1, h2.c2, h2.fz 2, h3.c0, h3.c1, h3.c2⟩
theorem put3 {w W : World} {v0 v1 v2 : Value} {l : List ByteArray} (hb : Below w.heap.size w W) (ho : Fl.Own W (w.heap.size + 1) v1 l) :
    Fl.Own (((W.setCell ⟨w.heap.size, 0, none⟩ v0).setCell ⟨w.heap.size, 1, none⟩ v1).setCell ⟨w.heap.size, 2, none⟩ v2) w.heap.size v1 l ∧ Below w.heap.size w (((W.setCell ⟨w.heap.size, 0, none⟩ v0).setCell ⟨w.heap.size, 1, none⟩ v1).setCell ⟨w.heap.size, 2, none⟩ v2) := by
  have hap : v1.ownBlock ≠ some w.heap.size := by
    intro e
    have := ho.ge _ e
    omega
  exact ⟨((((own_mono ho (Nat.le_succ _)).other' hap).other' hap).other' hap), ((hb.setCell (p := ⟨w.heap.size, 0, none⟩) (Nat.le_refl _) _).setCell (p := ⟨w.heap.size, 1, none⟩) (Nat.le_refl _) _).setCell (p := ⟨w.heap.size, 2, none⟩) (Nat.le_refl _) _⟩

def opE (s : List ByteArray) (y : ByteArray) : Int := if rightB s then (if inS y 15 then 0 else 160) else 161
def opK (s : List ByteArray) (y : ByteArray) : Int := if rightB s && inS y 15 then (s.length : Int) - ((askS y s).length : Int) else 0
def opP (s : List ByteArray) (y : ByteArray) : List ByteArray := if rightB s && inS y 15 then askP y s else []

/-- how a call that gives a plan and an error ends -/
def Gives (w : World) (k : Int) (l : List ByteArray) (d : Bool) (code : Int) (e : Ending) (w' : World) : Prop :=
  ∃ A c, e = .returned (.tuple #[.agg #[.int .i64 k, .slice A l.length c, .bool d], .int .i64 code]) ∧ Fl.Own w' w.heap.size (.slice A l.length c) l ∧ Below w.heap.size w w'

set_option maxHeartbeats 3200000 in
set_option maxRecDepth 100000 in
theorem openC (w : World) (ht : Tab w) (A : Option Addr) (n c : Nat) (s : List ByteArray) (y : ByteArray) (hr : Rd w A n s) (hc : n ≤ c) (hc2 : c ≤ 9223372036854775807) :
    Calls Tryd.prog 19 #[.slice A n c, .string y] w (Gives w (opK s y) (opP s y) false (opE s y)) := by
  obtain ⟨X0, hX0⟩ : ∃ X, X = w.alloc (.cells #[.int .i64 0, .slice none 0 0, .bool false] 33) := ⟨_, rfl⟩
  have hb0 : Below w.heap.size w X0 := hX0 ▸ (Below.refl _ _).alloc (Nat.le_refl _) _
  have hp0 : Pl X0 w.heap.size (.int .i64 0) (.slice none 0 0) (.bool false) := hX0 ▸ Pl.new w _ _ _ _ rfl
  have hs0 : X0.heap.size = w.heap.size + 1 := by rw [hX0]; simp
  have HP : Hid (∀ W, Below X0.heap.size X0 W → Pl W w.heap.size (.int .i64 0) (.slice none 0 0) (.bool false)) := Lib.hid fun W h => hp0.below h
  have HT : Hid (∀ W, Below X0.heap.size X0 W → Tab W) := Lib.hid fun W h => ht.below (seq hb0 h)
  have HR : Hid (∀ W, Below X0.heap.size X0 W → Rd W A n s) := Lib.hid fun W h => hr.below (seq hb0 h)
  have HX := Lib.hid hX0
  have HB0 := Lib.hid hb0
  have hl := Lib.hid hr.1
  have hnb : n ≤ 9223372036854775807 := by omega
  have hbr := Lib.hid (Below.refl X0.heap.size X0)
  cases h1 : rightB s
  · have FIN : ∀ W, Below X0.heap.size X0 W → Gives w (opK s y) (opP s y) false (opE s y) (.returned (.tuple #[.agg #[.int .i64 0, .slice none 0 0, .bool false], .int .i64 161])) (((W.setCell ⟨w.heap.size, 0, none⟩ (.int .i64 0)).setCell ⟨w.heap.size, 1, none⟩ (.slice none 0 0)).setCell ⟨w.heap.size, 2, none⟩ (.bool false)) := by
      intro W h
      have h2 := put3 (v0 := .int .i64 0) (v1 := .slice none 0 0) (v2 := .bool false) (l := []) (seq hb0 h) (Fl.Own.nil _ _)
      unfold opK opP opE
      rw [h1]
      exact ⟨none, 0, rfl, h2.1, h2.2⟩
    generalize Gives w (opK s y) (opP s y) false (opE s y) = Q at FIN ⊢
    have HF := Lib.hid FIN
    clear FIN hb0 hp0 hX0 hs0 hr ht
    go_enter Tryd.func19, Tryd.ntmps19
    go_wp2_with (go_at_call 15; rw [← HX.out]; refine (rightC _ (HT.out _ hbr.out) A n c s (HR.out _ hbr.out) hc hc2).mono ?_; rintro e w1 ⟨rfl, hb1⟩; rw [h1]; have hP := HP.out w1 hb1; obtain ⟨a0, b0, a1, b1, a2, b2, d0, d1, d2⟩ := pl3 hP (.int .i64 0) (.slice none 0 0) (.bool false))
    refine bodyPost_ret (v := .tuple #[.agg #[.int .i64 0, .slice none 0 0, .bool false], .int .i64 161]) (by simp [results, Tryd.results19, go_sem, d0, d1, d2]) rfl ?_
    exact HF.out _ hb1
  · cases h2 : inS y 15
    · have FIN : ∀ W, Below X0.heap.size X0 W → Gives w (opK s y) (opP s y) false (opE s y) (.returned (.tuple #[.agg #[.int .i64 0, .slice none 0 0, .bool false], .int .i64 160])) (((W.setCell ⟨w.heap.size, 0, none⟩ (.int .i64 0)).setCell ⟨w.heap.size, 1, none⟩ (.slice none 0 0)).setCell ⟨w.heap.size, 2, none⟩ (.bool false)) := by
        intro W h
        have h3 := put3 (v0 := .int .i64 0) (v1 := .slice none 0 0) (v2 := .bool false) (l := []) (seq hb0 h) (Fl.Own.nil _ _)
        unfold opK opP opE
        rw [h1, h2]
        exact ⟨none, 0, rfl, h3.1, h3.2⟩
      generalize Gives w (opK s y) (opP s y) false (opE s y) = Q at FIN ⊢
      have HF := Lib.hid FIN
      clear FIN hb0 hp0 hX0 hs0 hr ht
      go_enter Tryd.func19, Tryd.ntmps19
      go_wp2_with (first
        | (go_at_call 15; rw [← HX.out]; refine (rightC _ (HT.out _ hbr.out) A n c s (HR.out _ hbr.out) hc hc2).mono ?_; rintro e w1 ⟨rfl, hb1⟩; rw [h1])
        | (go_at_call 17; refine (nIn y 15 _ (HT.out _ hb1)).mono ?_; rintro e w2 ⟨rfl, hb2⟩; rw [h2]; have hP := HP.out w2 (seq hb1 hb2); obtain ⟨a0, b0, a1, b1, a2, b2, d0, d1, d2⟩ := pl3 hP (.int .i64 0) (.slice none 0 0) (.bool false)))
      refine bodyPost_ret (v := .tuple #[.agg #[.int .i64 0, .slice none 0 0, .bool false], .int .i64 160]) (by simp [results, Tryd.results19, go_sem, d0, d1, d2]) rfl ?_
      exact HF.out _ (seq hb1 hb2)
    · have hpl := askP_len y s
      have FIN : ∀ W W1 A3 c3, Below X0.heap.size X0 W1 → Below W1.heap.size W1 W → Fl.Own W W1.heap.size (.slice A3 (askP y s).length c3) (askP y s) → Gives w (opK s y) (opP s y) false (opE s y) (.returned (.tuple #[.agg #[.int .i64 ((n : Int) - ((askS y s).length : Int)), .slice A3 (askP y s).length c3, .bool false], .int .i64 0])) (((W.setCell ⟨w.heap.size, 0, none⟩ (.int .i64 ((n : Int) - ((askS y s).length : Int)))).setCell ⟨w.heap.size, 1, none⟩ (.slice A3 (askP y s).length c3)).setCell ⟨w.heap.size, 2, none⟩ (.bool false)) := by
        intro W W1 A3 c3 ha hb ho
        have hz := ha.size
        have h3 := put3 (v0 := .int .i64 ((n : Int) - ((askS y s).length : Int))) (v1 := .slice A3 (askP y s).length c3) (v2 := .bool false) (seq (seq hb0 ha) hb) (own_mono ho (by omega))
        unfold opK opP opE
        rw [h1, h2, ← hl.out]
        exact ⟨A3, c3, rfl, h3.1, h3.2⟩
      generalize Gives w (opK s y) (opP s y) false (opE s y) = Q at FIN ⊢
      have HF := Lib.hid FIN
      have HA : Hid (∀ W, Below X0.heap.size X0 W → Calls Tryd.prog 43 #[.slice A n c, .string y] W fun e w' => e = .returned (.pointer (some ⟨W.heap.size, 0, none⟩)) ∧ (∃ r, St w' W.heap.size W.heap.size r (askS y s) (askP y s)) ∧ Below W.heap.size W w') := Lib.hid fun W h => askC W (HT.out W h) A n c s y (HR.out W h) hc hc2
      clear FIN hb0 hp0 hX0 hs0 hr ht
      generalize askS y s = s2 at *
      generalize askP y s = p2 at *
      have hs2 : Hid (s2.length = s2.length) := Lib.hid rfl
      go_enter Tryd.func19, Tryd.ntmps19
      go_wp2_with (first
        | (go_at_call 15; rw [← HX.out]; refine (rightC _ (HT.out _ hbr.out) A n c s (HR.out _ hbr.out) hc hc2).mono ?_; rintro e w1 ⟨rfl, hb1⟩; rw [h1])
        | (go_at_call 17; refine (nIn y 15 _ (HT.out _ hb1)).mono ?_; rintro e w2 ⟨rfl, hb2⟩; rw [h2])
        | (go_at_call 43; refine (HA.out _ (seq hb1 hb2)).mono ?_; rintro e w3 ⟨rfl, ⟨r3, hst⟩, hb3⟩)
        | (go_at_call 44; refine (planC _ _ _ r3 s2 p2 A n c hb3.size hst (by omega) hnb).mono ?_; rintro e w4 ⟨A4, c4, rfl, ho4, hb4⟩; have hP := HP.out w4 (seq (seq (seq hb1 hb2) hb3) hb4); obtain ⟨a0, b0, a1, b1, a2, b2, d0, d1, d2⟩ := pl3 hP (.int .i64 ((n : Int) - (s2.length : Int))) (.slice A4 p2.length c4) (.bool false)))
      refine bodyPost_ret (v := .tuple #[.agg #[.int .i64 ((n : Int) - (s2.length : Int)), .slice A4 p2.length c4, .bool false], .int .i64 0]) (by simp [results, Tryd.results19, go_sem, d0, d1, d2]) rfl ?_
      exact HF.out _ _ _ _ (seq (seq hb1 hb2) hb3) hb4 ho4

set_option maxHeartbeats 3200000 in
set_option maxRecDepth 100000 in
theorem mayC (w : World) (ht : Tab w) (A : Option Addr) (n c : Nat) (s : List ByteArray) (y : ByteArray) (hr : Rd w A n s) (hc : n ≤ c) (hc2 : c ≤ 9223372036854775807) :
    Calls Tryd.prog 20 #[.slice A n c, .string y] w fun e w' => e = .returned (.tuple #[.bool (opE s y == 0 && opK s y == 0 && ((opP s y).length : Int) == 0), .int .i64 (opE s y)]) ∧ Below w.heap.size w w' := by
  have hO := Lib.hid (openC w ht A n c s y hr hc hc2)
  clear hr ht
  generalize opE s y = e1 at *
  generalize opK s y = k1 at *
  generalize opP s y = p1 at *
  cases h1 : e1 == 0 <;> cases h2 : k1 == 0 <;> cases h3 : ((p1.length : Int) == 0)
  all_goals
    go_enter Tryd.func20, Tryd.ntmps20
    go_wp2_with (go_at_call 19; refine hO.out.mono ?_; rintro e w1 ⟨A1, c1, rfl, ho, hb⟩)
    go_ret2
    exact ⟨rfl, hb.alloc hb.size _⟩
end Go.Proofs.YtddgpkdhakjjaaaDoor.Op
