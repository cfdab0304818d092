/- nest.Kids: all names that may stand there. The range over names.All. -/
import Derived.RangeFuncNested
import Derived.RangeFuncBound
import Derived.RangeFuncCalls
import Derived.RangeFuncLeaves
import Derived.Shelf.Abstract
import Derived.Shelf.AbstractIn
import Derived.Shelf.RegionOpen
import Derived.WalkKit
import Derived.OwnWalkIn
import Derived.TacticsInMore
import Derived.LoopNIn
import Derived.LoopIn
import Derived.Maps.OwnIn
import Derived.Laws.EntriesVeiled
import Derived.Test.YtddgpkdhakjjaaaDoorAl
import Derived.Test.YtddgpkdhakjjaaaDoorSp
set_option linter.unusedVariables false
set_option linter.unusedSimpArgs false
namespace Go.Proofs.YtddgpkdhakjjaaaDoor.Ki
open Go.RowKit Go.Shelf Lb Fl Is Tp Np Wk Wp Wi Wo Pt Oc Go.Proofs.YtddgpkdhakjjaaaDoor.Ask Rt Go.Proofs.YtddgpkdhakjjaaaDoor.Op Aw Lt Lw Sp Al Go.Proofs.YtddgpkdhakjjaaaDoor.So

attribute [local go_sem] Oper.semAt_some

/-! what a round keeps: all cells but the box b and the row that stands in it -/
def KpB (b : Nat) (W W' : World) : Prop := W.heap.size ≤ W'.heap.size ∧
  (∀ k o, W.heap[k]? = some o → o.isCells = true → k ≠ b → (∀ v : Value, W.cell? ⟨b, 0, none⟩ = some v → v.ownBlock ≠ some k) → W'.heap[k]? = some o) ∧
  (∀ (v' : Value) k, W'.cell? ⟨b, 0, none⟩ = some v' → v'.ownBlock = some k → (∃ v : Value, W.cell? ⟨b, 0, none⟩ = some v ∧ v.ownBlock = some k) ∨ W.heap.size ≤ k)
theorem kpB_t {b : Nat} {A B C : World} (h : KpB b A B) (g : KpB b B C) : KpB b A C := by
  obtain ⟨h1, h2, h3⟩ := h
  obtain ⟨g1, g2, g3⟩ := g
  refine ⟨Nat.le_trans h1 g1, fun k o hk ho hb hr => ?_, fun v' k hv hk => ?_⟩
  · refine g2 k o (h2 k o hk ho hb hr) ho hb (fun v' hv' e => ?_)
    rcases h3 v' k hv' e with ⟨v, q1, q2⟩ | q
    · exact hr v q1 q2
    · have := (Array.getElem?_eq_some_iff.1 hk).1
      omega
  · rcases g3 v' k hv hk with ⟨v, q1, q2⟩ | q
    · exact h3 v k q1 q2
    · exact .inr (Nat.le_trans h1 q)
theorem kpB_b {b B : Nat} (hb : b < B) (W : World) (l : Nat) (o o' : Obj) (hl : B ≤ l) (h : W.heap[l]? = some o) (hc : o.isCells = false) (_ : o.isWalk = false) : KpB b W (W.putObj l o') := by
  have hne : b ≠ l := by omega
  refine ⟨by simp, fun k o2 hk ho2 _ _ => ?_, fun v' k hv hk => ?_⟩
  · rw [World.putObj_heap_other (fun e => by subst e; rw [h] at hk; cases hk; rw [hc] at ho2; cases ho2)]
    exact hk
  · refine .inl ⟨v', ?_, hk⟩
    rw [← hv]
    unfold World.cell?
    simp only [World.putObj_heap_other hne]
theorem kpB_below {b : Nat} {W W' : World} (hb : b < W.heap.size) (h : Below W.heap.size W W') : KpB b W W' :=
  ⟨h.size, fun k o hk _ _ _ => (h.block k (Array.getElem?_eq_some_iff.1 hk).1).trans hk, fun v' k hv hk => .inl ⟨v', by rw [← hv]; exact (h.cell (p := ⟨b, 0, none⟩) hb).symm, hk⟩⟩
theorem kpB_put {b : Nat} {W W1 W2 : World} {v v' : Value} (hb : b < W.heap.size) (h : Below W.heap.size W W1) (hv : W.cell? ⟨b, 0, none⟩ = some v) (hg : W1.grownBy W2 v.ownBlock) (hr : v'.ownBlock = v.ownBlock ∨ v'.ownBlock = some W1.heap.size)
    (hc : (W2.setCell ⟨b, 0, none⟩ v').cell? ⟨b, 0, none⟩ = some v') : KpB b W (W2.setCell ⟨b, 0, none⟩ v') := by
  refine ⟨by have h1 := h.size; have h2 := hg.size; simp; omega, fun k o hk ho hkb hrow => ?_, fun x k hx hk => ?_⟩
  · have hkl := (Array.getElem?_eq_some_iff.1 hk).1
    rw [Below.heap_setCell W2 ⟨b, 0, none⟩ v' k hkb, hg.block k (by have := h.size; omega) (fun e => hrow v hv e.symm), h.block k hkl]
    exact hk
  · rw [hc] at hx
    cases hx
    rcases hr with e | e
    · exact .inl ⟨v, hv, by rw [← e]; exact hk⟩
    · right
      rw [e] at hk
      cases hk
      exact h.size
def SafeB (b : Nat) (W : World) (g : Nat) : Prop := g ≠ b ∧ ∀ v : Value, W.cell? ⟨b, 0, none⟩ = some v → v.ownBlock ≠ some g
theorem leavesB (b : Nat) : Al.Leaves (KpB b) (SafeB b) := fun W W' hk g o hg ho hs => by
  refine ⟨hk.2.1 g o hg ho hs.1 hs.2, hs.1, fun v' hv' e => ?_⟩
  rcases hk.2.2 v' g hv' e with ⟨v, q1, q2⟩ | q
  · exact hs.2 v q1 q2
  · have := (Array.getElem?_eq_some_iff.1 hg).1
    omega

theorem own_kept {W W' : World} {B : Nat} {v : Value} {l : List ByteArray} {row : Option Nat} (h : Fl.Own W B v l) (hg : W.grownBy W' row) (hr : ∀ r, row = some r → ∃ o : Obj, W.heap[r]? = some o ∧ o.isCells = false) : Fl.Own W' B v l := by
  refine World.ownsRow.kept h hg ?_
  cases hv : v.ownBlock with
  | none => exact .inl rfl
  | some k =>
    refine .inr (fun e => ?_)
    obtain ⟨o, ho, hc⟩ := hr k e.symm
    rcases h.2 with ⟨h1, _⟩ | ⟨g, cap, cur, h1, _, hgg, _⟩
    · rw [h1] at hv; cases hv
    · rw [h1] at hv
      cases hv
      rw [hgg] at ho
      cases ho
      cases hc

theorem own_cells {W : World} {B : Nat} {v : Value} {l : List ByteArray} (h : Fl.Own W B v l) {j : Nat} {o : Obj} (e : v.ownBlock = some j) (ho : W.heap[j]? = some o) : o.isCells = true := by
  rcases h.2 with ⟨h1, _⟩ | ⟨g, cap, cur, h1, _, hgg, _⟩
  · rw [h1] at e; cases e
  · rw [h1] at e
    cases e
    rw [hgg] at ho
    cases ho
    rfl
theorem row_not {W : World} {B b : Nat} {v : Value} {l : List ByteArray} (h : Fl.Own W B v l) (hb : b < B) : some b ≠ v.ownBlock := fun e => by
  have := h.ge b e.symm
  omega
/-! the box of a slice -/
def Bx (W : World) (b : Nat) (v : Value) : Prop := W.heap[b]? = some (.cells #[v] 25 (0, 0))
theorem Bx.c {W : World} {b : Nat} {v : Value} (h : Bx W b v) : W.cell? ⟨b, 0, none⟩ = some v := by simp [World.cell?, show W.heap[b]? = _ from h]
theorem Bx.f {W : World} {b : Nat} {v : Value} (h : Bx W b v) : W.frozen? ⟨b, 0, none⟩ = false := by simp [World.frozen?, show W.heap[b]? = _ from h]
theorem Bx.lt {W : World} {b : Nat} {v : Value} (h : Bx W b v) : b < W.heap.size := (Array.getElem?_eq_some_iff.1 h).1
theorem Bx.below {W W' : World} {b : Nat} {v : Value} (h : Bx W b v) (hb : Below W.heap.size W W') : Bx W' b v := (hb.block b h.lt).trans h
theorem Bx.set {W : World} {b : Nat} {v : Value} (h : Bx W b v) (u : Value) : Bx (W.setCell ⟨b, 0, none⟩ u) b u := by
  unfold Bx at *
  simp [World.setCell, Array.getElem?_modify, h]
theorem Bx.grown {W W' : World} {b : Nat} {v : Value} {row : Option Nat} (h : Bx W b v) (hg : W.grownBy W' row) (hne : some b ≠ row) : Bx W' b v := (hg.block b h.lt hne).trans h
theorem Bx.new (W : World) (v : Value) (b : Nat) (h : W.heap.size = b) : Bx (W.alloc (.cells #[v] 25)) b v := by
  subst h
  exact heap_alloc_new W _

theorem Bx.other {W : World} {b : Nat} {v : Value} (h : Bx W b v) {p : Addr} (hp : b ≠ p.block) (u : Value) : Bx (W.setCell p u) b v := (Below.heap_setCell W p u b hp).trans h
theorem le_box {W W' : World} {b : Nat} (h : b < W.heap.size) (hb : Below W.heap.size W W') (o : Obj) : b + 1 ≤ (W'.alloc o).heap.size := by
  have := hb.size
  simp
  omega
/-- the names that may stand on a stack -/
def kidsL (s : List ByteArray) : List ByteArray := (allL 15).filter fun y => stillB s y
def some_ (s : List ByteArray) (pre : List (Nat × ByteArray)) : List ByteArray := (pre.map fun x => x.2).filter fun y => stillB s y
theorem zip_map (l : List ByteArray) : (zip l l.length).map (fun x => x.2) = l := by
  unfold zip
  rw [List.map_map]
  apply List.ext_getElem
  · simp
  · intro i h1 h2
    simp only [List.length_map, List.length_range] at h1
    simp [List.getElem?_eq_getElem h1]
theorem some_all (s : List ByteArray) : some_ s (zip (allL 15) (allL 15).length) = kidsL s := by unfold some_ kidsL; rw [zip_map]
theorem some_snoc (s : List ByteArray) (pre : List (Nat × ByteArray)) (x : Nat × ByteArray) : some_ s (pre ++ [x]) = some_ s pre ++ (if stillB s x.2 then [x.2] else []) := by
  unfold some_
  rw [List.map_append, List.filter_append]
  congr 1
  simp only [List.map_cons, List.map_nil, List.filter_cons, List.filter_nil]
theorem some_len (s : List ByteArray) (pre : List (Nat × ByteArray)) : (some_ s pre).length ≤ pre.length := by
  unfold some_
  have := List.length_filter_le (fun y => stillB s y) (pre.map fun x => x.2)
  rwa [List.length_map] at this

set_option maxRecDepth 100000 in
set_option maxHeartbeats 4000000 in
theorem kidsC (w : World) (ht : Tab w) (A : Option Addr) (n c : Nat) (s : List ByteArray) (hr : Rd w A n s) (hc : n ≤ c) (hc2 : c ≤ 9223372036854775807) :
    Calls Tryd.prog 35 #[.slice A n c] w fun e w' => if rightB s then (∃ A2 c2, e = .returned (.tuple #[.slice A2 (kidsL s).length c2, .int .i64 0]) ∧ Fl.Own w' w.heap.size (.slice A2 (kidsL s).length c2) (kidsL s) ∧ Below w.heap.size w w')
      else (e = .returned (.tuple #[.slice none 0 0, .int .i64 161]) ∧ Below w.heap.size w w') := by
  obtain ⟨i0, hi, hz0, hz1, hz2⟩ := info_parts infoStr
  have hro : Fence.wide.round = none := rfl
  obtain ⟨X, hX⟩ : ∃ X, X = w.alloc (.cells #[.slice A n c] 25) := ⟨_, rfl⟩
  have hb0 : Below w.heap.size w X := hX ▸ (Below.refl _ _).alloc (Nat.le_refl _) _
  have hx0 : Bx X w.heap.size (.slice A n c) := hX ▸ Bx.new w _ _ rfl
  have HT : Hid (∀ W, Below X.heap.size X W → Tab W) := Lib.hid fun W h => ht.below (seq hb0 h)
  have HST : Hid (∀ W y, Below X.heap.size X W → Calls Tryd.prog 39 #[.slice A n c, .string y] W fun e w' => e = .returned (.bool (stillB s y)) ∧ Below W.heap.size W w') := Lib.hid fun W y h => stillC W (ht.below (seq hb0 h)) A n c s y (hr.below (seq hb0 h)) hc hc2
  have hRC := rightC X (ht.below hb0) A n c s (hr.below hb0) hc hc2
  have HX := Lib.hid hX
  have HB := Lib.hid hb0
  have HX0 := Lib.hid hx0
  have hcl := hx0.c
  clear hX hb0 hx0 hr ht
  have HRC := Lib.hid ((callsIn_wide (n := 8)).2 hRC)
  clear hRC
  refine (callsIn_wide (n := 9)).1 ?_
  refine callsIn_of_wp_marks Tryd.func35 rfl trivial ?_ hro
  simp only [Tryd.ntmps35, List.size_toArray, List.length_cons, List.length_nil, Nat.reduceAdd, Nat.reduceSub, Array.replicate_succ, Array.replicate_zero, List.push_toArray, List.append_toArray, List.nil_append, List.cons_append]
  cases hR : rightB s
  · rw [hR] at HRC
    gi_wp2_with (refine ⟨trivial, ?_⟩; gi_at_call 15; rw [← HX.out]; refine HRC.out.mono ?_; rintro e w1 ⟨rfl, hb1⟩)
    exact ⟨.tuple #[.slice none 0 0, .int .i64 161], by simp [results, Tryd.f35, go_sem], rfl, seq HB.out hb1⟩
  · rw [hR] at HRC
    gi_wp2_with (first
      | (refine ⟨trivial, ?_⟩; gi_at_call 15; rw [← HX.out]; refine HRC.out.mono ?_; rintro e w1 ⟨rfl, hb1⟩)
      | (refine ⟨trivial, ?_⟩; gi_at_call 63; refine (allIn _ (by omega) _ _).mono ?_; rintro e w2 ⟨rfl, rfl⟩))
    have hz01 := HB.out.size
    have hz12 := hb1.size
    have hxl := HX0.out.lt
    obtain ⟨W1, hW1⟩ : ∃ W1, W1 = w1.alloc (.cells #[.slice none 0 0] 25) := ⟨_, rfl⟩
    have hbW1 : Below w1.heap.size w1 W1 := hW1 ▸ (Below.refl _ _).alloc (Nat.le_refl _) _
    have hbx1 : Bx W1 w1.heap.size (.slice none 0 0) := hW1 ▸ Bx.new w1 _ _ rfl
    have hs1 : W1.heap.size = w1.heap.size + 1 := by rw [hW1]; simp
    rw [← hW1]
    clear hW1
    obtain ⟨W0, hW0⟩ : ∃ W0, W0 = W1.alloc (.cells #[.int .i64 15] 30) := ⟨_, rfl⟩
    have hbW0 : Below W1.heap.size W1 W0 := hW0 ▸ (Below.refl _ _).alloc (Nat.le_refl _) _
    have hcs : W0.cell? ⟨w1.heap.size + 1, 0, none⟩ = some (.int .i64 15) := by rw [hW0, ← hs1, World.cell?_alloc_new]; rfl
    have hs0 : W0.heap.size = w1.heap.size + 2 := by rw [hW0]; simp [hs1]
    rw [← hW0]
    clear hW0
    have hbx0 := hbx1.below hbW0
    have hb10 : Below w1.heap.size w1 W0 := hbW1.trans (hbW0.mono (by omega))
    have hbX0 : Below X.heap.size X W0 := seq hb1 hb10
    have hxb0 := HX0.out.below hbX0
    refine wpIn_rangeFunc_ownG hro (by omega) (gf := 79) (lb := #[.pointer (some ⟨w1.heap.size + 1, 0, none⟩)]) rfl trivial (enters_of Tryd.func79 (by kernel_rfl) rfl)
      (allStops 8 (by omega) (w1.heap.size + 1) 15 (KpB w1.heap.size) (SafeB w1.heap.size) (leavesB _) W0 (HT.out _ hbX0) (by omega) hcs (fun W2 h g hg => ⟨by omega, fun v hv e => by
        have h2 := (h.cell (p := ⟨w1.heap.size, 0, none⟩) (by simp; omega)).trans hbx0.c
        rw [hv] at h2
        cases h2
        cases e⟩)) kpB_t (kpB_b (by omega)) (Below.refl _ _) (fun _ => rfl)
      (fun pre W => (Bx W w.heap.size (.slice A n c) ∧ ∃ v, Bx W w1.heap.size v ∧ Fl.Own W (w1.heap.size + 1) v (some_ s pre)) ∧ Below w1.heap.size w1 W)
      (fun cd pre W => False)
      (fun pre W W' row hs hg hrow => ⟨⟨hs.1.1.grown hg (fun e => by have := (hrow _ e.symm).1; omega), by
        obtain ⟨v, h1, h2⟩ := hs.1.2
        exact ⟨v, h1.grown hg (fun e => by have := (hrow _ e.symm).1; omega), own_kept h2 hg (fun r e => (hrow r e).2)⟩⟩, hs.2.grown hg hs.2.size (fun k e => by have := (hrow k e).1; omega)⟩)
      (fun cd pre W W' row hs hg hrow => hs)
      ⟨⟨hxb0, _, hbx0, Fl.Own.nil _ _⟩, hb10⟩
      (fun x => { tmps := #[.slice A n c, .pointer (some ⟨w.heap.size, 0, none⟩), .slice none 0 0, .int .i64 0, .pointer (some ⟨w1.heap.size, 0, none⟩), undef, .string x.2, .slice A n c, .bool true, .bool false, .func (.func 79) #[] #[.pointer (some ⟨w1.heap.size + 1, 0, none⟩)], .int .i64 (x.1 : Int), .string x.2, undef, undef, undef, undef, undef, undef, undef, undef], defers := [] }) ?assign ?body ?done ?stop
    case assign =>
      intro l x W K hK
      gi_wp2
      exact hK
    case body =>
      rintro lp pre x W ⟨⟨hxb, v, hbv, hov⟩, hB⟩ hlen
      have hxc := hxb.c
      have hvc := hbv.c
      have hst := HST.out W x.2 (seq hb1 hB)
      have hWs := hB.size
      have hvl := hbv.lt
      have hlen2 := some_len s pre
      have hall := all_len 15
      cases hy : stillB s x.2
      · rw [hy] at hst
        gi_wp2_with (refine ⟨trivial, (CallsIn.inRound lp (callsIn_wide.2 hst)).mono ?_⟩; rintro e W2 ⟨rfl, hb2⟩)
        refine ⟨(keeps_below hb2).from _, kpB_below hvl hb2, ⟨hxb.below hb2, v, hbv.below hb2, ?_⟩, hB.trans (hb2.mono hWs)⟩
        rw [some_snoc, hy]
        simp only [Bool.false_eq_true, if_false, List.append_nil]
        exact hov.below hb2
      · rw [hy] at hst
        gi_wp2_with (first
          | (refine ⟨trivial, (CallsIn.inRound lp (callsIn_wide.2 hst)).mono ?_⟩; rintro e W2 ⟨rfl, hb2⟩; have hbv2 := hbv.below hb2; have hvc2 := hbv2.c; have hov2 : Fl.Own (W2.alloc (.cells #[.string x.2] 9)) (w1.heap.size + 1) v (some_ s pre) := (hov.below hb2).alloc _; have hzb : w1.heap.size + 1 ≤ (W2.alloc (.cells #[.string x.2] 9)).heap.size := le_box hvl hb2 _)
          | (gi_at_builtin; refine wpListIn_append_own_at _ rfl (.tmp 16) (.tmp 18) 25 rfl (w1.heap.size + 1) 9 i0 (.string ByteArray.empty) 1 16 Tryd.underlying25 hi hz0 hz1 hz2 rfl (by decide) v _ _ rfl hov2 ⟨_, 0, none⟩ 1 1 [.string x.2] rfl rfl (one_new _ _ _) (Lb.one_cell rfl) (by unfold maxLen; omega) (by omega) hzb ?_; intro v9 w9 hown9 hgrow9 hnil9 hrow9; obtain ⟨A9, m9, cc9, hv9⟩ := slice_of hown9; subst hv9; have hbv9 := (hbv2.below ((Below.refl _ _).alloc (Nat.le_refl _) (.cells #[.string x.2] 9))).grown hgrow9 (row_not hov2 (Nat.lt_succ_self _)); have hc9 := hbv9.c; have hf9 := hbv9.f))
        have hset := hbv9.set (.slice A9 m9 cc9)
        have ho9 : Fl.Own w9 (w1.heap.size + 1) (.slice A9 m9 cc9) (some_ s pre ++ [x.2]) := Own.push hown9
        have hb2a := hb2.alloc hb2.size (.cells #[.string x.2] 9)
        refine ⟨(((keeps_below hb2a).trans (KeepsOthers.of_grownBy hgrow9 (fun j o e ho => own_cells hov2 e ho))).trans (KeepsOthers.setCell _ _ _)).from _, kpB_put hvl hb2a hvc hgrow9 hrow9 hset.c, ⟨?_, _, hset, ?_⟩, ?_⟩
        · exact ((hxb.below hb2a).grown hgrow9 (row_not hov2 (by omega))).other (by show w.heap.size ≠ w1.heap.size; omega) _
        · rw [some_snoc, hy]
          simp only [if_true]
          exact ho9.other' (fun e => by have := ho9.ge _ e; simp at this; omega)
        · have h1 := hB.trans (hb2a.mono hWs)
          exact (h1.grown hgrow9 h1.size (fun j hj => by have := hov2.ge j hj; omega)).setCell (p := ⟨w1.heap.size, 0, none⟩) (Nat.le_refl _) _
    case done =>
      rintro D ys W hD rfl ⟨⟨hxb, v, hbv, hov⟩, hB⟩ hK
      rw [some_all] at hov
      have hvc := hbv.c
      gi_wp2
      refine ⟨by simp, .inl ⟨_, _, rfl, run_takeDeferred hK, ?_⟩⟩
      have hog := own_kept hov (grownBy_putObj' W D (.deferred none)) (fun r e => by cases e; exact ⟨_, hK, rfl⟩)
      obtain ⟨A2, c2, rfl⟩ := hov.form
      refine ⟨.tuple #[.slice A2 (kidsL s).length c2, .int .i64 0], by simp [results, Tryd.f35, go_sem], A2, c2, rfl, own_mono hog (by omega), ?_⟩
      have h1 := seq (seq HB.out hb1) hB
      exact h1.trans (belowK_b (w := w) (Nat.le_refl _) W D _ _ (by omega) hK rfl rfl)
    case stop =>
      rintro D cd pre W hD _ hf hK
      exact hf.elim
end Go.Proofs.YtddgpkdhakjjaaaDoor.Ki
