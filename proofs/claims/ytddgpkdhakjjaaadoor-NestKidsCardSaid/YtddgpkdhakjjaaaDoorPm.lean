/- nest: parts, the map of the parts of a table. -/
import Derived.Test.YtddgpkdhakjjaaaDoorPt
import Derived.Test.YtddgpkdhakjjaaaDoorMp
import Derived.Laws.EntriesVeiled
set_option linter.unusedVariables false
set_option linter.unusedSimpArgs false
namespace Go.Proofs.YtddgpkdhakjjaaaDoor.Pm
open Go.RowKit Lb Fl Is Tp Np Wk Wp Wi Wo Pt Mp

def s_caption : ByteArray := ⟨#[99, 97, 112, 116, 105, 111, 110]⟩
def s_thead : ByteArray := ⟨#[116, 104, 101, 97, 100]⟩
def s_tfoot : ByteArray := ⟨#[116, 102, 111, 111, 116]⟩
def s_th : ByteArray := ⟨#[116, 104]⟩
def s_col : ByteArray := ⟨#[99, 111, 108]⟩
def tPart (tb : Nat) : Value := .agg #[.func (.func 76) #[] #[.pointer (some ⟨tb, 0, none⟩)], .func (.func 82) #[] #[]]
def cPart : Value := .agg #[.func (.func 83) #[] #[], .func (.func 84) #[] #[]]
def colPart : Value := .agg #[.func (.func 85) #[] #[], .func (.func 86) #[] #[]]
def trPart : Value := .agg #[.func (.func 87) #[] #[], .func (.func 88) #[] #[]]
def partL (tb : Nat) : List (ByteArray × Value) :=
  [(s_caption, tPart tb), (s_colgroup, tPart tb), (s_thead, tPart tb), (s_tbody, tPart tb), (s_tfoot, tPart tb), (s_td, cPart), (s_th, cPart), (s_col, colPart), (s_tr, trPart)]

structure PB (w0 w : World) (b t c tb : Nat) (L : List (ByteArray × Value)) : Prop where
  m : MapS w b L
  t0 : w.cell? ⟨t, 0, none⟩ = some (.func (.func 76) #[] #[.pointer (some ⟨tb, 0, none⟩)])
  t1 : w.cell? ⟨t, 1, none⟩ = some (.func (.func 82) #[] #[])
  c0 : w.cell? ⟨c, 0, none⟩ = some (.func (.func 83) #[] #[])
  c1 : w.cell? ⟨c, 1, none⟩ = some (.func (.func 84) #[] #[])
  n : w.cell? ⟨tb, 0, none⟩ = some (.string s_table)
  x : b ≠ t ∧ b ≠ c ∧ b ≠ tb ∧ w0.heap.size ≤ b ∧ w0.heap.size ≤ w.heap.size
  z : Below w0.heap.size w0 w
theorem grown_cell {w w' : World} {b : Nat} (hg : w.grownBy w' (some b)) {p : Addr} {u : Value} (hp : b ≠ p.block) (h : w.cell? p = some u) : w'.cell? p = some u := by
  have hlt := World.block_lt_of_cell? w _ h
  have : w'.heap[p.block]? = w.heap[p.block]? := hg.block _ hlt (fun e => hp (by injection e with e; exact e.symm))
  unfold World.cell? at h ⊢
  rw [this]
  exact h
theorem PB.step {w0 w w' : World} {b t c tb : Nat} {L L' : List (ByteArray × Value)} (h : PB w0 w b t c tb L) (hm : MapS w' b L') (hg : w.grownBy w' (some b)) : PB w0 w' b t c tb L' :=
  ⟨hm, grown_cell hg h.x.1 h.t0, grown_cell hg h.x.1 h.t1, grown_cell hg h.x.2.1 h.c0, grown_cell hg h.x.2.1 h.c1, grown_cell hg h.x.2.2.1 h.n,
    ⟨h.x.1, h.x.2.1, h.x.2.2.1, h.x.2.2.2.1, Nat.le_trans h.x.2.2.2.2 hg.size⟩, h.z.grown hg h.x.2.2.2.2 (fun k e => by injection e with e; rw [← e]; exact h.x.2.2.2.1)⟩

theorem new_cell (w : World) (u v : Value) (t : TypeId) (b : Nat) (h : w.heap.size = b) : (w.alloc (.cells #[u, v] t)).cell? ⟨b, 0, none⟩ = some u ∧ (w.alloc (.cells #[u, v] t)).cell? ⟨b, 1, none⟩ = some v := by
  subst h
  exact ⟨World.cell?_alloc_new .., by rw [World.cell?_alloc_at _ _ _ _ rfl]; rfl⟩

set_option maxHeartbeats 6400000 in
set_option maxRecDepth 100000 in
theorem partsC (w : World) : Calls Tryd.prog 71 #[] w fun e w' => ∃ b t c tb, e = .returned (.map (some b)) ∧ PB w w' b t c tb (partL tb) := by
  have hmm := @run_makeMap Tryd.prog
  obtain ⟨n, hn⟩ : ∃ n, w.heap.size = n := ⟨_, rfl⟩
  obtain ⟨X1, hX1⟩ : ∃ X, X = w.alloc (.cells #[.string ⟨#[116, 97, 98, 108, 101]⟩] 9) := ⟨_, rfl⟩
  have sX1 : X1.heap.size = n + 1 := by rw [hX1]; simp [hn]
  have hs1 : X1.cell? ⟨n, 0, none⟩ = some (.string s_table) := by rw [hX1, ← hn, World.cell?_alloc_new]; rfl
  obtain ⟨f1, hf1⟩ : ∃ f, f = Value.func (.func 76) #[] #[.pointer (some ⟨n, 0, none⟩)] := ⟨_, rfl⟩
  obtain ⟨X3, hX3⟩ : ∃ X, X = X1.alloc (.cells #[f1, .func (.func 82) #[] #[]] 88) := ⟨_, rfl⟩
  have hp3 := hX3 ▸ new_cell X1 f1 (.func (.func 82) #[] #[]) 88 _ sX1
  have sX3 : X3.heap.size = n + 1 + 1 := by rw [hX3]; simp [sX1]
  have b13 : Below X1.heap.size X1 X3 := hX3 ▸ (Below.refl _ _).alloc (Nat.le_refl _) _
  obtain ⟨X5, hX5⟩ : ∃ X, X = X3.alloc (.cells #[.func (.func 83) #[] #[], .func (.func 84) #[] #[]] 88) := ⟨_, rfl⟩
  have hp5 := hX5 ▸ new_cell X3 (.func (.func 83) #[] #[]) (.func (.func 84) #[] #[]) 88 _ sX3
  have sX5 : X5.heap.size = n + 1 + 1 + 1 := by rw [hX5]; simp [sX3]
  have b35 : Below X3.heap.size X3 X5 := hX5 ▸ (Below.refl _ _).alloc (Nat.le_refl _) _
  have b01 : Below w.heap.size w X1 := hX1 ▸ (Below.refl _ _).alloc (Nat.le_refl _) _
  obtain ⟨X6, hX6⟩ : ∃ X, X = X5.alloc (.map #[] 0) := ⟨_, rfl⟩
  have b56 : Below X5.heap.size X5 X6 := hX6 ▸ (Below.refl _ _).alloc (Nat.le_refl _) _
  have hm6 : MapS X6 (n + 1 + 1 + 1) [] := by rw [hX6, ← sX5]; exact MapS.made X5
  have b36 := seq b35 b56
  have hu : PB w X6 (n + 1 + 1 + 1) (n + 1) (n + 1 + 1) n [] :=
    ⟨hm6, by rw [← hf1]; exact (b36.cell (p := ⟨n + 1, 0, none⟩) (by show n + 1 < _; omega)).trans hp3.1, (b36.cell (p := ⟨n + 1, 1, none⟩) (by show n + 1 < _; omega)).trans hp3.2,
      (b56.cell (p := ⟨n + 1 + 1, 0, none⟩) (by show n + 1 + 1 < _; omega)).trans hp5.1, (b56.cell (p := ⟨n + 1 + 1, 1, none⟩) (by show n + 1 + 1 < _; omega)).trans hp5.2,
      ((seq b13 b36).cell (p := ⟨n, 0, none⟩) (by show n < _; omega)).trans hs1,
      ⟨by omega, by omega, by omega, by omega, by rw [hX6]; simp; omega⟩, seq b01 (seq b13 b36)⟩
  have FIN : ∀ w' b t c tb, PB w w' b t c tb (partL tb) → ∃ b' t c tb, Ending.returned (.map (some b)) = .returned (.map (some b')) ∧ PB w w' b' t c tb (partL tb) := fun w' b t c tb h => ⟨b, t, c, tb, rfl, h⟩
  have hu := Lib.hid hu
  clear hp3 hp5 b13 b35 b01 b56 b36 hs1 hm6 sX1 sX3 sX5
  subst hX6 hX5 hX3 hf1 hX1 hn
  have HF := Lib.hid FIN
  clear FIN
  go_enter Tryd.func71, Tryd.ntmps71
  go_wp2_with (first
    | (go_at_call 48; refine (namedC _ _).mono ?_; rintro e w1 ⟨rfl, rfl⟩)
    | (refine wpList_insert_new _ rfl (.tmp 8) (.const (.string s_caption)) (.tmp 9) 90 rfl 9 88 Tryd.underlying90 Tryd.underlying9 _ _ s_caption _ rfl hu.out.m rfl rfl (by rfl) ?_; intro w2 hm2 hg2; have hu := Lib.hid (PB.step hu.out hm2 hg2); clear hm2 hg2; have t0 := hu.out.t0; have t1 := hu.out.t1; have c0 := hu.out.c0; have c1 := hu.out.c1)
    | (refine wpList_insert_new _ rfl (.tmp 8) (.const (.string s_colgroup)) (.tmp 10) 90 rfl 9 88 Tryd.underlying90 Tryd.underlying9 _ _ s_colgroup _ rfl hu.out.m rfl rfl (by rfl) ?_; intro w2 hm2 hg2; have hu := Lib.hid (PB.step hu.out hm2 hg2); clear hm2 hg2; have t0 := hu.out.t0; have t1 := hu.out.t1; have c0 := hu.out.c0; have c1 := hu.out.c1)
    | (refine wpList_insert_new _ rfl (.tmp 8) (.const (.string s_thead)) (.tmp 11) 90 rfl 9 88 Tryd.underlying90 Tryd.underlying9 _ _ s_thead _ rfl hu.out.m rfl rfl (by rfl) ?_; intro w2 hm2 hg2; have hu := Lib.hid (PB.step hu.out hm2 hg2); clear hm2 hg2; have t0 := hu.out.t0; have t1 := hu.out.t1; have c0 := hu.out.c0; have c1 := hu.out.c1)
    | (refine wpList_insert_new _ rfl (.tmp 8) (.const (.string s_tbody)) (.tmp 12) 90 rfl 9 88 Tryd.underlying90 Tryd.underlying9 _ _ s_tbody _ rfl hu.out.m rfl rfl (by rfl) ?_; intro w2 hm2 hg2; have hu := Lib.hid (PB.step hu.out hm2 hg2); clear hm2 hg2; have t0 := hu.out.t0; have t1 := hu.out.t1; have c0 := hu.out.c0; have c1 := hu.out.c1)
    | (refine wpList_insert_new _ rfl (.tmp 8) (.const (.string s_tfoot)) (.tmp 13) 90 rfl 9 88 Tryd.underlying90 Tryd.underlying9 _ _ s_tfoot _ rfl hu.out.m rfl rfl (by rfl) ?_; intro w2 hm2 hg2; have hu := Lib.hid (PB.step hu.out hm2 hg2); clear hm2 hg2; have t0 := hu.out.t0; have t1 := hu.out.t1; have c0 := hu.out.c0; have c1 := hu.out.c1)
    | (refine wpList_insert_new _ rfl (.tmp 8) (.const (.string s_td)) (.tmp 14) 90 rfl 9 88 Tryd.underlying90 Tryd.underlying9 _ _ s_td _ rfl hu.out.m rfl rfl (by rfl) ?_; intro w2 hm2 hg2; have hu := Lib.hid (PB.step hu.out hm2 hg2); clear hm2 hg2; have t0 := hu.out.t0; have t1 := hu.out.t1; have c0 := hu.out.c0; have c1 := hu.out.c1)
    | (refine wpList_insert_new _ rfl (.tmp 8) (.const (.string s_th)) (.tmp 15) 90 rfl 9 88 Tryd.underlying90 Tryd.underlying9 _ _ s_th _ rfl hu.out.m rfl rfl (by rfl) ?_; intro w2 hm2 hg2; have hu := Lib.hid (PB.step hu.out hm2 hg2); clear hm2 hg2; have t0 := hu.out.t0; have t1 := hu.out.t1; have c0 := hu.out.c0; have c1 := hu.out.c1)
    | (refine wpList_insert_new _ rfl (.tmp 8) (.const (.string s_col)) (.tmp 16) 90 rfl 9 88 Tryd.underlying90 Tryd.underlying9 _ _ s_col _ rfl hu.out.m rfl rfl (by rfl) ?_; intro w2 hm2 hg2; have hu := Lib.hid (PB.step hu.out hm2 hg2); clear hm2 hg2; have t0 := hu.out.t0; have t1 := hu.out.t1; have c0 := hu.out.c0; have c1 := hu.out.c1)
    | (refine wpList_insert_new _ rfl (.tmp 8) (.const (.string s_tr)) (.tmp 17) 90 rfl 9 88 Tryd.underlying90 Tryd.underlying9 _ _ s_tr _ rfl hu.out.m rfl rfl (by rfl) ?_; intro w2 hm2 hg2; have hu := Lib.hid (PB.step hu.out hm2 hg2); clear hm2 hg2; have t0 := hu.out.t0; have t1 := hu.out.t1; have c0 := hu.out.c0; have c1 := hu.out.c1))
  go_ret
  exact HF.out _ _ _ _ _ hu.out
end Go.Proofs.YtddgpkdhakjjaaaDoor.Pm
