/- Package filter: the memory of a filter; New. Where the policy's lists are no longer than memory. -/
import Derived.Test.YtejpdbiiikcmmaaGreatDoorFi
import Derived.Test.YtejpdbiiikcmmaaGreatDoorCh
import Derived.Deep.RegionHeld
set_option linter.unusedVariables false
set_option linter.unusedSimpArgs false
namespace Go.Proofs.YtejpdbiiikcmmaaGreatDoor.Fi
open Go.RowKit Lb Gr Pd Fl Fpl Kf Mp Is Go.Proofs.YtejpdbiiikcmmaaGreatDoor.Pm Bk Lc Ck Go.Proofs.YtejpdbiiikcmmaaGreatDoor.Lk Ru Co Go.Proofs.YtejpdbiiikcmmaaGreatDoor.Ch
attribute [local go_sem ↓] Go.wp_at_zero Go.wp_at_succ

/-- the blocks from lo to hi are a filter's own, and none of the three that turn -/
structure Off (W : World) (base g em dm lo hi : Nat) : Prop where
  a : base ≤ lo
  b : hi ≤ W.heap.size
  c : g < lo ∨ hi ≤ g
  d : em < lo ∨ hi ≤ em
  e : dm < lo ∨ hi ≤ dm
def filV (em gm dm : Nat) (sv : Value) (p : PolD) (X : ByteArray) (N : Int) : List Value := [.map (some em), .map (some gm), .map (some dm), sv, .bool p.rel, .int .i64 p.window, .string X, .int .i64 N, .bool true]
structure FilD (W : World) (g base em gm dm : Nat) (sv : Value) (E : List (ElD × Nat)) (p : PolD) (X : ByteArray) (N : Int) : Prop where
  blk : Bl W g 76 (filV em gm dm sv p X N)
  low : base ≤ g ∧ base ≤ em ∧ base ≤ dm
  ne : em ≠ g ∧ dm ≠ g ∧ em ≠ dm
  glob : ∃ lo hi, Off W base g em dm lo hi ∧ RulN W lo hi gm p.glob
  sch : ∃ lo hi, Off W base g em dm lo hi ∧ kdW.rd W lo hi sv p.schemes
  emm : MapS W em (E.map fun x => (x.1.name, Value.map (some x.2)))
  eq : E.map (·.1) = p.els
  els : ∀ x ∈ E, ∃ lo hi, Off W base g em dm lo hi ∧ RulN W lo hi x.2 x.1.rules
  dmm : MapS W dm (p.drop.map fun s => (s, Value.bool true))
def Fil (W : World) (g base : Nat) (p : PolD) (X : ByteArray) (N : Int) : Prop := ∃ em gm dm sv E, FilD W g base em gm dm sv E p X N
theorem Off.up {W W' : World} {base g em dm lo hi : Nat} (h : Off W base g em dm lo hi) (hs : W.heap.size ≤ W'.heap.size) : Off W' base g em dm lo hi := ⟨h.a, Nat.le_trans h.b hs, h.c, h.d, h.e⟩
theorem Off.same {W W' : World} {base g em dm lo hi : Nat} (h : Off W base g em dm lo hi) (hk : ∀ k, base ≤ k → k < W.heap.size → k ≠ g → k ≠ em → k ≠ dm → W'.heap[k]? = W.heap[k]?) : ∀ k, lo ≤ k → k < hi → W'.heap[k]? = W.heap[k]? := fun k h1 h2 => by
  have := h.a; have := h.b; have := h.c; have := h.d; have := h.e
  exact hk k (by omega) (by omega) (by omega) (by omega) (by omega)
theorem FilD.move {W W' : World} {g base em gm dm : Nat} {sv : Value} {E E' : List (ElD × Nat)} {p : PolD} {X X' : ByteArray} {N N' : Int} {els' : List ElD} {drop' : List ByteArray} (h : FilD W g base em gm dm sv E p X N)
    (hs : W.heap.size ≤ W'.heap.size) (hk : ∀ k, base ≤ k → k < W.heap.size → k ≠ g → k ≠ em → k ≠ dm → W'.heap[k]? = W.heap[k]?) (hb : Bl W' g 76 (filV em gm dm sv p X' N'))
    (hem : MapS W' em (E'.map fun x => (x.1.name, Value.map (some x.2)))) (hE : E'.map (·.1) = els') (hels : ∀ x ∈ E', x ∈ E ∨ ∃ lo hi, Off W' base g em dm lo hi ∧ RulN W' lo hi x.2 x.1.rules) (hdm : MapS W' dm (drop'.map fun s => (s, Value.bool true))) :
    FilD W' g base em gm dm sv E' { p with els := els', drop := drop' } X' N' := by
  refine ⟨hb, h.low, h.ne, ?_, ?_, hem, hE, fun x hx => ?_, hdm⟩
  · obtain ⟨lo, hi, h1, h2⟩ := h.glob
    exact ⟨lo, hi, h1.up hs, h2.stay (h1.same hk)⟩
  · obtain ⟨lo, hi, h1, h2⟩ := h.sch
    exact ⟨lo, hi, h1.up hs, kdW.stay h2 (h1.same hk)⟩
  · rcases hels x hx with hx | hx
    · obtain ⟨lo, hi, h1, h2⟩ := h.els x hx
      exact ⟨lo, hi, h1.up hs, h2.stay (h1.same hk)⟩
    · exact hx
theorem FilD.below {W W' : World} {g base em gm dm : Nat} {sv : Value} {E : List (ElD × Nat)} {p : PolD} {X : ByteArray} {N : Int} (h : FilD W g base em gm dm sv E p X N) (hb : Below W.heap.size W W') : FilD W' g base em gm dm sv E p X N :=
  h.move hb.size (fun k _ h2 _ _ _ => hb.block k h2) (h.blk.below hb) (h.emm.below hb) h.eq (fun x hx => .inl hx) (h.dmm.below hb)
theorem FilD.low' {W : World} {g base base' em gm dm : Nat} {sv : Value} {E : List (ElD × Nat)} {p : PolD} {X : ByteArray} {N : Int} (h : FilD W g base em gm dm sv E p X N) (hb : base' ≤ base) : FilD W g base' em gm dm sv E p X N := by
  have hl := h.low
  have ho : ∀ {lo hi}, Off W base g em dm lo hi → Off W base' g em dm lo hi := fun k => ⟨Nat.le_trans hb k.a, k.b, k.c, k.d, k.e⟩
  obtain ⟨l1, h1, a1, a2⟩ := h.glob
  obtain ⟨l2, h2, b1, b2⟩ := h.sch
  exact ⟨h.blk, ⟨by omega, by omega, by omega⟩, h.ne, ⟨l1, h1, ho a1, a2⟩, ⟨l2, h2, ho b1, b2⟩, h.emm, h.eq, fun x hx => by obtain ⟨l3, h3, c1, c2⟩ := h.els x hx; exact ⟨l3, h3, ho c1, c2⟩, h.dmm⟩
theorem Fil.below {W W' : World} {g base : Nat} {p : PolD} {X : ByteArray} {N : Int} (h : Fil W g base p X N) (hb : Below W.heap.size W W') : Fil W' g base p X N := by
  obtain ⟨em, gm, dm, sv, E, h⟩ := h
  exact ⟨em, gm, dm, sv, E, h.below hb⟩

/-- a filter under way: what is made of its four parts -/
structure NW (w0 W : World) (p : PolD) (em gm dm : Option Nat) (sv : Option Value) : Prop where
  bel : Below w0.heap.size w0 W
  e1 : ∀ b, em = some b → MapS W b [] ∧ w0.heap.size ≤ b
  d1 : ∀ b, dm = some b → MapS W b [] ∧ w0.heap.size ≤ b
  g1 : ∀ b, gm = some b → ∃ lo hi, w0.heap.size ≤ lo ∧ hi ≤ W.heap.size ∧ RulN W lo hi b p.glob ∧ ∀ x, em = some x ∨ dm = some x → x < lo ∨ hi ≤ x
  s1 : ∀ v, sv = some v → ∃ lo hi, w0.heap.size ≤ lo ∧ hi ≤ W.heap.size ∧ kdW.rd W lo hi v p.schemes ∧ ∀ x, em = some x ∨ dm = some x → x < lo ∨ hi ≤ x
  ed : ∀ a b, em = some a → dm = some b → a ≠ b
theorem NW.keep {w0 W W' : World} {p : PolD} {em gm dm : Option Nat} {sv : Option Value} (h : NW w0 W p em gm dm sv) (hb : Below W.heap.size W W') : NW w0 W' p em gm dm sv := by
  have hs := hb.size
  refine ⟨h.bel.trans (hb.mono h.bel.size), fun b he => ⟨(h.e1 b he).1.below hb, (h.e1 b he).2⟩, fun b he => ⟨(h.d1 b he).1.below hb, (h.d1 b he).2⟩, fun b he => ?_, fun v he => ?_, h.ed⟩
  · obtain ⟨lo, hi, h1, h2, h3, h4⟩ := h.g1 b he
    exact ⟨lo, hi, h1, by omega, h3.stay fun k _ hk => hb.block k (by omega), h4⟩
  · obtain ⟨lo, hi, h1, h2, h3, h4⟩ := h.s1 v he
    exact ⟨lo, hi, h1, by omega, kdW.stay h3 fun k _ hk => hb.block k (by omega), h4⟩
theorem NW.nil (w0 : World) (p : PolD) {W : World} (h : Below w0.heap.size w0 W) : NW w0 W p none none none none := ⟨h, fun _ h => (by cases h), fun _ h => (by cases h), fun _ h => (by cases h), fun _ h => (by cases h), fun _ _ h => (by cases h)⟩
theorem NW.em {w0 W : World} {p : PolD} {gm dm : Option Nat} {sv : Option Value} (h : NW w0 W p none gm dm sv) : NW w0 (W.alloc (.map #[] 0)) p (some W.heap.size) gm dm sv := by
  have hb : Below W.heap.size W (W.alloc (.map #[] 0)) := (Below.refl _ _).alloc (Nat.le_refl _) _
  have k := h.keep hb
  have hsz := h.bel.size
  refine ⟨k.bel, fun b he => ?_, k.d1, fun b he => ?_, fun v he => ?_, fun a b ha hd => ?_⟩
  · injection he with he
    subst he
    exact ⟨MapS.made W, hsz⟩
  · obtain ⟨lo, hi, h1, h2, h3, h4⟩ := h.g1 b he
    refine ⟨lo, hi, h1, by have := hb.size; omega, h3.stay fun k _ hk => hb.block k (by omega), fun x hx => ?_⟩
    rcases hx with hx | hx
    · injection hx with hx; omega
    · exact h4 x (.inr hx)
  · obtain ⟨lo, hi, h1, h2, h3, h4⟩ := h.s1 v he
    refine ⟨lo, hi, h1, by have := hb.size; omega, kdW.stay h3 fun k _ hk => hb.block k (by omega), fun x hx => ?_⟩
    rcases hx with hx | hx
    · injection hx with hx; omega
    · exact h4 x (.inr hx)
  · injection ha with ha
    have := (h.d1 b hd).1.lt
    omega
theorem NW.dm {w0 W : World} {p : PolD} {em gm : Option Nat} {sv : Option Value} (h : NW w0 W p em gm none sv) : NW w0 (W.alloc (.map #[] 0)) p em gm (some W.heap.size) sv := by
  have hb : Below W.heap.size W (W.alloc (.map #[] 0)) := (Below.refl _ _).alloc (Nat.le_refl _) _
  have k := h.keep hb
  have hsz := h.bel.size
  refine ⟨k.bel, k.e1, fun b he => ?_, fun b he => ?_, fun v he => ?_, fun a b ha hd => ?_⟩
  · injection he with he
    subst he
    exact ⟨MapS.made W, hsz⟩
  · obtain ⟨lo, hi, h1, h2, h3, h4⟩ := h.g1 b he
    refine ⟨lo, hi, h1, by have := hb.size; omega, h3.stay fun k _ hk => hb.block k (by omega), fun x hx => ?_⟩
    rcases hx with hx | hx
    · exact h4 x (.inl hx)
    · injection hx with hx; omega
  · obtain ⟨lo, hi, h1, h2, h3, h4⟩ := h.s1 v he
    refine ⟨lo, hi, h1, by have := hb.size; omega, kdW.stay h3 fun k _ hk => hb.block k (by omega), fun x hx => ?_⟩
    rcases hx with hx | hx
    · exact h4 x (.inl hx)
    · injection hx with hx; omega
  · injection hd with hd
    have := (h.e1 a ha).1.lt
    omega
theorem NW.gm {w0 W W' : World} {p : PolD} {em dm : Option Nat} {sv : Option Value} {b : Nat} (h : NW w0 W p em none dm sv) (hb : Below W.heap.size W W') (hr : RulN W' W.heap.size W'.heap.size b p.glob) : NW w0 W' p em (some b) dm sv := by
  have k := h.keep hb
  refine ⟨k.bel, k.e1, k.d1, fun c he => ?_, k.s1, k.ed⟩
  injection he with he
  subst he
  refine ⟨_, _, h.bel.size, Nat.le_refl _, hr, fun x hx => .inl ?_⟩
  rcases hx with hx | hx
  · exact (h.e1 x hx).1.lt
  · exact (h.d1 x hx).1.lt
theorem NW.sv {w0 W W' : World} {p : PolD} {em gm dm : Option Nat} {v : Value} (h : NW w0 W p em gm dm none) (hb : Below W.heap.size W W') (hr : kdW.rd W' W.heap.size W'.heap.size v p.schemes) : NW w0 W' p em gm dm (some v) := by
  have k := h.keep hb
  refine ⟨k.bel, k.e1, k.d1, k.g1, fun c he => ?_, k.ed⟩
  injection he with he
  subst he
  refine ⟨_, _, h.bel.size, Nat.le_refl _, hr, fun x hx => .inl ?_⟩
  rcases hx with hx | hx
  · exact (h.e1 x hx).1.lt
  · exact (h.d1 x hx).1.lt
/-- all four, and the block -/
theorem NW.fil {w0 W : World} {p : PolD} {em gm dm : Nat} {v : Value} (h : NW w0 W p (some em) (some gm) (some dm) (some v)) : FilD (W.alloc (.cells (filV em gm dm v p ByteArray.empty 0).toArray 76)) W.heap.size w0.heap.size em gm dm v [] { p with els := [], drop := [] } ByteArray.empty 0 := by
  have hb : Below W.heap.size W (W.alloc (.cells (filV em gm dm v p ByteArray.empty 0).toArray 76)) := (Below.refl _ _).alloc (Nat.le_refl _) _
  have k := h.keep hb
  have h1 := h.e1 em rfl
  have h2 := h.d1 dm rfl
  have l1 := h1.1.lt
  have l2 := h2.1.lt
  refine ⟨Bl.new W _ _ rfl, ⟨h.bel.size, h1.2, h2.2⟩, ⟨by omega, by omega, h.ed em dm rfl rfl⟩, ?_, ?_, h1.1.below hb, rfl, fun x hx => (by cases hx), h2.1.below hb⟩
  · obtain ⟨lo, hi, a1, a2, a3, a4⟩ := h.g1 gm rfl
    exact ⟨lo, hi, ⟨a1, by have := hb.size; omega, .inr a2, a4 em (.inl rfl), a4 dm (.inr rfl)⟩, a3.stay fun k _ hk => hb.block k (by omega)⟩
  · obtain ⟨lo, hi, a1, a2, a3, a4⟩ := h.s1 v rfl
    exact ⟨lo, hi, ⟨a1, by have := hb.size; omega, .inr a2, a4 em (.inl rfl), a4 dm (.inr rfl)⟩, kdW.stay a3 fun k _ hk => hb.block k (by omega)⟩
end Go.Proofs.YtejpdbiiikcmmaaGreatDoor.Fi
