/- Policies in memory: rules, elements and policies, the call's own and those that are read; the library's functions on lists of texts. -/
import Derived.Test.YteikagdinecfoaaGreatDoorProg
import Derived.Test.YteikagdinecfoaaGreatDoorPd
import Derived.Test.YteikagdinecfoaaGreatDoorStr
import Derived.Test.YteikagdinecfoaaGreatDoorShelf
set_option linter.unusedVariables false
set_option linter.unusedSimpArgs false
namespace Go.Proofs.YteikagdinecfoaaGreatDoor.Pm
open Go.RowKit Lb Gr Pd Fl

def kdW : Kd (List ByteArray) := kdT 9
def fmR : Fm RuleD (List ByteArray) where
  kd := kdW
  sub := (·.words)
  enc r v := [.string r.name, .int .i64 r.kind, v]
  size := 3
  e := 50
  pos := by decide
  len := fun _ _ => rfl
  one := by intro a A n c u hu; simp at hu; rcases hu with rfl | rfl | rfl <;> rfl
def kdR : Kd (List RuleD) := fmR.kind
def fmE : Fm ElD (List RuleD) where
  kd := kdR
  sub := (·.rules)
  enc r v := [.string r.name, v]
  size := 2
  e := 45
  pos := by decide
  len := fun _ _ => rfl
  one := by intro a A n c u hu; simp at hu; rcases hu with rfl | rfl <;> rfl
def kdE : Kd (List ElD) := fmE.kind

theorem infoRule : (Tryz.prog.info? 50).map (fun i => (i.zero, i.size, i.bytes)) = some (some (.agg #[.string ByteArray.empty, .int .i64 0, .slice none 0 0]), 3, 48) := by kernel_rfl
theorem infoEl : (Tryz.prog.info? 45).map (fun i => (i.zero, i.size, i.bytes)) = some (some (.agg #[.string ByteArray.empty, .slice none 0 0]), 2, 40) := by kernel_rfl

/-- a rule, an element, a policy as values -/
def ruV (r : RuleD) (v : Value) : Value := .agg #[.string r.name, .int .i64 r.kind, v]
def elV (e : ElD) (v : Value) : Value := .agg #[.string e.name, v]
/-- the lists' values of a policy -/
structure Vs where
  e : Value
  g : Value
  s : Value
  d : Value
def polV (x : Vs) (p : PolD) : Value := .agg #[x.e, x.g, x.s, .bool p.rel, x.d, .int .i64 p.depth, .int .i64 p.window]
def RdP (w : World) (lo hi : Nat) (x : Vs) (p : PolD) : Prop := kdE.rd w lo hi x.e p.els ∧ kdR.rd w lo hi x.g p.glob ∧ kdW.rd w lo hi x.s p.schemes ∧ kdW.rd w lo hi x.d p.drop
def OwnP (w : World) (B : Nat) (x : Vs) (p : PolD) (F : List Nat) : Prop :=
  ∃ F1 F2 F3 F4, kdE.own w B x.e p.els F1 ∧ kdR.own w B x.g p.glob F2 ∧ kdW.own w B x.s p.schemes F3 ∧ kdW.own w B x.d p.drop F4 ∧ F = F1 ++ (F2 ++ (F3 ++ F4)) ∧ F.Nodup
theorem RdP.stay {w w' : World} {lo hi : Nat} {x : Vs} {p : PolD} (h : RdP w lo hi x p) (hs : ∀ k, lo ≤ k → k < hi → w'.heap[k]? = w.heap[k]?) : RdP w' lo hi x p :=
  ⟨kdE.stay h.1 hs, kdR.stay h.2.1 hs, kdW.stay h.2.2.1 hs, kdW.stay h.2.2.2 hs⟩
theorem RdP.wide {w : World} {lo hi lo' hi' : Nat} {x : Vs} {p : PolD} (h : RdP w lo hi x p) (h1 : lo' ≤ lo) (h2 : hi ≤ hi') : RdP w lo' hi' x p :=
  ⟨kdE.wide h.1 h1 h2, kdR.wide h.2.1 h1 h2, kdW.wide h.2.2.1 h1 h2, kdW.wide h.2.2.2 h1 h2⟩
theorem OwnP.rd {w : World} {B lo hi : Nat} {x : Vs} {p : PolD} {F : List Nat} (h : OwnP w B x p F) (hl : lo ≤ B) (hh : w.heap.size ≤ hi) : RdP w lo hi x p := by
  obtain ⟨F1, F2, F3, F4, h1, h2, h3, h4, _⟩ := h
  exact ⟨kdE.read h1 hl hh, kdR.read h2 hl hh, kdW.read h3 hl hh, kdW.read h4 hl hh⟩
theorem OwnP.low {w : World} {B B' : Nat} {x : Vs} {p : PolD} {F : List Nat} (h : OwnP w B x p F) (hB : B' ≤ B) : OwnP w B' x p F := by
  obtain ⟨F1, F2, F3, F4, h1, h2, h3, h4, hr⟩ := h
  exact ⟨F1, F2, F3, F4, kdE.low h1 hB, kdR.low h2 hB, kdW.low h3 hB, kdW.low h4 hB, hr⟩
theorem OwnP.ge {w : World} {B : Nat} {x : Vs} {p : PolD} {F : List Nat} (h : OwnP w B x p F) : ∀ k ∈ F, B ≤ k ∧ k < w.heap.size := by
  obtain ⟨F1, F2, F3, F4, h1, h2, h3, h4, rfl, hn⟩ := h
  intro k hk
  simp only [List.mem_append] at hk
  rcases hk with hk | hk | hk | hk
  · exact kdE.ge h1 k hk
  · exact kdR.ge h2 k hk
  · exact kdW.ge h3 k hk
  · exact kdW.ge h4 k hk
theorem OwnP.keep {w w' : World} {B : Nat} {x : Vs} {p : PolD} {F : List Nat} (h : OwnP w B x p F) (hsz : w.heap.size ≤ w'.heap.size) (hs : ∀ k ∈ F, w'.heap[k]? = w.heap[k]?) : OwnP w' B x p F := by
  obtain ⟨F1, F2, F3, F4, h1, h2, h3, h4, rfl, hn⟩ := h
  exact ⟨F1, F2, F3, F4, kdE.keep h1 hsz fun k hk => hs k (by simp [hk]), kdR.keep h2 hsz fun k hk => hs k (by simp [hk]), kdW.keep h3 hsz fun k hk => hs k (by simp [hk]), kdW.keep h4 hsz fun k hk => hs k (by simp [hk]), rfl, hn⟩

theorem stay_below {w w' : World} {B lo hi : Nat} (h : Below B w w') (hh : hi ≤ B) : ∀ k, lo ≤ k → k < hi → w'.heap[k]? = w.heap[k]? := fun k _ hk => h.block k (by omega)
/-- what is read stays so behind a call -/
theorem rd_below {β : Type} {K : Kd β} {w w' : World} {lo hi : Nat} {v : Value} {b : β} (h : K.rd w lo hi v b) (hb : Below w.heap.size w w') (hh : hi ≤ w.heap.size) : K.rd w' lo hi v b := K.stay h (stay_below hb hh)
theorem rdW_form {w : World} {lo hi : Nat} {v : Value} {l : List ByteArray} (h : kdW.rd w lo hi v l) : ∃ A c, v = .slice A l.length c ∧ l.length ≤ c ∧ c ≤ maxLen := by
  obtain ⟨A, c, rfl, h1, h2, _⟩ := h
  exact ⟨A, c, rfl, h1, h2⟩
theorem rdW_at {w : World} {lo hi n c : Nat} {A : Option Addr} {l : List ByteArray} (h : kdW.rd w lo hi (.slice A n c) l) {i : Nat} (hi' : i < l.length) : ∃ b off, A = some ⟨b, off, none⟩ ∧ lo ≤ b ∧ b < hi ∧ w.cell? ⟨b, off + i, none⟩ = some (.string l[i]) := by
  obtain ⟨A', c', hv, _, _, h3⟩ := h
  injection hv with e1 e2 e3
  subst e1
  obtain ⟨b, off, rfl, hl, hh, hc⟩ := h3 (by simp; omega)
  exact ⟨b, off, rfl, hl, hh, hc i _ (by simp [List.getElem?_eq_getElem hi'])⟩
theorem rdW_take {w : World} {lo hi n c k : Nat} {A : Option Addr} {l : List ByteArray} (h : kdW.rd w lo hi (.slice A n c) l) (hk : k ≤ l.length) : kdW.rd w lo hi (.slice A k c) (l.take k) := by
  have hn : n = l.length := by obtain ⟨_, _, hv, _⟩ := h; injection hv
  subst hn
  have h2 := Sl2.take h hk k
  show Sl2 w lo hi _ (l.take k).length ((l.take k).map Value.string)
  rw [List.map_take, List.length_take, Nat.min_eq_left hk]
  exact h2
theorem rdW_cells {w : World} {lo hi n c : Nat} {A : Option Addr} {l : List ByteArray} (h : kdW.rd w lo hi (.slice A n c) l) (hp : 0 < l.length) : ∃ b off, A = some ⟨b, off, none⟩ ∧ lo ≤ b ∧ b < hi ∧ ∀ j, j < l.length → w.cell? ⟨b, off + j, none⟩ = some (.string (l.getD j ByteArray.empty)) := by
  obtain ⟨A', c', hv, _, _, h3⟩ := h
  injection hv with e1 e2 e3
  subst e1
  obtain ⟨b, off, rfl, hl, hh, hc⟩ := h3 (by simpa using hp)
  exact ⟨b, off, rfl, hl, hh, fun j hj => hc j _ (by simp [List.getElem?_eq_getElem hj, List.getD])⟩

theorem RdP.form {w : World} {lo hi : Nat} {x : Vs} {p : PolD} (h : RdP w lo hi x p) : ∃ A1 c1 A2 c2 A3 c3 A4 c4, x = ⟨.slice A1 p.els.length c1, .slice A2 p.glob.length c2, .slice A3 p.schemes.length c3, .slice A4 p.drop.length c4⟩ ∧ p.els.length ≤ c1 ∧ c1 ≤ maxLen ∧ p.glob.length ≤ c2 ∧ c2 ≤ maxLen ∧ p.schemes.length ≤ c3 ∧ c3 ≤ maxLen ∧ p.drop.length ≤ c4 ∧ c4 ≤ maxLen := by
  obtain ⟨h1, h2, h3, h4⟩ := h
  obtain ⟨A1, c1, e1, f1, g1⟩ := fmE.rd_form h1
  obtain ⟨A2, c2, e2, f2, g2⟩ := fmR.rd_form h2
  obtain ⟨A3, c3, e3, f3, g3⟩ := rdW_form h3
  obtain ⟨A4, c4, e4, f4, g4⟩ := rdW_form h4
  refine ⟨A1, c1, A2, c2, A3, c3, A4, c4, ?_, f1, g1, f2, g2, f3, g3, f4, g4⟩
  cases x
  simp only at e1 e2 e3 e4
  subst e1 e2 e3 e4
  rfl

/-- slices.Clone at texts -/
theorem libClone {w : World} {lo hi : Nat} {v : Value} {l : List ByteArray} (h : kdW.rd w lo hi v l) (hb : l.length * 16 ≤ 140737488355328) : Calls Tryz.prog 94 #[v] w fun e w' =>
    ∃ u G, e = .returned u ∧ kdW.own w' w.heap.size u l G ∧ Below w.heap.size w w' := by
  obtain ⟨i0, hi0, hz0, hz1, hz2⟩ := info_parts infoStr
  obtain ⟨A, c, rfl, h1, h2, h3⟩ := h
  cases A with
  | none =>
    have hl : l.length = 0 := by
      rcases Nat.eq_zero_or_pos l.length with h0 | h0
      · exact h0
      · obtain ⟨b, off, hA, _⟩ := h3 (by simpa using h0); cases hA
    have hl0 := List.eq_nil_of_length_eq_zero hl
    subst hl0
    refine (Tryz.slices_Clone_nil _ c w).mono ?_
    rintro e w' ⟨rfl, rfl⟩
    exact ⟨_, [], rfl, ⟨World.ownsRow_nil _ _ _ _, rfl⟩, Below.refl _ _⟩
  | some a =>
    by_cases hl : l.length = 0
    · have hl0 := List.eq_nil_of_length_eq_zero hl
      subst hl0
      refine (Tryz.slices_Clone_string_zero a c w).mono ?_
      rintro e w' ⟨u, rfl, ho, hne, hb'⟩
      exact ⟨u, _, rfl, ⟨ho, rfl⟩, hb'⟩
    · obtain ⟨b, off, hA, hl1, hl2, hc⟩ := h3 (by simp; omega)
      injection hA with hA
      subst hA
      refine (Tryz.slices_Clone i0 _ 1 16 hi0 hz0 hz1 hz2 rfl (by decide) (fun w => Tryz.sizeOf9 w) b off l.length c (l.map Value.string) w (by simp) (by omega) hb (fun j u hu => hc j u hu) (by simp [Value.oneCell'])).mono ?_
      rintro e w' ⟨u, rfl, ho, hne, hb'⟩
      exact ⟨u, _, rfl, ⟨ho, rfl⟩, hb'⟩
end Go.Proofs.YteikagdinecfoaaGreatDoor.Pm
