/- Rows of structs that hold rows, plain laws that need no program: who owns which blocks, and what is read. -/
import Derived.Test.YtejpdbiiikcmmaaGreatDoorCm
import Derived.Test.YtejpdbiiikcmmaaGreatDoorProg
import Derived.Test.YtejpdbiiikcmmaaGreatDoorShelf
import Derived.Deep.RegionHeld3
import Derived.Deep.MidRow
import Derived.BigQuiet
import Derived.Deep.QuietTactic
set_option linter.unusedVariables false
namespace Go.Proofs.YtejpdbiiikcmmaaGreatDoor.Gr
open Go.RowKit Lb

/-- but for the blocks F, what lay in w is in w' as it was -/
structure Fr (F : List Nat) (w w' : World) : Prop where
  os : w'.os = w.os
  tape : w'.tape = w.tape
  output : w'.output = w.output
  size : w.heap.size ≤ w'.heap.size
  block : ∀ k, k < w.heap.size → k ∉ F → w'.heap[k]? = w.heap[k]?

theorem Fr.refl (F : List Nat) (w : World) : Fr F w w := ⟨rfl, rfl, rfl, Nat.le_refl _, fun _ _ _ => rfl⟩
theorem Fr.trans {F : List Nat} {a b c : World} (h : Fr F a b) (k : Fr F b c) : Fr F a c :=
  ⟨k.os.trans h.os, k.tape.trans h.tape, k.output.trans h.output, Nat.le_trans h.size k.size, fun i hi hn => (k.block i (Nat.lt_of_lt_of_le hi h.size) hn).trans (h.block i hi hn)⟩
/-- two steps, the second one in blocks of F or new ones -/
theorem Fr.then {F G : List Nat} {a b c : World} (h : Fr F a b) (k : Fr G b c) (hG : ∀ x ∈ G, x ∈ F ∨ a.heap.size ≤ x) : Fr F a c :=
  ⟨k.os.trans h.os, k.tape.trans h.tape, k.output.trans h.output, Nat.le_trans h.size k.size, fun i hi hn => (k.block i (Nat.lt_of_lt_of_le hi h.size) (fun hx => (hG i hx).elim hn (by omega))).trans (h.block i hi hn)⟩
theorem Fr.mono {F G : List Nat} {w w' : World} (h : Fr F w w') (hs : ∀ x ∈ F, x ∈ G) : Fr G w w' :=
  ⟨h.os, h.tape, h.output, h.size, fun k hk hn => h.block k hk (fun hx => hn (hs k hx))⟩
theorem Fr.below {F : List Nat} {w w' : World} {B : Nat} (h : Fr F w w') (hB : B ≤ w.heap.size) (hF : ∀ x ∈ F, B ≤ x) : Below B w w' :=
  ⟨h.os, h.tape, h.output, h.size, fun k hk => h.block k (by omega) (fun hx => by have := hF k hx; omega)⟩
theorem Fr.of_below {F : List Nat} {w w' : World} (h : Below w.heap.size w w') : Fr F w w' := ⟨h.os, h.tape, h.output, h.size, fun k hk _ => h.block k hk⟩
theorem Fr.of_grown {w w' : World} {row : Option Nat} (h : w.grownBy w' row) : Fr row.toList w w' :=
  ⟨h.os, h.tape, h.output, h.size, fun k hk hn => h.block k hk (fun e => hn (by rw [← e]; simp))⟩
theorem Fr.alloc (F : List Nat) (w : World) (o : Obj) : Fr F w (w.alloc o) := ⟨rfl, rfl, rfl, by simp, fun k hk _ => Below.heap_alloc _ _ _ hk⟩
theorem Fr.setCell {F : List Nat} (w : World) (p : Addr) (u : Value) (h : p.block ∈ F ∨ w.heap.size ≤ p.block) : Fr F w (w.setCell p u) :=
  ⟨rfl, rfl, rfl, by simp [World.setCell], fun k hk hn => Below.heap_setCell _ _ _ _ (fun e => h.elim (fun h => hn (e ▸ h)) (by omega))⟩

theorem nod {F G : List Nat} (m : Nat) (hF : F.Nodup) (hG : G.Nodup) (h1 : ∀ k ∈ F, k < m) (h2 : ∀ k ∈ G, m ≤ k) : (F ++ G).Nodup :=
  List.nodup_append.2 ⟨hF, hG, fun a ha b hb e => by have := h1 a ha; have := h2 b hb; omega⟩

/-- a slice of the cells xs, in a block from lo to hi -/
def Sl2 (w : World) (lo hi : Nat) (v : Value) (n : Nat) (xs : List Value) : Prop :=
  ∃ A c, v = .slice A n c ∧ n ≤ c ∧ c ≤ maxLen ∧ (0 < xs.length → ∃ b off, A = some ⟨b, off, none⟩ ∧ lo ≤ b ∧ b < hi ∧ ∀ j u, xs[j]? = some u → w.cell? ⟨b, off + j, none⟩ = some u)
theorem Sl2.stay {w w' : World} {lo hi n : Nat} {v : Value} {xs : List Value} (h : Sl2 w lo hi v n xs) (hs : ∀ b, lo ≤ b → b < hi → w'.heap[b]? = w.heap[b]?) : Sl2 w' lo hi v n xs := by
  obtain ⟨A, c, rfl, h1, h2, h3⟩ := h
  refine ⟨A, c, rfl, h1, h2, fun hp => ?_⟩
  obtain ⟨b, off, rfl, hl, hh, hc⟩ := h3 hp
  exact ⟨b, off, rfl, hl, hh, fun j u hu => (World.cell?_of_block (a := ⟨b, off + j, none⟩) (hs b hl hh)).trans (hc j u hu)⟩
theorem Sl2.wide {w : World} {lo hi lo' hi' n : Nat} {v : Value} {xs : List Value} (h : Sl2 w lo hi v n xs) (h1 : lo' ≤ lo) (h2 : hi ≤ hi') : Sl2 w lo' hi' v n xs := by
  obtain ⟨A, c, rfl, e1, e2, h3⟩ := h
  refine ⟨A, c, rfl, e1, e2, fun hp => ?_⟩
  obtain ⟨b, off, rfl, hl, hh, hc⟩ := h3 hp
  exact ⟨b, off, rfl, by omega, by omega, hc⟩
theorem Sl2.of_own {w : World} {B lo hi : Nat} {e : TypeId} {size : Nat} {v : Value} {n : Nat} {xs : List Value} (h : w.ownsRow B e size v n xs) (hl : lo ≤ B) (hh : w.heap.size ≤ hi) : Sl2 w lo hi v n xs := by
  obtain ⟨hx, h⟩ := h
  rcases h with ⟨rfl, rfl⟩ | ⟨g, cap, cur, rfl, hb, hg, hnc, hcm, hcs, htake⟩
  · exact ⟨none, 0, rfl, Nat.le_refl _, by simp, fun hp => by simp at hx; subst hx; simp at hp⟩
  · have hlt := (Array.getElem?_eq_some_iff.1 hg).1
    refine ⟨_, _, rfl, hnc, hcm, fun _ => ⟨g, 0, rfl, by omega, by omega, fun j u hu => ?_⟩⟩
    rw [Nat.zero_add, cell_of_row w g j cur e (0, 0) hg]
    rw [← htake, List.getElem?_take] at hu
    split at hu
    · simpa using hu
    · cases hu
/-- the first k of it -/
theorem Sl2.take {w : World} {lo hi n c k : Nat} {A : Option Addr} {xs : List Value} (h : Sl2 w lo hi (.slice A n c) n xs) (hk : k ≤ n) (m : Nat) : Sl2 w lo hi (.slice A k c) k (xs.take m) := by
  obtain ⟨A', c', hv, h1, h2, h3⟩ := h
  injection hv with e1 e2 e3
  subst e1 e3
  refine ⟨A, c, rfl, by omega, h2, fun hp => ?_⟩
  obtain ⟨b, off, rfl, hl, hh, hc⟩ := h3 (by simp at hp; omega)
  refine ⟨b, off, rfl, hl, hh, fun j u hu => hc j u ?_⟩
  rw [List.getElem?_take] at hu
  split at hu
  · exact hu
  · cases hu

theorem own_stay {w w' : World} {B : Nat} {e : TypeId} {size : Nat} {v : Value} {n : Nat} {xs : List Value} (h : w.ownsRow B e size v n xs) (hs : ∀ k ∈ v.ownBlock.toList, w'.heap[k]? = w.heap[k]?) : w'.ownsRow B e size v n xs := by
  obtain ⟨hx, h⟩ := h
  refine ⟨hx, ?_⟩
  rcases h with h | ⟨g, cap, cur, rfl, hb, hg, r⟩
  · exact .inl h
  · exact .inr ⟨g, cap, cur, rfl, hb, by rw [hs g (by simp [Value.ownBlock])]; exact hg, r⟩
theorem own_low {w : World} {B B' : Nat} {e : TypeId} {size : Nat} {v : Value} {n : Nat} {xs : List Value} (h : w.ownsRow B e size v n xs) (hB : B' ≤ B) : w.ownsRow B' e size v n xs := by
  obtain ⟨hx, h⟩ := h
  refine ⟨hx, ?_⟩
  rcases h with h | ⟨g, cap, cur, rfl, hb, r⟩
  · exact .inl h
  · exact .inr ⟨g, cap, cur, rfl, by omega, r⟩
theorem own_ge2 {w : World} {B : Nat} {e : TypeId} {size : Nat} {v : Value} {n : Nat} {xs : List Value} (h : w.ownsRow B e size v n xs) : ∀ k ∈ v.ownBlock.toList, B ≤ k ∧ k < w.heap.size :=
  fun k hk => h.lt k (by simpa using hk)
theorem own_slice {w : World} {B : Nat} {e : TypeId} {size : Nat} {v : Value} {n : Nat} {xs : List Value} (h : w.ownsRow B e size v n xs) : ∃ A c, v = .slice A n c ∧ n ≤ c ∧ c ≤ maxLen := by
  rcases h.2 with ⟨rfl, rfl⟩ | ⟨g, cap, cur, rfl, hb, hg, hnc, hcm, r⟩
  · exact ⟨none, 0, rfl, Nat.le_refl _, by simp⟩
  · exact ⟨_, _, rfl, hnc, hcm⟩

/-- a kind of list: when a value is one of the call's own, with the blocks F; when it reads as one -/
structure Kd (β : Type) where
  own : World → Nat → Value → β → List Nat → Prop
  rd : World → Nat → Nat → Value → β → Prop
  keep : ∀ {w w' : World} {B : Nat} {v : Value} {b : β} {F : List Nat}, own w B v b F → w.heap.size ≤ w'.heap.size → (∀ k ∈ F, w'.heap[k]? = w.heap[k]?) → own w' B v b F
  ge : ∀ {w : World} {B : Nat} {v : Value} {b : β} {F : List Nat}, own w B v b F → ∀ k ∈ F, B ≤ k ∧ k < w.heap.size
  nodup : ∀ {w : World} {B : Nat} {v : Value} {b : β} {F : List Nat}, own w B v b F → F.Nodup
  low : ∀ {w : World} {B B' : Nat} {v : Value} {b : β} {F : List Nat}, own w B v b F → B' ≤ B → own w B' v b F
  read : ∀ {w : World} {B lo hi : Nat} {v : Value} {b : β} {F : List Nat}, own w B v b F → lo ≤ B → w.heap.size ≤ hi → rd w lo hi v b
  stay : ∀ {w w' : World} {lo hi : Nat} {v : Value} {b : β}, rd w lo hi v b → (∀ k, lo ≤ k → k < hi → w'.heap[k]? = w.heap[k]?) → rd w' lo hi v b
  wide : ∀ {w : World} {lo hi lo' hi' : Nat} {v : Value} {b : β}, rd w lo hi v b → lo' ≤ lo → hi ≤ hi' → rd w lo' hi' v b
  slice : ∀ {w : World} {lo hi : Nat} {v : Value} {b : β}, rd w lo hi v b → ∃ A n c, v = .slice A n c

/-- a kind of struct with a list in it -/
structure Fm (α β : Type) where
  kd : Kd β
  sub : α → β
  enc : α → Value → List Value
  size : Nat
  e : TypeId
  pos : 0 < size
  len : ∀ a v, (enc a v).length = size
  one : ∀ a A n c, ∀ u ∈ enc a (.slice A n c), u.oneCell' = true

/-- a struct, its list's value, that one's blocks -/
structure It (α : Type) where
  a : α
  v : Value
  G : List Nat

variable {α β : Type}
def Fm.cells (M : Fm α β) (T : List (It α)) : List Value := T.flatMap fun t => M.enc t.a t.v
def outG (T : List (It α)) : List Nat := T.flatMap (·.G)
/-- a row of the call's own -/
def Fm.own (M : Fm α β) (w : World) (B : Nat) (v : Value) (l : List α) (F : List Nat) : Prop :=
  ∃ T : List (It α), T.map (·.a) = l ∧ w.ownsRow B M.e M.size v T.length (M.cells T) ∧ (∀ t ∈ T, M.kd.own w B t.v (M.sub t.a) t.G) ∧ F = v.ownBlock.toList ++ outG T ∧ F.Nodup
/-- a row that is read -/
def Fm.rd (M : Fm α β) (w : World) (lo hi : Nat) (v : Value) (l : List α) : Prop :=
  ∃ T : List (It α), T.map (·.a) = l ∧ Sl2 w lo hi v T.length (M.cells T) ∧ ∀ t ∈ T, M.kd.rd w lo hi t.v (M.sub t.a)

theorem Fm.cells_len (M : Fm α β) (T : List (It α)) : (M.cells T).length = T.length * M.size := by
  induction T with
  | nil => simp [Fm.cells]
  | cons t r ih =>
    have : M.cells (t :: r) = M.enc t.a t.v ++ M.cells r := by simp [Fm.cells]
    rw [this, List.length_append, ih, M.len, List.length_cons, Nat.add_mul, Nat.one_mul, Nat.add_comm]
theorem Fm.cells_app (M : Fm α β) (T U : List (It α)) : M.cells (T ++ U) = M.cells T ++ M.cells U := by simp [Fm.cells]
theorem Fm.cells_one (M : Fm α β) (t : It α) : M.cells [t] = M.enc t.a t.v := by simp [Fm.cells]
theorem Fm.cells_at (M : Fm α β) {T : List (It α)} {i : Nat} {t : It α} (h : T[i]? = some t) {c : Nat} (hc : c < M.size) : (M.cells T)[i * M.size + c]? = (M.enc t.a t.v)[c]? := by
  obtain ⟨hi, rfl⟩ := List.getElem?_eq_some_iff.1 h
  have e : T = T.take i ++ T[i] :: T.drop (i + 1) := by rw [← List.drop_eq_getElem_cons hi, List.take_append_drop]
  generalize ht : T[i] = t at e
  rw [e, show T.take i ++ t :: T.drop (i + 1) = T.take i ++ ([t] ++ T.drop (i + 1)) from rfl, M.cells_app, M.cells_app, M.cells_one]
  have hl : (M.cells (T.take i)).length = i * M.size := by rw [M.cells_len, List.length_take]; congr 1; omega
  rw [List.getElem?_append_right (by omega), hl, Nat.add_sub_cancel_left, List.getElem?_append_left (by rw [M.len]; exact hc)]
theorem Fm.cells_take (M : Fm α β) {T : List (It α)} {k : Nat} (hk : k ≤ T.length) : (M.cells T).take (k * M.size) = M.cells (T.take k) := by
  have hl : (M.cells (T.take k)).length = k * M.size := by rw [M.cells_len, List.length_take]; congr 1; omega
  have h3 : M.cells T = M.cells (T.take k) ++ M.cells (T.drop k) := by rw [← M.cells_app, List.take_append_drop]
  rw [h3]
  exact List.take_left' hl
theorem Fm.cells_drop (M : Fm α β) {T : List (It α)} {k : Nat} (hk : k ≤ T.length) : (M.cells T).drop (k * M.size) = M.cells (T.drop k) := by
  have hl : (M.cells (T.take k)).length = k * M.size := by rw [M.cells_len, List.length_take]; congr 1; omega
  have h3 : M.cells T = M.cells (T.take k) ++ M.cells (T.drop k) := by rw [← M.cells_app, List.take_append_drop]
  rw [h3]
  exact List.drop_left' hl
theorem Fm.cells_one' (M : Fm α β) {w : World} {lo hi : Nat} {T : List (It α)} (h : ∀ t ∈ T, M.kd.rd w lo hi t.v (M.sub t.a)) : ∀ u ∈ M.cells T, u.oneCell' = true := by
  intro u hu
  simp only [Fm.cells, List.mem_flatMap] at hu
  obtain ⟨t, ht, hu⟩ := hu
  obtain ⟨A, n, c, e⟩ := M.kd.slice (h t ht)
  rw [e] at hu
  exact M.one _ _ _ _ u hu

theorem mem_outG {T : List (It α)} {t : It α} (ht : t ∈ T) {k : Nat} (hk : k ∈ t.G) : k ∈ outG T := List.mem_flatMap.2 ⟨t, ht, hk⟩

/-- the kind of list that its rows are -/
def Fm.kind (M : Fm α β) : Kd (List α) where
  own := M.own
  rd := M.rd
  keep := by
    rintro w w' B v l F ⟨T, hT, ho, hs, rfl, hn⟩ hsz hF
    exact ⟨T, hT, own_stay ho fun k hk => hF k (List.mem_append_left _ hk), fun t ht => M.kd.keep (hs t ht) hsz fun k hk => hF k (List.mem_append_right _ (mem_outG ht hk)), rfl, hn⟩
  ge := by
    rintro w B v l F ⟨T, hT, ho, hs, rfl, hn⟩ k hk
    rcases List.mem_append.1 hk with hk | hk
    · exact own_ge2 ho k hk
    · obtain ⟨t, ht, hk⟩ := List.mem_flatMap.1 hk
      exact M.kd.ge (hs t ht) k hk
  nodup := by rintro w B v l F ⟨T, hT, ho, hs, rfl, hn⟩; exact hn
  low := by
    rintro w B B' v l F ⟨T, hT, ho, hs, rfl, hn⟩ hB
    exact ⟨T, hT, own_low ho hB, fun t ht => M.kd.low (hs t ht) hB, rfl, hn⟩
  read := by
    rintro w B lo hi v l F ⟨T, hT, ho, hs, rfl, hn⟩ hl hh
    exact ⟨T, hT, Sl2.of_own ho hl hh, fun t ht => M.kd.read (hs t ht) hl hh⟩
  stay := by
    rintro w w' lo hi v l ⟨T, hT, ho, hs⟩ hb
    exact ⟨T, hT, ho.stay hb, fun t ht => M.kd.stay (hs t ht) hb⟩
  wide := by
    rintro w lo hi lo' hi' v l ⟨T, hT, ho, hs⟩ h1 h2
    exact ⟨T, hT, ho.wide h1 h2, fun t ht => M.kd.wide (hs t ht) h1 h2⟩
  slice := by
    rintro w lo hi v l ⟨T, hT, ⟨A, c, rfl, _⟩, hs⟩
    exact ⟨A, _, c, rfl⟩

theorem Fm.own_nil (M : Fm α β) (w : World) (B : Nat) : M.own w B (.slice none 0 0) [] [] := ⟨[], rfl, World.ownsRow_nil _ _ _ _, by simp, by simp [Value.ownBlock, outG], by simp⟩
theorem Fm.own_form (M : Fm α β) {w : World} {B : Nat} {v : Value} {l : List α} {F : List Nat} (h : M.own w B v l F) : ∃ A c, v = .slice A l.length c ∧ l.length ≤ c ∧ c ≤ maxLen := by
  obtain ⟨T, rfl, ho, _⟩ := h
  rw [List.length_map]
  exact own_slice ho
theorem Fm.rd_form (M : Fm α β) {w : World} {lo hi : Nat} {v : Value} {l : List α} (h : M.rd w lo hi v l) : ∃ A c, v = .slice A l.length c ∧ l.length ≤ c ∧ c ≤ maxLen := by
  obtain ⟨T, rfl, ⟨A, c, hv, h1, h2, _⟩, _⟩ := h
  rw [List.length_map]
  exact ⟨A, c, hv, h1, h2⟩

/-- the i-th struct of a row that is read -/
theorem Fm.rd_at (M : Fm α β) {w : World} {lo hi n c : Nat} {A : Option Addr} {l : List α} (h : M.rd w lo hi (.slice A n c) l) {i : Nat} (hi' : i < l.length) :
    ∃ b off u, A = some ⟨b, off, none⟩ ∧ lo ≤ b ∧ b < hi ∧ M.kd.rd w lo hi u (M.sub l[i]) ∧ ∀ q x, (M.enc l[i] u)[q]? = some x → w.cell? ⟨b, off + (i * M.size + q), none⟩ = some x := by
  obtain ⟨T, rfl, ⟨A', c', hv, h1, h2, h3⟩, hs⟩ := h
  injection hv with e1 e2 e3
  subst e1
  have hT : i < T.length := by simpa using hi'
  have hpos : 0 < (M.cells T).length := by rw [M.cells_len]; exact Nat.mul_pos (by omega) M.pos
  obtain ⟨b, off, rfl, hl, hh, hc⟩ := h3 hpos
  refine ⟨b, off, T[i].v, rfl, hl, hh, ?_, fun q x hx => hc _ _ ?_⟩
  · simpa using hs T[i] (List.getElem_mem _)
  · have hq : q < M.size := by
      have := (List.getElem?_eq_some_iff.1 hx).1
      rw [M.len] at this; exact this
    rw [M.cells_at (List.getElem?_eq_getElem hT) hq]
    simpa using hx
/-- the first k of it -/
theorem Fm.rd_take (M : Fm α β) {w : World} {lo hi n c k : Nat} {A : Option Addr} {l : List α} (h : M.rd w lo hi (.slice A n c) l) (hk : k ≤ l.length) : M.rd w lo hi (.slice A k c) (l.take k) := by
  obtain ⟨T, rfl, hsl, hs⟩ := h
  have hn : n = T.length := by obtain ⟨_, _, hv, _⟩ := hsl; injection hv
  subst hn
  have hk' : k ≤ T.length := by simpa using hk
  refine ⟨T.take k, by simp, ?_, fun t ht => hs t (List.mem_of_mem_take ht)⟩
  have h2 := hsl.take hk' (k * M.size)
  rw [M.cells_take hk'] at h2
  rw [show (T.take k).length = k by simp; omega]
  exact h2
theorem Fm.rd_nil (M : Fm α β) (w : World) (lo hi : Nat) : M.rd w lo hi (.slice none 0 0) [] := ⟨[], rfl, ⟨none, 0, rfl, Nat.le_refl _, by simp, fun h => by simp [Fm.cells] at h⟩, by simp⟩

/-- a row of the call's own, opened: its cells, its places, and how it is put together again -/
theorem Fm.own_push (M : Fm α β) {w w1 : World} {B : Nat} {v v' : Value} {T : List (It α)} {t : It α} (ho : w.ownsRow B M.e M.size v T.length (M.cells T)) (hs : ∀ t ∈ T, M.kd.own w B t.v (M.sub t.a) t.G) (hn : (v.ownBlock.toList ++ outG T).Nodup)
    (ht : M.kd.own w B t.v (M.sub t.a) t.G) (hd : ∀ k ∈ t.G, k ∉ v.ownBlock.toList ++ outG T)
    (h1 : w1.ownsRow B M.e M.size v' (T.length + 1) (M.cells T ++ M.enc t.a t.v)) (hf : Fr v.ownBlock.toList w w1) (hv : v'.ownBlock = v.ownBlock ∨ ∃ k, v'.ownBlock = some k ∧ w.heap.size ≤ k) :
    M.own w1 B v' (T.map (·.a) ++ [t.a]) (v'.ownBlock.toList ++ outG (T ++ [t])) := by
  have hge : ∀ k ∈ outG T, k < w.heap.size := fun k hk => by
    obtain ⟨t', ht', hk'⟩ := List.mem_flatMap.1 hk
    exact (M.kd.ge (hs t' ht') k hk').2
  have hgt := M.kd.ge ht
  rw [List.nodup_append] at hn
  obtain ⟨n1, n2, n3⟩ := hn
  have hkeep : ∀ k, k < w.heap.size → k ∉ v.ownBlock.toList → w1.heap[k]? = w.heap[k]? := hf.block
  refine ⟨T ++ [t], by simp, ?_, ?_, rfl, ?_⟩
  · rw [List.length_append, M.cells_app, M.cells_one]; exact h1
  · intro t' ht'
    rcases List.mem_append.1 ht' with ht' | ht'
    · exact M.kd.keep (hs t' ht') hf.size fun k hk => hkeep k (M.kd.ge (hs t' ht') k hk).2 fun hx => n3 k hx k (mem_outG ht' hk) rfl
    · simp at ht'
      subst ht'
      exact M.kd.keep ht hf.size fun k hk => hkeep k (hgt k hk).2 fun hx => hd k hk (List.mem_append_left _ hx)
  · have e : outG (T ++ [t]) = outG T ++ t.G := by simp [outG]
    rw [e, List.nodup_append]
    refine ⟨by cases v'.ownBlock <;> simp, ?_, ?_⟩
    · rw [List.nodup_append]
      exact ⟨n2, M.kd.nodup ht, fun a ha b hb e => hd b hb (List.mem_append_right _ (e ▸ ha))⟩
    · intro a ha b hb hab
      subst hab
      rcases hv with hv | ⟨k, hv, hk⟩
      · rw [hv] at ha
        rcases List.mem_append.1 hb with hb | hb
        · exact n3 a ha a hb rfl
        · exact hd a hb (List.mem_append_left _ ha)
      · rw [hv] at ha
        simp at ha
        subst ha
        rcases List.mem_append.1 hb with hb | hb
        · have := hge a hb; omega
        · have := (hgt a hb).2; omega

/-- one struct more, behind a call that made its list and a block that held it -/
theorem Fm.push (M : Fm α β) {wr W2 w1 : World} {B : Nat} {v v' : Value} {T : List (It α)} {t : It α} {o : Obj} (ho : wr.ownsRow B M.e M.size v T.length (M.cells T)) (hs : ∀ t ∈ T, M.kd.own wr B t.v (M.sub t.a) t.G) (hn : (v.ownBlock.toList ++ outG T).Nodup)
    (hb : Below wr.heap.size wr W2) (hB : B ≤ wr.heap.size) (ht : M.kd.own W2 wr.heap.size t.v (M.sub t.a) t.G)
    (h1 : w1.ownsRow B M.e M.size v' (T.length + 1) (M.cells T ++ M.enc t.a t.v)) (hg : (W2.alloc o).grownBy w1 v.ownBlock) (hv : v'.ownBlock = v.ownBlock ∨ v'.ownBlock = some (W2.alloc o).heap.size) :
    M.own w1 B v' (T.map (·.a) ++ [t.a]) (v'.ownBlock.toList ++ outG (T ++ [t])) := by
  have hb2 : Below wr.heap.size wr (W2.alloc o) := hb.alloc hb.size o
  have hge := fun k hk => own_ge2 ho k hk
  have hgs : ∀ k ∈ outG T, k < wr.heap.size := fun k hk => by
    obtain ⟨t', ht', hk'⟩ := List.mem_flatMap.1 hk
    exact (M.kd.ge (hs t' ht') k hk').2
  have hgt := M.kd.ge ht
  refine M.own_push (w := W2.alloc o) (own_stay ho fun k hk => hb2.block k (hge k hk).2) (fun t' ht' => M.kd.keep (hs t' ht') hb2.size fun k hk => hb2.block k (M.kd.ge (hs t' ht') k hk).2) hn
    (M.kd.low (M.kd.keep ht (by simp) fun k hk => Below.heap_alloc _ _ _ (hgt k hk).2) hB) (fun k hk hx => ?_) h1 (Fr.of_grown hg) (hv.imp_right fun h => ⟨_, h, Nat.le_refl _⟩)
  have h2 := (hgt k hk).1
  rcases List.mem_append.1 hx with hx | hx
  · have := (hge k hx).2; omega
  · have := hgs k hx; omega

/-- the i-th struct of a row of the call's own; one of its fields and its list turned -/
theorem Fm.own_at (M : Fm α β) {w : World} {B : Nat} {v : Value} {l : List α} {F : List Nat} (h : M.own w B v l F) {i : Nat} (hi : i < l.length) :
    ∃ g cap u G, v = .slice (some ⟨g, 0, none⟩) l.length cap ∧ B ≤ g ∧ g < w.heap.size ∧ M.kd.own w B u (M.sub l[i]) G ∧ g ∈ F ∧ g ∉ G ∧ (∀ k ∈ G, k ∈ F) ∧ (∀ q x, (M.enc l[i] u)[q]? = some x → w.cell? ⟨g, i * M.size + q, none⟩ = some x) ∧ (∀ q, w.frozen? ⟨g, q, none⟩ = false) ∧
      (∀ w' a' u' G', w'.heap[g]? = w.heap[g]? → w.heap.size ≤ w'.heap.size → (∀ k ∈ F, k ∉ G → w'.heap[k]? = w.heap[k]?) → M.kd.own w' B u' (M.sub a') G' → (∀ k ∈ G', k ∈ G ∨ w.heap.size ≤ k) →
        ∀ w2, (w2.heap.size = w'.heap.size) → (∀ k, k ≠ g → w2.heap[k]? = w'.heap[k]?) → (∀ xs, w'.ownsRow B M.e M.size v l.length xs → xs.length = l.length * M.size → w2.ownsRow B M.e M.size v l.length (xs.take (i * M.size) ++ M.enc a' u' ++ xs.drop ((i + 1) * M.size))) →
        ∃ F', M.own w2 B v (l.set i a') F' ∧ ∀ k ∈ F', k ∈ F ∨ k ∈ G') := by
  obtain ⟨T, rfl, ho, hs, rfl, hn⟩ := h
  have hT : i < T.length := by simpa using hi
  rw [List.length_map]
  have ho' := ho
  rcases ho.2 with ⟨_, h0⟩ | ⟨g, cap, cur, rfl, hb, hg, r⟩
  · omega
  obtain ⟨t, ht⟩ : ∃ t, t = T[i] := ⟨_, rfl⟩
  have htm : t ∈ T := by rw [ht]; exact List.getElem_mem _
  have hta : (T.map (·.a))[i] = t.a := by rw [ht]; simp
  have hob : (Value.slice (some ⟨g, 0, none⟩) T.length cap).ownBlock.toList = [g] := rfl
  rw [hob] at hn ⊢
  have hn' := hn
  rw [List.nodup_append] at hn
  obtain ⟨n1, n2, n3⟩ := hn
  have e : T = T.take i ++ t :: T.drop (i + 1) := by rw [ht, ← List.drop_eq_getElem_cons hT, List.take_append_drop]
  have hlt := (Array.getElem?_eq_some_iff.1 hg).1
  have htg := M.kd.ge (hs t htm)
  refine ⟨g, cap, t.v, t.G, rfl, hb, hlt, by rw [hta]; exact hs t htm, by simp, fun hx => n3 g (by simp) g (mem_outG htm hx) rfl, fun k hk => List.mem_append_right _ (mem_outG htm hk), ?_, fun q => ho'.frozenAt q, ?_⟩
  · intro q x hx
    rw [hta] at hx
    have hq : q < M.size := by
      have := (List.getElem?_eq_some_iff.1 hx).1
      rw [M.len] at this; exact this
    rw [ho'.cellAt _ (by have := Nat.mul_le_mul_right M.size (show i + 1 ≤ T.length from hT); rw [Nat.add_mul, Nat.one_mul] at this; omega), M.cells_at (List.getElem?_eq_getElem hT) hq, ← ht]
    exact hx
  · intro w' a' u' G' hg' hsz hkk hs' hG' w2 hs2 hk2 hrow
    have ho1 : w'.ownsRow B M.e M.size (.slice (some ⟨g, 0, none⟩) T.length cap) T.length (M.cells T) := own_stay ho' (fun k hk => by rw [hob] at hk; simp at hk; subst hk; exact hg')
    have ho2 := hrow _ ho1 (M.cells_len T)
    have hcel : (M.cells T).take (i * M.size) ++ M.enc a' u' ++ (M.cells T).drop ((i + 1) * M.size) = M.cells (T.take i ++ ⟨a', u', G'⟩ :: T.drop (i + 1)) := by
      have e1 := M.cells_take (T := T) (k := i) (by omega)
      have e2 := M.cells_drop (T := T) (k := i + 1) (by omega)
      rw [e1, e2, show T.take i ++ (⟨a', u', G'⟩ : It α) :: T.drop (i + 1) = T.take i ++ ([⟨a', u', G'⟩] ++ T.drop (i + 1)) from rfl, M.cells_app, M.cells_app, M.cells_one, List.append_assoc]
    rw [hcel] at ho2
    have hlen : (T.take i ++ (⟨a', u', G'⟩ : It α) :: T.drop (i + 1)).length = T.length := by simp; omega
    have hoe : outG T = outG (T.take i) ++ (t.G ++ outG (T.drop (i + 1))) := by
      conv => lhs; rw [e]
      simp [outG]
    have hon : outG (T.take i ++ (⟨a', u', G'⟩ : It α) :: T.drop (i + 1)) = outG (T.take i) ++ (G' ++ outG (T.drop (i + 1))) := by simp [outG]
    have hgT : ∀ k ∈ outG T, k < w.heap.size := fun k hk => by
      obtain ⟨t', ht', hk'⟩ := List.mem_flatMap.1 hk
      exact (M.kd.ge (hs t' ht') k hk').2
    have hng : ∀ k ∈ G', k ≠ g := fun k hk e => by
      subst e
      rcases hG' k hk with h | h
      · exact n3 k (by simp) k (mem_outG htm h) rfl
      · omega
    have hkeep2 : ∀ t' ∈ T, t' ≠ t ∨ True → (∀ k ∈ t'.G, k ∉ t.G) → M.kd.own w2 B t'.v (M.sub t'.a) t'.G := fun t' ht' _ hd => M.kd.keep (hs t' ht') (by omega) fun k hk' => by
      have hkg : k ≠ g := fun e => by subst e; exact n3 k (by simp) k (mem_outG ht' hk') rfl
      rw [hk2 k hkg]
      exact hkk k (List.mem_append_right _ (mem_outG ht' hk')) (hd k hk')
    rw [hoe, List.nodup_append, List.nodup_append] at n2
    obtain ⟨m1, ⟨m2, m3, m4⟩, m5⟩ := n2
    refine ⟨[g] ++ outG (T.take i ++ (⟨a', u', G'⟩ : It α) :: T.drop (i + 1)), ⟨T.take i ++ (⟨a', u', G'⟩ : It α) :: T.drop (i + 1), ?_, by rw [hlen]; exact ho2, ?_, rfl, ?_⟩, ?_⟩
    · rw [List.set_eq_take_append_cons_drop, if_pos (by simpa using hT)]
      simp [List.map_take, List.map_drop]
    · intro t' ht'
      rcases List.mem_append.1 ht' with ht' | ht'
      · exact hkeep2 t' (List.mem_of_mem_take ht') (.inr trivial) fun k hk1 hk3 => m5 k (mem_outG ht' hk1) k (List.mem_append_left _ hk3) rfl
      · rcases List.mem_cons.1 ht' with rfl | ht'
        · exact M.kd.keep hs' (by omega) fun k hk => hk2 k (hng k hk)
        · exact hkeep2 t' (List.mem_of_mem_drop ht') (.inr trivial) fun k hk1 hk3 => m4 k hk3 k (mem_outG ht' hk1) rfl
    · rw [hon, List.nodup_append]
      refine ⟨by simp, ?_, ?_⟩
      · rw [List.nodup_append, List.nodup_append]
        refine ⟨m1, ⟨M.kd.nodup hs', m3, ?_⟩, ?_⟩
        · intro a ha b hb hab
          subst hab
          rcases hG' a ha with h | h
          · exact m4 a h a hb rfl
          · have := hgT a (by rw [hoe]; simp [hb]); omega
        · intro a ha b hb hab
          subst hab
          rcases List.mem_append.1 hb with hb | hb
          · rcases hG' a hb with h | h
            · exact m5 a ha a (List.mem_append_left _ h) rfl
            · have := hgT a (by rw [hoe]; simp [ha]); omega
          · exact m5 a ha a (List.mem_append_right _ hb) rfl
      · intro a ha b hbb hab
        subst hab
        obtain rfl : a = g := by simpa using ha
        rcases List.mem_append.1 hbb with h9 | h9
        · exact n3 a (by simp) a (by rw [hoe]; simp [h9]) rfl
        · rcases List.mem_append.1 h9 with h9 | h9
          · exact hng a h9 rfl
          · exact n3 a (by simp) a (by rw [hoe]; simp [h9]) rfl
    · intro k hk
      rcases List.mem_append.1 hk with hk | hk
      · exact .inl (List.mem_append_left _ hk)
      · rw [hon] at hk
        rw [hoe]
        rcases List.mem_append.1 hk with hk | hk
        · exact .inl (by simp [hk])
        · rcases List.mem_append.1 hk with hk | hk
          · exact .inr hk
          · exact .inl (by simp [hk])

/-- the row's structs in another order -/
theorem Fm.own_perm (M : Fm α β) {w w' : World} {B : Nat} {v : Value} {T T' : List (It α)} (ho : w'.ownsRow B M.e M.size v T'.length (M.cells T')) (hs : ∀ t ∈ T, M.kd.own w B t.v (M.sub t.a) t.G) (hn : (v.ownBlock.toList ++ outG T).Nodup)
    (hp : T'.Perm T) (hf : Fr v.ownBlock.toList w w') : M.own w' B v (T'.map (·.a)) (v.ownBlock.toList ++ outG T') ∧ ∀ k, k ∈ v.ownBlock.toList ++ outG T' ↔ k ∈ v.ownBlock.toList ++ outG T := by
  have hpo : (outG T').Perm (outG T) := hp.flatMap_right _
  have hn3 := (List.nodup_append.1 hn).2.2
  refine ⟨⟨T', rfl, ho, fun t ht => ?_, rfl, (List.Perm.append_left _ hpo).nodup_iff.2 hn⟩, fun k => (List.Perm.append_left _ hpo).mem_iff⟩
  have ht' := hp.mem_iff.1 ht
  exact M.kd.keep (hs t ht') hf.size fun k hk => hf.block k (M.kd.ge (hs t ht') k hk).2 fun hx => hn3 k hx k (mem_outG ht' hk) rfl

/-- lists of texts, as a kind -/
def kdT (e : TypeId) : Kd (List ByteArray) where
  own w B v l F := w.ownsRow B e 1 v l.length (l.map Value.string) ∧ F = v.ownBlock.toList
  rd w lo hi v l := Sl2 w lo hi v l.length (l.map Value.string)
  keep := by rintro w w' B v l F ⟨h, rfl⟩ hsz hF; exact ⟨own_stay h hF, rfl⟩
  ge := by rintro w B v l F ⟨h, rfl⟩; exact own_ge2 h
  nodup := by rintro w B v l F ⟨h, rfl⟩; cases v.ownBlock <;> simp
  low := by rintro w B B' v l F ⟨h, rfl⟩ hB; exact ⟨own_low h hB, rfl⟩
  read := by rintro w B lo hi v l F ⟨h, rfl⟩ hl hh; exact Sl2.of_own h hl hh
  stay := fun h hb => h.stay hb
  wide := fun h h1 h2 => h.wide h1 h2
  slice := by rintro w lo hi v l ⟨A, c, rfl, _⟩; exact ⟨A, _, c, rfl⟩
end Go.Proofs.YtejpdbiiikcmmaaGreatDoor.Gr

/- Policies as plain data: what the functions say of them. No program in sight. -/
set_option linter.unusedVariables false
namespace Go.Proofs.YtejpdbiiikcmmaaGreatDoor.Pd
open Go.RowKit Lb

structure RuleD where
  name : ByteArray
  kind : Int
  words : List ByteArray
structure ElD where
  name : ByteArray
  rules : List RuleD
structure PolD where
  els : List ElD
  glob : List RuleD
  schemes : List ByteArray
  rel : Bool
  drop : List ByteArray
  depth : Int
  window : Int
instance : Inhabited RuleD := ⟨⟨ByteArray.empty, 0, []⟩⟩
instance : Inhabited ElD := ⟨⟨ByteArray.empty, []⟩⟩
instance : Inhabited PolD := ⟨⟨[], [], [], false, [], 0, 0⟩⟩

/-- is a text in a list -/
def hasT (l : List ByteArray) (s : ByteArray) : Bool := l.any fun x => decide (x = s)
theorem hasT_iff {l : List ByteArray} {s : ByteArray} : hasT l s = true ↔ s ∈ l := by
  unfold hasT
  rw [List.any_eq_true]
  constructor
  · rintro ⟨x, hx, he⟩; rw [decide_eq_true_iff] at he; exact he ▸ hx
  · intro h; exact ⟨s, h, by simp⟩
/-- has a list of elements a name -/
def hasE (l : List ElD) (s : ByteArray) : Bool := l.any fun e => decide (e.name = s)
theorem hasE_map (l : List ElD) (s : ByteArray) : hasE l s = hasT (l.map (·.name)) s := by simp [hasE, hasT, List.any_map, Function.comp_def]
def hasR (l : List RuleD) (s : ByteArray) : Bool := l.any fun r => decide (r.name = s)

/-- may a word be -/
def okW (c : UInt8) : Bool := decide (33 ≤ c.toNat) && decide (c.toNat ≤ 126)
def wordB (w : ByteArray) : Bool := decide (1 ≤ w.size) && decide (w.size ≤ 100) && w.data.toList.all okW

def barT : ByteArray := str [97, 99, 116, 105, 111, 110, 32, 102, 111, 114, 109, 97, 99, 116, 105, 111, 110, 32, 105, 115, 32, 110, 111, 110, 99, 101, 32, 112, 105, 110, 103, 32, 115, 108, 111, 116, 32, 115, 114, 99, 100, 111, 99, 32, 115, 114, 99, 115, 101, 116, 32, 115, 116, 121, 108, 101, 32, 120, 109, 108, 110, 115]
def linkT : ByteArray := str [98, 97, 99, 107, 103, 114, 111, 117, 110, 100, 32, 99, 105, 116, 101, 32, 104, 114, 101, 102, 32, 108, 111, 110, 103, 100, 101, 115, 99, 32, 112, 111, 115, 116, 101, 114, 32, 115, 114, 99]
/-- may a rule be behind those of a list -/
def evt (l : List UInt8) : Bool := Lib.hasPrefix (lowL l) [111, 110]
def kindB (r : RuleD) : Bool := decide (0 ≤ r.kind) && decide (r.kind < 9)
def ruleB (l : List RuleD) (r : RuleD) : Bool :=
  wrt true r.name.data.toList && !evt r.name.data.toList && !hasT (fieldsS barT) r.name && !hasR l r.name && kindB r && !(hasT (fieldsS linkT) r.name && decide (r.kind ≠ 5)) && (decide (r.kind = 7) == decide (0 < r.words.length)) && r.words.all wordB
def rulesFrom : List RuleD → List RuleD → Bool
  | _, [] => true
  | l, r :: t => ruleB l r && rulesFrom (l ++ [r]) t
def rulesB (l : List RuleD) : Bool := rulesFrom [] l
theorem rules_no {l : List RuleD} {k : Nat} (h : k < l.length) (hb : ruleB (l.take k) l[k] = false) : rulesFrom (l.take k) (l.drop k) = false := by
  rw [List.drop_eq_getElem_cons h, rulesFrom, hb]; rfl
theorem rules_go {l : List RuleD} {k : Nat} (h : k < l.length) (hb : ruleB (l.take k) l[k] = true) : rulesFrom (l.take k) (l.drop k) = rulesFrom (l.take (k + 1)) (l.drop (k + 1)) := by
  rw [List.drop_eq_getElem_cons h, rulesFrom, hb, List.take_succ_eq_append_getElem h]; rfl
theorem rules_end {l : List RuleD} {k : Nat} (h : l.length ≤ k) : rulesFrom (l.take k) (l.drop k) = true := by
  rw [List.drop_of_length_le h]; rfl

/-- what an element needs, as a text -/
def needsT (n : ByteArray) : ByteArray :=
  if n = str [108, 105] then str [117, 108]
  else if n = str [117, 108] then str [108, 105]
  else if n = str [111, 108] then str [108, 105]
  else if n = str [109, 101, 110, 117] then str [108, 105]
  else if n = str [100, 116] then str [100, 100, 32, 100, 108]
  else if n = str [100, 100] then str [100, 108]
  else if n = str [100, 108] then str [100, 100]
  else if n = str [116, 97, 98, 108, 101] then str [116, 98, 111, 100, 121, 32, 116, 100, 32, 116, 114]
  else if n = str [99, 97, 112, 116, 105, 111, 110] then str [116, 97, 98, 108, 101, 32, 116, 98, 111, 100, 121, 32, 116, 100, 32, 116, 114]
  else if n = str [99, 111, 108, 103, 114, 111, 117, 112] then str [116, 97, 98, 108, 101, 32, 116, 98, 111, 100, 121, 32, 116, 100, 32, 116, 114]
  else if n = str [116, 104, 101, 97, 100] then str [116, 97, 98, 108, 101, 32, 116, 98, 111, 100, 121, 32, 116, 100, 32, 116, 114]
  else if n = str [116, 102, 111, 111, 116] then str [116, 97, 98, 108, 101, 32, 116, 98, 111, 100, 121, 32, 116, 100, 32, 116, 114]
  else if n = str [116, 104] then str [116, 97, 98, 108, 101, 32, 116, 98, 111, 100, 121, 32, 116, 100, 32, 116, 114]
  else if n = str [116, 98, 111, 100, 121] then str [116, 97, 98, 108, 101, 32, 116, 100, 32, 116, 114]
  else if n = str [116, 114] then str [116, 97, 98, 108, 101, 32, 116, 98, 111, 100, 121, 32, 116, 100]
  else if n = str [116, 100] then str [116, 97, 98, 108, 101, 32, 116, 98, 111, 100, 121, 32, 116, 114]
  else if n = str [99, 111, 108] then str [99, 111, 108, 103, 114, 111, 117, 112, 32, 116, 97, 98, 108, 101, 32, 116, 98, 111, 100, 121, 32, 116, 100, 32, 116, 114]
  else str []
def needsL (n : ByteArray) : List ByteArray := fieldsS (needsT n)

/-- which error the elements give: 0, none -/
def elsFrom (inA : ByteArray → Bool) : List ElD → List ElD → Int
  | _, [] => 0
  | l, e :: t => if inA e.name = false ∨ hasE l e.name = true then 140 else if rulesB e.rules = false then 141 else elsFrom inA (l ++ [e]) t
theorem els_bad {inA : ByteArray → Bool} {l : List ElD} {k : Nat} (h : k < l.length) (hb : inA l[k].name = false ∨ hasE (l.take k) l[k].name = true) : elsFrom inA (l.take k) (l.drop k) = 140 := by
  rw [List.drop_eq_getElem_cons h, elsFrom, if_pos hb]
theorem els_rules {inA : ByteArray → Bool} {l : List ElD} {k : Nat} (h : k < l.length) (hi : inA l[k].name = true) (hh : hasE (l.take k) l[k].name = false) (hb : rulesB l[k].rules = false) : elsFrom inA (l.take k) (l.drop k) = 141 := by
  rw [List.drop_eq_getElem_cons h, elsFrom, if_neg (by simp [hi, hh]), if_pos hb]
theorem els_go {inA : ByteArray → Bool} {l : List ElD} {k : Nat} (h : k < l.length) (hi : inA l[k].name = true) (hh : hasE (l.take k) l[k].name = false) (hb : rulesB l[k].rules = true) : elsFrom inA (l.take k) (l.drop k) = elsFrom inA (l.take (k + 1)) (l.drop (k + 1)) := by
  rw [List.drop_eq_getElem_cons h, elsFrom, if_neg (by simp [hi, hh]), if_neg (by simp [hb]), List.take_succ_eq_append_getElem h]
theorem els_end {inA : ByteArray → Bool} {l : List ElD} {k : Nat} (h : l.length ≤ k) : elsFrom inA (l.take k) (l.drop k) = 0 := by
  rw [List.drop_of_length_le h]; rfl

/-- a list in which no text that is wrong stands, and none twice -/
def onceFrom (ok : ByteArray → Bool) : List ByteArray → List ByteArray → Bool
  | _, [] => true
  | l, s :: t => ok s && !hasT l s && onceFrom ok (l ++ [s]) t
theorem once_no {ok : ByteArray → Bool} {l : List ByteArray} {k : Nat} (h : k < l.length) (hb : ok l[k] = false ∨ hasT (l.take k) l[k] = true) : onceFrom ok (l.take k) (l.drop k) = false := by
  rw [List.drop_eq_getElem_cons h]; rcases hb with hb | hb <;> simp [onceFrom, hb]
theorem once_go {ok : ByteArray → Bool} {l : List ByteArray} {k : Nat} (h : k < l.length) (hb : ok l[k] = true) (hh : hasT (l.take k) l[k] = false) : onceFrom ok (l.take k) (l.drop k) = onceFrom ok (l.take (k + 1)) (l.drop (k + 1)) := by
  rw [List.drop_eq_getElem_cons h, onceFrom, hb, hh, List.take_succ_eq_append_getElem h]; rfl
theorem once_end {ok : ByteArray → Bool} {l : List ByteArray} {k : Nat} (h : l.length ≤ k) : onceFrom ok (l.take k) (l.drop k) = true := by
  rw [List.drop_of_length_le h]; rfl

/-- how many things there are -/
def wordsN (l : List RuleD) : Nat := (l.map fun r => r.words.length).sum
def elsN (l : List ElD) : Nat := (l.map fun e => e.rules.length + wordsN e.rules).sum
def thingsN (p : PolD) : Nat := p.els.length + p.glob.length + p.schemes.length + p.drop.length + wordsN p.glob + elsN p.els

/-- small letters, in rising order, each once -/
def onceL : List ByteArray → List ByteArray
  | [] => []
  | [x] => [x]
  | x :: y :: t => if x = y then onceL (y :: t) else x :: onceL (y :: t)

end Go.Proofs.YtejpdbiiikcmmaaGreatDoor.Pd

/- Policies in memory: rules, elements and policies, the call's own and those that are read; the library's functions on lists of texts. -/
set_option linter.unusedVariables false
set_option linter.unusedSimpArgs false
namespace Go.Proofs.YtejpdbiiikcmmaaGreatDoor.Pm
open Go.RowKit Lb Gr Pd Fl

def kdW : Kd (List ByteArray) := kdT 9
def fmR : Fm RuleD (List ByteArray) where
  kd := kdW
  sub := (·.words)
  enc r v := [.string r.name, .int .i64 r.kind, v]
  size := 3
  e := 51
  pos := by decide
  len := fun _ _ => rfl
  one := by intro a A n c u hu; simp at hu; rcases hu with rfl | rfl | rfl <;> rfl
def kdR : Kd (List RuleD) := fmR.kind
def fmE : Fm ElD (List RuleD) where
  kd := kdR
  sub := (·.rules)
  enc r v := [.string r.name, v]
  size := 2
  e := 59
  pos := by decide
  len := fun _ _ => rfl
  one := by intro a A n c u hu; simp at hu; rcases hu with rfl | rfl <;> rfl
def kdE : Kd (List ElD) := fmE.kind

theorem infoRule : (Tryz.prog.info? 51).map (fun i => (i.zero, i.size, i.bytes)) = some (some (.agg #[.string ByteArray.empty, .int .i64 0, .slice none 0 0]), 3, 48) := by kernel_rfl
theorem infoEl : (Tryz.prog.info? 59).map (fun i => (i.zero, i.size, i.bytes)) = some (some (.agg #[.string ByteArray.empty, .slice none 0 0]), 2, 40) := by kernel_rfl

/-- a rule, an element, a policy as values -/
def ruV (r : RuleD) (v : Value) : Value := .agg #[.string r.name, .int .i64 r.kind, v]
def elV (e : ElD) (v : Value) : Value := .agg #[.string e.name, v]
/-- the lists' values of a policy -/
structure Vs where
  e : Value
  g : Value
  s : Value
  d : Value
def polV (x : Vs) (p : PolD) : Value := .agg #[x.e, x.g, x.s, .bool p.rel, x.d, .int .i64 p.depth, .int .i64 p.window]
def RdP (w : World) (lo hi : Nat) (x : Vs) (p : PolD) : Prop := kdE.rd w lo hi x.e p.els ∧ kdR.rd w lo hi x.g p.glob ∧ kdW.rd w lo hi x.s p.schemes ∧ kdW.rd w lo hi x.d p.drop
def OwnP (w : World) (B : Nat) (x : Vs) (p : PolD) (F : List Nat) : Prop :=
  ∃ F1 F2 F3 F4, kdE.own w B x.e p.els F1 ∧ kdR.own w B x.g p.glob F2 ∧ kdW.own w B x.s p.schemes F3 ∧ kdW.own w B x.d p.drop F4 ∧ F = F1 ++ (F2 ++ (F3 ++ F4)) ∧ F.Nodup
theorem RdP.stay {w w' : World} {lo hi : Nat} {x : Vs} {p : PolD} (h : RdP w lo hi x p) (hs : ∀ k, lo ≤ k → k < hi → w'.heap[k]? = w.heap[k]?) : RdP w' lo hi x p :=
  ⟨kdE.stay h.1 hs, kdR.stay h.2.1 hs, kdW.stay h.2.2.1 hs, kdW.stay h.2.2.2 hs⟩
theorem RdP.wide {w : World} {lo hi lo' hi' : Nat} {x : Vs} {p : PolD} (h : RdP w lo hi x p) (h1 : lo' ≤ lo) (h2 : hi ≤ hi') : RdP w lo' hi' x p :=
  ⟨kdE.wide h.1 h1 h2, kdR.wide h.2.1 h1 h2, kdW.wide h.2.2.1 h1 h2, kdW.wide h.2.2.2 h1 h2⟩
theorem OwnP.rd {w : World} {B lo hi : Nat} {x : Vs} {p : PolD} {F : List Nat} (h : OwnP w B x p F) (hl : lo ≤ B) (hh : w.heap.size ≤ hi) : RdP w lo hi x p := by
  obtain ⟨F1, F2, F3, F4, h1, h2, h3, h4, _⟩ := h
  exact ⟨kdE.read h1 hl hh, kdR.read h2 hl hh, kdW.read h3 hl hh, kdW.read h4 hl hh⟩
theorem OwnP.low {w : World} {B B' : Nat} {x : Vs} {p : PolD} {F : List Nat} (h : OwnP w B x p F) (hB : B' ≤ B) : OwnP w B' x p F := by
  obtain ⟨F1, F2, F3, F4, h1, h2, h3, h4, hr⟩ := h
  exact ⟨F1, F2, F3, F4, kdE.low h1 hB, kdR.low h2 hB, kdW.low h3 hB, kdW.low h4 hB, hr⟩
theorem OwnP.ge {w : World} {B : Nat} {x : Vs} {p : PolD} {F : List Nat} (h : OwnP w B x p F) : ∀ k ∈ F, B ≤ k ∧ k < w.heap.size := by
  obtain ⟨F1, F2, F3, F4, h1, h2, h3, h4, rfl, hn⟩ := h
  intro k hk
  simp only [List.mem_append] at hk
  rcases hk with hk | hk | hk | hk
  · exact kdE.ge h1 k hk
  · exact kdR.ge h2 k hk
  · exact kdW.ge h3 k hk
  · exact kdW.ge h4 k hk
theorem OwnP.keep {w w' : World} {B : Nat} {x : Vs} {p : PolD} {F : List Nat} (h : OwnP w B x p F) (hsz : w.heap.size ≤ w'.heap.size) (hs : ∀ k ∈ F, w'.heap[k]? = w.heap[k]?) : OwnP w' B x p F := by
  obtain ⟨F1, F2, F3, F4, h1, h2, h3, h4, rfl, hn⟩ := h
  exact ⟨F1, F2, F3, F4, kdE.keep h1 hsz fun k hk => hs k (by simp [hk]), kdR.keep h2 hsz fun k hk => hs k (by simp [hk]), kdW.keep h3 hsz fun k hk => hs k (by simp [hk]), kdW.keep h4 hsz fun k hk => hs k (by simp [hk]), rfl, hn⟩

theorem stay_below {w w' : World} {B lo hi : Nat} (h : Below B w w') (hh : hi ≤ B) : ∀ k, lo ≤ k → k < hi → w'.heap[k]? = w.heap[k]? := fun k _ hk => h.block k (by omega)
/-- what is read stays so behind a call -/
theorem rd_below {β : Type} {K : Kd β} {w w' : World} {lo hi : Nat} {v : Value} {b : β} (h : K.rd w lo hi v b) (hb : Below w.heap.size w w') (hh : hi ≤ w.heap.size) : K.rd w' lo hi v b := K.stay h (stay_below hb hh)
theorem rdW_form {w : World} {lo hi : Nat} {v : Value} {l : List ByteArray} (h : kdW.rd w lo hi v l) : ∃ A c, v = .slice A l.length c ∧ l.length ≤ c ∧ c ≤ maxLen := by
  obtain ⟨A, c, rfl, h1, h2, _⟩ := h
  exact ⟨A, c, rfl, h1, h2⟩
theorem rdW_at {w : World} {lo hi n c : Nat} {A : Option Addr} {l : List ByteArray} (h : kdW.rd w lo hi (.slice A n c) l) {i : Nat} (hi' : i < l.length) : ∃ b off, A = some ⟨b, off, none⟩ ∧ lo ≤ b ∧ b < hi ∧ w.cell? ⟨b, off + i, none⟩ = some (.string l[i]) := by
  obtain ⟨A', c', hv, _, _, h3⟩ := h
  injection hv with e1 e2 e3
  subst e1
  obtain ⟨b, off, rfl, hl, hh, hc⟩ := h3 (by simp; omega)
  exact ⟨b, off, rfl, hl, hh, hc i _ (by simp [List.getElem?_eq_getElem hi'])⟩
theorem rdW_take {w : World} {lo hi n c k : Nat} {A : Option Addr} {l : List ByteArray} (h : kdW.rd w lo hi (.slice A n c) l) (hk : k ≤ l.length) : kdW.rd w lo hi (.slice A k c) (l.take k) := by
  have hn : n = l.length := by obtain ⟨_, _, hv, _⟩ := h; injection hv
  subst hn
  have h2 := Sl2.take h hk k
  show Sl2 w lo hi _ (l.take k).length ((l.take k).map Value.string)
  rw [List.map_take, List.length_take, Nat.min_eq_left hk]
  exact h2
theorem rdW_cells {w : World} {lo hi n c : Nat} {A : Option Addr} {l : List ByteArray} (h : kdW.rd w lo hi (.slice A n c) l) (hp : 0 < l.length) : ∃ b off, A = some ⟨b, off, none⟩ ∧ lo ≤ b ∧ b < hi ∧ ∀ j, j < l.length → w.cell? ⟨b, off + j, none⟩ = some (.string (l.getD j ByteArray.empty)) := by
  obtain ⟨A', c', hv, _, _, h3⟩ := h
  injection hv with e1 e2 e3
  subst e1
  obtain ⟨b, off, rfl, hl, hh, hc⟩ := h3 (by simpa using hp)
  exact ⟨b, off, rfl, hl, hh, fun j hj => hc j _ (by simp [List.getElem?_eq_getElem hj, List.getD])⟩

theorem RdP.form {w : World} {lo hi : Nat} {x : Vs} {p : PolD} (h : RdP w lo hi x p) : ∃ A1 c1 A2 c2 A3 c3 A4 c4, x = ⟨.slice A1 p.els.length c1, .slice A2 p.glob.length c2, .slice A3 p.schemes.length c3, .slice A4 p.drop.length c4⟩ ∧ p.els.length ≤ c1 ∧ c1 ≤ maxLen ∧ p.glob.length ≤ c2 ∧ c2 ≤ maxLen ∧ p.schemes.length ≤ c3 ∧ c3 ≤ maxLen ∧ p.drop.length ≤ c4 ∧ c4 ≤ maxLen := by
  obtain ⟨h1, h2, h3, h4⟩ := h
  obtain ⟨A1, c1, e1, f1, g1⟩ := fmE.rd_form h1
  obtain ⟨A2, c2, e2, f2, g2⟩ := fmR.rd_form h2
  obtain ⟨A3, c3, e3, f3, g3⟩ := rdW_form h3
  obtain ⟨A4, c4, e4, f4, g4⟩ := rdW_form h4
  refine ⟨A1, c1, A2, c2, A3, c3, A4, c4, ?_, f1, g1, f2, g2, f3, g3, f4, g4⟩
  cases x
  simp only at e1 e2 e3 e4
  subst e1 e2 e3 e4
  rfl

/-- slices.Clone at texts -/
theorem libClone {w : World} {lo hi : Nat} {v : Value} {l : List ByteArray} (h : kdW.rd w lo hi v l) (hb : l.length * 16 ≤ 140737488355328) : Calls Tryz.prog 70 #[v] w fun e w' =>
    ∃ u G, e = .returned u ∧ kdW.own w' w.heap.size u l G ∧ Below w.heap.size w w' := by
  obtain ⟨i0, hi0, hz0, hz1, hz2⟩ := info_parts infoStr
  obtain ⟨A, c, rfl, h1, h2, h3⟩ := h
  cases A with
  | none =>
    have hl : l.length = 0 := by
      rcases Nat.eq_zero_or_pos l.length with h0 | h0
      · exact h0
      · obtain ⟨b, off, hA, _⟩ := h3 (by simpa using h0); cases hA
    have hl0 := List.eq_nil_of_length_eq_zero hl
    subst hl0
    refine (Tryz.slices_Clone_nil _ c w).mono ?_
    rintro e w' ⟨rfl, rfl⟩
    exact ⟨_, [], rfl, ⟨World.ownsRow_nil _ _ _ _, rfl⟩, Below.refl _ _⟩
  | some a =>
    by_cases hl : l.length = 0
    · have hl0 := List.eq_nil_of_length_eq_zero hl
      subst hl0
      refine (Tryz.slices_Clone_string_zero a c w).mono ?_
      rintro e w' ⟨u, rfl, ho, hne, hb'⟩
      exact ⟨u, _, rfl, ⟨ho, rfl⟩, hb'⟩
    · obtain ⟨b, off, hA, hl1, hl2, hc⟩ := h3 (by simp; omega)
      injection hA with hA
      subst hA
      refine (Tryz.slices_Clone i0 _ 1 16 hi0 hz0 hz1 hz2 rfl (by decide) (fun w => Tryz.sizeOf9 w) b off l.length c (l.map Value.string) w (by simp) (by omega) hb (fun j u hu => hc j u hu) (by simp [Value.oneCell'])).mono ?_
      rintro e w' ⟨u, rfl, ho, hne, hb'⟩
      exact ⟨u, _, rfl, ⟨ho, rfl⟩, hb'⟩
end Go.Proofs.YtejpdbiiikcmmaaGreatDoor.Pm

/- A struct's block: its cells, and what a store of a whole struct needs. -/
set_option linter.unusedVariables false
namespace Go.Proofs.YtejpdbiiikcmmaaGreatDoor.Bk
open Go.RowKit Lb Gr

/-- block g holds the struct of the cells xs -/
def Bl (w : World) (g : Nat) (t : TypeId) (xs : List Value) : Prop := w.heap[g]? = some (.cells xs.toArray t (0, 0))
theorem Bl.lt {w : World} {g : Nat} {t : TypeId} {xs : List Value} (h : Bl w g t xs) : g < w.heap.size := (Array.getElem?_eq_some_iff.1 h).1
theorem Bl.cell {w : World} {g : Nat} {t : TypeId} {xs : List Value} (h : Bl w g t xs) (i : Nat) {v : Value} (hv : xs[i]? = some v) : w.cell? ⟨g, i, none⟩ = some v := by
  unfold Bl at h
  simp [World.cell?, h, hv]
theorem Bl.fz {w : World} {g : Nat} {t : TypeId} {xs : List Value} (h : Bl w g t xs) (j : Nat) : w.frozen? ⟨g, j, none⟩ = false := by
  unfold Bl at h
  simp [World.frozen?, h]
theorem Bl.of {w w' : World} {g : Nat} {t : TypeId} {xs : List Value} (h : Bl w g t xs) (he : w'.heap[g]? = w.heap[g]?) : Bl w' g t xs := he.trans h
theorem Bl.below {w w' : World} {g : Nat} {t : TypeId} {xs : List Value} (h : Bl w g t xs) (hb : Below w.heap.size w w') : Bl w' g t xs := (hb.block g h.lt).trans h
theorem Bl.alloc {w : World} {g : Nat} {t : TypeId} {xs : List Value} (h : Bl w g t xs) (o : Obj) : Bl (w.alloc o) g t xs := (Below.heap_alloc w o g h.lt).trans h
theorem Bl.drew {w : World} {g : Nat} {t : TypeId} {xs : List Value} (h : Bl w g t xs) (n : Nat) : Bl (w.drewN n) g t xs := h
theorem Bl.other {w : World} {g : Nat} {t : TypeId} {xs : List Value} (h : Bl w g t xs) {p : Addr} (hp : g ≠ p.block) (z : Value) : Bl (w.setCell p z) g t xs := (Below.heap_setCell w p z g hp).trans h
theorem Bl.new (w : World) (t : TypeId) (xs : List Value) {g : Nat} (h : w.heap.size = g) : Bl (w.alloc (.cells xs.toArray t (0, 0))) g t xs := by
  subst h; exact heap_alloc_new w _
theorem Bl.set {w : World} {g : Nat} {t : TypeId} {xs : List Value} (h : Bl w g t xs) (i : Nat) (z : Value) : Bl (w.setCell ⟨g, i, none⟩ z) g t (xs.set i z) := by
  unfold Bl at h ⊢
  simp [World.setCell, h, Array.getElem?_modify]
theorem Bl.store2 {w : World} {g : Nat} {t : TypeId} {a b : Value} (h : Bl w g t [a, b]) (x y : Value) :
    w.cell? ⟨g, 0, none⟩ = some a ∧ w.frozen? ⟨g, 0, none⟩ = false ∧ (w.setCell ⟨g, 0, none⟩ x).cell? ⟨g, 1, none⟩ = some b ∧ (w.setCell ⟨g, 0, none⟩ x).frozen? ⟨g, 1, none⟩ = false :=
  ⟨h.cell 0 rfl, h.fz 0, (h.set 0 x).cell 1 rfl, (h.set 0 x).fz 1⟩
theorem Bl.store3 {w : World} {g : Nat} {t : TypeId} {a b c : Value} (h : Bl w g t [a, b, c]) (x y z : Value) :
    w.cell? ⟨g, 0, none⟩ = some a ∧ w.frozen? ⟨g, 0, none⟩ = false ∧ (w.setCell ⟨g, 0, none⟩ x).cell? ⟨g, 1, none⟩ = some b ∧ (w.setCell ⟨g, 0, none⟩ x).frozen? ⟨g, 1, none⟩ = false ∧
    ((w.setCell ⟨g, 0, none⟩ x).setCell ⟨g, 1, none⟩ y).cell? ⟨g, 2, none⟩ = some c ∧ ((w.setCell ⟨g, 0, none⟩ x).setCell ⟨g, 1, none⟩ y).frozen? ⟨g, 2, none⟩ = false :=
  ⟨h.cell 0 rfl, h.fz 0, (h.set 0 x).cell 1 rfl, (h.set 0 x).fz 1, ((h.set 0 x).set 1 y).cell 2 rfl, ((h.set 0 x).set 1 y).fz 2⟩
theorem Bl.three {w : World} {g : Nat} {t : TypeId} {a b c : Value} (h : Bl w g t [a, b, c]) (x y z : Value) : Bl (((w.setCell ⟨g, 0, none⟩ x).setCell ⟨g, 1, none⟩ y).setCell ⟨g, 2, none⟩ z) g t [x, y, z] :=
  ((h.set 0 x).set 1 y).set 2 z
theorem Bl.two {w : World} {g : Nat} {t : TypeId} {a b : Value} (h : Bl w g t [a, b]) (x y : Value) : Bl ((w.setCell ⟨g, 0, none⟩ x).setCell ⟨g, 1, none⟩ y) g t [x, y] := (h.set 0 x).set 1 y
theorem Bl.oth2 {w : World} {g g2 : Nat} {t : TypeId} {xs : List Value} (h : Bl w g t xs) (hne : g ≠ g2) (x y : Value) : Bl ((w.setCell ⟨g2, 0, none⟩ x).setCell ⟨g2, 1, none⟩ y) g t xs :=
  (h.other (p := ⟨g2, 0, none⟩) hne x).other (p := ⟨g2, 1, none⟩) hne y
theorem Bl.oth3 {w : World} {g g2 : Nat} {t : TypeId} {xs : List Value} (h : Bl w g t xs) (hne : g ≠ g2) (x y z : Value) : Bl (((w.setCell ⟨g2, 0, none⟩ x).setCell ⟨g2, 1, none⟩ y).setCell ⟨g2, 2, none⟩ z) g t xs :=
  (h.oth2 hne x y).other (p := ⟨g2, 2, none⟩) hne z
theorem Fr.set2 (w : World) (g : Nat) (x y : Value) : Fr [g] w ((w.setCell ⟨g, 0, none⟩ x).setCell ⟨g, 1, none⟩ y) := (Fr.setCell w ⟨g, 0, none⟩ x (.inl (by simp))).trans (Fr.setCell _ ⟨g, 1, none⟩ y (.inl (by simp)))
theorem Fr.set3 (w : World) (g : Nat) (x y z : Value) : Fr [g] w (((w.setCell ⟨g, 0, none⟩ x).setCell ⟨g, 1, none⟩ y).setCell ⟨g, 2, none⟩ z) := (Fr.set2 w g x y).trans (Fr.setCell _ ⟨g, 2, none⟩ z (.inl (by simp)))
theorem Bl.store7 {w : World} {g : Nat} {t : TypeId} {a0 a1 a2 a3 a4 a5 a6 : Value} (h : Bl w g t [a0, a1, a2, a3, a4, a5, a6]) (x0 x1 x2 x3 x4 x5 x6 : Value) :
    w.cell? ⟨g, 0, none⟩ = some a0 ∧ w.frozen? ⟨g, 0, none⟩ = false ∧ (w.setCell ⟨g, 0, none⟩ x0).cell? ⟨g, 1, none⟩ = some a1 ∧ (w.setCell ⟨g, 0, none⟩ x0).frozen? ⟨g, 1, none⟩ = false ∧ ((w.setCell ⟨g, 0, none⟩ x0).setCell ⟨g, 1, none⟩ x1).cell? ⟨g, 2, none⟩ = some a2 ∧ ((w.setCell ⟨g, 0, none⟩ x0).setCell ⟨g, 1, none⟩ x1).frozen? ⟨g, 2, none⟩ = false ∧ (((w.setCell ⟨g, 0, none⟩ x0).setCell ⟨g, 1, none⟩ x1).setCell ⟨g, 2, none⟩ x2).cell? ⟨g, 3, none⟩ = some a3 ∧ (((w.setCell ⟨g, 0, none⟩ x0).setCell ⟨g, 1, none⟩ x1).setCell ⟨g, 2, none⟩ x2).frozen? ⟨g, 3, none⟩ = false ∧ ((((w.setCell ⟨g, 0, none⟩ x0).setCell ⟨g, 1, none⟩ x1).setCell ⟨g, 2, none⟩ x2).setCell ⟨g, 3, none⟩ x3).cell? ⟨g, 4, none⟩ = some a4 ∧ ((((w.setCell ⟨g, 0, none⟩ x0).setCell ⟨g, 1, none⟩ x1).setCell ⟨g, 2, none⟩ x2).setCell ⟨g, 3, none⟩ x3).frozen? ⟨g, 4, none⟩ = false ∧ (((((w.setCell ⟨g, 0, none⟩ x0).setCell ⟨g, 1, none⟩ x1).setCell ⟨g, 2, none⟩ x2).setCell ⟨g, 3, none⟩ x3).setCell ⟨g, 4, none⟩ x4).cell? ⟨g, 5, none⟩ = some a5 ∧ (((((w.setCell ⟨g, 0, none⟩ x0).setCell ⟨g, 1, none⟩ x1).setCell ⟨g, 2, none⟩ x2).setCell ⟨g, 3, none⟩ x3).setCell ⟨g, 4, none⟩ x4).frozen? ⟨g, 5, none⟩ = false ∧ ((((((w.setCell ⟨g, 0, none⟩ x0).setCell ⟨g, 1, none⟩ x1).setCell ⟨g, 2, none⟩ x2).setCell ⟨g, 3, none⟩ x3).setCell ⟨g, 4, none⟩ x4).setCell ⟨g, 5, none⟩ x5).cell? ⟨g, 6, none⟩ = some a6 ∧ ((((((w.setCell ⟨g, 0, none⟩ x0).setCell ⟨g, 1, none⟩ x1).setCell ⟨g, 2, none⟩ x2).setCell ⟨g, 3, none⟩ x3).setCell ⟨g, 4, none⟩ x4).setCell ⟨g, 5, none⟩ x5).frozen? ⟨g, 6, none⟩ = false :=
  ⟨h.cell 0 rfl, h.fz 0, (h.set 0 x0).cell 1 rfl, (h.set 0 x0).fz 1, ((h.set 0 x0).set 1 x1).cell 2 rfl, ((h.set 0 x0).set 1 x1).fz 2, (((h.set 0 x0).set 1 x1).set 2 x2).cell 3 rfl, (((h.set 0 x0).set 1 x1).set 2 x2).fz 3, ((((h.set 0 x0).set 1 x1).set 2 x2).set 3 x3).cell 4 rfl, ((((h.set 0 x0).set 1 x1).set 2 x2).set 3 x3).fz 4, (((((h.set 0 x0).set 1 x1).set 2 x2).set 3 x3).set 4 x4).cell 5 rfl, (((((h.set 0 x0).set 1 x1).set 2 x2).set 3 x3).set 4 x4).fz 5, ((((((h.set 0 x0).set 1 x1).set 2 x2).set 3 x3).set 4 x4).set 5 x5).cell 6 rfl, ((((((h.set 0 x0).set 1 x1).set 2 x2).set 3 x3).set 4 x4).set 5 x5).fz 6⟩
theorem Bl.seven {w : World} {g : Nat} {t : TypeId} {a0 a1 a2 a3 a4 a5 a6 : Value} (h : Bl w g t [a0, a1, a2, a3, a4, a5, a6]) (x0 x1 x2 x3 x4 x5 x6 : Value) : Bl (((((((w.setCell ⟨g, 0, none⟩ x0).setCell ⟨g, 1, none⟩ x1).setCell ⟨g, 2, none⟩ x2).setCell ⟨g, 3, none⟩ x3).setCell ⟨g, 4, none⟩ x4).setCell ⟨g, 5, none⟩ x5).setCell ⟨g, 6, none⟩ x6) g t [x0, x1, x2, x3, x4, x5, x6] := (((((((h.set 0 x0).set 1 x1).set 2 x2).set 3 x3).set 4 x4).set 5 x5).set 6 x6)
theorem Fr.set7 (w : World) (g : Nat) (x0 x1 x2 x3 x4 x5 x6 : Value) : Fr [g] w (((((((w.setCell ⟨g, 0, none⟩ x0).setCell ⟨g, 1, none⟩ x1).setCell ⟨g, 2, none⟩ x2).setCell ⟨g, 3, none⟩ x3).setCell ⟨g, 4, none⟩ x4).setCell ⟨g, 5, none⟩ x5).setCell ⟨g, 6, none⟩ x6) := (((((((Fr.refl _ _).trans (Fr.setCell _ ⟨g, 0, none⟩ x0 (.inl (by simp)))).trans (Fr.setCell _ ⟨g, 1, none⟩ x1 (.inl (by simp)))).trans (Fr.setCell _ ⟨g, 2, none⟩ x2 (.inl (by simp)))).trans (Fr.setCell _ ⟨g, 3, none⟩ x3 (.inl (by simp)))).trans (Fr.setCell _ ⟨g, 4, none⟩ x4 (.inl (by simp)))).trans (Fr.setCell _ ⟨g, 5, none⟩ x5 (.inl (by simp)))).trans (Fr.setCell _ ⟨g, 6, none⟩ x6 (.inl (by simp)))
theorem Bl.range {w : World} {g : Nat} {t : TypeId} {xs : List Value} (h : Bl w g t xs) : w.rangeAt g 0 xs := fun j v hv => by
  rw [Nat.zero_add]; exact h.cell j hv
section
variable {P : Program}
/-- a result that lies in a variable; with a second one beside -/
theorem res_cell {fn : Func} {t : Tmp} {ty tg : TypeId} {tmps : Array Value} {w : World} {g : Nat} {xs : List Value} {d : TypeDesc} (h : fn.results = #[.cell t ty]) (hp : tmps.getD t undef = .pointer (some ⟨g, 0, none⟩)) (hb : Bl w g tg xs)
    (hu : P.underlying ty = some d) (hd : d.isRow = true) (hi : (P.info? ty).map (·.size) = some xs.length) : (results fn tmps).run P w = .ok (.agg xs.toArray) w := by
  have hl := run_loadVar_mid w g 0 ty xs d hb.range hu hd hi
  rw [Array.getD_eq_getD_getElem?] at hp
  simp [results, h, hp, asAddr, hl]
theorem res_cell2 {fn : Func} {t u : Tmp} {ty tg : TypeId} {tmps : Array Value} {w : World} {g : Nat} {xs : List Value} {d : TypeDesc} (h : fn.results = #[.cell t ty, .tmp u]) (hp : tmps.getD t undef = .pointer (some ⟨g, 0, none⟩)) (hb : Bl w g tg xs)
    (hu : P.underlying ty = some d) (hd : d.isRow = true) (hi : (P.info? ty).map (·.size) = some xs.length) : (results fn tmps).run P w = .ok (.tuple #[.agg xs.toArray, tmps.getD u undef]) w := by
  have hl := run_loadVar_mid w g 0 ty xs d hb.range hu hd hi
  rw [Array.getD_eq_getD_getElem?] at hp
  simp [results, h, hp, asAddr, hl]
end
/-- the cells of a struct in a block of its own, to be appended -/
theorem news_src (w : World) (xs : List Value) (t : TypeId) : 0 < xs.length → ∃ b off, some (⟨w.heap.size, 0, none⟩ : Addr) = some ⟨b, off, none⟩ ∧ ∀ j u, xs[j]? = some u → (w.alloc (.cells xs.toArray t)).cell? ⟨b, off + j, none⟩ = some u :=
  fun _ => ⟨_, 0, rfl, fun j u hu => by rw [Nat.zero_add]; exact (Bl.new w t xs rfl).cell j hu⟩
theorem drw (w : World) (n : Nat) : Below w.heap.size w (w.drewN n) := ⟨rfl, rfl, rfl, Nat.le_refl _, fun _ _ => rfl⟩
end Go.Proofs.YtejpdbiiikcmmaaGreatDoor.Bk
