/- Rows of structs that hold rows, plain laws that need no program: who owns which blocks, and what is read. -/
import Derived.Test.YteikagdinecfoaaGreatDoorLib
set_option linter.unusedVariables false
namespace Go.Proofs.YteikagdinecfoaaGreatDoor.Gr
open Go.RowKit Lb

/-- but for the blocks F, what lay in w is in w' as it was -/
structure Fr (F : List Nat) (w w' : World) : Prop where
  os : w'.os = w.os
  tape : w'.tape = w.tape
  output : w'.output = w.output
  size : w.heap.size ≤ w'.heap.size
  block : ∀ k, k < w.heap.size → k ∉ F → w'.heap[k]? = w.heap[k]?

theorem Fr.refl (F : List Nat) (w : World) : Fr F w w := ⟨rfl, rfl, rfl, Nat.le_refl _, fun _ _ _ => rfl⟩
theorem Fr.trans {F : List Nat} {a b c : World} (h : Fr F a b) (k : Fr F b c) : Fr F a c :=
  ⟨k.os.trans h.os, k.tape.trans h.tape, k.output.trans h.output, Nat.le_trans h.size k.size, fun i hi hn => (k.block i (Nat.lt_of_lt_of_le hi h.size) hn).trans (h.block i hi hn)⟩
/-- two steps, the second one in blocks of F or new ones -/
theorem Fr.then {F G : List Nat} {a b c : World} (h : Fr F a b) (k : Fr G b c) (hG : ∀ x ∈ G, x ∈ F ∨ a.heap.size ≤ x) : Fr F a c :=
  ⟨k.os.trans h.os, k.tape.trans h.tape, k.output.trans h.output, Nat.le_trans h.size k.size, fun i hi hn => (k.block i (Nat.lt_of_lt_of_le hi h.size) (fun hx => (hG i hx).elim hn (by omega))).trans (h.block i hi hn)⟩
theorem Fr.mono {F G : List Nat} {w w' : World} (h : Fr F w w') (hs : ∀ x ∈ F, x ∈ G) : Fr G w w' :=
  ⟨h.os, h.tape, h.output, h.size, fun k hk hn => h.block k hk (fun hx => hn (hs k hx))⟩
theorem Fr.below {F : List Nat} {w w' : World} {B : Nat} (h : Fr F w w') (hB : B ≤ w.heap.size) (hF : ∀ x ∈ F, B ≤ x) : Below B w w' :=
  ⟨h.os, h.tape, h.output, h.size, fun k hk => h.block k (by omega) (fun hx => by have := hF k hx; omega)⟩
theorem Fr.of_below {F : List Nat} {w w' : World} (h : Below w.heap.size w w') : Fr F w w' := ⟨h.os, h.tape, h.output, h.size, fun k hk _ => h.block k hk⟩
theorem Fr.of_grown {w w' : World} {row : Option Nat} (h : w.grownBy w' row) : Fr row.toList w w' :=
  ⟨h.os, h.tape, h.output, h.size, fun k hk hn => h.block k hk (fun e => hn (by rw [← e]; simp))⟩
theorem Fr.alloc (F : List Nat) (w : World) (o : Obj) : Fr F w (w.alloc o) := ⟨rfl, rfl, rfl, by simp, fun k hk _ => Below.heap_alloc _ _ _ hk⟩
theorem Fr.setCell {F : List Nat} (w : World) (p : Addr) (u : Value) (h : p.block ∈ F ∨ w.heap.size ≤ p.block) : Fr F w (w.setCell p u) :=
  ⟨rfl, rfl, rfl, by simp [World.setCell], fun k hk hn => Below.heap_setCell _ _ _ _ (fun e => h.elim (fun h => hn (e ▸ h)) (by omega))⟩

theorem nod {F G : List Nat} (m : Nat) (hF : F.Nodup) (hG : G.Nodup) (h1 : ∀ k ∈ F, k < m) (h2 : ∀ k ∈ G, m ≤ k) : (F ++ G).Nodup :=
  List.nodup_append.2 ⟨hF, hG, fun a ha b hb e => by have := h1 a ha; have := h2 b hb; omega⟩

/-- a slice of the cells xs, in a block from lo to hi -/
def Sl2 (w : World) (lo hi : Nat) (v : Value) (n : Nat) (xs : List Value) : Prop :=
  ∃ A c, v = .slice A n c ∧ n ≤ c ∧ c ≤ maxLen ∧ (0 < xs.length → ∃ b off, A = some ⟨b, off, none⟩ ∧ lo ≤ b ∧ b < hi ∧ ∀ j u, xs[j]? = some u → w.cell? ⟨b, off + j, none⟩ = some u)
theorem Sl2.stay {w w' : World} {lo hi n : Nat} {v : Value} {xs : List Value} (h : Sl2 w lo hi v n xs) (hs : ∀ b, lo ≤ b → b < hi → w'.heap[b]? = w.heap[b]?) : Sl2 w' lo hi v n xs := by
  obtain ⟨A, c, rfl, h1, h2, h3⟩ := h
  refine ⟨A, c, rfl, h1, h2, fun hp => ?_⟩
  obtain ⟨b, off, rfl, hl, hh, hc⟩ := h3 hp
  exact ⟨b, off, rfl, hl, hh, fun j u hu => (World.cell?_of_block (a := ⟨b, off + j, none⟩) (hs b hl hh)).trans (hc j u hu)⟩
theorem Sl2.wide {w : World} {lo hi lo' hi' n : Nat} {v : Value} {xs : List Value} (h : Sl2 w lo hi v n xs) (h1 : lo' ≤ lo) (h2 : hi ≤ hi') : Sl2 w lo' hi' v n xs := by
  obtain ⟨A, c, rfl, e1, e2, h3⟩ := h
  refine ⟨A, c, rfl, e1, e2, fun hp => ?_⟩
  obtain ⟨b, off, rfl, hl, hh, hc⟩ := h3 hp
  exact ⟨b, off, rfl, by omega, by omega, hc⟩
theorem Sl2.of_own {w : World} {B lo hi : Nat} {e : TypeId} {size : Nat} {v : Value} {n : Nat} {xs : List Value} (h : w.ownsRow B e size v n xs) (hl : lo ≤ B) (hh : w.heap.size ≤ hi) : Sl2 w lo hi v n xs := by
  obtain ⟨hx, h⟩ := h
  rcases h with ⟨rfl, rfl⟩ | ⟨g, cap, cur, rfl, hb, hg, hnc, hcm, hcs, htake⟩
  · exact ⟨none, 0, rfl, Nat.le_refl _, by simp, fun hp => by simp at hx; subst hx; simp at hp⟩
  · have hlt := (Array.getElem?_eq_some_iff.1 hg).1
    refine ⟨_, _, rfl, hnc, hcm, fun _ => ⟨g, 0, rfl, by omega, by omega, fun j u hu => ?_⟩⟩
    rw [Nat.zero_add, cell_of_row w g j cur e (0, 0) hg]
    rw [← htake, List.getElem?_take] at hu
    split at hu
    · simpa using hu
    · cases hu
/-- the first k of it -/
theorem Sl2.take {w : World} {lo hi n c k : Nat} {A : Option Addr} {xs : List Value} (h : Sl2 w lo hi (.slice A n c) n xs) (hk : k ≤ n) (m : Nat) : Sl2 w lo hi (.slice A k c) k (xs.take m) := by
  obtain ⟨A', c', hv, h1, h2, h3⟩ := h
  injection hv with e1 e2 e3
  subst e1 e3
  refine ⟨A, c, rfl, by omega, h2, fun hp => ?_⟩
  obtain ⟨b, off, rfl, hl, hh, hc⟩ := h3 (by simp at hp; omega)
  refine ⟨b, off, rfl, hl, hh, fun j u hu => hc j u ?_⟩
  rw [List.getElem?_take] at hu
  split at hu
  · exact hu
  · cases hu

theorem own_stay {w w' : World} {B : Nat} {e : TypeId} {size : Nat} {v : Value} {n : Nat} {xs : List Value} (h : w.ownsRow B e size v n xs) (hs : ∀ k ∈ v.ownBlock.toList, w'.heap[k]? = w.heap[k]?) : w'.ownsRow B e size v n xs := by
  obtain ⟨hx, h⟩ := h
  refine ⟨hx, ?_⟩
  rcases h with h | ⟨g, cap, cur, rfl, hb, hg, r⟩
  · exact .inl h
  · exact .inr ⟨g, cap, cur, rfl, hb, by rw [hs g (by simp [Value.ownBlock])]; exact hg, r⟩
theorem own_low {w : World} {B B' : Nat} {e : TypeId} {size : Nat} {v : Value} {n : Nat} {xs : List Value} (h : w.ownsRow B e size v n xs) (hB : B' ≤ B) : w.ownsRow B' e size v n xs := by
  obtain ⟨hx, h⟩ := h
  refine ⟨hx, ?_⟩
  rcases h with h | ⟨g, cap, cur, rfl, hb, r⟩
  · exact .inl h
  · exact .inr ⟨g, cap, cur, rfl, by omega, r⟩
theorem own_ge2 {w : World} {B : Nat} {e : TypeId} {size : Nat} {v : Value} {n : Nat} {xs : List Value} (h : w.ownsRow B e size v n xs) : ∀ k ∈ v.ownBlock.toList, B ≤ k ∧ k < w.heap.size :=
  fun k hk => h.lt k (by simpa using hk)
theorem own_slice {w : World} {B : Nat} {e : TypeId} {size : Nat} {v : Value} {n : Nat} {xs : List Value} (h : w.ownsRow B e size v n xs) : ∃ A c, v = .slice A n c ∧ n ≤ c ∧ c ≤ maxLen := by
  rcases h.2 with ⟨rfl, rfl⟩ | ⟨g, cap, cur, rfl, hb, hg, hnc, hcm, r⟩
  · exact ⟨none, 0, rfl, Nat.le_refl _, by simp⟩
  · exact ⟨_, _, rfl, hnc, hcm⟩

/-- a kind of list: when a value is one of the call's own, with the blocks F; when it reads as one -/
structure Kd (β : Type) where
  own : World → Nat → Value → β → List Nat → Prop
  rd : World → Nat → Nat → Value → β → Prop
  keep : ∀ {w w' : World} {B : Nat} {v : Value} {b : β} {F : List Nat}, own w B v b F → w.heap.size ≤ w'.heap.size → (∀ k ∈ F, w'.heap[k]? = w.heap[k]?) → own w' B v b F
  ge : ∀ {w : World} {B : Nat} {v : Value} {b : β} {F : List Nat}, own w B v b F → ∀ k ∈ F, B ≤ k ∧ k < w.heap.size
  nodup : ∀ {w : World} {B : Nat} {v : Value} {b : β} {F : List Nat}, own w B v b F → F.Nodup
  low : ∀ {w : World} {B B' : Nat} {v : Value} {b : β} {F : List Nat}, own w B v b F → B' ≤ B → own w B' v b F
  read : ∀ {w : World} {B lo hi : Nat} {v : Value} {b : β} {F : List Nat}, own w B v b F → lo ≤ B → w.heap.size ≤ hi → rd w lo hi v b
  stay : ∀ {w w' : World} {lo hi : Nat} {v : Value} {b : β}, rd w lo hi v b → (∀ k, lo ≤ k → k < hi → w'.heap[k]? = w.heap[k]?) → rd w' lo hi v b
  wide : ∀ {w : World} {lo hi lo' hi' : Nat} {v : Value} {b : β}, rd w lo hi v b → lo' ≤ lo → hi ≤ hi' → rd w lo' hi' v b
  slice : ∀ {w : World} {lo hi : Nat} {v : Value} {b : β}, rd w lo hi v b → ∃ A n c, v = .slice A n c

/-- a kind of struct with a list in it -/
structure Fm (α β : Type) where
  kd : Kd β
  sub : α → β
  enc : α → Value → List Value
  size : Nat
  e : TypeId
  pos : 0 < size
  len : ∀ a v, (enc a v).length = size
  one : ∀ a A n c, ∀ u ∈ enc a (.slice A n c), u.oneCell' = true

/-- a struct, its list's value, that one's blocks -/
structure It (α : Type) where
  a : α
  v : Value
  G : List Nat

variable {α β : Type}
def Fm.cells (M : Fm α β) (T : List (It α)) : List Value := T.flatMap fun t => M.enc t.a t.v
def outG (T : List (It α)) : List Nat := T.flatMap (·.G)
/-- a row of the call's own -/
def Fm.own (M : Fm α β) (w : World) (B : Nat) (v : Value) (l : List α) (F : List Nat) : Prop :=
  ∃ T : List (It α), T.map (·.a) = l ∧ w.ownsRow B M.e M.size v T.length (M.cells T) ∧ (∀ t ∈ T, M.kd.own w B t.v (M.sub t.a) t.G) ∧ F = v.ownBlock.toList ++ outG T ∧ F.Nodup
/-- a row that is read -/
def Fm.rd (M : Fm α β) (w : World) (lo hi : Nat) (v : Value) (l : List α) : Prop :=
  ∃ T : List (It α), T.map (·.a) = l ∧ Sl2 w lo hi v T.length (M.cells T) ∧ ∀ t ∈ T, M.kd.rd w lo hi t.v (M.sub t.a)

theorem Fm.cells_len (M : Fm α β) (T : List (It α)) : (M.cells T).length = T.length * M.size := by
  induction T with
  | nil => simp [Fm.cells]
  | cons t r ih =>
    have : M.cells (t :: r) = M.enc t.a t.v ++ M.cells r := by simp [Fm.cells]
    rw [this, List.length_append, ih, M.len, List.length_cons, Nat.add_mul, Nat.one_mul, Nat.add_comm]
theorem Fm.cells_app (M : Fm α β) (T U : List (It α)) : M.cells (T ++ U) = M.cells T ++ M.cells U := by simp [Fm.cells]
theorem Fm.cells_one (M : Fm α β) (t : It α) : M.cells [t] = M.enc t.a t.v := by simp [Fm.cells]
theorem Fm.cells_at (M : Fm α β) {T : List (It α)} {i : Nat} {t : It α} (h : T[i]? = some t) {c : Nat} (hc : c < M.size) : (M.cells T)[i * M.size + c]? = (M.enc t.a t.v)[c]? := by
  obtain ⟨hi, rfl⟩ := List.getElem?_eq_some_iff.1 h
  have e : T = T.take i ++ T[i] :: T.drop (i + 1) := by rw [← List.drop_eq_getElem_cons hi, List.take_append_drop]
  generalize ht : T[i] = t at e
  rw [e, show T.take i ++ t :: T.drop (i + 1) = T.take i ++ ([t] ++ T.drop (i + 1)) from rfl, M.cells_app, M.cells_app, M.cells_one]
  have hl : (M.cells (T.take i)).length = i * M.size := by rw [M.cells_len, List.length_take]; congr 1; omega
  rw [List.getElem?_append_right (by omega), hl, Nat.add_sub_cancel_left, List.getElem?_append_left (by rw [M.len]; exact hc)]
theorem Fm.cells_take (M : Fm α β) {T : List (It α)} {k : Nat} (hk : k ≤ T.length) : (M.cells T).take (k * M.size) = M.cells (T.take k) := by
  have hl : (M.cells (T.take k)).length = k * M.size := by rw [M.cells_len, List.length_take]; congr 1; omega
  have h3 : M.cells T = M.cells (T.take k) ++ M.cells (T.drop k) := by rw [← M.cells_app, List.take_append_drop]
  rw [h3]
  exact List.take_left' hl
theorem Fm.cells_drop (M : Fm α β) {T : List (It α)} {k : Nat} (hk : k ≤ T.length) : (M.cells T).drop (k * M.size) = M.cells (T.drop k) := by
  have hl : (M.cells (T.take k)).length = k * M.size := by rw [M.cells_len, List.length_take]; congr 1; omega
  have h3 : M.cells T = M.cells (T.take k) ++ M.cells (T.drop k) := by rw [← M.cells_app, List.take_append_drop]
  rw [h3]
  exact List.drop_left' hl
theorem Fm.cells_one' (M : Fm α β) {w : World} {lo hi : Nat} {T : List (It α)} (h : ∀ t ∈ T, M.kd.rd w lo hi t.v (M.sub t.a)) : ∀ u ∈ M.cells T, u.oneCell' = true := by
  intro u hu
  simp only [Fm.cells, List.mem_flatMap] at hu
  obtain ⟨t, ht, hu⟩ := hu
  obtain ⟨A, n, c, e⟩ := M.kd.slice (h t ht)
  rw [e] at hu
  exact M.one _ _ _ _ u hu

theorem mem_outG {T : List (It α)} {t : It α} (ht : t ∈ T) {k : Nat} (hk : k ∈ t.G) : k ∈ outG T := List.mem_flatMap.2 ⟨t, ht, hk⟩

/-- the kind of list that its rows are -/
def Fm.kind (M : Fm α β) : Kd (List α) where
  own := M.own
  rd := M.rd
  keep := by
    rintro w w' B v l F ⟨T, hT, ho, hs, rfl, hn⟩ hsz hF
    exact ⟨T, hT, own_stay ho fun k hk => hF k (List.mem_append_left _ hk), fun t ht => M.kd.keep (hs t ht) hsz fun k hk => hF k (List.mem_append_right _ (mem_outG ht hk)), rfl, hn⟩
  ge := by
    rintro w B v l F ⟨T, hT, ho, hs, rfl, hn⟩ k hk
    rcases List.mem_append.1 hk with hk | hk
    · exact own_ge2 ho k hk
    · obtain ⟨t, ht, hk⟩ := List.mem_flatMap.1 hk
      exact M.kd.ge (hs t ht) k hk
  nodup := by rintro w B v l F ⟨T, hT, ho, hs, rfl, hn⟩; exact hn
  low := by
    rintro w B B' v l F ⟨T, hT, ho, hs, rfl, hn⟩ hB
    exact ⟨T, hT, own_low ho hB, fun t ht => M.kd.low (hs t ht) hB, rfl, hn⟩
  read := by
    rintro w B lo hi v l F ⟨T, hT, ho, hs, rfl, hn⟩ hl hh
    exact ⟨T, hT, Sl2.of_own ho hl hh, fun t ht => M.kd.read (hs t ht) hl hh⟩
  stay := by
    rintro w w' lo hi v l ⟨T, hT, ho, hs⟩ hb
    exact ⟨T, hT, ho.stay hb, fun t ht => M.kd.stay (hs t ht) hb⟩
  wide := by
    rintro w lo hi lo' hi' v l ⟨T, hT, ho, hs⟩ h1 h2
    exact ⟨T, hT, ho.wide h1 h2, fun t ht => M.kd.wide (hs t ht) h1 h2⟩
  slice := by
    rintro w lo hi v l ⟨T, hT, ⟨A, c, rfl, _⟩, hs⟩
    exact ⟨A, _, c, rfl⟩

theorem Fm.own_nil (M : Fm α β) (w : World) (B : Nat) : M.own w B (.slice none 0 0) [] [] := ⟨[], rfl, World.ownsRow_nil _ _ _ _, by simp, by simp [Value.ownBlock, outG], by simp⟩
theorem Fm.own_form (M : Fm α β) {w : World} {B : Nat} {v : Value} {l : List α} {F : List Nat} (h : M.own w B v l F) : ∃ A c, v = .slice A l.length c ∧ l.length ≤ c ∧ c ≤ maxLen := by
  obtain ⟨T, rfl, ho, _⟩ := h
  rw [List.length_map]
  exact own_slice ho
theorem Fm.rd_form (M : Fm α β) {w : World} {lo hi : Nat} {v : Value} {l : List α} (h : M.rd w lo hi v l) : ∃ A c, v = .slice A l.length c ∧ l.length ≤ c ∧ c ≤ maxLen := by
  obtain ⟨T, rfl, ⟨A, c, hv, h1, h2, _⟩, _⟩ := h
  rw [List.length_map]
  exact ⟨A, c, hv, h1, h2⟩

/-- the i-th struct of a row that is read -/
theorem Fm.rd_at (M : Fm α β) {w : World} {lo hi n c : Nat} {A : Option Addr} {l : List α} (h : M.rd w lo hi (.slice A n c) l) {i : Nat} (hi' : i < l.length) :
    ∃ b off u, A = some ⟨b, off, none⟩ ∧ lo ≤ b ∧ b < hi ∧ M.kd.rd w lo hi u (M.sub l[i]) ∧ ∀ q x, (M.enc l[i] u)[q]? = some x → w.cell? ⟨b, off + (i * M.size + q), none⟩ = some x := by
  obtain ⟨T, rfl, ⟨A', c', hv, h1, h2, h3⟩, hs⟩ := h
  injection hv with e1 e2 e3
  subst e1
  have hT : i < T.length := by simpa using hi'
  have hpos : 0 < (M.cells T).length := by rw [M.cells_len]; exact Nat.mul_pos (by omega) M.pos
  obtain ⟨b, off, rfl, hl, hh, hc⟩ := h3 hpos
  refine ⟨b, off, T[i].v, rfl, hl, hh, ?_, fun q x hx => hc _ _ ?_⟩
  · simpa using hs T[i] (List.getElem_mem _)
  · have hq : q < M.size := by
      have := (List.getElem?_eq_some_iff.1 hx).1
      rw [M.len] at this; exact this
    rw [M.cells_at (List.getElem?_eq_getElem hT) hq]
    simpa using hx
/-- the first k of it -/
theorem Fm.rd_take (M : Fm α β) {w : World} {lo hi n c k : Nat} {A : Option Addr} {l : List α} (h : M.rd w lo hi (.slice A n c) l) (hk : k ≤ l.length) : M.rd w lo hi (.slice A k c) (l.take k) := by
  obtain ⟨T, rfl, hsl, hs⟩ := h
  have hn : n = T.length := by obtain ⟨_, _, hv, _⟩ := hsl; injection hv
  subst hn
  have hk' : k ≤ T.length := by simpa using hk
  refine ⟨T.take k, by simp, ?_, fun t ht => hs t (List.mem_of_mem_take ht)⟩
  have h2 := hsl.take hk' (k * M.size)
  rw [M.cells_take hk'] at h2
  rw [show (T.take k).length = k by simp; omega]
  exact h2
theorem Fm.rd_nil (M : Fm α β) (w : World) (lo hi : Nat) : M.rd w lo hi (.slice none 0 0) [] := ⟨[], rfl, ⟨none, 0, rfl, Nat.le_refl _, by simp, fun h => by simp [Fm.cells] at h⟩, by simp⟩

/-- a row of the call's own, opened: its cells, its places, and how it is put together again -/
theorem Fm.own_push (M : Fm α β) {w w1 : World} {B : Nat} {v v' : Value} {T : List (It α)} {t : It α} (ho : w.ownsRow B M.e M.size v T.length (M.cells T)) (hs : ∀ t ∈ T, M.kd.own w B t.v (M.sub t.a) t.G) (hn : (v.ownBlock.toList ++ outG T).Nodup)
    (ht : M.kd.own w B t.v (M.sub t.a) t.G) (hd : ∀ k ∈ t.G, k ∉ v.ownBlock.toList ++ outG T)
    (h1 : w1.ownsRow B M.e M.size v' (T.length + 1) (M.cells T ++ M.enc t.a t.v)) (hf : Fr v.ownBlock.toList w w1) (hv : v'.ownBlock = v.ownBlock ∨ ∃ k, v'.ownBlock = some k ∧ w.heap.size ≤ k) :
    M.own w1 B v' (T.map (·.a) ++ [t.a]) (v'.ownBlock.toList ++ outG (T ++ [t])) := by
  have hge : ∀ k ∈ outG T, k < w.heap.size := fun k hk => by
    obtain ⟨t', ht', hk'⟩ := List.mem_flatMap.1 hk
    exact (M.kd.ge (hs t' ht') k hk').2
  have hgt := M.kd.ge ht
  rw [List.nodup_append] at hn
  obtain ⟨n1, n2, n3⟩ := hn
  have hkeep : ∀ k, k < w.heap.size → k ∉ v.ownBlock.toList → w1.heap[k]? = w.heap[k]? := hf.block
  refine ⟨T ++ [t], by simp, ?_, ?_, rfl, ?_⟩
  · rw [List.length_append, M.cells_app, M.cells_one]; exact h1
  · intro t' ht'
    rcases List.mem_append.1 ht' with ht' | ht'
    · exact M.kd.keep (hs t' ht') hf.size fun k hk => hkeep k (M.kd.ge (hs t' ht') k hk).2 fun hx => n3 k hx k (mem_outG ht' hk) rfl
    · simp at ht'
      subst ht'
      exact M.kd.keep ht hf.size fun k hk => hkeep k (hgt k hk).2 fun hx => hd k hk (List.mem_append_left _ hx)
  · have e : outG (T ++ [t]) = outG T ++ t.G := by simp [outG]
    rw [e, List.nodup_append]
    refine ⟨by cases v'.ownBlock <;> simp, ?_, ?_⟩
    · rw [List.nodup_append]
      exact ⟨n2, M.kd.nodup ht, fun a ha b hb e => hd b hb (List.mem_append_right _ (e ▸ ha))⟩
    · intro a ha b hb hab
      subst hab
      rcases hv with hv | ⟨k, hv, hk⟩
      · rw [hv] at ha
        rcases List.mem_append.1 hb with hb | hb
        · exact n3 a ha a hb rfl
        · exact hd a hb (List.mem_append_left _ ha)
      · rw [hv] at ha
        simp at ha
        subst ha
        rcases List.mem_append.1 hb with hb | hb
        · have := hge a hb; omega
        · have := (hgt a hb).2; omega

/-- one struct more, behind a call that made its list and a block that held it -/
theorem Fm.push (M : Fm α β) {wr W2 w1 : World} {B : Nat} {v v' : Value} {T : List (It α)} {t : It α} {o : Obj} (ho : wr.ownsRow B M.e M.size v T.length (M.cells T)) (hs : ∀ t ∈ T, M.kd.own wr B t.v (M.sub t.a) t.G) (hn : (v.ownBlock.toList ++ outG T).Nodup)
    (hb : Below wr.heap.size wr W2) (hB : B ≤ wr.heap.size) (ht : M.kd.own W2 wr.heap.size t.v (M.sub t.a) t.G)
    (h1 : w1.ownsRow B M.e M.size v' (T.length + 1) (M.cells T ++ M.enc t.a t.v)) (hg : (W2.alloc o).grownBy w1 v.ownBlock) (hv : v'.ownBlock = v.ownBlock ∨ v'.ownBlock = some (W2.alloc o).heap.size) :
    M.own w1 B v' (T.map (·.a) ++ [t.a]) (v'.ownBlock.toList ++ outG (T ++ [t])) := by
  have hb2 : Below wr.heap.size wr (W2.alloc o) := hb.alloc hb.size o
  have hge := fun k hk => own_ge2 ho k hk
  have hgs : ∀ k ∈ outG T, k < wr.heap.size := fun k hk => by
    obtain ⟨t', ht', hk'⟩ := List.mem_flatMap.1 hk
    exact (M.kd.ge (hs t' ht') k hk').2
  have hgt := M.kd.ge ht
  refine M.own_push (w := W2.alloc o) (own_stay ho fun k hk => hb2.block k (hge k hk).2) (fun t' ht' => M.kd.keep (hs t' ht') hb2.size fun k hk => hb2.block k (M.kd.ge (hs t' ht') k hk).2) hn
    (M.kd.low (M.kd.keep ht (by simp) fun k hk => Below.heap_alloc _ _ _ (hgt k hk).2) hB) (fun k hk hx => ?_) h1 (Fr.of_grown hg) (hv.imp_right fun h => ⟨_, h, Nat.le_refl _⟩)
  have h2 := (hgt k hk).1
  rcases List.mem_append.1 hx with hx | hx
  · have := (hge k hx).2; omega
  · have := hgs k hx; omega

/-- the i-th struct of a row of the call's own; one of its fields and its list turned -/
theorem Fm.own_at (M : Fm α β) {w : World} {B : Nat} {v : Value} {l : List α} {F : List Nat} (h : M.own w B v l F) {i : Nat} (hi : i < l.length) :
    ∃ g cap u G, v = .slice (some ⟨g, 0, none⟩) l.length cap ∧ B ≤ g ∧ g < w.heap.size ∧ M.kd.own w B u (M.sub l[i]) G ∧ g ∈ F ∧ g ∉ G ∧ (∀ k ∈ G, k ∈ F) ∧ (∀ q x, (M.enc l[i] u)[q]? = some x → w.cell? ⟨g, i * M.size + q, none⟩ = some x) ∧ (∀ q, w.frozen? ⟨g, q, none⟩ = false) ∧
      (∀ w' a' u' G', w'.heap[g]? = w.heap[g]? → w.heap.size ≤ w'.heap.size → (∀ k ∈ F, k ∉ G → w'.heap[k]? = w.heap[k]?) → M.kd.own w' B u' (M.sub a') G' → (∀ k ∈ G', k ∈ G ∨ w.heap.size ≤ k) →
        ∀ w2, (w2.heap.size = w'.heap.size) → (∀ k, k ≠ g → w2.heap[k]? = w'.heap[k]?) → (∀ xs, w'.ownsRow B M.e M.size v l.length xs → xs.length = l.length * M.size → w2.ownsRow B M.e M.size v l.length (xs.take (i * M.size) ++ M.enc a' u' ++ xs.drop ((i + 1) * M.size))) →
        ∃ F', M.own w2 B v (l.set i a') F' ∧ ∀ k ∈ F', k ∈ F ∨ k ∈ G') := by
  obtain ⟨T, rfl, ho, hs, rfl, hn⟩ := h
  have hT : i < T.length := by simpa using hi
  rw [List.length_map]
  have ho' := ho
  rcases ho.2 with ⟨_, h0⟩ | ⟨g, cap, cur, rfl, hb, hg, r⟩
  · omega
  obtain ⟨t, ht⟩ : ∃ t, t = T[i] := ⟨_, rfl⟩
  have htm : t ∈ T := by rw [ht]; exact List.getElem_mem _
  have hta : (T.map (·.a))[i] = t.a := by rw [ht]; simp
  have hob : (Value.slice (some ⟨g, 0, none⟩) T.length cap).ownBlock.toList = [g] := rfl
  rw [hob] at hn ⊢
  have hn' := hn
  rw [List.nodup_append] at hn
  obtain ⟨n1, n2, n3⟩ := hn
  have e : T = T.take i ++ t :: T.drop (i + 1) := by rw [ht, ← List.drop_eq_getElem_cons hT, List.take_append_drop]
  have hlt := (Array.getElem?_eq_some_iff.1 hg).1
  have htg := M.kd.ge (hs t htm)
  refine ⟨g, cap, t.v, t.G, rfl, hb, hlt, by rw [hta]; exact hs t htm, by simp, fun hx => n3 g (by simp) g (mem_outG htm hx) rfl, fun k hk => List.mem_append_right _ (mem_outG htm hk), ?_, fun q => ho'.frozenAt q, ?_⟩
  · intro q x hx
    rw [hta] at hx
    have hq : q < M.size := by
      have := (List.getElem?_eq_some_iff.1 hx).1
      rw [M.len] at this; exact this
    rw [ho'.cellAt _ (by have := Nat.mul_le_mul_right M.size (show i + 1 ≤ T.length from hT); rw [Nat.add_mul, Nat.one_mul] at this; omega), M.cells_at (List.getElem?_eq_getElem hT) hq, ← ht]
    exact hx
  · intro w' a' u' G' hg' hsz hkk hs' hG' w2 hs2 hk2 hrow
    have ho1 : w'.ownsRow B M.e M.size (.slice (some ⟨g, 0, none⟩) T.length cap) T.length (M.cells T) := own_stay ho' (fun k hk => by rw [hob] at hk; simp at hk; subst hk; exact hg')
    have ho2 := hrow _ ho1 (M.cells_len T)
    have hcel : (M.cells T).take (i * M.size) ++ M.enc a' u' ++ (M.cells T).drop ((i + 1) * M.size) = M.cells (T.take i ++ ⟨a', u', G'⟩ :: T.drop (i + 1)) := by
      have e1 := M.cells_take (T := T) (k := i) (by omega)
      have e2 := M.cells_drop (T := T) (k := i + 1) (by omega)
      rw [e1, e2, show T.take i ++ (⟨a', u', G'⟩ : It α) :: T.drop (i + 1) = T.take i ++ ([⟨a', u', G'⟩] ++ T.drop (i + 1)) from rfl, M.cells_app, M.cells_app, M.cells_one, List.append_assoc]
    rw [hcel] at ho2
    have hlen : (T.take i ++ (⟨a', u', G'⟩ : It α) :: T.drop (i + 1)).length = T.length := by simp; omega
    have hoe : outG T = outG (T.take i) ++ (t.G ++ outG (T.drop (i + 1))) := by
      conv => lhs; rw [e]
      simp [outG]
    have hon : outG (T.take i ++ (⟨a', u', G'⟩ : It α) :: T.drop (i + 1)) = outG (T.take i) ++ (G' ++ outG (T.drop (i + 1))) := by simp [outG]
    have hgT : ∀ k ∈ outG T, k < w.heap.size := fun k hk => by
      obtain ⟨t', ht', hk'⟩ := List.mem_flatMap.1 hk
      exact (M.kd.ge (hs t' ht') k hk').2
    have hng : ∀ k ∈ G', k ≠ g := fun k hk e => by
      subst e
      rcases hG' k hk with h | h
      · exact n3 k (by simp) k (mem_outG htm h) rfl
      · omega
    have hkeep2 : ∀ t' ∈ T, t' ≠ t ∨ True → (∀ k ∈ t'.G, k ∉ t.G) → M.kd.own w2 B t'.v (M.sub t'.a) t'.G := fun t' ht' _ hd => M.kd.keep (hs t' ht') (by omega) fun k hk' => by
      have hkg : k ≠ g := fun e => by subst e; exact n3 k (by simp) k (mem_outG ht' hk') rfl
      rw [hk2 k hkg]
      exact hkk k (List.mem_append_right _ (mem_outG ht' hk')) (hd k hk')
    rw [hoe, List.nodup_append, List.nodup_append] at n2
    obtain ⟨m1, ⟨m2, m3, m4⟩, m5⟩ := n2
    refine ⟨[g] ++ outG (T.take i ++ (⟨a', u', G'⟩ : It α) :: T.drop (i + 1)), ⟨T.take i ++ (⟨a', u', G'⟩ : It α) :: T.drop (i + 1), ?_, by rw [hlen]; exact ho2, ?_, rfl, ?_⟩, ?_⟩
    · rw [List.set_eq_take_append_cons_drop, if_pos (by simpa using hT)]
      simp [List.map_take, List.map_drop]
    · intro t' ht'
      rcases List.mem_append.1 ht' with ht' | ht'
      · exact hkeep2 t' (List.mem_of_mem_take ht') (.inr trivial) fun k hk1 hk3 => m5 k (mem_outG ht' hk1) k (List.mem_append_left _ hk3) rfl
      · rcases List.mem_cons.1 ht' with rfl | ht'
        · exact M.kd.keep hs' (by omega) fun k hk => hk2 k (hng k hk)
        · exact hkeep2 t' (List.mem_of_mem_drop ht') (.inr trivial) fun k hk1 hk3 => m4 k hk3 k (mem_outG ht' hk1) rfl
    · rw [hon, List.nodup_append]
      refine ⟨by simp, ?_, ?_⟩
      · rw [List.nodup_append, List.nodup_append]
        refine ⟨m1, ⟨M.kd.nodup hs', m3, ?_⟩, ?_⟩
        · intro a ha b hb hab
          subst hab
          rcases hG' a ha with h | h
          · exact m4 a h a hb rfl
          · have := hgT a (by rw [hoe]; simp [hb]); omega
        · intro a ha b hb hab
          subst hab
          rcases List.mem_append.1 hb with hb | hb
          · rcases hG' a hb with h | h
            · exact m5 a ha a (List.mem_append_left _ h) rfl
            · have := hgT a (by rw [hoe]; simp [ha]); omega
          · exact m5 a ha a (List.mem_append_right _ hb) rfl
      · intro a ha b hbb hab
        subst hab
        obtain rfl : a = g := by simpa using ha
        rcases List.mem_append.1 hbb with h9 | h9
        · exact n3 a (by simp) a (by rw [hoe]; simp [h9]) rfl
        · rcases List.mem_append.1 h9 with h9 | h9
          · exact hng a h9 rfl
          · exact n3 a (by simp) a (by rw [hoe]; simp [h9]) rfl
    · intro k hk
      rcases List.mem_append.1 hk with hk | hk
      · exact .inl (List.mem_append_left _ hk)
      · rw [hon] at hk
        rw [hoe]
        rcases List.mem_append.1 hk with hk | hk
        · exact .inl (by simp [hk])
        · rcases List.mem_append.1 hk with hk | hk
          · exact .inr hk
          · exact .inl (by simp [hk])

/-- the row's structs in another order -/
theorem Fm.own_perm (M : Fm α β) {w w' : World} {B : Nat} {v : Value} {T T' : List (It α)} (ho : w'.ownsRow B M.e M.size v T'.length (M.cells T')) (hs : ∀ t ∈ T, M.kd.own w B t.v (M.sub t.a) t.G) (hn : (v.ownBlock.toList ++ outG T).Nodup)
    (hp : T'.Perm T) (hf : Fr v.ownBlock.toList w w') : M.own w' B v (T'.map (·.a)) (v.ownBlock.toList ++ outG T') ∧ ∀ k, k ∈ v.ownBlock.toList ++ outG T' ↔ k ∈ v.ownBlock.toList ++ outG T := by
  have hpo : (outG T').Perm (outG T) := hp.flatMap_right _
  have hn3 := (List.nodup_append.1 hn).2.2
  refine ⟨⟨T', rfl, ho, fun t ht => ?_, rfl, (List.Perm.append_left _ hpo).nodup_iff.2 hn⟩, fun k => (List.Perm.append_left _ hpo).mem_iff⟩
  have ht' := hp.mem_iff.1 ht
  exact M.kd.keep (hs t ht') hf.size fun k hk => hf.block k (M.kd.ge (hs t ht') k hk).2 fun hx => hn3 k hx k (mem_outG ht' hk) rfl

/-- lists of texts, as a kind -/
def kdT (e : TypeId) : Kd (List ByteArray) where
  own w B v l F := w.ownsRow B e 1 v l.length (l.map Value.string) ∧ F = v.ownBlock.toList
  rd w lo hi v l := Sl2 w lo hi v l.length (l.map Value.string)
  keep := by rintro w w' B v l F ⟨h, rfl⟩ hsz hF; exact ⟨own_stay h hF, rfl⟩
  ge := by rintro w B v l F ⟨h, rfl⟩; exact own_ge2 h
  nodup := by rintro w B v l F ⟨h, rfl⟩; cases v.ownBlock <;> simp
  low := by rintro w B B' v l F ⟨h, rfl⟩ hB; exact ⟨own_low h hB, rfl⟩
  read := by rintro w B lo hi v l F ⟨h, rfl⟩ hl hh; exact Sl2.of_own h hl hh
  stay := fun h hb => h.stay hb
  wide := fun h h1 h2 => h.wide h1 h2
  slice := by rintro w lo hi v l ⟨A, c, rfl, _⟩; exact ⟨A, _, c, rfl⟩
end Go.Proofs.YteikagdinecfoaaGreatDoor.Gr
