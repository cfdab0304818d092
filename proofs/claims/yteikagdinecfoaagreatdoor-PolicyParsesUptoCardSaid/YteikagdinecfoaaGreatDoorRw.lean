/- A policy of the call's own: one of its four rows turned, the others as they stood. -/
import Derived.Test.YteikagdinecfoaaGreatDoorRu
set_option linter.unusedVariables false
set_option linter.unusedSimpArgs false
namespace Go.Proofs.YteikagdinecfoaaGreatDoor.Rw
open Go.RowKit Lb Gr Pd Fl Go.Proofs.YteikagdinecfoaaGreatDoor.Pm Bk Is Go.Proofs.YteikagdinecfoaaGreatDoor.Sl Go.Proofs.YteikagdinecfoaaGreatDoor.Ck Pt
theorem mid {A M C M' : List Nat} {N : Nat} (h : (A ++ (M ++ C)).Nodup) (hm : M'.Nodup) (hn : ∀ k ∈ M', k ∈ M ∨ N ≤ k) (hl : ∀ k ∈ A ++ C, k < N) : (A ++ (M' ++ C)).Nodup := by
  obtain ⟨h1, h2, h3⟩ := List.nodup_append.1 h
  obtain ⟨h4, h5, h6⟩ := List.nodup_append.1 h2
  refine List.nodup_append.2 ⟨h1, List.nodup_append.2 ⟨hm, h5, fun a ha b hb e => ?_⟩, fun a ha b hb e => ?_⟩
  · subst e
    rcases hn a ha with h | h
    · exact h6 a h a hb rfl
    · have := hl a (List.mem_append_right _ hb); omega
  · subst e
    rcases List.mem_append.1 hb with hb | hb
    · rcases hn a hb with h | h
      · exact h3 a ha a (List.mem_append_left _ h) rfl
      · have := hl a (List.mem_append_left _ ha); omega
    · exact h3 a ha a (List.mem_append_right _ hb) rfl
/-- what one row more, or one row turned, leaves of the memory -/
structure Tn (w w9 : World) (F F' : List Nat) : Prop where
  size : w.heap.size ≤ w9.heap.size
  old : ∀ k, k ∉ F → k < w.heap.size → w9.heap[k]? = w.heap[k]?
  new : ∀ k ∈ F', k ∈ F ∨ w.heap.size ≤ k
theorem out_of {A M C : List Nat} (h : (A ++ (M ++ C)).Nodup) : ∀ k ∈ A ++ C, k ∉ M := by
  obtain ⟨h1, h2, h3⟩ := List.nodup_append.1 h
  obtain ⟨h4, h5, h6⟩ := List.nodup_append.1 h2
  intro k hk hm
  rcases List.mem_append.1 hk with hk | hk
  · exact h3 k hk k (List.mem_append_left _ hm) rfl
  · exact h6 k hm k hk rfl
theorem turnE {w w9 : World} {B : Nat} {x : Vs} {p : PolD} {F1 F2 F3 F4 F' : List Nat} {v : Value} {l : List ElD} (h2 : kdR.own w B x.g p.glob F2) (h3 : kdW.own w B x.s p.schemes F3) (h4 : kdW.own w B x.d p.drop F4)
    (hn : (F1 ++ (F2 ++ (F3 ++ F4))).Nodup) (h : kdE.own w9 B v l F') (ht : Tn w w9 F1 F') : OwnP w9 B ⟨v, x.g, x.s, x.d⟩ { p with els := l } (F' ++ (F2 ++ (F3 ++ F4))) := by
  have ho := out_of (A := []) (by simpa using hn)
  have hl : ∀ k ∈ ([] : List Nat) ++ (F2 ++ (F3 ++ F4)), k < w.heap.size := fun k hk => by
    simp only [List.nil_append, List.mem_append] at hk
    rcases hk with hk | hk | hk
    · exact (kdR.ge h2 k hk).2
    · exact (kdW.ge h3 k hk).2
    · exact (kdW.ge h4 k hk).2
  have hk2 : ∀ k ∈ F2 ++ (F3 ++ F4), w9.heap[k]? = w.heap[k]? := fun k hk => ht.old k (ho k (by simpa using hk)) (hl k (by simpa using hk))
  exact ⟨_, _, _, _, h, kdR.keep h2 ht.size fun k hk => hk2 k (by simp [hk]), kdW.keep h3 ht.size fun k hk => hk2 k (by simp [hk]), kdW.keep h4 ht.size fun k hk => hk2 k (by simp [hk]), rfl, by simpa using mid (A := []) (by simpa using hn) (kdE.nodup h) ht.new hl⟩
theorem turnG {w w9 : World} {B : Nat} {x : Vs} {p : PolD} {F1 F2 F3 F4 F' : List Nat} {v : Value} {l : List RuleD} (h1 : kdE.own w B x.e p.els F1) (h3 : kdW.own w B x.s p.schemes F3) (h4 : kdW.own w B x.d p.drop F4)
    (hn : (F1 ++ (F2 ++ (F3 ++ F4))).Nodup) (h : kdR.own w9 B v l F') (ht : Tn w w9 F2 F') : OwnP w9 B ⟨x.e, v, x.s, x.d⟩ { p with glob := l } (F1 ++ (F' ++ (F3 ++ F4))) := by
  have ho := out_of (A := F1) hn
  have hl : ∀ k ∈ F1 ++ (F3 ++ F4), k < w.heap.size := fun k hk => by
    simp only [List.mem_append] at hk
    rcases hk with hk | hk | hk
    · exact (kdE.ge h1 k hk).2
    · exact (kdW.ge h3 k hk).2
    · exact (kdW.ge h4 k hk).2
  have hk2 : ∀ k ∈ F1 ++ (F3 ++ F4), w9.heap[k]? = w.heap[k]? := fun k hk => ht.old k (ho k hk) (hl k hk)
  exact ⟨_, _, _, _, kdE.keep h1 ht.size fun k hk => hk2 k (by simp [hk]), h, kdW.keep h3 ht.size fun k hk => hk2 k (by simp [hk]), kdW.keep h4 ht.size fun k hk => hk2 k (by simp [hk]), rfl, mid hn (kdR.nodup h) ht.new hl⟩
theorem turnS {w w9 : World} {B : Nat} {x : Vs} {p : PolD} {F1 F2 F3 F4 F' : List Nat} {v : Value} {l : List ByteArray} (h1 : kdE.own w B x.e p.els F1) (h2 : kdR.own w B x.g p.glob F2) (h4 : kdW.own w B x.d p.drop F4)
    (hn : (F1 ++ (F2 ++ (F3 ++ F4))).Nodup) (h : kdW.own w9 B v l F') (ht : Tn w w9 F3 F') : OwnP w9 B ⟨x.e, x.g, v, x.d⟩ { p with schemes := l } (F1 ++ (F2 ++ (F' ++ F4))) := by
  have hn' : ((F1 ++ F2) ++ (F3 ++ F4)).Nodup := by simpa using hn
  have ho := out_of hn'
  have hl : ∀ k ∈ (F1 ++ F2) ++ F4, k < w.heap.size := fun k hk => by
    simp only [List.mem_append] at hk
    rcases hk with (hk | hk) | hk
    · exact (kdE.ge h1 k hk).2
    · exact (kdR.ge h2 k hk).2
    · exact (kdW.ge h4 k hk).2
  have hk2 : ∀ k ∈ (F1 ++ F2) ++ F4, w9.heap[k]? = w.heap[k]? := fun k hk => ht.old k (ho k hk) (hl k hk)
  exact ⟨_, _, _, _, kdE.keep h1 ht.size fun k hk => hk2 k (by simp [hk]), kdR.keep h2 ht.size fun k hk => hk2 k (by simp [hk]), h, kdW.keep h4 ht.size fun k hk => hk2 k (by simp [hk]), rfl, by simpa using mid hn' (kdW.nodup h) ht.new hl⟩
theorem turnD {w w9 : World} {B : Nat} {x : Vs} {p : PolD} {F1 F2 F3 F4 F' : List Nat} {v : Value} {l : List ByteArray} (h1 : kdE.own w B x.e p.els F1) (h2 : kdR.own w B x.g p.glob F2) (h3 : kdW.own w B x.s p.schemes F3)
    (hn : (F1 ++ (F2 ++ (F3 ++ F4))).Nodup) (h : kdW.own w9 B v l F') (ht : Tn w w9 F4 F') : OwnP w9 B ⟨x.e, x.g, x.s, v⟩ { p with drop := l } (F1 ++ (F2 ++ (F3 ++ F'))) := by
  have hn' : ((F1 ++ (F2 ++ F3)) ++ (F4 ++ [])).Nodup := by simpa using hn
  have ho := out_of hn'
  have hl : ∀ k ∈ (F1 ++ (F2 ++ F3)) ++ [], k < w.heap.size := fun k hk => by
    simp only [List.append_nil, List.mem_append] at hk
    rcases hk with hk | hk | hk
    · exact (kdE.ge h1 k hk).2
    · exact (kdR.ge h2 k hk).2
    · exact (kdW.ge h3 k hk).2
  have hk2 : ∀ k ∈ F1 ++ (F2 ++ F3), w9.heap[k]? = w.heap[k]? := fun k hk => ht.old k (ho k (by simpa using hk)) (hl k (by simpa using hk))
  exact ⟨_, _, _, _, kdE.keep h1 ht.size fun k hk => hk2 k (by simp [hk]), kdR.keep h2 ht.size fun k hk => hk2 k (by simp [hk]), kdW.keep h3 ht.size fun k hk => hk2 k (by simp [hk]), h, rfl, by simpa using mid hn' (kdW.nodup h) ht.new hl⟩
/-- a text more behind a row of the call's own -/
theorem word_more {w w9 : World} {B : Nat} {v v9 : Value} {l : List ByteArray} {F : List Nat} {y : ByteArray} {o : Obj} (h : kdW.own w B v l F) (h1 : w9.ownsRow B 9 1 v9 (l.length + 1) (l.map Value.string ++ [.string y]))
    (hg : (w.alloc o).grownBy w9 v.ownBlock) (hv : v9.ownBlock = v.ownBlock ∨ v9.ownBlock = some (w.alloc o).heap.size) : kdW.own w9 B v9 (l ++ [y]) v9.ownBlock.toList ∧ Tn w w9 F v9.ownBlock.toList := by
  have hF : F = v.ownBlock.toList := h.2
  refine ⟨⟨Own.push h1, rfl⟩, ⟨by have := hg.size; simp at this; omega, fun k hk hlt => ?_, fun k hk => ?_⟩⟩
  · rw [hg.block k (by simp; omega) (fun e => hk (by rw [hF, ← e]; simp)), Below.heap_alloc _ _ _ hlt]
  · rcases hv with e | e
    · rw [e] at hk; rw [hF]; exact .inl hk
    · rw [e] at hk; simp at hk; right; omega
/-- a struct more behind a row of the call's own -/
theorem item_more {α β : Type} (M : Fm α β) {wr W2 w1 : World} {B : Nat} {v v' : Value} {T : List (It α)} {t : It α} {o : Obj} (ho : wr.ownsRow B M.e M.size v T.length (M.cells T)) (hs : ∀ t ∈ T, M.kd.own wr B t.v (M.sub t.a) t.G) (hn : (v.ownBlock.toList ++ outG T).Nodup)
    (hb : Below wr.heap.size wr W2) (hB : B ≤ wr.heap.size) (ht : M.kd.own W2 wr.heap.size t.v (M.sub t.a) t.G)
    (h1 : w1.ownsRow B M.e M.size v' (T.length + 1) (M.cells T ++ M.enc t.a t.v)) (hg : (W2.alloc o).grownBy w1 v.ownBlock) (hv : v'.ownBlock = v.ownBlock ∨ v'.ownBlock = some (W2.alloc o).heap.size) :
    M.own w1 B v' (T.map (·.a) ++ [t.a]) (v'.ownBlock.toList ++ outG (T ++ [t])) ∧ Tn wr w1 (v.ownBlock.toList ++ outG T) (v'.ownBlock.toList ++ outG (T ++ [t])) := by
  have hz := hb.size
  have hgs := hg.size
  refine ⟨M.push ho hs hn hb hB ht h1 hg hv, ⟨by simp at hgs; omega, fun k hk hlt => ?_, fun k hk => ?_⟩⟩
  · rw [hg.block k (by simp; omega) (fun e => hk (List.mem_append_left _ (by rw [← e]; simp))), Below.heap_alloc _ _ _ (by omega), hb.block k hlt]
  · rcases List.mem_append.1 hk with hk | hk
    · rcases hv with e | e
      · rw [e] at hk; exact .inl (List.mem_append_left _ hk)
      · rw [e] at hk; simp at hk; right; omega
    · have e : outG (T ++ [t]) = outG T ++ t.G := by simp [outG]
      rw [e] at hk
      rcases List.mem_append.1 hk with hk | hk
      · exact .inl (List.mem_append_right _ hk)
      · exact .inr (M.kd.ge ht k hk).1
theorem cutS_len (s : ByteArray) (c : UInt8) : (cutS s c).length ≤ s.size + 1 := by
  unfold cutS cutL
  rw [List.length_map]
  have h : ∀ (l cur : List UInt8), (cutG c cur l).length ≤ l.length + 1 := Ru.cutG_len c
  have := h s.data.toList []
  rw [size_len] at this
  exact this
/-- how long the rows of a policy are at most -/
def LenP (p : PolD) (n : Nat) : Prop := p.els.length ≤ n ∧ p.glob.length ≤ n ∧ p.schemes.length ≤ n ∧ p.drop.length ≤ n ∧ ∀ e ∈ p.els, e.rules.length ≤ n
theorem lastR_len (l : List ElD) (r : RuleD) : (lastR l r).length = l.length := by simp [lastR]
theorem lastR_mem {l : List ElD} {r : RuleD} {e : ElD} (h : e ∈ lastR l r) : e ∈ l ∨ ∃ e' ∈ l, e = ⟨e'.name, e'.rules ++ [r]⟩ := by
  unfold lastR at h
  obtain ⟨i, hi, rfl⟩ := List.mem_iff_getElem.1 h
  have hi' : i < l.length := by simpa using hi
  rw [List.getElem_modify]
  split
  · exact .inr ⟨_, List.getElem_mem hi', rfl⟩
  · exact .inl (List.getElem_mem hi')
theorem line_len {st st' : RS} {ws : List ByteArray} {n : Nat} (h : lineO st ws = some st') (hl : LenP st.p n) : LenP st'.p (n + 1) := by
  obtain ⟨h1, h2, h3, h4, h5⟩ := hl
  have h5' : ∀ e ∈ st.p.els, e.rules.length ≤ n + 1 := fun e he => Nat.le_succ_of_le (h5 e he)
  unfold lineO at h
  repeat' split at h
  all_goals first
    | (cases h; done)
    | (obtain rfl := Option.some.inj h
       refine ⟨?_, ?_, ?_, ?_, ?_⟩ <;> first
         | (show _ ≤ _; simp [lastR_len]; omega)
         | (show _ ≤ _; simp; omega)
         | exact h5'
         | (intro e he
            simp only [List.mem_append, List.mem_singleton] at he
            rcases he with he | rfl
            · exact h5' e he
            · simp)
         | (intro e he
            rcases lastR_mem he with he | ⟨e', he', rfl⟩
            · exact h5' e he
            · have := h5 e' he'
              simp
              omega))
end Go.Proofs.YteikagdinecfoaaGreatDoor.Rw
