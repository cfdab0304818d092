/- The plain law of fields: no field has a blank, none is empty; those of two texts with a blank between are both's; collapsed stays collapsed. No program in sight. -/
import Derived.Test.YtknpppppjmhomaaDoorMisc
namespace Go.Proofs.YtknpppppjmhomaaDoor.Pf
open Go.RowKit Lb Fl Ms

/-- no blank in it -/
def nob (l : List UInt8) : Prop := ∀ c ∈ l, blB c = false
theorem flds_nob : ∀ (s cur r : List UInt8), nob s → flds cur (s ++ r) = flds (cur ++ s) r
  | [], cur, r, _ => by simp
  | c :: s, cur, r, h => by
    have hc : blB c = false := h c (List.mem_cons_self ..)
    rw [List.cons_append, flds, hc]
    simp only [Bool.false_eq_true, if_false]
    rw [flds_nob s (cur ++ [c]) r (fun x hx => h x (List.mem_cons_of_mem _ hx))]
    simp
theorem flds_cut : ∀ (x cur y : List UInt8) (b : UInt8), blB b = true → flds cur (x ++ b :: y) = flds cur x ++ flds [] y
  | [], cur, y, b, hb => by
    rw [List.nil_append]
    simp only [flds, hb, if_true]
    split <;> simp
  | c :: x, cur, y, b, hb => by
    rw [List.cons_append, flds, flds]
    split
    · split
      · exact flds_cut x [] y b hb
      · rw [flds_cut x [] y b hb]; simp
    · exact flds_cut x (cur ++ [c]) y b hb
theorem flds_mem : ∀ (l cur : List UInt8), nob cur → ∀ s ∈ flds cur l, s ≠ [] ∧ nob s
  | [], cur, hn, s, hs => by
    rw [flds] at hs
    split at hs
    · cases hs
    · rename_i h
      simp at hs; subst hs
      exact ⟨by simpa using h, hn⟩
  | c :: l, cur, hn, s, hs => by
    rw [flds] at hs
    split at hs
    · split at hs
      · exact flds_mem l [] (fun _ h => by cases h) s hs
      · rename_i h
        rcases List.mem_cons.1 hs with rfl | hs
        · exact ⟨by simpa using h, hn⟩
        · exact flds_mem l [] (fun _ h => by cases h) s hs
    · rename_i hc
      refine flds_mem l (cur ++ [c]) ?_ s hs
      intro x hx
      rcases List.mem_append.1 hx with hx | hx
      · exact hn x hx
      · simp at hx; subst hx; simpa using hc
theorem flds_one {s : List UInt8} (h : s ≠ []) (hn : nob s) : flds [] s = [s] := by
  have := flds_nob s [] [] hn
  rw [List.append_nil, List.nil_append] at this
  rw [this, flds]
  simp [h]
theorem front_nob {s : List UInt8} (h : ∀ c, s.head? = some c → blB c = false) : frontL s = s := by
  cases s with
  | nil => rfl
  | cons c r => have := h c rfl; simp [frontL, this]
theorem back_nob {s : List UInt8} (h : ∀ c, s.getLast? = some c → blB c = false) : backL s = s := by
  unfold backL
  have : (s.reverse).dropWhile blB = s.reverse := by
    have hf := front_nob (s := s.reverse) (fun c hc => h c (by rw [List.head?_reverse] at hc; exact hc))
    exact hf
  rw [this, List.reverse_reverse]
theorem trim_nob {s : List UInt8} (h : nob s) : trimL s = s := by
  unfold trimL
  rw [front_nob (fun c hc => h c (List.mem_of_mem_head? hc)), back_nob (fun c hc => h c (List.mem_of_getLast? hc))]
/-- the fields of joined fields -/
theorem flds_join : ∀ (L : List (List UInt8)), (∀ s ∈ L, s ≠ [] ∧ nob s) → flds [] (Lib.join L [32]) = L
  | [], _ => by simp [Lib.join, flds]
  | [s], h => by
    rw [Lib.join_one]
    exact flds_one (h s (List.mem_cons_self ..)).1 (h s (List.mem_cons_self ..)).2
  | s :: t :: r, h => by
    have hs := h s (List.mem_cons_self ..)
    have ih := flds_join (t :: r) (fun x hx => h x (List.mem_cons_of_mem _ hx))
    have e : Lib.join (s :: t :: r) [32] = s ++ 32 :: Lib.join (t :: r) [32] := by
      rw [Lib.join_cons, Lib.join_cons]
      simp [Lib.joinTail]
    rw [e, flds_cut s [] _ 32 (by decide), flds_one hs.1 hs.2, ih]
    rfl
theorem join_head {L : List (List UInt8)} (h : ∀ s ∈ L, s ≠ [] ∧ nob s) : ∀ c, (Lib.join L [32]).head? = some c → blB c = false := by
  intro c hc
  cases L with
  | nil => simp [Lib.join] at hc
  | cons s r =>
    have hs := h s (List.mem_cons_self ..)
    rw [Lib.join_cons] at hc
    cases s with
    | nil => exact absurd rfl hs.1
    | cons a s =>
      simp at hc; subst hc
      exact hs.2 _ (List.mem_cons_self ..)
theorem join_last : ∀ {L : List (List UInt8)}, (∀ s ∈ L, s ≠ [] ∧ nob s) → ∀ c, (Lib.join L [32]).getLast? = some c → blB c = false
  | [], _, c, hc => by simp [Lib.join] at hc
  | [s], h, c, hc => by
    rw [Lib.join_one] at hc
    exact (h s (List.mem_cons_self ..)).2 c (List.mem_of_getLast? hc)
  | s :: t :: r, h, c, hc => by
    have e : Lib.join (s :: t :: r) [32] = (s ++ [32]) ++ Lib.join (t :: r) [32] := by
      rw [Lib.join_cons, Lib.join_cons]
      simp [Lib.joinTail]
    have hne : Lib.join (t :: r) [32] ≠ [] := by
      have ht := (h t (List.mem_cons_of_mem _ (List.mem_cons_self ..))).1
      rw [Lib.join_cons]
      intro e2
      exact ht (List.append_eq_nil_iff.1 e2).1
    rw [e, List.getLast?_append] at hc
    obtain ⟨z, hz⟩ : ∃ z, (Lib.join (t :: r) [32]).getLast? = some z := ⟨_, List.getLast?_eq_some_getLast hne⟩
    rw [hz, Option.some_or] at hc
    rw [← hz] at hc
    exact join_last (fun x hx => h x (List.mem_cons_of_mem _ hx)) c hc

-- the same, of texts
theorem fields_mem {a s : ByteArray} (h : s ∈ fieldsS a) : s.data.toList ≠ [] ∧ nob s.data.toList := by
  unfold fieldsS fieldsL at h
  obtain ⟨x, hx, rfl⟩ := List.mem_map.1 h
  rw [str_toList]
  exact flds_mem _ [] (fun _ h => by cases h) x hx
theorem field_ne {a s : ByteArray} (h : s ∈ fieldsS a) : 0 < s.size := by
  have h1 := (fields_mem h).1
  rw [← size_len]
  exact List.length_pos_iff.2 h1
theorem field_trim {a s : ByteArray} (h : s ∈ fieldsS a) : str (trimL s.data.toList) = s := by
  rw [trim_nob (fields_mem h).2, str_of]
theorem field_one {a s : ByteArray} (h : s ∈ fieldsS a) : fieldsS s = [s] := by
  unfold fieldsS fieldsL
  rw [flds_one (fields_mem h).1 (fields_mem h).2]
  simp [str_of]
theorem app_toList (a b : ByteArray) : (a ++ b).data.toList = a.data.toList ++ b.data.toList := by simp
theorem fields_both (a b : ByteArray) (c : UInt8) (hc : blB c = true) : fieldsS (a ++ str [c] ++ b) = fieldsS a ++ fieldsS b := by
  unfold fieldsS fieldsL
  rw [app_toList, app_toList, str_toList, List.append_assoc, List.singleton_append, flds_cut _ [] _ c hc, List.map_append]
theorem coll_toList (a : ByteArray) : (collS a).data.toList = Lib.join (flds [] a.data.toList) [32] := by
  unfold collS joinS
  rw [str_toList, fieldsS_lists, str_toList]
  rfl
theorem fields_coll (a : ByteArray) : fieldsS (collS a) = fieldsS a := by
  unfold fieldsS fieldsL
  rw [coll_toList, flds_join _ (fun s hs => flds_mem _ [] (fun _ h => by cases h) s hs)]
theorem coll_coll (a : ByteArray) : collS (collS a) = collS a := by
  show joinS (fieldsS (collS a)) _ = joinS (fieldsS a) _
  rw [fields_coll]
theorem trim_coll (a : ByteArray) : str (trimL (collS a).data.toList) = collS a := by
  have h := fun s hs => flds_mem a.data.toList [] (fun _ h => by cases h) s hs
  have e : trimL (collS a).data.toList = (collS a).data.toList := by
    rw [coll_toList]
    unfold trimL
    rw [front_nob (join_head h), back_nob (join_last h)]
  rw [e, str_of]
end Go.Proofs.YtknpppppjmhomaaDoor.Pf
