/- The library's Sort and Compact on rows of texts of the call's own; SortFunc on rows of rules and of elements. -/
import Derived.Test.YteikagdinecfoaaGreatDoorSf
import Derived.Test.YteikagdinecfoaaGreatDoorHa
import Derived.Shelf.SlSortCmp.NoneTotal
import Derived.Lib.SlicesCompact
set_option linter.unusedVariables false
set_option linter.unusedSimpArgs false
namespace Go.Proofs.YteikagdinecfoaaGreatDoor.Sk
open Go.RowKit Lb Gr Pd Fl Go.Proofs.YteikagdinecfoaaGreatDoor.Pm Bk Ha Go.Proofs.YteikagdinecfoaaGreatDoor.So Go.Proofs.YteikagdinecfoaaGreatDoor.Rs Go.Proofs.YteikagdinecfoaaGreatDoor.Or Go.Proofs.YteikagdinecfoaaGreatDoor.Sf Go.Lib Go.Sort

theorem once_app : ∀ (l : List ByteArray) (x : ByteArray), onceL (l ++ [x]) = if l.getLast? = some x then onceL l else onceL l ++ [x]
  | [], x => by simp [onceL]
  | [a], x => by
    show (if a = x then onceL [x] else a :: onceL [x]) = _
    by_cases h : a = x
    · subst h; simp [onceL]
    · simp [onceL, h]
  | a :: b :: t, x => by
    have ih := once_app (b :: t) x
    have e : (a :: b :: t).getLast? = (b :: t).getLast? := by simp
    rw [e]
    show (if a = b then onceL (b :: t ++ [x]) else a :: onceL (b :: t ++ [x])) = _
    rw [ih]
    have e2 : onceL (a :: b :: t) = if a = b then onceL (b :: t) else a :: onceL (b :: t) := rfl
    rw [e2]
    by_cases h : a = b
    · simp only [h, if_true]
    · simp only [h, if_false]
      split <;> simp
theorem compact_upto (l : List ByteArray) : ∀ m, m ≤ l.length → (compactUpTo (l.map fun s => s.data.toList).toArray m).map str = onceL (l.take m)
  | 0, _ => by simp [compactUpTo, onceL]
  | m + 1, h => by
    have hm : m < l.length := by omega
    rw [compactUpTo_succ, List.map_append, compact_upto l m (by omega), List.take_succ_eq_append_getElem hm, once_app]
    have e : (l.map fun s => s.data.toList).toArray[m]! = l[m].data.toList := by
      rw [getElem!_pos _ m (by simpa using hm)]; simp
    have hk : keeps (l.map fun s => s.data.toList).toArray m = !decide ((l.take m).getLast? = some l[m]) := by
      cases m with
      | zero => simp [keeps]
      | succ q =>
        have e2 : (l.map fun s => s.data.toList).toArray[q]! = l[q].data.toList := by
          rw [getElem!_pos _ q (by simp; omega)]; simp
        have e3 : (l.take (q + 1)).getLast? = some l[q] := by
          rw [List.take_succ_eq_append_getElem (by omega), List.getLast?_concat]
        rw [e3]
        by_cases hq : l[q] = l[q + 1]
        · rw [keeps_neg (by omega) (by rw [e]; simp only [Nat.add_sub_cancel]; rw [e2, hq])]
          simp [hq]
        · rw [keeps_pos (by rw [e]; simp only [Nat.add_sub_cancel]; rw [e2]; intro h9; exact hq (by rw [← str_of l[q], ← str_of l[q + 1], h9]))]
          simp [hq]
    rw [hk]
    by_cases h1 : (l.take m).getLast? = some l[m]
    · simp [h1]
    · simp [h1, e, str_of]
theorem compact_once (l : List ByteArray) : (Lib.compact (l.map fun s => s.data.toList)).map str = onceL l := by
  have := compact_upto l l.length (Nat.le_refl _)
  rw [List.take_length] at this
  rw [← this]
  simp [Lib.compact]
theorem once_len (l : List ByteArray) : (onceL l).length ≤ l.length := by
  induction l with
  | nil => simp [onceL]
  | cons a t ih =>
    cases t with
    | nil => simp [onceL]
    | cons b t =>
      show (if a = b then onceL (b :: t) else a :: onceL (b :: t)).length ≤ _
      split
      · simp at ih ⊢; omega
      · simp at ih ⊢; omega

theorem sortW {w : World} {B : Nat} {u : Value} {ws : List ByteArray} {G : List Nat} (h : kdW.own w B u ws G) (hl : ws.length < 4611686018427387904) : Calls Tryz.prog 95 #[u] w fun e w' =>
    e = .returned (.tuple #[]) ∧ kdW.own w' B u (srt ws) G ∧ Fr G w w' := by
  obtain ⟨A, c, rfl, _⟩ := own_slice h.1
  have e := str_bts ws
  have h5 : Own w B (.slice A ws.length c) ((ws.map fun s : ByteArray => s.data.toList).map str) := by rw [e]; exact h.1
  refine (libSort h5 (by rw [List.length_map]; exact hl)).mono ?_
  rintro e1 w' ⟨rfl, h7, h8⟩
  rw [e] at h7
  exact ⟨rfl, ⟨h7, h.2⟩, h.2 ▸ Fr.of_grown h8⟩
theorem compactW {w : World} {B : Nat} {u : Value} {ws : List ByteArray} {G : List Nat} (h : kdW.own w B u ws G) : Calls Tryz.prog 174 #[u] w fun e w' =>
    ∃ u', e = .returned u' ∧ kdW.own w' B u' (onceL ws) G ∧ Fr G w w' := by
  obtain ⟨⟨hx, h1⟩, rfl⟩ := h
  rcases h1 with ⟨rfl, h0⟩ | ⟨g, cap, cur, rfl, hb, hg, hnc, hcm, hcs, htake⟩
  · have hl0 := List.eq_nil_of_length_eq_zero h0
    subst hl0
    refine (Tryz.slices_Compact_string_empty none 0 w).mono ?_
    rintro e w' ⟨rfl, rfl⟩
    exact ⟨_, rfl, ⟨World.ownsRow_nil _ _ _ _, rfl⟩, Fr.refl _ _⟩
  · obtain ⟨zs, hzs⟩ : ∃ zs, zs = ws.map fun s : ByteArray => s.data.toList := ⟨_, rfl⟩
    have hzl : zs.length = ws.length := by rw [hzs]; simp
    have hws : zs.map str = ws := by rw [hzs]; exact str_bts ws
    have hH : Holds encStr w g 0 zs.toArray := holds_of_block hg (by
      have h2 := htake
      rw [Nat.mul_one] at h2
      rw [hzl, h2, ← hws, List.map_map]
      rfl)
    have hc := Tryz.slices_Compact_string g 0 cap zs w hH (by rw [hzl]; unfold maxLen at hcm; omega) (by omega)
    have hcl := compact_once ws
    rw [← hzs] at hcl
    have hle : (Lib.compact zs).length ≤ zs.length := by
      have := once_len ws
      rw [← hcl, List.length_map] at this
      omega
    rw [hzl] at hc
    refine hc.mono ?_
    rintro e w' ⟨rfl, q, rfl⟩
    rw [← hzl]
    generalize hr : Lib.compact zs = r at *
    have hgr := grownBy_sorted (w := w) (g := g) (n := q) (os := #[]) (r ++ List.replicate (zs.length - r.length) ([] : List UInt8)).toArray
    have hhp := heap_sorted (w := w) (g := g) (n := q) (os := #[]) (r ++ List.replicate (zs.length - r.length) ([] : List UInt8)).toArray hg
    rw [Sort.grow_empty] at hgr hhp
    refine ⟨_, rfl, ⟨?_, rfl⟩, Fr.of_grown hgr⟩
    rw [← hcl, List.length_map]
    refine ⟨by simp, .inr ⟨g, cap, _, rfl, hb, hhp, by omega, hcm, by simp [Sort.putCells, hcs], ?_⟩⟩
    have h1 := take_putCells cur (r ++ List.replicate (zs.length - r.length) ([] : List UInt8)) (by rw [hcs, List.length_append, List.length_replicate]; omega)
    have h2 := congrArg (List.take r.length) h1
    rw [List.take_take, List.map_append, List.take_append_of_le_length (by simp)] at h2
    rw [show min r.length (r ++ List.replicate (zs.length - r.length) ([] : List UInt8)).length = r.length from by rw [List.length_append]; omega] at h2
    rw [Nat.mul_one, h2, List.take_of_length_le (by simp), List.map_map]
    rfl

/-! ### SortFunc -/
def ofR (t : It RuleD) : RC := rcOf t.a t.v
def ofE (t : It ElD) : EC := ecOf t.a t.v
theorem encR_len (x : RC) : (encR x).length = 3 := rfl
theorem encE_len (x : EC) : (encE x).length = 2 := rfl
theorem encR_one (x : RC) : ∀ v ∈ encR x, v.oneCell' = true := by intro v hv; simp [encR] at hv; rcases hv with rfl | rfl | rfl <;> rfl
theorem encE_one (x : EC) : ∀ v ∈ encE x, v.oneCell' = true := by intro v hv; simp [encE] at hv; rcases hv with rfl | rfl <;> rfl
set_option maxHeartbeats 1000000 in
set_option maxRecDepth 100000 in
theorem cmpRuC (x y : RC) (W : World) : Calls Tryz.prog 176 #[.agg #[.string x.n, .int .i64 x.k, .slice x.a x.l x.c], .agg #[.string y.n, .int .i64 y.k, .slice y.a y.l y.c]] W fun e w' => e = .returned (.int .i64 (cmpN RC.n x y)) ∧ ∃ q os', w' = grow (W.drewN q) os' := by
  have hcon := fun W' => Tryz.strings_Compare x.n y.n W'
  unfold cmpN
  generalize Lib.compareBytes x.n.data.toList y.n.data.toList = r at hcon ⊢
  have HC := Lib.hid hcon
  clear hcon
  go_enter Tryz.func176, Tryz.ntmps176
  go_wp2_with (go_at_call 126; refine (HC.out _).mono ?_; rintro e w' ⟨rfl, rfl⟩)
  go_ret
  exact ⟨rfl, 0, _, by rw [alloc_eq_grow, alloc_eq_grow, grow_grow]; rfl⟩
set_option maxHeartbeats 1000000 in
set_option maxRecDepth 100000 in
theorem cmpElC (x y : EC) (W : World) : Calls Tryz.prog 125 #[.agg #[.string x.n, .slice x.a x.l x.c], .agg #[.string y.n, .slice y.a y.l y.c]] W fun e w' => e = .returned (.int .i64 (cmpN EC.n x y)) ∧ ∃ q os', w' = grow (W.drewN q) os' := by
  have hcon := fun W' => Tryz.strings_Compare x.n y.n W'
  unfold cmpN
  generalize Lib.compareBytes x.n.data.toList y.n.data.toList = r at hcon ⊢
  have HC := Lib.hid hcon
  clear hcon
  go_enter Tryz.func125, Tryz.ntmps125
  go_wp2_with (go_at_call 126; refine (HC.out _).mono ?_; rintro e w' ⟨rfl, rfl⟩)
  go_ret
  exact ⟨rfl, 0, _, by rw [alloc_eq_grow, alloc_eq_grow, grow_grow]; rfl⟩
set_option maxHeartbeats 4000000 in
set_option maxRecDepth 100000 in
theorem sortRuC {w : World} {B : Nat} {v : Value} {l : List RuleD} {F : List Nat} (h : kdR.own w B v l F) (hnd : (l.map RuleD.name).Nodup) (hl : l.length < 4611686018427387904) :
    Calls Tryz.prog 175 #[v, .func (.func 176) #[] #[]] w fun e w' => e = .returned (.tuple #[]) ∧ ∃ F', kdR.own w' B v (ordBy RuleD.name l) F' ∧ (∀ k, k ∈ F' ↔ k ∈ F) ∧ Fr F w w' := by
  obtain ⟨T, rfl, ho, hs, rfl, hn⟩ := h
  have hof : ∀ t ∈ T, encR (ofR t) = fmR.enc t.a t.v := fun t ht => by
    obtain ⟨A, n, c, e⟩ := kdW.slice (kdW.read (lo := 0) (hi := w.heap.size) (hs t ht) (Nat.zero_le _) (Nat.le_refl _))
    first | unfold ofR | unfold ofE
    rw [e]; rfl
  rcases ho.2 with ⟨rfl, h0⟩ | ⟨g, cap, cur, rfl, hb, hg, _⟩
  · have hl0 := List.eq_nil_of_length_eq_zero h0
    subst hl0
    have hc := AnyF.slices_SortFunc_none Tryz.sortRu none 0 (.func (.func 176) #[] #[]) w
    refine hc.mono ?_
    rintro e w' ⟨rfl, rfl⟩
    have e0 : ordBy RuleD.name (([] : List (It RuleD)).map (·.a)) = [] := by simp [ordBy]
    exact ⟨rfl, [], by rw [e0]; exact fmR.own_nil w' B, by simp [Value.ownBlock, outG], Fr.refl _ _⟩
  · have hT : (T.map ofR).toArray.size = T.length := by simp
    have hc := AnyQ.slices_SortFunc Tryz.sortRu 3 Tryz.isAgg50 Tryz.sizeOf50 encR encR_len encR_one (cmpN RC.n) (swoN RC.n) 176 #[] g 0 cap (T.map ofR).toArray w
      (enters_of Tryz.func176 (by kernel_rfl) rfl) (fun _ _ _ _ x y => cmpRuC x y _) (holds_own fmR encR ofR encR_len ho hof) (Array.getElem?_eq_some_iff.1 hg).1 (by rw [hT]; simpa using hl)
    rw [hT] at hc
    refine hc.mono ?_
    rintro e w' ⟨rfl, d, n, os, hp, hsd, rfl⟩
    obtain ⟨F', h1, h2, h3⟩ := sort_own fmR encR ofR RC.n RuleD.name encR_len (fun t => rcN _ _) (n := n) (os := os) ho hof hs hn hnd (by rw [hT]; exact hp) (by rw [hT]; exact hsd)
    exact ⟨rfl, F', h1, h2, h3.mono (by intro x hx; simp at hx; subst hx; simp [Value.ownBlock])⟩
set_option maxHeartbeats 4000000 in
set_option maxRecDepth 100000 in
theorem sortElC {w : World} {B : Nat} {v : Value} {l : List ElD} {F : List Nat} (h : kdE.own w B v l F) (hnd : (l.map ElD.name).Nodup) (hl : l.length < 4611686018427387904) :
    Calls Tryz.prog 124 #[v, .func (.func 125) #[] #[]] w fun e w' => e = .returned (.tuple #[]) ∧ ∃ F', kdE.own w' B v (ordBy ElD.name l) F' ∧ (∀ k, k ∈ F' ↔ k ∈ F) ∧ Fr F w w' := by
  obtain ⟨T, rfl, ho, hs, rfl, hn⟩ := h
  have hof : ∀ t ∈ T, encE (ofE t) = fmE.enc t.a t.v := fun t ht => by
    obtain ⟨A, n, c, e⟩ := kdR.slice (kdR.read (lo := 0) (hi := w.heap.size) (hs t ht) (Nat.zero_le _) (Nat.le_refl _))
    first | unfold ofR | unfold ofE
    rw [e]; rfl
  rcases ho.2 with ⟨rfl, h0⟩ | ⟨g, cap, cur, rfl, hb, hg, _⟩
  · have hl0 := List.eq_nil_of_length_eq_zero h0
    subst hl0
    have hc := AnyF.slices_SortFunc_none Tryz.sortEl none 0 (.func (.func 125) #[] #[]) w
    refine hc.mono ?_
    rintro e w' ⟨rfl, rfl⟩
    have e0 : ordBy ElD.name (([] : List (It ElD)).map (·.a)) = [] := by simp [ordBy]
    exact ⟨rfl, [], by rw [e0]; exact fmE.own_nil w' B, by simp [Value.ownBlock, outG], Fr.refl _ _⟩
  · have hT : (T.map ofE).toArray.size = T.length := by simp
    have hc := AnyQ.slices_SortFunc Tryz.sortEl 2 Tryz.isAgg45 Tryz.sizeOf45 encE encE_len encE_one (cmpN EC.n) (swoN EC.n) 125 #[] g 0 cap (T.map ofE).toArray w
      (enters_of Tryz.func125 (by kernel_rfl) rfl) (fun _ _ _ _ x y => cmpElC x y _) (holds_own fmE encE ofE encE_len ho hof) (Array.getElem?_eq_some_iff.1 hg).1 (by rw [hT]; simpa using hl)
    rw [hT] at hc
    refine hc.mono ?_
    rintro e w' ⟨rfl, d, n, os, hp, hsd, rfl⟩
    obtain ⟨F', h1, h2, h3⟩ := sort_own fmE encE ofE EC.n ElD.name encE_len (fun t => ecN _ _) (n := n) (os := os) ho hof hs hn hnd (by rw [hT]; exact hp) (by rw [hT]; exact hsd)
    exact ⟨rfl, F', h1, h2, h3.mono (by intro x hx; simp at hx; subst hx; simp [Value.ownBlock])⟩
end Go.Proofs.YteikagdinecfoaaGreatDoor.Sk
