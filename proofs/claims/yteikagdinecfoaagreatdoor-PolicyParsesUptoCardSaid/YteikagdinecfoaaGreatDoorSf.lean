/- Lists in the order of their names, and words in order: plain laws, no program. -/
import Derived.Test.YteikagdinecfoaaGreatDoorBk
import Derived.Test.YteikagdinecfoaaGreatDoorSo
import Derived.Test.YteikagdinecfoaaGreatDoorRs
import Derived.Shelf.SlSortCmp.WholeK
import Derived.Sort.OwnSorted
import Derived.Lib.Bytealg
set_option linter.unusedVariables false
namespace Go.Proofs.YteikagdinecfoaaGreatDoor.Or
open Go.RowKit Lb Gr Pd Go.Proofs.YteikagdinecfoaaGreatDoor.So Go.Proofs.YteikagdinecfoaaGreatDoor.Rs

theorem leS_refl (a : ByteArray) : leS a a = true := by unfold leS leB; simp
theorem leS_total (a b : ByteArray) : leS a b = true ∨ leS b a = true := by
  unfold leS leB
  simp only [decide_eq_true_eq]
  exact List.le_total _ _
theorem leS_anti {a b : ByteArray} (h1 : leS a b = true) (h2 : leS b a = true) : a = b := by
  unfold leS leB at *
  simp only [decide_eq_true_eq] at *
  have := List.le_antisymm h1 h2
  rw [← str_of a, ← str_of b, this]

/-- by a name -/
def leN {α : Type} (f : α → ByteArray) (a b : α) : Bool := leS (f a) (f b)
def ordBy {α : Type} (f : α → ByteArray) (l : List α) : List α := l.mergeSort (leN f)
theorem ordBy_perm {α : Type} (f : α → ByteArray) (l : List α) : (ordBy f l).Perm l := List.mergeSort_perm _ _
theorem ordBy_sorted {α : Type} (f : α → ByteArray) (l : List α) : (ordBy f l).Pairwise fun a b => leN f a b = true :=
  List.pairwise_mergeSort (le := leN f) (fun a b c h1 h2 => le_trans' (a := f a) (b := f b) (c := f c) h1 h2) (fun a b => by
    show (leS (f a) (f b) || leS (f b) (f a)) = true
    rcases leS_total (f a) (f b) with h | h
    · rw [h]; rfl
    · rw [h, Bool.or_true]) l
/-- of names that are all different there is one order -/
theorem ord_uniq {α : Type} {f : α → ByteArray} : ∀ {l r : List α}, l.Perm r → l.Pairwise (fun a b => leN f a b = true) → r.Pairwise (fun a b => leN f a b = true) → (l.map f).Nodup → l = r
  | [], r, hp, _, _, _ => (List.Perm.eq_nil hp.symm).symm
  | a :: l, r, hp, h1, h2, hn => by
    cases r with
    | nil => exact absurd hp.symm.nil_eq (by simp)
    | cons b r =>
      have hab : a = b := by
        by_cases he : a = b
        · exact he
        · have hb : b ∈ a :: l := hp.mem_iff.2 (List.mem_cons_self ..)
          have ha : a ∈ b :: r := hp.mem_iff.1 (List.mem_cons_self ..)
          have hb' : b ∈ l := (List.mem_cons.1 hb).resolve_left (fun e => he e.symm)
          have ha' : a ∈ r := (List.mem_cons.1 ha).resolve_left he
          have e := leS_anti ((List.pairwise_cons.1 h1).1 b hb') ((List.pairwise_cons.1 h2).1 a ha')
          rw [List.map_cons, List.nodup_cons] at hn
          exact absurd (List.mem_map.2 ⟨b, hb', e.symm⟩) hn.1
      subst hab
      rw [List.map_cons, List.nodup_cons] at hn
      rw [ord_uniq hp.cons_inv (List.pairwise_cons.1 h1).2 (List.pairwise_cons.1 h2).2 hn.2]
theorem ordBy_eq {α : Type} {f : α → ByteArray} {l r : List α} (hp : r.Perm l) (hs : r.Pairwise fun a b => leN f a b = true) (hn : (l.map f).Nodup) : r = ordBy f l :=
  ord_uniq (hp.trans (ordBy_perm f l).symm) hs (ordBy_sorted f l) ((hp.map f).nodup_iff.2 hn)
theorem ordBy_len {α : Type} (f : α → ByteArray) (l : List α) : (ordBy f l).length = l.length := (ordBy_perm f l).length_eq
theorem srt_ordBy (l : List ByteArray) : srt l = ordBy id l := by
  symm
  exact srt_eq (ordBy_perm id l) (ordBy_sorted id l)
theorem srt_perm (l : List ByteArray) : (srt l).Perm l := by rw [srt_ordBy]; exact ordBy_perm _ _
theorem srt_sorted (l : List ByteArray) : (srt l).Pairwise fun a b => leS a b = true := by rw [srt_ordBy]; exact ordBy_sorted _ _
theorem srt_mem {l : List ByteArray} {x : ByteArray} : x ∈ srt l ↔ x ∈ l := (srt_perm l).mem_iff
/-- the names in order are the order of the names -/
theorem map_ordBy {α : Type} (f : α → ByteArray) (l : List α) : (ordBy f l).map f = srt (l.map f) :=
  srt_eq ((ordBy_perm f l).map f) (List.pairwise_map.2 (ordBy_sorted f l))
theorem ordBy_map {α β : Type} {f : α → ByteArray} {g : β → ByteArray} (m : α → β) (hm : ∀ a, g (m a) = f a) (l : List α) (hn : (l.map f).Nodup) : ordBy g (l.map m) = (ordBy f l).map m := by
  symm
  refine ordBy_eq ((ordBy_perm f l).map m) (List.pairwise_map.2 ?_) ?_
  · refine List.Pairwise.imp ?_ (ordBy_sorted f l)
    intro a b h
    unfold leN at *
    rw [hm, hm]; exact h
  · rw [List.map_map]
    have : g ∘ m = f := funext hm
    rw [this]; exact hn

/-- words in small letters, in order, each once -/
def tidyW (l : List ByteArray) : List ByteArray := onceL (srt (l.map lowS))
def tidyR (r : RuleD) : RuleD := ⟨r.name, r.kind, tidyW r.words⟩
def tidyRs (l : List RuleD) : List RuleD := ordBy RuleD.name (l.map tidyR)
def tidyE (e : ElD) : ElD := ⟨e.name, tidyRs e.rules⟩
def tidyP (p : PolD) : PolD := ⟨ordBy ElD.name (p.els.map tidyE), tidyRs p.glob, srt p.schemes, p.rel, srt p.drop, p.depth, p.window⟩
end Go.Proofs.YteikagdinecfoaaGreatDoor.Or

/- Rows of structs, sorted by their names: what the library's sort leaves, plain laws. -/
set_option linter.unusedVariables false
set_option linter.unusedSimpArgs false
namespace Go.Proofs.YteikagdinecfoaaGreatDoor.Sf
open Go.RowKit Lb Gr Pd Go.Proofs.YteikagdinecfoaaGreatDoor.So Go.Proofs.YteikagdinecfoaaGreatDoor.Rs Go.Proofs.YteikagdinecfoaaGreatDoor.Or Go.Sort

/-- the library's comparison, as an order -/
theorem cmp_neg : ∀ (a b : List UInt8), decide (Go.Lib.compareBytes a b < 0) = decide (a < b)
  | [], [] => by simp [Go.Lib.compareBytes]
  | [], _ :: _ => by simp [Go.Lib.compareBytes]
  | _ :: _, [] => by simp [Go.Lib.compareBytes]
  | x :: a, y :: b => by
    have ih := cmp_neg a b
    rw [decide_eq_decide] at ih ⊢
    rw [List.cons_lt_cons_iff, ← ih, show Go.Lib.compareBytes (x :: a) (y :: b) = if x < y then -1 else if y < x then 1 else Go.Lib.compareBytes a b from rfl]
    by_cases h1 : x < y
    · simp [h1]
    · by_cases h2 : y < x
      · have : x ≠ y := fun e => by subst e; exact h1 h2
        simp [h1, h2, this]
      · have : x = y := UInt8.le_antisymm (UInt8.not_lt.1 h2) (UInt8.not_lt.1 h1)
        rw [if_neg h1, if_neg h2]
        simp [h1, this]
def cmpN {C : Type} (f : C → ByteArray) (x y : C) : Int := Go.Lib.compareBytes (f x).data.toList (f y).data.toList
theorem ltN {C : Type} (f : C → ByteArray) (x y : C) : ltOf (cmpN f) x y = decide ((f x).data.toList < (f y).data.toList) := cmp_neg _ _
theorem swoN {C : Type} (f : C → ByteArray) : SWO (ltOf (cmpN f)) where
  irrefl x := by rw [ltN]; simp [List.lt_irrefl]
  trans x y z h1 h2 := by
    rw [ltN] at *
    simp only [decide_eq_true_eq] at *
    exact List.lt_trans h1 h2
  ntrans x y z h1 h2 := by
    rw [ltN] at *
    simp only [decide_eq_false_iff_not] at *
    exact List.not_lt.2 (List.le_trans (List.not_lt.1 h2) (List.not_lt.1 h1))
theorem leN_of {C : Type} {f : C → ByteArray} {x y : C} (h : ltOf (cmpN f) y x = false) : leN f x y = true := by
  rw [ltN, decide_eq_false_iff_not] at h
  unfold leN leS leB
  rw [decide_eq_true_eq]
  exact List.not_lt.1 h

/-- whatever has a map's members is a map -/
theorem perm_map {α γ : Type} (f : α → γ) : ∀ {l : List γ} {T : List α}, l.Perm (T.map f) → ∃ T' : List α, T'.Perm T ∧ l = T'.map f
  | [], T, h => by
    have := h.symm.eq_nil
    cases T with
    | nil => exact ⟨[], List.Perm.refl _, rfl⟩
    | cons a r => cases this
  | c :: l, T, h => by
    have hc : c ∈ T.map f := h.mem_iff.1 (List.mem_cons_self ..)
    obtain ⟨t, ht, rfl⟩ := List.mem_map.1 hc
    obtain ⟨s, r, rfl⟩ := List.append_of_mem ht
    have h2 : l.Perm ((s ++ r).map f) := by
      refine List.Perm.cons_inv (a := f t) (h.trans ?_)
      rw [List.map_append, List.map_cons, List.map_append]
      exact List.perm_middle
    obtain ⟨T', hp, rfl⟩ := perm_map f h2
    exact ⟨t :: T', (hp.cons t).trans List.perm_middle.symm, rfl⟩

variable {α β : Type} {C : Type} [Inhabited C]
/-- the cells of a row, flat -/
theorem flat_at (M : Fm α β) (encC : C → List Value) (of : It α → C) (hlen : ∀ x, (encC x).length = M.size) {T : List (It α)} {d : Array C} (hd : d.toList = T.map of) (hof : ∀ t ∈ T, encC (of t) = M.enc t.a t.v) {j : Nat} (hj : j < T.length * M.size) :
    (M.cells T)[j]? = some (flatK encC M.size d)[j]! := by
  have hds : d.size = T.length := by have := congrArg List.length hd; simpa using this
  have hi : j / M.size < T.length := (Nat.div_lt_iff_lt_mul M.pos).2 hj
  have hc : j % M.size < M.size := Nat.mod_lt _ M.pos
  have hdm : j / M.size * M.size + j % M.size = j := by rw [Nat.mul_comm]; exact Nat.div_add_mod j M.size
  have h1 := M.cells_at (t := T[j / M.size]) (List.getElem?_eq_getElem hi) hc
  rw [hdm] at h1
  rw [h1, get_flatK _ _ _ _ (by rw [hds]; exact hj)]
  have e : d[j / M.size]! = of T[j / M.size] := by
    rw [getElem!_pos d _ (by rw [hds]; exact hi), ← Array.getElem_toList]
    simp only [hd, List.getElem_map]
  rw [e, hof _ (List.getElem_mem _)]
  have hl : j % M.size < (M.enc T[j / M.size].a T[j / M.size].v).length := by rw [M.len]; exact hc
  rw [List.getElem?_eq_getElem hl, getElem!_pos (M.enc T[j / M.size].a T[j / M.size].v) (j % M.size) hl]
theorem flat_list (M : Fm α β) (encC : C → List Value) (of : It α → C) (hlen : ∀ x, (encC x).length = M.size) {T : List (It α)} {d : Array C} (hd : d.toList = T.map of) (hof : ∀ t ∈ T, encC (of t) = M.enc t.a t.v) :
    (flatK encC M.size d).toList = M.cells T := by
  have hds : d.size = T.length := by have := congrArg List.length hd; simpa using this
  apply List.ext_getElem?
  intro j
  by_cases hj : j < T.length * M.size
  · rw [flat_at M encC of hlen hd hof hj, Array.getElem?_toList, Array.getElem?_eq_getElem (by rw [size_flatK, hds]; exact hj), getElem!_pos _ _ (by rw [size_flatK, hds]; exact hj)]
  · rw [List.getElem?_eq_none (by rw [Array.length_toList, size_flatK, hds]; omega), List.getElem?_eq_none (by rw [M.cells_len]; omega)]
theorem holds_own (M : Fm α β) (encC : C → List Value) (of : It α → C) (hlen : ∀ x, (encC x).length = M.size) {w : World} {B g cap : Nat} {T : List (It α)} (ho : w.ownsRow B M.e M.size (.slice (some ⟨g, 0, none⟩) T.length cap) T.length (M.cells T)) (hof : ∀ t ∈ T, encC (of t) = M.enc t.a t.v) :
    HoldsK encC M.size w g 0 (T.map of).toArray := by
  intro j hj
  rw [size_flatK] at hj
  have hj' : j < T.length * M.size := by simpa using hj
  rw [Nat.zero_add, ho.cellAt j hj', flat_at M encC of hlen (d := (T.map of).toArray) rfl hof hj']
  exact ⟨rfl, ho.frozenAt j⟩

theorem heap_sortedK {w : World} {g n k : Nat} {os : Array Obj} {cur : Array Value} {e : TypeId} {fr : Nat × Nat} (encC : C → List Value) (d : Array C) (hb : w.heap[g]? = some (.cells cur e fr)) :
    (sortWorldK encC k w g 0 n d os).heap[g]? = some (.cells (putCells id 0 (flatK encC k d) cur) e fr) := by
  have hg : g < w.heap.size := (Array.getElem?_eq_some_iff.1 hb).1
  unfold sortWorldK putRowK
  rw [heap_grow_old _ _ (by simpa using hg)]
  simp [putRow, mapBlock, Sort.ahead, Array.getElem?_modify, hb, onCells]
theorem grown_sortedK {w : World} {g n k : Nat} {os : Array Obj} (encC : C → List Value) (d : Array C) : w.grownBy (sortWorldK encC k w g 0 n d os) (some g) := by
  unfold sortWorldK putRowK
  refine ⟨rfl, rfl, rfl, by simp, fun j hj hne => ?_⟩
  rw [heap_grow_old _ _ (by simpa using hj)]
  have : g ≠ j := fun e => hne (by rw [e])
  simp [putRow, mapBlock, Sort.ahead, Array.getElem?_modify, this]
theorem take_put (cur F : Array Value) (h : F.size ≤ cur.size) : (putCells id 0 F cur).toList.take F.size = F.toList := by
  apply List.ext_getElem?
  intro j
  by_cases hj : j < F.size
  · rw [List.getElem?_take_of_lt hj, Array.getElem?_toList, Array.getElem?_toList]
    simp [putCells, hj, show j < cur.size by omega]
  · rw [List.getElem?_take_eq_none (by omega), List.getElem?_eq_none (by simp; omega)]

/-- behind the sort -/
theorem sort_own (M : Fm α β) (encC : C → List Value) (of : It α → C) (nmC : C → ByteArray) (nm : α → ByteArray) (hlen : ∀ x, (encC x).length = M.size) (hnm : ∀ t, nmC (of t) = nm t.a)
    {w : World} {B g cap n : Nat} {os : Array Obj} {T : List (It α)} {d : Array C} (ho : w.ownsRow B M.e M.size (.slice (some ⟨g, 0, none⟩) T.length cap) T.length (M.cells T)) (hof : ∀ t ∈ T, encC (of t) = M.enc t.a t.v)
    (hs : ∀ t ∈ T, M.kd.own w B t.v (M.sub t.a) t.G) (hn : ((Value.slice (some ⟨g, 0, none⟩) T.length cap).ownBlock.toList ++ outG T).Nodup) (hnd : ((T.map (·.a)).map nm).Nodup)
    (hp : PermIn 0 (T.map of).toArray.size (T.map of).toArray d) (hsd : SortedIn (ltOf (cmpN nmC)) 0 (T.map of).toArray.size d) :
    ∃ F', M.own (sortWorldK encC M.size w g 0 n d os) B (.slice (some ⟨g, 0, none⟩) T.length cap) (ordBy nm (T.map (·.a))) F' ∧ (∀ k, k ∈ F' ↔ k ∈ (Value.slice (some ⟨g, 0, none⟩) T.length cap).ownBlock.toList ++ outG T) ∧ Fr [g] w (sortWorldK encC M.size w g 0 n d os) := by
  obtain ⟨hp1, _, hp3⟩ := hp
  have hsz : (T.map of).toArray.size = T.length := by simp
  rw [hsz] at hp1 hp3 hsd
  have hpl : d.toList.Perm (T.map of) := by
    have e1 : (d.extract 0 T.length).toList = d.toList := by rw [← hp1, Array.extract_size]
    have e2 : ((T.map of).toArray.extract 0 T.length).toList = T.map of := by
      have := Array.extract_size (xs := (T.map of).toArray)
      rw [hsz] at this
      rw [this]
    rw [e1, e2] at hp3
    exact hp3
  obtain ⟨T', hT', hd⟩ := perm_map of hpl
  have hl : T'.length = T.length := hT'.length_eq
  have hord : T'.map (·.a) = ordBy nm (T.map (·.a)) := by
    refine ordBy_eq (hT'.map _) ?_ hnd
    rw [List.pairwise_map, List.pairwise_iff_getElem]
    intro i j hi hj hij
    have h1 := hsd i j (Nat.zero_le _) hij (by omega)
    have ed : ∀ q (hq : q < T'.length), d[q]! = of T'[q] := fun q hq => by
      rw [getElem!_pos d q (by omega), ← Array.getElem_toList]
      simp only [hd, List.getElem_map]
    rw [ed i hi, ed j hj] at h1
    have h2 := leN_of h1
    unfold leN at h2 ⊢
    rw [hnm, hnm] at h2
    exact h2
  have hof' : ∀ t ∈ T', encC (of t) = M.enc t.a t.v := fun t ht => hof t (hT'.mem_iff.1 ht)
  have hfr : Fr [g] w (sortWorldK encC M.size w g 0 n d os) := Fr.of_grown (row := some g) (grown_sortedK encC d)
  have ho' : (sortWorldK encC M.size w g 0 n d os).ownsRow B M.e M.size (.slice (some ⟨g, 0, none⟩) T.length cap) T'.length (M.cells T') := by
    obtain ⟨hx, h⟩ := ho
    rcases h with ⟨hv, _⟩ | ⟨g', cap', cur, hv, hb, hg, hnc, hcm, hcs, _⟩
    · cases hv
    · injection hv with e1 e2 e3
      injection e1 with e1
      injection e1 with e1
      subst e1 e3
      refine ⟨by rw [M.cells_len], .inr ⟨g, cap, _, by rw [hl], hb, heap_sortedK encC d hg, by omega, hcm, by simp [putCells, hcs], ?_⟩⟩
      have hfs : (flatK encC M.size d).size = T'.length * M.size := by rw [size_flatK, hp1, hl]
      rw [← hfs, take_put _ _ (by rw [hfs, hcs, hl]; exact Nat.mul_le_mul_right _ hnc)]
      exact flat_list M encC of hlen hd hof'
  obtain ⟨h1, h2⟩ := M.own_perm (v := .slice (some ⟨g, 0, none⟩) T.length cap) ho' hs hn hT' (by simpa [Value.ownBlock] using hfr)
  rw [hord] at h1
  exact ⟨_, h1, h2, hfr⟩
end Go.Proofs.YteikagdinecfoaaGreatDoor.Sf
