/- Lists in the order of their names, and words in order: plain laws, no program. -/
import Derived.Test.YtejpdbiiikcmmaaGreatDoorBk
import Derived.Test.YtejpdbiiikcmmaaGreatDoorCs
import Derived.Shelf.SlSortCmp.WholeK
import Derived.Sort.OwnSorted
import Derived.Lib.Bytealg
import Derived.Shelf.SlicesQ.IndexFunc
import Derived.Test.YtejpdbiiikcmmaaGreatDoorShelfB
import Derived.Shelf.SlSortCmp.NoneTotal
import Derived.Lib.SlicesCompact
import Derived.Deep.DrawnRows
import Derived.Deep.MidRow
import Derived.Test.YtejpdbiiikcmmaaGreatDoorLk
set_option linter.unusedVariables false
namespace Go.Proofs.YtejpdbiiikcmmaaGreatDoor.Or
open Go.RowKit Lb Gr Pd Go.Proofs.YtejpdbiiikcmmaaGreatDoor.So Go.Proofs.YtejpdbiiikcmmaaGreatDoor.Rs

theorem leS_refl (a : ByteArray) : leS a a = true := by unfold leS leB; simp
theorem leS_total (a b : ByteArray) : leS a b = true ∨ leS b a = true := by
  unfold leS leB
  simp only [decide_eq_true_eq]
  exact List.le_total _ _
theorem leS_anti {a b : ByteArray} (h1 : leS a b = true) (h2 : leS b a = true) : a = b := by
  unfold leS leB at *
  simp only [decide_eq_true_eq] at *
  have := List.le_antisymm h1 h2
  rw [← str_of a, ← str_of b, this]

/-- by a name -/
def leN {α : Type} (f : α → ByteArray) (a b : α) : Bool := leS (f a) (f b)
def ordBy {α : Type} (f : α → ByteArray) (l : List α) : List α := l.mergeSort (leN f)
theorem ordBy_perm {α : Type} (f : α → ByteArray) (l : List α) : (ordBy f l).Perm l := List.mergeSort_perm _ _
theorem ordBy_sorted {α : Type} (f : α → ByteArray) (l : List α) : (ordBy f l).Pairwise fun a b => leN f a b = true :=
  List.pairwise_mergeSort (le := leN f) (fun a b c h1 h2 => le_trans' (a := f a) (b := f b) (c := f c) h1 h2) (fun a b => by
    show (leS (f a) (f b) || leS (f b) (f a)) = true
    rcases leS_total (f a) (f b) with h | h
    · rw [h]; rfl
    · rw [h, Bool.or_true]) l
/-- of names that are all different there is one order -/
theorem ord_uniq {α : Type} {f : α → ByteArray} : ∀ {l r : List α}, l.Perm r → l.Pairwise (fun a b => leN f a b = true) → r.Pairwise (fun a b => leN f a b = true) → (l.map f).Nodup → l = r
  | [], r, hp, _, _, _ => (List.Perm.eq_nil hp.symm).symm
  | a :: l, r, hp, h1, h2, hn => by
    cases r with
    | nil => exact absurd hp.symm.nil_eq (by simp)
    | cons b r =>
      have hab : a = b := by
        by_cases he : a = b
        · exact he
        · have hb : b ∈ a :: l := hp.mem_iff.2 (List.mem_cons_self ..)
          have ha : a ∈ b :: r := hp.mem_iff.1 (List.mem_cons_self ..)
          have hb' : b ∈ l := (List.mem_cons.1 hb).resolve_left (fun e => he e.symm)
          have ha' : a ∈ r := (List.mem_cons.1 ha).resolve_left he
          have e := leS_anti ((List.pairwise_cons.1 h1).1 b hb') ((List.pairwise_cons.1 h2).1 a ha')
          rw [List.map_cons, List.nodup_cons] at hn
          exact absurd (List.mem_map.2 ⟨b, hb', e.symm⟩) hn.1
      subst hab
      rw [List.map_cons, List.nodup_cons] at hn
      rw [ord_uniq hp.cons_inv (List.pairwise_cons.1 h1).2 (List.pairwise_cons.1 h2).2 hn.2]
theorem ordBy_eq {α : Type} {f : α → ByteArray} {l r : List α} (hp : r.Perm l) (hs : r.Pairwise fun a b => leN f a b = true) (hn : (l.map f).Nodup) : r = ordBy f l :=
  ord_uniq (hp.trans (ordBy_perm f l).symm) hs (ordBy_sorted f l) ((hp.map f).nodup_iff.2 hn)
theorem ordBy_len {α : Type} (f : α → ByteArray) (l : List α) : (ordBy f l).length = l.length := (ordBy_perm f l).length_eq
theorem srt_ordBy (l : List ByteArray) : srt l = ordBy id l := by
  symm
  exact srt_eq (ordBy_perm id l) (ordBy_sorted id l)
theorem srt_perm (l : List ByteArray) : (srt l).Perm l := by rw [srt_ordBy]; exact ordBy_perm _ _
theorem srt_sorted (l : List ByteArray) : (srt l).Pairwise fun a b => leS a b = true := by rw [srt_ordBy]; exact ordBy_sorted _ _
theorem srt_mem {l : List ByteArray} {x : ByteArray} : x ∈ srt l ↔ x ∈ l := (srt_perm l).mem_iff
/-- the names in order are the order of the names -/
theorem map_ordBy {α : Type} (f : α → ByteArray) (l : List α) : (ordBy f l).map f = srt (l.map f) :=
  srt_eq ((ordBy_perm f l).map f) (List.pairwise_map.2 (ordBy_sorted f l))
theorem ordBy_map {α β : Type} {f : α → ByteArray} {g : β → ByteArray} (m : α → β) (hm : ∀ a, g (m a) = f a) (l : List α) (hn : (l.map f).Nodup) : ordBy g (l.map m) = (ordBy f l).map m := by
  symm
  refine ordBy_eq ((ordBy_perm f l).map m) (List.pairwise_map.2 ?_) ?_
  · refine List.Pairwise.imp ?_ (ordBy_sorted f l)
    intro a b h
    unfold leN at *
    rw [hm, hm]; exact h
  · rw [List.map_map]
    have : g ∘ m = f := funext hm
    rw [this]; exact hn

/-- words in small letters, in order, each once -/
def tidyW (l : List ByteArray) : List ByteArray := onceL (srt (l.map lowS))
def tidyR (r : RuleD) : RuleD := ⟨r.name, r.kind, tidyW r.words⟩
def tidyRs (l : List RuleD) : List RuleD := ordBy RuleD.name (l.map tidyR)
def tidyE (e : ElD) : ElD := ⟨e.name, tidyRs e.rules⟩
def tidyP (p : PolD) : PolD := ⟨ordBy ElD.name (p.els.map tidyE), tidyRs p.glob, srt p.schemes, p.rel, srt p.drop, p.depth, p.window⟩
end Go.Proofs.YtejpdbiiikcmmaaGreatDoor.Or

/- Rows of structs, sorted by their names: what the library's sort leaves, plain laws. -/
set_option linter.unusedVariables false
set_option linter.unusedSimpArgs false
namespace Go.Proofs.YtejpdbiiikcmmaaGreatDoor.Sf
open Go.RowKit Lb Gr Pd Go.Proofs.YtejpdbiiikcmmaaGreatDoor.So Go.Proofs.YtejpdbiiikcmmaaGreatDoor.Rs Go.Proofs.YtejpdbiiikcmmaaGreatDoor.Or Go.Sort

/-- the library's comparison, as an order -/
theorem cmp_neg : ∀ (a b : List UInt8), decide (Go.Lib.compareBytes a b < 0) = decide (a < b)
  | [], [] => by simp [Go.Lib.compareBytes]
  | [], _ :: _ => by simp [Go.Lib.compareBytes]
  | _ :: _, [] => by simp [Go.Lib.compareBytes]
  | x :: a, y :: b => by
    have ih := cmp_neg a b
    rw [decide_eq_decide] at ih ⊢
    rw [List.cons_lt_cons_iff, ← ih, show Go.Lib.compareBytes (x :: a) (y :: b) = if x < y then -1 else if y < x then 1 else Go.Lib.compareBytes a b from rfl]
    by_cases h1 : x < y
    · simp [h1]
    · by_cases h2 : y < x
      · have : x ≠ y := fun e => by subst e; exact h1 h2
        simp [h1, h2, this]
      · have : x = y := UInt8.le_antisymm (UInt8.not_lt.1 h2) (UInt8.not_lt.1 h1)
        rw [if_neg h1, if_neg h2]
        simp [h1, this]
def cmpN {C : Type} (f : C → ByteArray) (x y : C) : Int := Go.Lib.compareBytes (f x).data.toList (f y).data.toList
theorem ltN {C : Type} (f : C → ByteArray) (x y : C) : ltOf (cmpN f) x y = decide ((f x).data.toList < (f y).data.toList) := cmp_neg _ _
theorem swoN {C : Type} (f : C → ByteArray) : SWO (ltOf (cmpN f)) where
  irrefl x := by rw [ltN]; simp [List.lt_irrefl]
  trans x y z h1 h2 := by
    rw [ltN] at *
    simp only [decide_eq_true_eq] at *
    exact List.lt_trans h1 h2
  ntrans x y z h1 h2 := by
    rw [ltN] at *
    simp only [decide_eq_false_iff_not] at *
    exact List.not_lt.2 (List.le_trans (List.not_lt.1 h2) (List.not_lt.1 h1))
theorem leN_of {C : Type} {f : C → ByteArray} {x y : C} (h : ltOf (cmpN f) y x = false) : leN f x y = true := by
  rw [ltN, decide_eq_false_iff_not] at h
  unfold leN leS leB
  rw [decide_eq_true_eq]
  exact List.not_lt.1 h

/-- whatever has a map's members is a map -/
theorem perm_map {α γ : Type} (f : α → γ) : ∀ {l : List γ} {T : List α}, l.Perm (T.map f) → ∃ T' : List α, T'.Perm T ∧ l = T'.map f
  | [], T, h => by
    have := h.symm.eq_nil
    cases T with
    | nil => exact ⟨[], List.Perm.refl _, rfl⟩
    | cons a r => cases this
  | c :: l, T, h => by
    have hc : c ∈ T.map f := h.mem_iff.1 (List.mem_cons_self ..)
    obtain ⟨t, ht, rfl⟩ := List.mem_map.1 hc
    obtain ⟨s, r, rfl⟩ := List.append_of_mem ht
    have h2 : l.Perm ((s ++ r).map f) := by
      refine List.Perm.cons_inv (a := f t) (h.trans ?_)
      rw [List.map_append, List.map_cons, List.map_append]
      exact List.perm_middle
    obtain ⟨T', hp, rfl⟩ := perm_map f h2
    exact ⟨t :: T', (hp.cons t).trans List.perm_middle.symm, rfl⟩

variable {α β : Type} {C : Type} [Inhabited C]
/-- the cells of a row, flat -/
theorem flat_at (M : Fm α β) (encC : C → List Value) (of : It α → C) (hlen : ∀ x, (encC x).length = M.size) {T : List (It α)} {d : Array C} (hd : d.toList = T.map of) (hof : ∀ t ∈ T, encC (of t) = M.enc t.a t.v) {j : Nat} (hj : j < T.length * M.size) :
    (M.cells T)[j]? = some (flatK encC M.size d)[j]! := by
  have hds : d.size = T.length := by have := congrArg List.length hd; simpa using this
  have hi : j / M.size < T.length := (Nat.div_lt_iff_lt_mul M.pos).2 hj
  have hc : j % M.size < M.size := Nat.mod_lt _ M.pos
  have hdm : j / M.size * M.size + j % M.size = j := by rw [Nat.mul_comm]; exact Nat.div_add_mod j M.size
  have h1 := M.cells_at (t := T[j / M.size]) (List.getElem?_eq_getElem hi) hc
  rw [hdm] at h1
  rw [h1, get_flatK _ _ _ _ (by rw [hds]; exact hj)]
  have e : d[j / M.size]! = of T[j / M.size] := by
    rw [getElem!_pos d _ (by rw [hds]; exact hi), ← Array.getElem_toList]
    simp only [hd, List.getElem_map]
  rw [e, hof _ (List.getElem_mem _)]
  have hl : j % M.size < (M.enc T[j / M.size].a T[j / M.size].v).length := by rw [M.len]; exact hc
  rw [List.getElem?_eq_getElem hl, getElem!_pos (M.enc T[j / M.size].a T[j / M.size].v) (j % M.size) hl]
theorem flat_list (M : Fm α β) (encC : C → List Value) (of : It α → C) (hlen : ∀ x, (encC x).length = M.size) {T : List (It α)} {d : Array C} (hd : d.toList = T.map of) (hof : ∀ t ∈ T, encC (of t) = M.enc t.a t.v) :
    (flatK encC M.size d).toList = M.cells T := by
  have hds : d.size = T.length := by have := congrArg List.length hd; simpa using this
  apply List.ext_getElem?
  intro j
  by_cases hj : j < T.length * M.size
  · rw [flat_at M encC of hlen hd hof hj, Array.getElem?_toList, Array.getElem?_eq_getElem (by rw [size_flatK, hds]; exact hj), getElem!_pos _ _ (by rw [size_flatK, hds]; exact hj)]
  · rw [List.getElem?_eq_none (by rw [Array.length_toList, size_flatK, hds]; omega), List.getElem?_eq_none (by rw [M.cells_len]; omega)]
theorem holds_own (M : Fm α β) (encC : C → List Value) (of : It α → C) (hlen : ∀ x, (encC x).length = M.size) {w : World} {B g cap : Nat} {T : List (It α)} (ho : w.ownsRow B M.e M.size (.slice (some ⟨g, 0, none⟩) T.length cap) T.length (M.cells T)) (hof : ∀ t ∈ T, encC (of t) = M.enc t.a t.v) :
    HoldsK encC M.size w g 0 (T.map of).toArray := by
  intro j hj
  rw [size_flatK] at hj
  have hj' : j < T.length * M.size := by simpa using hj
  rw [Nat.zero_add, ho.cellAt j hj', flat_at M encC of hlen (d := (T.map of).toArray) rfl hof hj']
  exact ⟨rfl, ho.frozenAt j⟩

theorem heap_sortedK {w : World} {g n k : Nat} {os : Array Obj} {cur : Array Value} {e : TypeId} {fr : Nat × Nat} (encC : C → List Value) (d : Array C) (hb : w.heap[g]? = some (.cells cur e fr)) :
    (sortWorldK encC k w g 0 n d os).heap[g]? = some (.cells (putCells id 0 (flatK encC k d) cur) e fr) := by
  have hg : g < w.heap.size := (Array.getElem?_eq_some_iff.1 hb).1
  unfold sortWorldK putRowK
  rw [heap_grow_old _ _ (by simpa using hg)]
  simp [putRow, mapBlock, Sort.ahead, Array.getElem?_modify, hb, onCells]
theorem grown_sortedK {w : World} {g n k : Nat} {os : Array Obj} (encC : C → List Value) (d : Array C) : w.grownBy (sortWorldK encC k w g 0 n d os) (some g) := by
  unfold sortWorldK putRowK
  refine ⟨rfl, rfl, rfl, by simp, fun j hj hne => ?_⟩
  rw [heap_grow_old _ _ (by simpa using hj)]
  have : g ≠ j := fun e => hne (by rw [e])
  simp [putRow, mapBlock, Sort.ahead, Array.getElem?_modify, this]
theorem take_put (cur F : Array Value) (h : F.size ≤ cur.size) : (putCells id 0 F cur).toList.take F.size = F.toList := by
  apply List.ext_getElem?
  intro j
  by_cases hj : j < F.size
  · rw [List.getElem?_take_of_lt hj, Array.getElem?_toList, Array.getElem?_toList]
    simp [putCells, hj, show j < cur.size by omega]
  · rw [List.getElem?_take_eq_none (by omega), List.getElem?_eq_none (by simp; omega)]

/-- behind the sort -/
theorem sort_own (M : Fm α β) (encC : C → List Value) (of : It α → C) (nmC : C → ByteArray) (nm : α → ByteArray) (hlen : ∀ x, (encC x).length = M.size) (hnm : ∀ t, nmC (of t) = nm t.a)
    {w : World} {B g cap n : Nat} {os : Array Obj} {T : List (It α)} {d : Array C} (ho : w.ownsRow B M.e M.size (.slice (some ⟨g, 0, none⟩) T.length cap) T.length (M.cells T)) (hof : ∀ t ∈ T, encC (of t) = M.enc t.a t.v)
    (hs : ∀ t ∈ T, M.kd.own w B t.v (M.sub t.a) t.G) (hn : ((Value.slice (some ⟨g, 0, none⟩) T.length cap).ownBlock.toList ++ outG T).Nodup) (hnd : ((T.map (·.a)).map nm).Nodup)
    (hp : PermIn 0 (T.map of).toArray.size (T.map of).toArray d) (hsd : SortedIn (ltOf (cmpN nmC)) 0 (T.map of).toArray.size d) :
    ∃ F', M.own (sortWorldK encC M.size w g 0 n d os) B (.slice (some ⟨g, 0, none⟩) T.length cap) (ordBy nm (T.map (·.a))) F' ∧ (∀ k, k ∈ F' ↔ k ∈ (Value.slice (some ⟨g, 0, none⟩) T.length cap).ownBlock.toList ++ outG T) ∧ Fr [g] w (sortWorldK encC M.size w g 0 n d os) := by
  obtain ⟨hp1, _, hp3⟩ := hp
  have hsz : (T.map of).toArray.size = T.length := by simp
  rw [hsz] at hp1 hp3 hsd
  have hpl : d.toList.Perm (T.map of) := by
    have e1 : (d.extract 0 T.length).toList = d.toList := by rw [← hp1, Array.extract_size]
    have e2 : ((T.map of).toArray.extract 0 T.length).toList = T.map of := by
      have := Array.extract_size (xs := (T.map of).toArray)
      rw [hsz] at this
      rw [this]
    rw [e1, e2] at hp3
    exact hp3
  obtain ⟨T', hT', hd⟩ := perm_map of hpl
  have hl : T'.length = T.length := hT'.length_eq
  have hord : T'.map (·.a) = ordBy nm (T.map (·.a)) := by
    refine ordBy_eq (hT'.map _) ?_ hnd
    rw [List.pairwise_map, List.pairwise_iff_getElem]
    intro i j hi hj hij
    have h1 := hsd i j (Nat.zero_le _) hij (by omega)
    have ed : ∀ q (hq : q < T'.length), d[q]! = of T'[q] := fun q hq => by
      rw [getElem!_pos d q (by omega), ← Array.getElem_toList]
      simp only [hd, List.getElem_map]
    rw [ed i hi, ed j hj] at h1
    have h2 := leN_of h1
    unfold leN at h2 ⊢
    rw [hnm, hnm] at h2
    exact h2
  have hof' : ∀ t ∈ T', encC (of t) = M.enc t.a t.v := fun t ht => hof t (hT'.mem_iff.1 ht)
  have hfr : Fr [g] w (sortWorldK encC M.size w g 0 n d os) := Fr.of_grown (row := some g) (grown_sortedK encC d)
  have ho' : (sortWorldK encC M.size w g 0 n d os).ownsRow B M.e M.size (.slice (some ⟨g, 0, none⟩) T.length cap) T'.length (M.cells T') := by
    obtain ⟨hx, h⟩ := ho
    rcases h with ⟨hv, _⟩ | ⟨g', cap', cur, hv, hb, hg, hnc, hcm, hcs, _⟩
    · cases hv
    · injection hv with e1 e2 e3
      injection e1 with e1
      injection e1 with e1
      subst e1 e3
      refine ⟨by rw [M.cells_len], .inr ⟨g, cap, _, by rw [hl], hb, heap_sortedK encC d hg, by omega, hcm, by simp [putCells, hcs], ?_⟩⟩
      have hfs : (flatK encC M.size d).size = T'.length * M.size := by rw [size_flatK, hp1, hl]
      rw [← hfs, take_put _ _ (by rw [hfs, hcs, hl]; exact Nat.mul_le_mul_right _ hnc)]
      exact flat_list M encC of hlen hd hof'
  obtain ⟨h1, h2⟩ := M.own_perm (v := .slice (some ⟨g, 0, none⟩) T.length cap) ho' hs hn hT' (by simpa [Value.ownBlock] using hfr)
  rw [hord] at h1
  exact ⟨_, h1, h2, hfr⟩
end Go.Proofs.YtejpdbiiikcmmaaGreatDoor.Sf

/- The program's has, of elements and of rules: slices.ContainsFunc at structs, with the closures. -/
set_option linter.unusedVariables false
set_option linter.unusedSimpArgs false
namespace Go.Proofs.YtejpdbiiikcmmaaGreatDoor.Ha
open Go.RowKit Lb Gr Pd Fl Go.Proofs.YtejpdbiiikcmmaaGreatDoor.Pm Bk

/-! ### at no element -/
set_option maxRecDepth 100000 in
theorem indexEl0 (a : Option Addr) (c : Nat) (fv : Value) (w : World) : Calls Tryz.prog 201 #[.slice a 0 c, fv] w fun e w' => e = .returned (.int .i64 (-1)) ∧ w' = w := by
  go_enter Tryz.func201, Tryz.ntmps201
  go_wp2
  go_loopg [5, 8] 0 (fun _ _ s8 wr => s8 = .int .i64 0 ∧ wr = w)
  case atStart => exact ⟨rfl, rfl⟩
  case round =>
    obtain ⟨rfl, rfl⟩ := hrel
    go_wp2
    go_ret
    exact ⟨rfl, rfl⟩
set_option maxRecDepth 100000 in
theorem containsEl0 (a : Option Addr) (c : Nat) (fv : Value) (w : World) : Calls Tryz.prog 134 #[.slice a 0 c, fv] w fun e w' => e = .returned (.bool false) ∧ w' = w := by
  go_enter Tryz.func134, Tryz.ntmps134
  go_wp2_with (go_at_call 201; refine (indexEl0 a c fv _).mono ?_; rintro e w' ⟨rfl, rfl⟩)
  go_ret
  exact ⟨rfl, rfl⟩
set_option maxRecDepth 100000 in
theorem indexRu0 (a : Option Addr) (c : Nat) (fv : Value) (w : World) : Calls Tryz.prog 200 #[.slice a 0 c, fv] w fun e w' => e = .returned (.int .i64 (-1)) ∧ w' = w := by
  go_enter Tryz.func200, Tryz.ntmps200
  go_wp2
  go_loopg [5, 8] 0 (fun _ _ s8 wr => s8 = .int .i64 0 ∧ wr = w)
  case atStart => exact ⟨rfl, rfl⟩
  case round =>
    obtain ⟨rfl, rfl⟩ := hrel
    go_wp2
    go_ret
    exact ⟨rfl, rfl⟩
set_option maxRecDepth 100000 in
theorem containsRu0 (a : Option Addr) (c : Nat) (fv : Value) (w : World) : Calls Tryz.prog 131 #[.slice a 0 c, fv] w fun e w' => e = .returned (.bool false) ∧ w' = w := by
  go_enter Tryz.func131, Tryz.ntmps131
  go_wp2_with (go_at_call 200; refine (indexRu0 a c fv _).mono ?_; rintro e w' ⟨rfl, rfl⟩)
  go_ret
  exact ⟨rfl, rfl⟩

/-! ### the structs' cells, as they lie -/
/-- an element's name, a slice's form -/
structure EC where
  n : ByteArray
  a : Option Addr
  l : Nat
  c : Nat
structure RC where
  n : ByteArray
  k : Int
  a : Option Addr
  l : Nat
  c : Nat
instance : Inhabited EC := ⟨⟨ByteArray.empty, none, 0, 0⟩⟩
instance : Inhabited RC := ⟨⟨ByteArray.empty, 0, none, 0, 0⟩⟩
def encE (x : EC) : List Value := [.string x.n, .slice x.a x.l x.c]
def encR (x : RC) : List Value := [.string x.n, .int .i64 x.k, .slice x.a x.l x.c]
def ecOf (e : ElD) : Value → EC
  | .slice a l c => ⟨e.name, a, l, c⟩
  | _ => ⟨e.name, none, 0, 0⟩
def rcOf (e : RuleD) : Value → RC
  | .slice a l c => ⟨e.name, e.kind, a, l, c⟩
  | _ => ⟨e.name, e.kind, none, 0, 0⟩
theorem ecN (e : ElD) (v : Value) : (ecOf e v).n = e.name := by unfold ecOf; split <;> rfl
theorem rcN (e : RuleD) (v : Value) : (rcOf e v).n = e.name := by unfold rcOf; split <;> rfl

/-- the cells of a row of elements that is read -/
theorem rdE_cells {w : World} {lo hi n c : Nat} {A : Option Addr} {l : List ElD} (h : kdE.rd w lo hi (.slice A n c) l) (hp : 0 < l.length) :
    ∃ (b off : Nat) (zs : List EC), A = some ⟨b, off, none⟩ ∧ lo ≤ b ∧ b < hi ∧ zs.length = l.length ∧ zs.map EC.n = l.map (·.name) ∧ ∀ j, j < zs.length → ∀ i v, (encE zs[j]!)[i]? = some v → w.cell? ⟨b, off + j * 2 + i, none⟩ = some v := by
  obtain ⟨T, rfl, ⟨A', c', hv, _, _, h3⟩, hs⟩ := h
  injection hv with e1 e2 e3
  subst e1
  have hT : 0 < T.length := by simpa using hp
  obtain ⟨b, off, rfl, hl, hh, hc⟩ := h3 (by rw [fmE.cells_len]; exact Nat.mul_pos hT fmE.pos)
  refine ⟨b, off, T.map fun t => ecOf t.a t.v, rfl, hl, hh, by simp, by rw [List.map_map, List.map_map]; exact List.map_congr_left fun t _ => ecN _ _, ?_⟩
  intro j hj i v hi
  have hj' : j < T.length := by simpa using hj
  obtain ⟨A9, n9, c9, hv9⟩ := fmE.kd.slice (hs T[j] (List.getElem_mem _))
  have e : (T.map fun t => ecOf t.a t.v)[j]! = ecOf T[j].a T[j].v := by rw [getElem!_pos _ j hj, List.getElem_map]
  rw [e] at hi
  have e2 : encE (ecOf T[j].a T[j].v) = fmE.enc T[j].a T[j].v := by rw [hv9]; rfl
  rw [e2] at hi
  have hq : i < fmE.size := by
    have := (List.getElem?_eq_some_iff.1 hi).1
    rw [fmE.len] at this; exact this
  have := hc (j * fmE.size + i) v (by rw [fmE.cells_at (List.getElem?_eq_getElem hj') hq]; exact hi)
  rw [show off + j * 2 + i = off + (j * fmE.size + i) from by show _ = off + (j * 2 + i); omega]
  exact this
theorem rdR_cells {w : World} {lo hi n c : Nat} {A : Option Addr} {l : List RuleD} (h : kdR.rd w lo hi (.slice A n c) l) (hp : 0 < l.length) :
    ∃ (b off : Nat) (zs : List RC), A = some ⟨b, off, none⟩ ∧ lo ≤ b ∧ b < hi ∧ zs.length = l.length ∧ zs.map RC.n = l.map (·.name) ∧ ∀ j, j < zs.length → ∀ i v, (encR zs[j]!)[i]? = some v → w.cell? ⟨b, off + j * 3 + i, none⟩ = some v := by
  obtain ⟨T, rfl, ⟨A', c', hv, _, _, h3⟩, hs⟩ := h
  injection hv with e1 e2 e3
  subst e1
  have hT : 0 < T.length := by simpa using hp
  obtain ⟨b, off, rfl, hl, hh, hc⟩ := h3 (by rw [fmR.cells_len]; exact Nat.mul_pos hT fmR.pos)
  refine ⟨b, off, T.map fun t => rcOf t.a t.v, rfl, hl, hh, by simp, by rw [List.map_map, List.map_map]; exact List.map_congr_left fun t _ => rcN _ _, ?_⟩
  intro j hj i v hi
  have hj' : j < T.length := by simpa using hj
  obtain ⟨A9, n9, c9, hv9⟩ := fmR.kd.slice (hs T[j] (List.getElem_mem _))
  have e : (T.map fun t => rcOf t.a t.v)[j]! = rcOf T[j].a T[j].v := by rw [getElem!_pos _ j hj, List.getElem_map]
  rw [e] at hi
  have e2 : encR (rcOf T[j].a T[j].v) = fmR.enc T[j].a T[j].v := by rw [hv9]; rfl
  rw [e2] at hi
  have hq : i < fmR.size := by
    have := (List.getElem?_eq_some_iff.1 hi).1
    rw [fmR.len] at this; exact this
  have := hc (j * fmR.size + i) v (by rw [fmR.cells_at (List.getElem?_eq_getElem hj') hq]; exact hi)
  rw [show off + j * 3 + i = off + (j * fmR.size + i) from by show _ = off + (j * 3 + i); omega]
  exact this

/-! ### has -/
set_option maxRecDepth 100000 in
/-- its closure, the name in the cell ⟨B, 0⟩ of the caller's -/
theorem hasPred (s : ByteArray) (B : Nat) (w : World) (hB : B < w.heap.size) (hcell : w.cell? ⟨B, 0, none⟩ = some (.string s)) :
    PredBelow Tryz.prog 135 #[.pointer (some ⟨B, 0, none⟩)] (fun x => .agg (encE x).toArray) (fun x => decide (x.n = s)) w := fun W x hb => by
  have hc : W.cell? ⟨B, 0, none⟩ = some (.string s) := (hb.cell (p := ⟨B, 0, none⟩) hB).trans hcell
  have hBW : B < W.heap.size := Nat.lt_of_lt_of_le hB hb.size
  have hne : B ≠ W.heap.size := by omega
  have hq : ∀ W', Below W.heap.size W W' → W'.cell? ⟨B, 0, none⟩ = some (.string s) := fun W' h => (h.cell (p := ⟨B, 0, none⟩) hBW).trans hc
  have hc2 := hq _ ((Below.refl _ W).alloc (Nat.le_refl _) (.cells #[.string x.n, .slice x.a x.l x.c] 59))
  have HQ := Lib.hid hq
  clear hq
  show Calls Tryz.prog 135 #[.agg #[.string x.n, .slice x.a x.l x.c], .pointer (some ⟨B, 0, none⟩)] W _
  go_enter Tryz.func135, Tryz.ntmps135
  go_wp2
  go_ret
  exact ⟨(by rw [eq_str]; rfl), hb.alloc hb.size _⟩
set_option maxHeartbeats 1000000 in
set_option maxRecDepth 100000 in
theorem hasC (A1 A2 A3 A4 : Option Addr) (n1 c1 n2 c2 n3 c3 n4 c4 : Nat) (r : Bool) (d q : Int) (s : ByteArray) (l : List ElD) (w : World) (h : kdE.rd w 0 w.heap.size (.slice A1 n1 c1) l) (hl : n1 ≤ 9223372036854775807) :
    Calls Tryz.prog 69 #[.agg #[.slice A1 n1 c1, .slice A2 n2 c2, .slice A3 n3 c3, .bool r, .slice A4 n4 c4, .int .i64 d, .int .i64 q], .string s] w fun e w' => e = .returned (.bool (hasE l s)) ∧ Below w.heap.size w w' := by
  have hn : n1 = l.length := by obtain ⟨_, _, hv, _⟩ := fmE.rd_form h; injection hv
  subst hn
  obtain ⟨W0, hW0⟩ : ∃ W, W = (w.alloc (.cells #[.slice A1 l.length c1, .slice A2 n2 c2, .slice A3 n3 c3, .bool r, .slice A4 n4 c4, .int .i64 d, .int .i64 q] 27)).alloc (.cells #[.string s] 9) := ⟨_, rfl⟩
  have hb0 : Below w.heap.size w W0 := hW0 ▸ ((Below.refl _ _).alloc (Nat.le_refl _) _).alloc (by simp) _
  have k2 : W0.cell? ⟨w.heap.size + 1, 0, none⟩ = some (.string s) := by rw [hW0]; exact (Bl.new _ 9 [.string s] (by simp)).cell 0 rfl
  have hsz : w.heap.size + 1 < W0.heap.size := by rw [hW0]; simp
  have hcon : Hid (Calls Tryz.prog 134 #[.slice A1 l.length c1, .func (.func 135) #[] #[.pointer (some ⟨w.heap.size + 1, 0, none⟩)]] W0 fun e w' => e = .returned (.bool (hasE l s)) ∧ Below W0.heap.size W0 w') := Lib.hid (by
    rcases Nat.eq_zero_or_pos l.length with h0 | h0
    · have hl0 := List.eq_nil_of_length_eq_zero h0
      subst hl0
      refine (containsEl0 A1 c1 _ W0).mono ?_
      rintro e w' ⟨rfl, rfl⟩
      exact ⟨rfl, Below.refl _ _⟩
    · obtain ⟨b, off, zs, rfl, _, hbw, hz, hzn, hc⟩ := rdE_cells h h0
      have hcon := AnyQ.slices_ContainsFunc Tryz.containsEl 2 Tryz.isAgg59 Tryz.sizeOf59 encE (fun _ => rfl) (fun x => decide (x.n = s)) 135 #[.pointer (some ⟨w.heap.size + 1, 0, none⟩)] (enters_of Tryz.func135 (by kernel_rfl) rfl) b off l.length c1 zs W0
        (hasPred s (w.heap.size + 1) W0 hsz k2) (by omega) hl (by omega) (fun j hj i v hi => (hb0.cell (p := ⟨b, off + j * 2 + i, none⟩) hbw).trans (hc j hj i v hi))
      refine hcon.mono ?_
      rintro e w' ⟨rfl, hb⟩
      refine ⟨?_, hb⟩
      rw [List.take_of_length_le (by omega)]
      have e1 : zs.any (fun x => decide (x.n = s)) = (zs.map EC.n).any (fun x => decide (x = s)) := by rw [List.any_map]; rfl
      rw [e1, hzn, List.any_map]
      rfl)
  have HX := Lib.hid hW0
  clear h hW0 k2
  go_enter Tryz.func69, Tryz.ntmps69
  go_wp2_with (go_at_call 134; rw [← HX.out]; refine hcon.out.mono ?_; rintro e w' ⟨rfl, hb'⟩)
  go_ret
  exact ⟨rfl, hb0.trans (hb'.mono hb0.size)⟩
end Go.Proofs.YtejpdbiiikcmmaaGreatDoor.Ha

/- The library's Sort and Compact on rows of texts of the call's own; SortFunc on rows of rules and of elements. -/
set_option linter.unusedVariables false
set_option linter.unusedSimpArgs false
namespace Go.Proofs.YtejpdbiiikcmmaaGreatDoor.Sk
open Go.RowKit Lb Gr Pd Fl Go.Proofs.YtejpdbiiikcmmaaGreatDoor.Pm Bk Ha Go.Proofs.YtejpdbiiikcmmaaGreatDoor.So Go.Proofs.YtejpdbiiikcmmaaGreatDoor.Rs Go.Proofs.YtejpdbiiikcmmaaGreatDoor.Or Go.Proofs.YtejpdbiiikcmmaaGreatDoor.Sf Go.Lib Go.Sort

theorem once_app : ∀ (l : List ByteArray) (x : ByteArray), onceL (l ++ [x]) = if l.getLast? = some x then onceL l else onceL l ++ [x]
  | [], x => by simp [onceL]
  | [a], x => by
    show (if a = x then onceL [x] else a :: onceL [x]) = _
    by_cases h : a = x
    · subst h; simp [onceL]
    · simp [onceL, h]
  | a :: b :: t, x => by
    have ih := once_app (b :: t) x
    have e : (a :: b :: t).getLast? = (b :: t).getLast? := by simp
    rw [e]
    show (if a = b then onceL (b :: t ++ [x]) else a :: onceL (b :: t ++ [x])) = _
    rw [ih]
    have e2 : onceL (a :: b :: t) = if a = b then onceL (b :: t) else a :: onceL (b :: t) := rfl
    rw [e2]
    by_cases h : a = b
    · simp only [h, if_true]
    · simp only [h, if_false]
      split <;> simp
theorem compact_upto (l : List ByteArray) : ∀ m, m ≤ l.length → (compactUpTo (l.map fun s => s.data.toList).toArray m).map str = onceL (l.take m)
  | 0, _ => by simp [compactUpTo, onceL]
  | m + 1, h => by
    have hm : m < l.length := by omega
    rw [compactUpTo_succ, List.map_append, compact_upto l m (by omega), List.take_succ_eq_append_getElem hm, once_app]
    have e : (l.map fun s => s.data.toList).toArray[m]! = l[m].data.toList := by
      rw [getElem!_pos _ m (by simpa using hm)]; simp
    have hk : keeps (l.map fun s => s.data.toList).toArray m = !decide ((l.take m).getLast? = some l[m]) := by
      cases m with
      | zero => simp [keeps]
      | succ q =>
        have e2 : (l.map fun s => s.data.toList).toArray[q]! = l[q].data.toList := by
          rw [getElem!_pos _ q (by simp; omega)]; simp
        have e3 : (l.take (q + 1)).getLast? = some l[q] := by
          rw [List.take_succ_eq_append_getElem (by omega), List.getLast?_concat]
        rw [e3]
        by_cases hq : l[q] = l[q + 1]
        · rw [keeps_neg (by omega) (by rw [e]; simp only [Nat.add_sub_cancel]; rw [e2, hq])]
          simp [hq]
        · rw [keeps_pos (by rw [e]; simp only [Nat.add_sub_cancel]; rw [e2]; intro h9; exact hq (by rw [← str_of l[q], ← str_of l[q + 1], h9]))]
          simp [hq]
    rw [hk]
    by_cases h1 : (l.take m).getLast? = some l[m]
    · simp [h1]
    · simp [h1, e, str_of]
theorem compact_once (l : List ByteArray) : (Lib.compact (l.map fun s => s.data.toList)).map str = onceL l := by
  have := compact_upto l l.length (Nat.le_refl _)
  rw [List.take_length] at this
  rw [← this]
  simp [Lib.compact]
theorem once_len (l : List ByteArray) : (onceL l).length ≤ l.length := by
  induction l with
  | nil => simp [onceL]
  | cons a t ih =>
    cases t with
    | nil => simp [onceL]
    | cons b t =>
      show (if a = b then onceL (b :: t) else a :: onceL (b :: t)).length ≤ _
      split
      · simp at ih ⊢; omega
      · simp at ih ⊢; omega

theorem sortW {w : World} {B : Nat} {u : Value} {ws : List ByteArray} {G : List Nat} (h : kdW.own w B u ws G) (hl : ws.length < 4611686018427387904) : Calls Tryz.prog 129 #[u] w fun e w' =>
    e = .returned (.tuple #[]) ∧ kdW.own w' B u (srt ws) G ∧ Fr G w w' := by
  obtain ⟨A, c, rfl, _⟩ := own_slice h.1
  have e := str_bts ws
  have h5 : Own w B (.slice A ws.length c) ((ws.map fun s : ByteArray => s.data.toList).map str) := by rw [e]; exact h.1
  refine (libSort h5 (by rw [List.length_map]; exact hl)).mono ?_
  rintro e1 w' ⟨rfl, h7, h8⟩
  rw [e] at h7
  exact ⟨rfl, ⟨h7, h.2⟩, h.2 ▸ Fr.of_grown h8⟩
theorem compactW {w : World} {B : Nat} {u : Value} {ws : List ByteArray} {G : List Nat} (h : kdW.own w B u ws G) : Calls Tryz.prog 196 #[u] w fun e w' =>
    ∃ u', e = .returned u' ∧ kdW.own w' B u' (onceL ws) G ∧ Fr G w w' := by
  obtain ⟨⟨hx, h1⟩, rfl⟩ := h
  rcases h1 with ⟨rfl, h0⟩ | ⟨g, cap, cur, rfl, hb, hg, hnc, hcm, hcs, htake⟩
  · have hl0 := List.eq_nil_of_length_eq_zero h0
    subst hl0
    refine (Tryz.slices_Compact_string_empty none 0 w).mono ?_
    rintro e w' ⟨rfl, rfl⟩
    exact ⟨_, rfl, ⟨World.ownsRow_nil _ _ _ _, rfl⟩, Fr.refl _ _⟩
  · obtain ⟨zs, hzs⟩ : ∃ zs, zs = ws.map fun s : ByteArray => s.data.toList := ⟨_, rfl⟩
    have hzl : zs.length = ws.length := by rw [hzs]; simp
    have hws : zs.map str = ws := by rw [hzs]; exact str_bts ws
    have hH : Holds encStr w g 0 zs.toArray := holds_of_block hg (by
      have h2 := htake
      rw [Nat.mul_one] at h2
      rw [hzl, h2, ← hws, List.map_map]
      rfl)
    have hc := Tryz.slices_Compact_string g 0 cap zs w hH (by rw [hzl]; unfold maxLen at hcm; omega) (by omega)
    have hcl := compact_once ws
    rw [← hzs] at hcl
    have hle : (Lib.compact zs).length ≤ zs.length := by
      have := once_len ws
      rw [← hcl, List.length_map] at this
      omega
    rw [hzl] at hc
    refine hc.mono ?_
    rintro e w' ⟨rfl, q, rfl⟩
    rw [← hzl]
    generalize hr : Lib.compact zs = r at *
    have hgr := grownBy_sorted (w := w) (g := g) (n := q) (os := #[]) (r ++ List.replicate (zs.length - r.length) ([] : List UInt8)).toArray
    have hhp := heap_sorted (w := w) (g := g) (n := q) (os := #[]) (r ++ List.replicate (zs.length - r.length) ([] : List UInt8)).toArray hg
    rw [Sort.grow_empty] at hgr hhp
    refine ⟨_, rfl, ⟨?_, rfl⟩, Fr.of_grown hgr⟩
    rw [← hcl, List.length_map]
    refine ⟨by simp, .inr ⟨g, cap, _, rfl, hb, hhp, by omega, hcm, by simp [Sort.putCells, hcs], ?_⟩⟩
    have h1 := take_putCells cur (r ++ List.replicate (zs.length - r.length) ([] : List UInt8)) (by rw [hcs, List.length_append, List.length_replicate]; omega)
    have h2 := congrArg (List.take r.length) h1
    rw [List.take_take, List.map_append, List.take_append_of_le_length (by simp)] at h2
    rw [show min r.length (r ++ List.replicate (zs.length - r.length) ([] : List UInt8)).length = r.length from by rw [List.length_append]; omega] at h2
    rw [Nat.mul_one, h2, List.take_of_length_le (by simp), List.map_map]
    rfl

/-! ### SortFunc -/
def ofR (t : It RuleD) : RC := rcOf t.a t.v
def ofE (t : It ElD) : EC := ecOf t.a t.v
theorem encR_len (x : RC) : (encR x).length = 3 := rfl
theorem encE_len (x : EC) : (encE x).length = 2 := rfl
theorem encR_one (x : RC) : ∀ v ∈ encR x, v.oneCell' = true := by intro v hv; simp [encR] at hv; rcases hv with rfl | rfl | rfl <;> rfl
theorem encE_one (x : EC) : ∀ v ∈ encE x, v.oneCell' = true := by intro v hv; simp [encE] at hv; rcases hv with rfl | rfl <;> rfl
set_option maxHeartbeats 1000000 in
set_option maxRecDepth 100000 in
theorem cmpRuC (x y : RC) (W : World) : Calls Tryz.prog 198 #[.agg #[.string x.n, .int .i64 x.k, .slice x.a x.l x.c], .agg #[.string y.n, .int .i64 y.k, .slice y.a y.l y.c]] W fun e w' => e = .returned (.int .i64 (cmpN RC.n x y)) ∧ ∃ q os', w' = grow (W.drewN q) os' := by
  have hcon := fun W' => Tryz.strings_Compare x.n y.n W'
  unfold cmpN
  generalize Lib.compareBytes x.n.data.toList y.n.data.toList = r at hcon ⊢
  have HC := Lib.hid hcon
  clear hcon
  go_enter Tryz.func198, Tryz.ntmps198
  go_wp2_with (go_at_call 127; refine (HC.out _).mono ?_; rintro e w' ⟨rfl, rfl⟩)
  go_ret
  exact ⟨rfl, 0, _, by rw [alloc_eq_grow, alloc_eq_grow, grow_grow]; rfl⟩
set_option maxHeartbeats 1000000 in
set_option maxRecDepth 100000 in
theorem cmpElC (x y : EC) (W : World) : Calls Tryz.prog 126 #[.agg #[.string x.n, .slice x.a x.l x.c], .agg #[.string y.n, .slice y.a y.l y.c]] W fun e w' => e = .returned (.int .i64 (cmpN EC.n x y)) ∧ ∃ q os', w' = grow (W.drewN q) os' := by
  have hcon := fun W' => Tryz.strings_Compare x.n y.n W'
  unfold cmpN
  generalize Lib.compareBytes x.n.data.toList y.n.data.toList = r at hcon ⊢
  have HC := Lib.hid hcon
  clear hcon
  go_enter Tryz.func126, Tryz.ntmps126
  go_wp2_with (go_at_call 127; refine (HC.out _).mono ?_; rintro e w' ⟨rfl, rfl⟩)
  go_ret
  exact ⟨rfl, 0, _, by rw [alloc_eq_grow, alloc_eq_grow, grow_grow]; rfl⟩
set_option maxHeartbeats 4000000 in
set_option maxRecDepth 100000 in
theorem sortRuC {w : World} {B : Nat} {v : Value} {l : List RuleD} {F : List Nat} (h : kdR.own w B v l F) (hnd : (l.map RuleD.name).Nodup) (hl : l.length < 4611686018427387904) :
    Calls Tryz.prog 197 #[v, .func (.func 198) #[] #[]] w fun e w' => e = .returned (.tuple #[]) ∧ ∃ F', kdR.own w' B v (ordBy RuleD.name l) F' ∧ (∀ k, k ∈ F' ↔ k ∈ F) ∧ Fr F w w' := by
  obtain ⟨T, rfl, ho, hs, rfl, hn⟩ := h
  have hof : ∀ t ∈ T, encR (ofR t) = fmR.enc t.a t.v := fun t ht => by
    obtain ⟨A, n, c, e⟩ := kdW.slice (kdW.read (lo := 0) (hi := w.heap.size) (hs t ht) (Nat.zero_le _) (Nat.le_refl _))
    first | unfold ofR | unfold ofE
    rw [e]; rfl
  rcases ho.2 with ⟨rfl, h0⟩ | ⟨g, cap, cur, rfl, hb, hg, _⟩
  · have hl0 := List.eq_nil_of_length_eq_zero h0
    subst hl0
    have hc := AnyF.slices_SortFunc_none Tryz.sortRu none 0 (.func (.func 198) #[] #[]) w
    refine hc.mono ?_
    rintro e w' ⟨rfl, rfl⟩
    have e0 : ordBy RuleD.name (([] : List (It RuleD)).map (·.a)) = [] := by simp [ordBy]
    exact ⟨rfl, [], by rw [e0]; exact fmR.own_nil w' B, by simp [Value.ownBlock, outG], Fr.refl _ _⟩
  · have hT : (T.map ofR).toArray.size = T.length := by simp
    have hc := AnyQ.slices_SortFunc Tryz.sortRu 3 Tryz.isAgg51 Tryz.sizeOf51 encR encR_len encR_one (cmpN RC.n) (swoN RC.n) 198 #[] g 0 cap (T.map ofR).toArray w
      (enters_of Tryz.func198 (by kernel_rfl) rfl) (fun _ _ _ _ x y => cmpRuC x y _) (holds_own fmR encR ofR encR_len ho hof) (Array.getElem?_eq_some_iff.1 hg).1 (by rw [hT]; simpa using hl)
    rw [hT] at hc
    refine hc.mono ?_
    rintro e w' ⟨rfl, d, n, os, hp, hsd, rfl⟩
    obtain ⟨F', h1, h2, h3⟩ := sort_own fmR encR ofR RC.n RuleD.name encR_len (fun t => rcN _ _) (n := n) (os := os) ho hof hs hn hnd (by rw [hT]; exact hp) (by rw [hT]; exact hsd)
    exact ⟨rfl, F', h1, h2, h3.mono (by intro x hx; simp at hx; subst hx; simp [Value.ownBlock])⟩
set_option maxHeartbeats 4000000 in
set_option maxRecDepth 100000 in
theorem sortElC {w : World} {B : Nat} {v : Value} {l : List ElD} {F : List Nat} (h : kdE.own w B v l F) (hnd : (l.map ElD.name).Nodup) (hl : l.length < 4611686018427387904) :
    Calls Tryz.prog 125 #[v, .func (.func 126) #[] #[]] w fun e w' => e = .returned (.tuple #[]) ∧ ∃ F', kdE.own w' B v (ordBy ElD.name l) F' ∧ (∀ k, k ∈ F' ↔ k ∈ F) ∧ Fr F w w' := by
  obtain ⟨T, rfl, ho, hs, rfl, hn⟩ := h
  have hof : ∀ t ∈ T, encE (ofE t) = fmE.enc t.a t.v := fun t ht => by
    obtain ⟨A, n, c, e⟩ := kdR.slice (kdR.read (lo := 0) (hi := w.heap.size) (hs t ht) (Nat.zero_le _) (Nat.le_refl _))
    first | unfold ofR | unfold ofE
    rw [e]; rfl
  rcases ho.2 with ⟨rfl, h0⟩ | ⟨g, cap, cur, rfl, hb, hg, _⟩
  · have hl0 := List.eq_nil_of_length_eq_zero h0
    subst hl0
    have hc := AnyF.slices_SortFunc_none Tryz.sortEl none 0 (.func (.func 126) #[] #[]) w
    refine hc.mono ?_
    rintro e w' ⟨rfl, rfl⟩
    have e0 : ordBy ElD.name (([] : List (It ElD)).map (·.a)) = [] := by simp [ordBy]
    exact ⟨rfl, [], by rw [e0]; exact fmE.own_nil w' B, by simp [Value.ownBlock, outG], Fr.refl _ _⟩
  · have hT : (T.map ofE).toArray.size = T.length := by simp
    have hc := AnyQ.slices_SortFunc Tryz.sortEl 2 Tryz.isAgg59 Tryz.sizeOf59 encE encE_len encE_one (cmpN EC.n) (swoN EC.n) 126 #[] g 0 cap (T.map ofE).toArray w
      (enters_of Tryz.func126 (by kernel_rfl) rfl) (fun _ _ _ _ x y => cmpElC x y _) (holds_own fmE encE ofE encE_len ho hof) (Array.getElem?_eq_some_iff.1 hg).1 (by rw [hT]; simpa using hl)
    rw [hT] at hc
    refine hc.mono ?_
    rintro e w' ⟨rfl, d, n, os, hp, hsd, rfl⟩
    obtain ⟨F', h1, h2, h3⟩ := sort_own fmE encE ofE EC.n ElD.name encE_len (fun t => ecN _ _) (n := n) (os := os) ho hof hs hn hnd (by rw [hT]; exact hp) (by rw [hT]; exact hsd)
    exact ⟨rfl, F', h1, h2, h3.mono (by intro x hx; simp at hx; subst hx; simp [Value.ownBlock])⟩
end Go.Proofs.YtejpdbiiikcmmaaGreatDoor.Sk

/- The program's sortRules: rules by their names, with their words tidy. -/
set_option linter.unusedVariables false
set_option linter.unusedSimpArgs false
namespace Go.Proofs.YtejpdbiiikcmmaaGreatDoor.Sr
open Go.RowKit Lb Gr Pd Fl Go.Proofs.YtejpdbiiikcmmaaGreatDoor.Pm Bk Ha Go.Proofs.YtejpdbiiikcmmaaGreatDoor.So Go.Proofs.YtejpdbiiikcmmaaGreatDoor.Rs Go.Proofs.YtejpdbiiikcmmaaGreatDoor.Or Go.Proofs.YtejpdbiiikcmmaaGreatDoor.Sf Go.Proofs.YtejpdbiiikcmmaaGreatDoor.Sk Lw
attribute [local go_sem ↓] Go.wp_at_zero Go.wp_at_succ

/-- what a machine's int holds -/
def OkW (l : List RuleD) : Prop := l.length < 4611686018427387904 ∧ ∀ i (h : i < l.length), (l[i]).words.length < 4611686018427387904 ∧ ∀ j (hj : j < (l[i]).words.length), ((l[i]).words[j]).size ≤ maxLen
theorem set3 {xs : List Value} {k n : Nat} {a b d : Value} (hl : xs.length = n * 3) (hk : k < n) (h0 : xs[k * 3]? = some a) (h1 : xs[k * 3 + 1]? = some b) : xs.take (k * 3) ++ [a, b, d] ++ xs.drop ((k + 1) * 3) = xs.set (k * 3 + 2) d := by
  have e : xs = xs.take (k * 3) ++ [a, b] ++ xs.drop (k * 3 + 2) := by
    have h2 : xs.drop (k * 3) = a :: b :: xs.drop (k * 3 + 2) := by
      obtain ⟨p0, rfl⟩ := List.getElem?_eq_some_iff.1 h0
      obtain ⟨p1, rfl⟩ := List.getElem?_eq_some_iff.1 h1
      rw [List.drop_eq_getElem_cons p0, List.drop_eq_getElem_cons p1]
    rw [List.append_assoc]
    show xs = xs.take (k * 3) ++ (a :: b :: xs.drop (k * 3 + 2))
    rw [← h2, List.take_append_drop]
  have hlt : k * 3 + 2 < xs.length := by omega
  have h3 : xs.drop (k * 3 + 2) = xs[k * 3 + 2] :: xs.drop (k * 3 + 3) := List.drop_eq_getElem_cons hlt
  have hlen : (xs.take (k * 3) ++ [a, b]).length = k * 3 + 2 := by simp; omega
  conv => rhs; rw [e]
  rw [List.set_append_right _ _ (by omega), hlen, Nat.sub_self, h3, List.set_cons_zero]
  rw [show (k + 1) * 3 = k * 3 + 3 by omega]
  simp
theorem set2 {xs : List Value} {k n : Nat} {a b : Value} (hl : xs.length = n * 2) (hk : k < n) (h0 : xs[k * 2]? = some a) (h1 : xs[k * 2 + 1]? = some b) : xs.take (k * 2) ++ [a, b] ++ xs.drop ((k + 1) * 2) = xs := by
  have h2 : xs.drop (k * 2) = a :: b :: xs.drop (k * 2 + 2) := by
    obtain ⟨p0, rfl⟩ := List.getElem?_eq_some_iff.1 h0
    obtain ⟨p1, rfl⟩ := List.getElem?_eq_some_iff.1 h1
    rw [List.drop_eq_getElem_cons p0, List.drop_eq_getElem_cons p1]
  rw [List.append_assoc, show (k + 1) * 2 = k * 2 + 2 by omega]
  show xs.take (k * 2) ++ (a :: b :: xs.drop (k * 2 + 2)) = xs
  rw [← h2, List.take_append_drop]
/-- a rule's words turned, in its row -/
theorem close3 {w5 : World} {B g n c k : Nat} {xs : List Value} {r : RuleD} (hk : k < n) (hxs : w5.ownsRow B fmR.e fmR.size (.slice (some ⟨g, 0, none⟩) n c) n xs) (hxl : xs.length = n * fmR.size)
    (h0 : w5.cell? ⟨g, k * 3, none⟩ = some (.string r.name)) (h1 : w5.cell? ⟨g, k * 3 + 1, none⟩ = some (.int .i64 r.kind)) (u5 : Value) :
    (w5.setCell ⟨g, k * 3 + 2, none⟩ u5).ownsRow B fmR.e fmR.size (.slice (some ⟨g, 0, none⟩) n c) n (xs.take (k * fmR.size) ++ fmR.enc (tidyR r) u5 ++ xs.drop ((k + 1) * fmR.size)) := by
  have hs : fmR.size = 3 := rfl
  have g0 := hxs.cellAt (k * 3) (by rw [hs]; omega)
  have g1 := hxs.cellAt (k * 3 + 1) (by rw [hs]; omega)
  rw [h0] at g0
  rw [h1] at g1
  have g2 := (hxs.stored (k * 3 + 2) u5).1
  rw [← set3 (n := n) hxl hk g0.symm g1.symm] at g2
  exact g2
/-- the first k turned -/
def mixed {α : Type} (f : α → α) (l : List α) (k : Nat) : List α := (l.take k).map f ++ l.drop k
theorem mixed_len {α : Type} (f : α → α) (l : List α) (k : Nat) : (mixed f l k).length = l.length := by
  unfold mixed; rw [List.length_append, List.length_map, List.length_take, List.length_drop]; omega
theorem mixed_at? {α : Type} {f : α → α} {l : List α} {k : Nat} (h : k < l.length) : (mixed f l k)[k]? = some l[k] := by
  have hl : ((l.take k).map f).length = k := by rw [List.length_map, List.length_take]; omega
  unfold mixed
  rw [List.getElem?_append_right (by omega), hl, Nat.sub_self, List.drop_eq_getElem_cons h]
  rfl
theorem mixed_at {α : Type} {f : α → α} {l : List α} {k : Nat} (h : k < l.length) (h' : k < (mixed f l k).length) : (mixed f l k)[k] = l[k] := by
  obtain ⟨_, h2⟩ := List.getElem?_eq_some_iff.1 (mixed_at? (f := f) h)
  exact h2
theorem mixed_set {α : Type} {f : α → α} {l : List α} {k : Nat} (h : k < l.length) : (mixed f l k).set k (f l[k]) = mixed f l (k + 1) := by
  have hl : ((l.take k).map f).length = k := by rw [List.length_map, List.length_take]; omega
  unfold mixed
  rw [List.set_append_right _ _ (by omega), hl, Nat.sub_self, List.drop_eq_getElem_cons h, List.set_cons_zero, List.take_succ_eq_append_getElem h, List.map_append, List.append_assoc]
  rfl
theorem mixed_0 {α : Type} (f : α → α) (l : List α) : mixed f l 0 = l := by simp [mixed]
theorem mixed_all {α : Type} (f : α → α) (l : List α) : mixed f l l.length = l.map f := by simp [mixed]

set_option maxHeartbeats 4000000 in
set_option maxRecDepth 100000 in
theorem sortRulesC {l : List RuleD} {v : Value} {F : List Nat} {B : Nat} (w : World) (h : kdR.own w B v l F) (hnd : (l.map RuleD.name).Nodup) (hok : OkW l) : Calls Tryz.prog 128 #[v] w fun e w' =>
    e = .returned (.tuple #[]) ∧ ∃ F', kdR.own w' B v (tidyRs l) F' ∧ (∀ k ∈ F', k ∈ F) ∧ Fr F w w' := by
  obtain ⟨A, c, rfl, hc1, hc2⟩ := fmR.own_form h
  obtain ⟨hl, hw⟩ := hok
  have HW := Lib.hid hw
  have hlen : (l.length : Int) ≤ 9223372036854775807 := by omega
  have h0 : Hid (kdR.own w B (.slice A l.length c) (mixed tidyR l 0) F ∧ (∀ x ∈ F, x ∈ F) ∧ Fr F w w) := Lib.hid ⟨by rw [mixed_0]; exact h, fun _ h => h, Fr.refl _ _⟩
  have HND := Lib.hid hnd
  clear h hw hnd
  go_enter Tryz.func128, Tryz.ntmps128
  go_wp2
  go_loopw [7] (fun i wr => ∃ (k : Nat) (Fc : List Nat), k ≤ l.length ∧ i = .int .i64 k ∧ Hid (kdR.own wr B (.slice A l.length c) (mixed tidyR l k) Fc ∧ (∀ x ∈ Fc, x ∈ F) ∧ Fr F w wr)) (fun i _ => l.length - (intOf i).toNat)
  case atStart => exact ⟨0, F, by omega, rfl, h0⟩
  case round =>
    obtain ⟨k, Fc, hk, rfl, hst⟩ := hrel
    by_cases hlt : k < l.length
    · obtain ⟨w1, rfl⟩ : ∃ w1, w1 = wr := ⟨_, rfl⟩
      have hml := mixed_len tidyR l k
      obtain ⟨g, cap, u, G, hv, hBg, hgw, hsub, hgF, hgG, hGF, hcells, hfz, hclose⟩ := fmR.own_at hst.out.1 (i := k) (by omega)
      rw [mixed_at hlt (by omega)] at hsub hcells
      injection hv with e1 e2 e3
      subst e1 e3
      have hsub' : kdW.own w1 B u l[k].words G := hsub
      obtain ⟨A2, c2, rfl, hq1, hq2⟩ := own_slice hsub'.1
      have HCL := Lib.hid hclose
      have x2 := hcells 2 _ rfl
      have x0 := hcells 0 _ rfl
      have x1 := hcells 1 _ rfl
      rw [show k * fmR.size + 0 = k * 3 from rfl] at x0
      rw [show k * fmR.size + 1 = k * 3 + 1 from rfl] at x1
      rw [show k * fmR.size + 2 = k * 3 + 2 from rfl] at x2
      have HX0 := Lib.hid x0
      have HX1 := Lib.hid x1
      obtain ⟨hwl, hws⟩ := HW.out k hlt
      obtain ⟨ws, hwsd⟩ : ∃ ws, ws = l[k].words := ⟨_, rfl⟩
      rw [← hwsd] at hwl hq1 x2
      have HWS : Hid (∀ j (hj : j < ws.length), ws[j].size ≤ maxLen) := Lib.hid (by subst hwsd; exact hws)
      have h1 : Hid (kdW.own w1 B (.slice A2 ws.length c2) (mixed lowS ws 0) G ∧ Fr G w1 w1) := Lib.hid ⟨by rw [mixed_0, hwsd]; exact hsub', Fr.refl _ _⟩
      have HWD := Lib.hid hwsd
      have hfzk := hfz (k * 3 + 2)
      have HFZ := Lib.hid hfz
      have hwi : (ws.length : Int) ≤ 9223372036854775807 := by omega
      clear hsub hsub' hcells hclose hwsd hws hfz e2 x0 x1 hfzk
      go_wp2
      go_loopw [16] (fun i wr => ∃ j : Nat, j ≤ ws.length ∧ i = .int .i64 j ∧ Hid (kdW.own wr B (.slice A2 ws.length c2) (mixed lowS ws j) G ∧ Fr G w1 wr)) (fun i _ => ws.length - (intOf i).toNat)
      case atStart => exact ⟨0, by omega, rfl, h1⟩
      case round =>
        obtain ⟨j, hj, rfl, hin⟩ := hrel
        have z0 : wr.cell? ⟨g, k * 3 + 2, none⟩ = some (.slice A2 ws.length c2) := (World.cell?_of_block (a := ⟨g, k * 3 + 2, none⟩) (hin.out.2.block g hgw hgG)).trans x2
        by_cases hltj : j < ws.length
        · obtain ⟨b, e9, hBb, hbw, hfzb, hcj, _⟩ := Own.store (B := B) (n := ws.length) (c := c2) (l := mixed lowS ws j) hin.out.1.1 (j := j) (by rw [mixed_len]; exact hltj) (lowS ws[j])
          subst e9
          rw [mixed_at hltj (by rw [mixed_len]; exact hltj)] at hcj
          have hgb : g ≠ b := fun e => hgG (by rw [hin.out.1.2, e]; simp [Value.ownBlock])
          have HL : Hid (∀ W, Calls Tryz.prog 166 #[.string ws[j]] W fun e w' => e = .returned (.string (lowS ws[j])) ∧ Below W.heap.size W w') := Lib.hid fun W => nLower ws[j] W (HWS.out j hltj)
          have hgq : g < wr.heap.size := Nat.lt_of_lt_of_le hgw hin.out.2.size
          obtain ⟨s, hs⟩ : ∃ s, s = ws[j] := ⟨_, rfl⟩
          obtain ⟨s2, hs2⟩ : ∃ s2, s2 = lowS ws[j] := ⟨_, rfl⟩
          rw [← hs] at hcj HL
          have HS2 : Hid (s2 = lowS ws[j]) := Lib.hid hs2
          have HL2 : Hid (∀ W, Calls Tryz.prog 166 #[.string s] W fun e w' => e = .returned (.string s2) ∧ Below W.heap.size W w') := Lib.hid (by rw [hs2, ← hs]; exact HL.out)
          have HIN := hin
          clear HL hs hs2
          go_upto_region 6 with fail
          go_region_held3 (fun W' => W'.cell? ⟨g, k * 3 + 2, none⟩ = some (.slice (some ⟨b, 0, none⟩) ws.length c2))
            (first | exact z0 | exact z1 | exact z2)
            (first | (go_at_call 166; refine (HL2.out _).mono ?_; rintro e w3 ⟨rfl, hb3⟩; have hb4 : Below wr.heap.size wr w3 := (drw wr 1).trans hb3; have z1 := (hb4.cell (p := ⟨g, k * 3 + 2, none⟩) hgq).trans z0; have ho3 : Own w3 B (.slice (some ⟨b, 0, none⟩) ws.length c2) (mixed lowS ws j) := Own.below HIN.out.1.1 hb4; have s1 := (hb4.cell (p := ⟨b, j, none⟩) hbw).trans hcj; have s3 := (hb4.frozen (p := ⟨b, j, none⟩) hbw).trans hfzb; have z2 : (w3.setCell ⟨b, j, none⟩ (.string s2)).cell? ⟨g, k * 3 + 2, none⟩ = some (.slice (some ⟨b, 0, none⟩) ws.length c2) := (World.cell?_of_block (a := ⟨g, k * 3 + 2, none⟩) (Below.heap_setCell w3 ⟨b, j, none⟩ (.string s2) g hgb)).trans z1))
          have hnew : Hid (kdW.own (w3.setCell ⟨b, j, none⟩ (.string s2)) B (.slice (some ⟨b, 0, none⟩) ws.length c2) (mixed lowS ws (j + 1)) G ∧ Fr G w1 (w3.setCell ⟨b, j, none⟩ (.string s2))) := Lib.hid (by
            have h9 := own_set ho3 (by rw [mixed_len]; exact hltj) s2
            rw [HS2.out, mixed_set hltj, ← HS2.out] at h9
            exact ⟨⟨h9, HIN.out.1.2⟩, (HIN.out.2.trans (Fr.of_below hb4)).trans (Fr.setCell _ _ _ (.inl (by rw [HIN.out.1.2]; simp [Value.ownBlock])))⟩)
          go_wp2
          go_roundw
          case rel => exact ⟨j + 1, by omega, by go_num, hnew⟩
          case measure => simp [intOf] <;> omega
        · obtain rfl : j = ws.length := by omega
          have hfin := hin.out
          rw [mixed_all] at hfin
          have HS := Lib.hid (sortW hfin.1 (by rw [List.length_map]; omega))
          have hgq : g < wr.heap.size := Nat.lt_of_lt_of_le hgw hfin.2.size
          have HF2 := Lib.hid hfin.2
          clear hfin
          go_wp2_with (first
            | (go_at_call 129; refine HS.out.mono ?_; rintro e w4 ⟨rfl, ho4, hf4⟩; have z1 := (World.cell?_of_block (a := ⟨g, k * 3 + 2, none⟩) (hf4.block g hgq hgG)).trans z0; have hg4 := Nat.lt_of_lt_of_le hgq hf4.size)
            | (go_at_call 196; refine (compactW ho4).mono ?_; rintro e w5 ⟨u5, rfl, ho5, hf5⟩; obtain ⟨A5, c5, rfl, _⟩ := own_slice ho5.1; have z2 := (World.cell?_of_block (a := ⟨g, k * 3 + 2, none⟩) (hf5.block g hg4 hgG)).trans z1; have y2 := (World.frozen?_of_block (a := ⟨g, k * 3 + 2, none⟩) (hf5.block g hg4 hgG)).trans ((World.frozen?_of_block (a := ⟨g, k * 3 + 2, none⟩) (hf4.block g hgq hgG)).trans ((World.frozen?_of_block (a := ⟨g, k * 3 + 2, none⟩) (HF2.out.block g hgw hgG)).trans (HFZ.out (k * 3 + 2))))))
          obtain ⟨n5, hn5⟩ : ∃ n5, n5 = (onceL (srt (ws.map lowS))).length := ⟨_, rfl⟩
          have hfw : Fr G w1 w5 := (HF2.out.trans hf4).trans hf5
          have hg5 := Nat.lt_of_lt_of_le hg4 hf5.size
          have hE := HCL.out w5 (tidyR l[k]) (.slice A5 (onceL (srt (ws.map lowS))).length c5) G (hfw.block g hgw hgG) hfw.size (fun x hx hxG => hfw.block x ((kdR.ge hst.out.1 x hx).2) hxG) (by show kdW.own w5 B _ (onceL (srt (l[k].words.map lowS))) G; rw [← HWD.out]; exact ho5) (fun x hx => .inl hx) (w5.setCell ⟨g, k * 3 + 2, none⟩ (.slice A5 (onceL (srt (ws.map lowS))).length c5)) (by simp [World.setCell]) (fun x hx => Below.heap_setCell w5 ⟨g, k * 3 + 2, none⟩ _ x hx) (fun xs hxs hxl => by
            rw [hml] at hxs hxl ⊢
            exact close3 hlt hxs hxl ((World.cell?_of_block (a := ⟨g, k * 3, none⟩) (hfw.block g hgw hgG)).trans HX0.out) ((World.cell?_of_block (a := ⟨g, k * 3 + 1, none⟩) (hfw.block g hgw hgG)).trans HX1.out) _)
          obtain ⟨F5, hF5, hm5⟩ := hE
          rw [mixed_set hlt] at hF5
          have hrel2 : Hid (kdR.own (w5.setCell ⟨g, k * 3 + 2, none⟩ (.slice A5 (onceL (srt (ws.map lowS))).length c5)) B (.slice (some ⟨g, 0, none⟩) l.length c) (mixed tidyR l (k + 1)) F5 ∧ (∀ x ∈ F5, x ∈ F) ∧ Fr F w (w5.setCell ⟨g, k * 3 + 2, none⟩ (.slice A5 (onceL (srt (ws.map lowS))).length c5))) :=
            Lib.hid ⟨hF5, fun x hx => (hm5 x hx).elim (hst.out.2.1 x) (fun h => hst.out.2.1 x (hGF x h)), (hst.out.2.2.trans (hfw.mono fun x hx => hst.out.2.1 x (hGF x hx))).trans (Fr.setCell _ _ _ (.inl (hst.out.2.1 g hgF)))⟩
          clear hF5 hm5 hfw ho5 hf5 ho4 hf4 hn5
          go_roundw
          case rel => exact ⟨k + 1, F5, by omega, by go_num, hrel2⟩
          case measure => simp [intOf] <;> omega
    · obtain rfl : k = l.length := by omega
      have hfin := hst.out
      rw [mixed_all] at hfin
      have HS := Lib.hid (sortRuC hfin.1 (by
        have e : (l.map tidyR).map RuleD.name = l.map RuleD.name := by rw [List.map_map]; rfl
        rw [e]; exact HND.out) (by rw [List.length_map]; exact hl))
      go_wp2_with (go_at_call 197; refine HS.out.mono ?_; rintro e w4 ⟨rfl, F4, ho4, hm4, hf4⟩)
      go_end0
      exact ⟨rfl, F4, ho4, fun x hx => hfin.2.1 x ((hm4 x).1 hx), hfin.2.2.trans (hf4.mono hfin.2.1)⟩
end Go.Proofs.YtejpdbiiikcmmaaGreatDoor.Sr
