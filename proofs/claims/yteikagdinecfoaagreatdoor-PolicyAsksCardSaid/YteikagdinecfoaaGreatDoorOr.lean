/- Lists in the order of their names, and words in order: plain laws, no program. -/
import Derived.Test.YteikagdinecfoaaGreatDoorPd
import Derived.Test.YteikagdinecfoaaGreatDoorSo
import Derived.Test.YteikagdinecfoaaGreatDoorRs
set_option linter.unusedVariables false
namespace Go.Proofs.YteikagdinecfoaaGreatDoor.Or
open Go.RowKit Lb Gr Pd Go.Proofs.YteikagdinecfoaaGreatDoor.So Go.Proofs.YteikagdinecfoaaGreatDoor.Rs

theorem leS_refl (a : ByteArray) : leS a a = true := by unfold leS leB; simp
theorem leS_total (a b : ByteArray) : leS a b = true ∨ leS b a = true := by
  unfold leS leB
  simp only [decide_eq_true_eq]
  exact List.le_total _ _
theorem leS_anti {a b : ByteArray} (h1 : leS a b = true) (h2 : leS b a = true) : a = b := by
  unfold leS leB at *
  simp only [decide_eq_true_eq] at *
  have := List.le_antisymm h1 h2
  rw [← str_of a, ← str_of b, this]

/-- by a name -/
def leN {α : Type} (f : α → ByteArray) (a b : α) : Bool := leS (f a) (f b)
def ordBy {α : Type} (f : α → ByteArray) (l : List α) : List α := l.mergeSort (leN f)
theorem ordBy_perm {α : Type} (f : α → ByteArray) (l : List α) : (ordBy f l).Perm l := List.mergeSort_perm _ _
theorem ordBy_sorted {α : Type} (f : α → ByteArray) (l : List α) : (ordBy f l).Pairwise fun a b => leN f a b = true :=
  List.pairwise_mergeSort (le := leN f) (fun a b c h1 h2 => le_trans' (a := f a) (b := f b) (c := f c) h1 h2) (fun a b => by
    show (leS (f a) (f b) || leS (f b) (f a)) = true
    rcases leS_total (f a) (f b) with h | h
    · rw [h]; rfl
    · rw [h, Bool.or_true]) l
/-- of names that are all different there is one order -/
theorem ord_uniq {α : Type} {f : α → ByteArray} : ∀ {l r : List α}, l.Perm r → l.Pairwise (fun a b => leN f a b = true) → r.Pairwise (fun a b => leN f a b = true) → (l.map f).Nodup → l = r
  | [], r, hp, _, _, _ => (List.Perm.eq_nil hp.symm).symm
  | a :: l, r, hp, h1, h2, hn => by
    cases r with
    | nil => exact absurd hp.symm.nil_eq (by simp)
    | cons b r =>
      have hab : a = b := by
        by_cases he : a = b
        · exact he
        · have hb : b ∈ a :: l := hp.mem_iff.2 (List.mem_cons_self ..)
          have ha : a ∈ b :: r := hp.mem_iff.1 (List.mem_cons_self ..)
          have hb' : b ∈ l := (List.mem_cons.1 hb).resolve_left (fun e => he e.symm)
          have ha' : a ∈ r := (List.mem_cons.1 ha).resolve_left he
          have e := leS_anti ((List.pairwise_cons.1 h1).1 b hb') ((List.pairwise_cons.1 h2).1 a ha')
          rw [List.map_cons, List.nodup_cons] at hn
          exact absurd (List.mem_map.2 ⟨b, hb', e.symm⟩) hn.1
      subst hab
      rw [List.map_cons, List.nodup_cons] at hn
      rw [ord_uniq hp.cons_inv (List.pairwise_cons.1 h1).2 (List.pairwise_cons.1 h2).2 hn.2]
theorem ordBy_eq {α : Type} {f : α → ByteArray} {l r : List α} (hp : r.Perm l) (hs : r.Pairwise fun a b => leN f a b = true) (hn : (l.map f).Nodup) : r = ordBy f l :=
  ord_uniq (hp.trans (ordBy_perm f l).symm) hs (ordBy_sorted f l) ((hp.map f).nodup_iff.2 hn)
theorem ordBy_len {α : Type} (f : α → ByteArray) (l : List α) : (ordBy f l).length = l.length := (ordBy_perm f l).length_eq
theorem srt_ordBy (l : List ByteArray) : srt l = ordBy id l := by
  symm
  exact srt_eq (ordBy_perm id l) (ordBy_sorted id l)
theorem srt_perm (l : List ByteArray) : (srt l).Perm l := by rw [srt_ordBy]; exact ordBy_perm _ _
theorem srt_sorted (l : List ByteArray) : (srt l).Pairwise fun a b => leS a b = true := by rw [srt_ordBy]; exact ordBy_sorted _ _
theorem srt_mem {l : List ByteArray} {x : ByteArray} : x ∈ srt l ↔ x ∈ l := (srt_perm l).mem_iff
/-- the names in order are the order of the names -/
theorem map_ordBy {α : Type} (f : α → ByteArray) (l : List α) : (ordBy f l).map f = srt (l.map f) :=
  srt_eq ((ordBy_perm f l).map f) (List.pairwise_map.2 (ordBy_sorted f l))
theorem ordBy_map {α β : Type} {f : α → ByteArray} {g : β → ByteArray} (m : α → β) (hm : ∀ a, g (m a) = f a) (l : List α) (hn : (l.map f).Nodup) : ordBy g (l.map m) = (ordBy f l).map m := by
  symm
  refine ordBy_eq ((ordBy_perm f l).map m) (List.pairwise_map.2 ?_) ?_
  · refine List.Pairwise.imp ?_ (ordBy_sorted f l)
    intro a b h
    unfold leN at *
    rw [hm, hm]; exact h
  · rw [List.map_map]
    have : g ∘ m = f := funext hm
    rw [this]; exact hn

/-- words in small letters, in order, each once -/
def tidyW (l : List ByteArray) : List ByteArray := onceL (srt (l.map lowS))
def tidyR (r : RuleD) : RuleD := ⟨r.name, r.kind, tidyW r.words⟩
def tidyRs (l : List RuleD) : List RuleD := ordBy RuleD.name (l.map tidyR)
def tidyE (e : ElD) : ElD := ⟨e.name, tidyRs e.rules⟩
def tidyP (p : PolD) : PolD := ⟨ordBy ElD.name (p.els.map tidyE), tidyRs p.glob, srt p.schemes, p.rel, srt p.drop, p.depth, p.window⟩
end Go.Proofs.YteikagdinecfoaaGreatDoor.Or
