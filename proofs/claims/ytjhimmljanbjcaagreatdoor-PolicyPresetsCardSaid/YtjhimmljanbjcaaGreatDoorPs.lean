/- The presets, plain. -/
import Derived.Test.YtjhimmljanbjcaaGreatDoorVd
import Derived.Test.YtjhimmljanbjcaaGreatDoorRa
import Derived.Test.YtjhimmljanbjcaaGreatDoorSp
import Derived.Test.YtjhimmljanbjcaaGreatDoorPn
import Derived.Test.YtjhimmljanbjcaaGreatDoorPp
set_option linter.unusedVariables false
set_option linter.unusedSimpArgs false
namespace Go.Proofs.YtjhimmljanbjcaaGreatDoor.Ps
open Go.RowKit Lb Gr Pd Go.Proofs.YtjhimmljanbjcaaGreatDoor.Ck Go.Proofs.YtjhimmljanbjcaaGreatDoor.So Go.Proofs.YtjhimmljanbjcaaGreatDoor.Rs Go.Proofs.YtjhimmljanbjcaaGreatDoor.Or Go.Proofs.YtjhimmljanbjcaaGreatDoor.Vd Pt
instance decRule : DecidableEq RuleD := fun a b =>
  if h : a.name = b.name ∧ a.kind = b.kind ∧ a.words = b.words then isTrue (by cases a; cases b; obtain ⟨rfl, rfl, rfl⟩ := h; rfl) else isFalse fun e => h (by rw [e]; exact ⟨rfl, rfl, rfl⟩)
instance decEl : DecidableEq ElD := fun a b =>
  if h : a.name = b.name ∧ a.rules = b.rules then isTrue (by cases a; cases b; obtain ⟨rfl, rfl⟩ := h; rfl) else isFalse fun e => h (by rw [e]; exact ⟨rfl, rfl⟩)
instance decPol : DecidableEq PolD := fun a b =>
  if h : a.els = b.els ∧ a.glob = b.glob ∧ a.schemes = b.schemes ∧ a.rel = b.rel ∧ a.drop = b.drop ∧ a.depth = b.depth ∧ a.window = b.window then
    isTrue (by cases a; cases b; obtain ⟨rfl, rfl, rfl, rfl, rfl, rfl, rfl⟩ := h; rfl) else isFalse fun e => h (by rw [e]; exact ⟨rfl, rfl, rfl, rfl, rfl, rfl, rfl⟩)

/-! ### the order, in a form that the kernel runs -/
section
variable {α : Type}
def insL (f : α → ByteArray) (a : α) : List α → List α
  | [] => [a]
  | b :: l => if leN f a b then a :: b :: l else b :: insL f a l
def isort (f : α → ByteArray) (l : List α) : List α := l.foldr (insL f) []
theorem insL_perm (f : α → ByteArray) (a : α) : ∀ l : List α, (insL f a l).Perm (a :: l)
  | [] => List.Perm.refl _
  | b :: l => by
    unfold insL
    split
    · exact List.Perm.refl _
    · exact (List.Perm.cons b (insL_perm f a l)).trans (List.Perm.swap a b l)
theorem isort_perm (f : α → ByteArray) : ∀ l : List α, (isort f l).Perm l
  | [] => List.Perm.refl _
  | a :: l => (insL_perm f a (isort f l)).trans (List.Perm.cons a (isort_perm f l))
theorem leN_not {f : α → ByteArray} {a b : α} (h : ¬ leN f a b = true) : leN f b a = true := (leS_total (f b) (f a)).resolve_right h
theorem insL_sorted (f : α → ByteArray) (a : α) : ∀ l : List α, l.Pairwise (fun a b => leN f a b = true) → (insL f a l).Pairwise fun a b => leN f a b = true
  | [], _ => by simp [insL]
  | b :: l, h => by
    rw [List.pairwise_cons] at h
    unfold insL
    split
    · rename_i hab
      rw [List.pairwise_cons]
      refine ⟨fun x hx => ?_, List.pairwise_cons.2 h⟩
      rcases List.mem_cons.1 hx with rfl | hx
      · exact hab
      · exact le_trans' (a := f a) (b := f b) (c := f x) hab (h.1 x hx)
    · rename_i hab
      rw [List.pairwise_cons]
      refine ⟨fun x hx => ?_, insL_sorted f a l h.2⟩
      rcases List.mem_cons.1 ((insL_perm f a l).mem_iff.1 hx) with rfl | hx
      · exact leN_not hab
      · exact h.1 x hx
theorem isort_sorted (f : α → ByteArray) : ∀ l : List α, (isort f l).Pairwise fun a b => leN f a b = true
  | [] => List.Pairwise.nil
  | a :: l => insL_sorted f a _ (isort_sorted f l)
theorem ordBy_isort {f : α → ByteArray} {l : List α} (hn : (l.map f).Nodup) : ordBy f l = isort f l := (ordBy_eq (isort_perm f l) (isort_sorted f l) hn).symm
theorem srt_isort (l : List ByteArray) : srt l = isort id l := (srt_eq (isort_perm id l) (isort_sorted id l)).symm
end
def tidyRI (r : RuleD) : RuleD := ⟨r.name, r.kind, onceL (isort id (r.words.map lowS))⟩
def tidyRsI (l : List RuleD) : List RuleD := isort RuleD.name (l.map tidyRI)
def tidyI (p : PolD) : PolD := ⟨isort ElD.name (p.els.map fun e => ⟨e.name, tidyRsI e.rules⟩), tidyRsI p.glob, isort id p.schemes, p.rel, isort id p.drop, p.depth, p.window⟩
/-- names that are all different, as a test -/
def difB (p : PolD) : Bool := decide (p.els.map ElD.name).Nodup && decide (p.glob.map RuleD.name).Nodup && p.els.all fun e => decide (e.rules.map RuleD.name).Nodup
theorem tidyR_I (r : RuleD) : tidyR r = tidyRI r := by
  show (⟨r.name, r.kind, onceL (srt (r.words.map lowS))⟩ : RuleD) = _
  rw [srt_isort]; rfl
theorem tidyRs_I {l : List RuleD} (h : (l.map RuleD.name).Nodup) : tidyRs l = tidyRsI l := by
  unfold tidyRs tidyRsI
  rw [show tidyR = tidyRI from funext tidyR_I, ordBy_isort]
  rw [List.map_map]
  exact h
theorem tidyP_I {p : PolD} (h : difB p = true) : tidyP p = tidyI p := by
  unfold difB at h
  simp only [Bool.and_eq_true, decide_eq_true_eq, List.all_eq_true] at h
  obtain ⟨⟨h1, h2⟩, h3⟩ := h
  have e1 : p.els.map tidyE = p.els.map fun e => (⟨e.name, tidyRsI e.rules⟩ : ElD) := List.map_congr_left fun e he => by
    show (⟨e.name, tidyRs e.rules⟩ : ElD) = _
    rw [tidyRs_I (h3 e he)]
  unfold tidyP tidyI
  rw [e1, ordBy_isort (by rw [List.map_map]; exact h1), tidyRs_I h2, srt_isort, srt_isort]
def richT : ByteArray := str [114, 101, 108, 97, 116, 105, 118, 101, 10, 115, 99, 104, 101, 109, 101, 32, 104, 116, 116, 112, 10, 115, 99, 104, 101, 109, 101, 32, 104, 116, 116, 112, 115, 10, 115, 99, 104, 101, 109, 101, 32, 109, 97, 105, 108, 116, 111, 10, 103, 108, 111, 98, 97, 108, 32, 99, 108, 97, 115, 115, 32, 116, 111, 107, 101, 110, 115, 10, 103, 108, 111, 98, 97, 108, 32, 108, 97, 110, 103, 32, 108, 97, 110, 103, 10, 101, 108, 101, 109, 101, 110, 116, 32, 97, 10, 97, 116, 116, 114, 32, 104, 114, 101, 102, 32, 108, 105, 110, 107, 10, 97, 116, 116, 114, 32, 116, 105, 116, 108, 101, 32, 97, 110, 121, 10, 101, 108, 101, 109, 101, 110, 116, 32, 98, 10, 101, 108, 101, 109, 101, 110, 116, 32, 98, 108, 111, 99, 107, 113, 117, 111, 116, 101, 10, 97, 116, 116, 114, 32, 99, 105, 116, 101, 32, 108, 105, 110, 107, 10, 101, 108, 101, 109, 101, 110, 116, 32, 98, 114, 10, 101, 108, 101, 109, 101, 110, 116, 32, 99, 111, 100, 101, 10, 101, 108, 101, 109, 101, 110, 116, 32, 101, 109, 10, 101, 108, 101, 109, 101, 110, 116, 32, 104, 49, 10, 101, 108, 101, 109, 101, 110, 116, 32, 104, 50, 10, 101, 108, 101, 109, 101, 110, 116, 32, 104, 51, 10, 101, 108, 101, 109, 101, 110, 116, 32, 104, 52, 10, 101, 108, 101, 109, 101, 110, 116, 32, 104, 53, 10, 101, 108, 101, 109, 101, 110, 116, 32, 104, 54, 10, 101, 108, 101, 109, 101, 110, 116, 32, 104, 114, 10, 101, 108, 101, 109, 101, 110, 116, 32, 105, 10, 101, 108, 101, 109, 101, 110, 116, 32, 105, 109, 103, 10, 97, 116, 116, 114, 32, 97, 108, 116, 32, 97, 110, 121, 10, 97, 116, 116, 114, 32, 104, 101, 105, 103, 104, 116, 32, 108, 101, 110, 103, 116, 104, 10, 97, 116, 116, 114, 32, 115, 114, 99, 32, 108, 105, 110, 107, 10, 97, 116, 116, 114, 32, 119, 105, 100, 116, 104, 32, 108, 101, 110, 103, 116, 104, 10, 101, 108, 101, 109, 101, 110, 116, 32, 108, 105, 10, 101, 108, 101, 109, 101, 110, 116, 32, 111, 108, 10, 97, 116, 116, 114, 32, 115, 116, 97, 114, 116, 32, 110, 117, 109, 98, 101, 114, 10, 101, 108, 101, 109, 101, 110, 116, 32, 112, 10, 101, 108, 101, 109, 101, 110, 116, 32, 112, 114, 101, 10, 101, 108, 101, 109, 101, 110, 116, 32, 115, 116, 114, 111, 110, 103, 10, 101, 108, 101, 109, 101, 110, 116, 32, 117, 108, 10]
def richP : PolD := ⟨[⟨str [98], []⟩, ⟨str [98, 114], []⟩, ⟨str [99, 111, 100, 101], []⟩, ⟨str [101, 109], []⟩, ⟨str [105], []⟩, ⟨str [112], []⟩, ⟨str [115, 116, 114, 111, 110, 103], []⟩, ⟨str [97], [⟨str [104, 114, 101, 102], 5, []⟩, ⟨str [116, 105, 116, 108, 101], 0, []⟩]⟩, ⟨str [98, 108, 111, 99, 107, 113, 117, 111, 116, 101], [⟨str [99, 105, 116, 101], 5, []⟩]⟩, ⟨str [104, 49], []⟩, ⟨str [104, 50], []⟩, ⟨str [104, 51], []⟩, ⟨str [104, 52], []⟩, ⟨str [104, 53], []⟩, ⟨str [104, 54], []⟩, ⟨str [104, 114], []⟩, ⟨str [105, 109, 103], [⟨str [97, 108, 116], 0, []⟩, ⟨str [104, 101, 105, 103, 104, 116], 4, []⟩, ⟨str [115, 114, 99], 5, []⟩, ⟨str [119, 105, 100, 116, 104], 4, []⟩]⟩, ⟨str [108, 105], []⟩, ⟨str [111, 108], [⟨str [115, 116, 97, 114, 116], 3, []⟩]⟩, ⟨str [112, 114, 101], []⟩, ⟨str [117, 108], []⟩], [⟨str [99, 108, 97, 115, 115], 1, []⟩, ⟨str [108, 97, 110, 103], 6, []⟩], [str [104, 116, 116, 112], str [104, 116, 116, 112, 115], str [109, 97, 105, 108, 116, 111]], true, [], 64, 65536⟩
theorem rich_parse : (parseQ richT).2 = (0, 0) := by decide +kernel
theorem rich_dif : difB richP = true ∧ difB (parseQ richT).1 = true := by decide +kernel
theorem rich_I : tidyI richP = tidyI (parseQ richT).1 := by decide +kernel
theorem rich_tidy : tidyP richP = tidyP (parseQ richT).1 := by rw [tidyP_I rich_dif.1, tidyP_I rich_dif.2]; exact rich_I
end Go.Proofs.YtjhimmljanbjcaaGreatDoor.Ps

/- The preset 'full', plain. -/
set_option linter.unusedVariables false
set_option linter.unusedSimpArgs false
namespace Go.Proofs.YtjhimmljanbjcaaGreatDoor.Px
open Go.RowKit Lb Gr Pd Go.Proofs.YtjhimmljanbjcaaGreatDoor.Ck Go.Proofs.YtjhimmljanbjcaaGreatDoor.So Go.Proofs.YtjhimmljanbjcaaGreatDoor.Rs Go.Proofs.YtjhimmljanbjcaaGreatDoor.Or Go.Proofs.YtjhimmljanbjcaaGreatDoor.Vd Pt Ps
/-- the names that may be allowed, in order -/
def fullN : List ByteArray := isort id ((St.nm 15).map str)
/-- the rules of some -/
def fullR : List (ByteArray × List RuleD) := [(str [97], [⟨str [104, 114, 101, 102], 5, []⟩]), (str [105, 109, 103], [⟨str [97, 108, 116], 0, []⟩, ⟨str [104, 101, 105, 103, 104, 116], 4, []⟩, ⟨str [115, 114, 99], 5, []⟩, ⟨str [119, 105, 100, 116, 104], 4, []⟩]), (str [111, 108], [⟨str [115, 116, 97, 114, 116], 3, []⟩]), (str [116, 105, 109, 101], [⟨str [100, 97, 116, 101, 116, 105, 109, 101], 0, []⟩]), (str [100, 97, 116, 97], [⟨str [118, 97, 108, 117, 101], 0, []⟩]), (str [98, 108, 111, 99, 107, 113, 117, 111, 116, 101], [⟨str [99, 105, 116, 101], 5, []⟩]), (str [100, 101, 108], [⟨str [99, 105, 116, 101], 5, []⟩]), (str [105, 110, 115], [⟨str [99, 105, 116, 101], 5, []⟩]), (str [113], [⟨str [99, 105, 116, 101], 5, []⟩]), (str [116, 100], [⟨str [99, 111, 108, 115, 112, 97, 110], 3, []⟩, ⟨str [114, 111, 119, 115, 112, 97, 110], 3, []⟩]), (str [116, 104], [⟨str [99, 111, 108, 115, 112, 97, 110], 3, []⟩, ⟨str [114, 111, 119, 115, 112, 97, 110], 3, []⟩])]
def rulesAt (s : ByteArray) : List RuleD := ((fullR.find? fun x => decide (s = x.1)).map (·.2)).getD []
/-- what the reference writes behind some -/
def fullA : List (ByteArray × List UInt8) := [(str [97], [97, 116, 116, 114, 32, 104, 114, 101, 102, 32, 108, 105, 110, 107, 10]), (str [105, 109, 103], [97, 116, 116, 114, 32, 97, 108, 116, 32, 97, 110, 121, 10, 97, 116, 116, 114, 32, 104, 101, 105, 103, 104, 116, 32, 108, 101, 110, 103, 116, 104, 10, 97, 116, 116, 114, 32, 115, 114, 99, 32, 108, 105, 110, 107, 10, 97, 116, 116, 114, 32, 119, 105, 100, 116, 104, 32, 108, 101, 110, 103, 116, 104, 10]), (str [111, 108], [97, 116, 116, 114, 32, 115, 116, 97, 114, 116, 32, 110, 117, 109, 98, 101, 114, 10]), (str [116, 105, 109, 101], [97, 116, 116, 114, 32, 100, 97, 116, 101, 116, 105, 109, 101, 32, 97, 110, 121, 10]), (str [100, 97, 116, 97], [97, 116, 116, 114, 32, 118, 97, 108, 117, 101, 32, 97, 110, 121, 10]), (str [98, 108, 111, 99, 107, 113, 117, 111, 116, 101], [97, 116, 116, 114, 32, 99, 105, 116, 101, 32, 108, 105, 110, 107, 10]), (str [100, 101, 108], [97, 116, 116, 114, 32, 99, 105, 116, 101, 32, 108, 105, 110, 107, 10]), (str [105, 110, 115], [97, 116, 116, 114, 32, 99, 105, 116, 101, 32, 108, 105, 110, 107, 10]), (str [113], [97, 116, 116, 114, 32, 99, 105, 116, 101, 32, 108, 105, 110, 107, 10]), (str [116, 100], [97, 116, 116, 114, 32, 99, 111, 108, 115, 112, 97, 110, 32, 110, 117, 109, 98, 101, 114, 10, 97, 116, 116, 114, 32, 114, 111, 119, 115, 112, 97, 110, 32, 110, 117, 109, 98, 101, 114, 10]), (str [116, 104], [97, 116, 116, 114, 32, 99, 111, 108, 115, 112, 97, 110, 32, 110, 117, 109, 98, 101, 114, 10, 97, 116, 116, 114, 32, 114, 111, 119, 115, 112, 97, 110, 32, 110, 117, 109, 98, 101, 114, 10])]
def textAt (s : ByteArray) : List UInt8 := ((fullA.find? fun x => decide (s = x.1)).map (·.2)).getD []
def eB2 : List UInt8 := [101, 108, 101, 109, 101, 110, 116, 32]
def tF : List UInt8 := [100, 101, 112, 116, 104, 32, 50, 53, 54, 10, 114, 101, 108, 97, 116, 105, 118, 101, 10, 115, 99, 104, 101, 109, 101, 32, 104, 116, 116, 112, 10, 115, 99, 104, 101, 109, 101, 32, 104, 116, 116, 112, 115, 10, 115, 99, 104, 101, 109, 101, 32, 109, 97, 105, 108, 116, 111, 10, 100, 114, 111, 112, 32, 109, 97, 116, 104, 10, 100, 114, 111, 112, 32, 115, 101, 108, 101, 99, 116, 10, 100, 114, 111, 112, 32, 115, 118, 103, 10, 100, 114, 111, 112, 32, 116, 101, 109, 112, 108, 97, 116, 101, 10, 103, 108, 111, 98, 97, 108, 32, 99, 108, 97, 115, 115, 32, 116, 111, 107, 101, 110, 115, 10, 103, 108, 111, 98, 97, 108, 32, 100, 105, 114, 32, 111, 110, 101, 111, 102, 32, 97, 117, 116, 111, 32, 108, 116, 114, 32, 114, 116, 108, 10, 103, 108, 111, 98, 97, 108, 32, 105, 100, 32, 110, 97, 109, 101, 10, 103, 108, 111, 98, 97, 108, 32, 108, 97, 110, 103, 32, 108, 97, 110, 103, 10, 103, 108, 111, 98, 97, 108, 32, 116, 105, 116, 108, 101, 32, 97, 110, 121, 10]
def fk (k : Nat) : List UInt8 := tF ++ (fullN.take k).flatMap fun h => eB2 ++ (h.data.toList ++ [10]) ++ textAt h
def fullT : ByteArray := str (fk fullN.length)
def fullP : PolD := ⟨fullN.map fun n => ⟨n, rulesAt n⟩, [⟨str [99, 108, 97, 115, 115], 1, []⟩, ⟨str [100, 105, 114], 7, [str [97, 117, 116, 111], str [108, 116, 114], str [114, 116, 108]]⟩, ⟨str [105, 100], 2, []⟩, ⟨str [108, 97, 110, 103], 6, []⟩, ⟨str [116, 105, 116, 108, 101], 0, []⟩], [str [104, 116, 116, 112], str [104, 116, 116, 112, 115], str [109, 97, 105, 108, 116, 111]], true, [str [109, 97, 116, 104], str [115, 101, 108, 101, 99, 116], str [115, 118, 103], str [116, 101, 109, 112, 108, 97, 116, 101]], 256, 65536⟩
theorem full_parse : (parseQ fullT).2 = (0, 0) := by decide +kernel
theorem full_dif : difB fullP = true ∧ difB (parseQ fullT).1 = true := by decide +kernel
theorem full_I : tidyI fullP = tidyI (parseQ fullT).1 := by decide +kernel
theorem full_tidy : tidyP fullP = tidyP (parseQ fullT).1 := by rw [tidyP_I full_dif.1, tidyP_I full_dif.2]; exact full_I
theorem full_N : fullN = srt ((St.nm 15).map str) := (srt_isort _).symm
end Go.Proofs.YtjhimmljanbjcaaGreatDoor.Px
