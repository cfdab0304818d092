/- Tokens, attributes, findings as plain data: what may be (P7), what a filter lets through (P15). No program in sight. -/
import Derived.Test.YtejpdbiiikcmmaaGreatDoorUb
import Derived.Test.YtejpdbiiikcmmaaGreatDoorRa
import Derived.Test.YtejpdbiiikcmmaaGreatDoorLk
set_option linter.unusedVariables false
namespace Go.Proofs.YtejpdbiiikcmmaaGreatDoor.Fpl
open Go.RowKit Lb Lw Pd Ub Fl Is

structure AtD where
  name : ByteArray
  value : ByteArray
structure TokD where
  kind : Int
  name : ByteArray
  text : ByteArray
  attrs : List AtD
  self : Bool
  byte : Int
  line : Int
  col : Int
structure FinD where
  byte : Int
  line : Int
  col : Int
  why : Int
  name : ByteArray
instance : Inhabited AtD := ⟨⟨ByteArray.empty, ByteArray.empty⟩⟩
instance : Inhabited TokD := ⟨⟨0, ByteArray.empty, ByteArray.empty, [], false, 0, 0, 0⟩⟩

/-! ### what may be -/
def nmStop (attr : Bool) (i : Nat) (c : UInt8) : Bool := blB c || (c.toNat : Int) == 47 || (c.toNat : Int) == 62 || (decide (65 ≤ c.toNat) && decide (c.toNat ≤ 90)) || (c.toNat : Int) == 0 || (attr && (c.toNat : Int) == 61 && decide (0 < i))
def nameFrom (attr : Bool) : Nat → List UInt8 → Bool
  | _, [] => true
  | i, c :: r => !nmStop attr i c && nameFrom attr (i + 1) r
def nameP (attr : Bool) (l : List UInt8) : Bool := !l.isEmpty && validB l && (attr || smB (l.getD 0 0)) && nameFrom attr 0 l
theorem nameFrom_no {attr : Bool} {l : List UInt8} {k : Nat} (h : k < l.length) (hs : nmStop attr k l[k] = true) : nameFrom attr k (l.drop k) = false := by
  rw [List.drop_eq_getElem_cons h, nameFrom, hs]; rfl
theorem nameFrom_go {attr : Bool} {l : List UInt8} {k : Nat} (h : k < l.length) (hs : nmStop attr k l[k] = false) : nameFrom attr k (l.drop k) = nameFrom attr (k + 1) (l.drop (k + 1)) := by
  rw [List.drop_eq_getElem_cons h, nameFrom, hs]; rfl
theorem nameFrom_end {attr : Bool} {l : List UInt8} {k : Nat} (h : l.length ≤ k) : nameFrom attr k (l.drop k) = true := by
  rw [List.drop_of_length_le h]; rfl

def hasA (l : List AtD) (s : ByteArray) : Bool := l.any fun a => decide (s = a.name)
def attrOk (l : List AtD) (a : AtD) : Bool := nameP true a.name.data.toList && validB a.value.data.toList && !hasA l a.name
def attrsFrom : List AtD → List AtD → Bool
  | _, [] => true
  | l, a :: r => attrOk l a && attrsFrom (l ++ [a]) r
def attrsP (l : List AtD) : Bool := attrsFrom [] l
theorem attrs_no {l : List AtD} {k : Nat} (h : k < l.length) (hb : attrOk (l.take k) l[k] = false) : attrsFrom (l.take k) (l.drop k) = false := by
  rw [List.drop_eq_getElem_cons h, attrsFrom, hb]; rfl
theorem attrs_go {l : List AtD} {k : Nat} (h : k < l.length) (hb : attrOk (l.take k) l[k] = true) : attrsFrom (l.take k) (l.drop k) = attrsFrom (l.take (k + 1)) (l.drop (k + 1)) := by
  rw [List.drop_eq_getElem_cons h, attrsFrom, hb, List.take_succ_eq_append_getElem h]; rfl
theorem attrs_end {l : List AtD} {k : Nat} (h : l.length ≤ k) : attrsFrom (l.take k) (l.drop k) = true := by
  rw [List.drop_of_length_le h]; rfl

def bareP (t : TokD) : Bool := decide (t.name.size = 0) && decide (t.attrs.length = 0) && !t.self
def mayP (t : TokD) : Bool :=
  if t.kind = 0 then decide (t.text.size ≠ 0) && validB t.text.data.toList && bareP t
  else if t.kind = 1 then nameP false t.name.data.toList && decide (t.text.size = 0) && attrsP t.attrs
  else if t.kind = 2 then nameP false t.name.data.toList && decide (t.text.size = 0) && decide (t.attrs.length = 0) && !t.self
  else if t.kind = 3 then validB t.text.data.toList && bareP t
  else if t.kind = 4 then decide (t.text.size = 0) && bareP t
  else false
def mayI (t : TokD) : Int := if mayP t then 0 else 70

/-! ### what a filter lets through -/
open Ea in
/-- the rule of an attribute: the element's, or one for all -/
def ruleQ (p : PolD) (er : List RuleD) (a : ByteArray) : Option RuleD := (fndR er a).or (fndR p.glob a)
/-- of one attribute: what is left, what is found -/
def attrStep (tv : RuleD → ByteArray → Option ByteArray) (p : PolD) (er : List RuleD) (t : TokD) (a : AtD) : List AtD × List FinD :=
  match ruleQ p er a.name with
  | none => ([], [⟨t.byte, t.line, t.col, 2, a.name⟩])
  | some r => match tv r a.value with
    | none => ([], [⟨t.byte, t.line, t.col, 3, a.name⟩])
    | some v => ([⟨a.name, v⟩], [])
def leftA (tv : RuleD → ByteArray → Option ByteArray) (p : PolD) (er : List RuleD) (t : TokD) (l : List AtD) : List AtD := l.flatMap fun a => (attrStep tv p er t a).1
def foundA (tv : RuleD → ByteArray → Option ByteArray) (p : PolD) (er : List RuleD) (t : TokD) (l : List AtD) : List FinD := l.flatMap fun a => (attrStep tv p er t a).2
theorem leftA_step (tv : RuleD → ByteArray → Option ByteArray) (p : PolD) (er : List RuleD) (t : TokD) {l : List AtD} {k : Nat} (h : k < l.length) : leftA tv p er t (l.take (k + 1)) = leftA tv p er t (l.take k) ++ (attrStep tv p er t l[k]).1 := by
  unfold leftA
  rw [List.take_succ_eq_append_getElem h, List.flatMap_append]
  simp
theorem foundA_step (tv : RuleD → ByteArray → Option ByteArray) (p : PolD) (er : List RuleD) (t : TokD) {l : List AtD} {k : Nat} (h : k < l.length) : foundA tv p er t (l.take (k + 1)) = foundA tv p er t (l.take k) ++ (attrStep tv p er t l[k]).2 := by
  unfold foundA
  rw [List.take_succ_eq_append_getElem h, List.flatMap_append]
  simp
/-- how many runes a text has, as a range over it tells -/
def runesF (s : ByteArray) : Nat → Nat → Nat
  | 0, _ => 0
  | f + 1, pos => if pos < s.size then 1 + runesF s f (pos + (Utf8.decode s pos).2) else 0
def runesN (s : ByteArray) : Nat := runesF s s.size 0
/-- how many runes its markup has -/
def markN (r : Nat) : Nat := if r = 38 then 5 else if r = 60 ∨ r = 62 then 4 else if r = 160 ∨ r = 34 then 6 else 1
def marksF (s : ByteArray) : Nat → Nat → Nat
  | 0, _ => 0
  | f + 1, pos => if pos < s.size then markN (Utf8.decode s pos).1 + marksF s f (pos + (Utf8.decode s pos).2) else 0
def marksN (s : ByteArray) : Nat := marksF s s.size 0
def lenT (t : TokD) : Nat := 2 + runesN t.name + (t.attrs.map fun a => 4 + runesN a.name + marksN a.value).sum
structure StD where
  X : ByteArray
  N : Int
def scriptT : ByteArray := str [115, 99, 114, 105, 112, 116]
def plainT : ByteArray := str [112, 108, 97, 105, 110, 116, 101, 120, 116]
def dropQ (p : PolD) (n : ByteArray) : Bool := !inS n 0 && (hasT p.drop n || inS n 3 || decide (n = scriptT) || decide (n = plainT))
open Ea in
/-- what becomes of a start tag -/
def startP (tv : RuleD → ByteArray → Option ByteArray) (p : PolD) (s : StD) (t : TokD) : StD × List TokD × List FinD :=
  match fndE p.els t.name with
  | none => if dropQ p t.name then (⟨t.name, 1⟩, [], [⟨t.byte, t.line, t.col, 1, t.name⟩]) else (s, [], [⟨t.byte, t.line, t.col, 0, t.name⟩])
  | some e =>
    let left : TokD := ⟨1, t.name, ByteArray.empty, leftA tv p e.rules t t.attrs, false, t.byte, t.line, t.col⟩
    let found := foundA tv p e.rules t t.attrs
    if p.window < lenT left then (s, [], found ++ [⟨t.byte, t.line, t.col, 6, t.name⟩]) else (s, [left], found)
/-- what becomes of a token that may be -/
def takeP (tv : RuleD → ByteArray → Option ByteArray) (cl : ByteArray → ByteArray) (p : PolD) (s : StD) (t : TokD) : StD × List TokD × List FinD :=
  if 0 < s.N then
    if t.kind = 1 ∧ t.name = s.X then (⟨s.X, s.N + 1⟩, [], [])
    else if t.kind = 2 ∧ t.name = s.X then (if s.N - 1 = 0 then (⟨ByteArray.empty, 0⟩, [], []) else (⟨s.X, s.N - 1⟩, [], []))
    else (s, [], [])
  else if t.kind = 0 then (s, [{ t with text := cl t.text }], [])
  else if t.kind = 1 then startP tv p s t
  else if t.kind = 2 then (if hasE p.els t.name then (s, [t], []) else (s, [], []))
  else if t.kind = 3 then (s, [], [⟨t.byte, t.line, t.col, 4, ByteArray.empty⟩])
  else (s, [], [⟨t.byte, t.line, t.col, 5, ByteArray.empty⟩])
def allF (tv : RuleD → ByteArray → Option ByteArray) (cl : ByteArray → ByteArray) (p : PolD) : StD → List TokD → StD × List TokD × List FinD
  | s, [] => (s, [], [])
  | s, t :: r =>
    let a := takeP tv cl p s t
    let b := allF tv cl p a.1 r
    (b.1, a.2.1 ++ b.2.1, a.2.2 ++ b.2.2)
end Go.Proofs.YtejpdbiiikcmmaaGreatDoor.Fpl
