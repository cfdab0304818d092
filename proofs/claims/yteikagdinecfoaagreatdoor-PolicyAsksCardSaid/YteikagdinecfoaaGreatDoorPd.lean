/- Policies as plain data: what the functions say of them. No program in sight. -/
import Derived.Test.YteikagdinecfoaaGreatDoorGr
set_option linter.unusedVariables false
namespace Go.Proofs.YteikagdinecfoaaGreatDoor.Pd
open Go.RowKit Lb

structure RuleD where
  name : ByteArray
  kind : Int
  words : List ByteArray
structure ElD where
  name : ByteArray
  rules : List RuleD
structure PolD where
  els : List ElD
  glob : List RuleD
  schemes : List ByteArray
  rel : Bool
  drop : List ByteArray
  depth : Int
  window : Int
instance : Inhabited RuleD := ⟨⟨ByteArray.empty, 0, []⟩⟩
instance : Inhabited ElD := ⟨⟨ByteArray.empty, []⟩⟩
instance : Inhabited PolD := ⟨⟨[], [], [], false, [], 0, 0⟩⟩

/-- is a text in a list -/
def hasT (l : List ByteArray) (s : ByteArray) : Bool := l.any fun x => decide (x = s)
theorem hasT_iff {l : List ByteArray} {s : ByteArray} : hasT l s = true ↔ s ∈ l := by
  unfold hasT
  rw [List.any_eq_true]
  constructor
  · rintro ⟨x, hx, he⟩; rw [decide_eq_true_iff] at he; exact he ▸ hx
  · intro h; exact ⟨s, h, by simp⟩
/-- has a list of elements a name -/
def hasE (l : List ElD) (s : ByteArray) : Bool := l.any fun e => decide (e.name = s)
theorem hasE_map (l : List ElD) (s : ByteArray) : hasE l s = hasT (l.map (·.name)) s := by simp [hasE, hasT, List.any_map, Function.comp_def]
def hasR (l : List RuleD) (s : ByteArray) : Bool := l.any fun r => decide (r.name = s)

/-- may a word be -/
def okW (c : UInt8) : Bool := decide (33 ≤ c.toNat) && decide (c.toNat ≤ 126)
def wordB (w : ByteArray) : Bool := decide (1 ≤ w.size) && decide (w.size ≤ 100) && w.data.toList.all okW

def barT : ByteArray := str [97, 99, 116, 105, 111, 110, 32, 102, 111, 114, 109, 97, 99, 116, 105, 111, 110, 32, 105, 115, 32, 110, 111, 110, 99, 101, 32, 112, 105, 110, 103, 32, 115, 108, 111, 116, 32, 115, 114, 99, 100, 111, 99, 32, 115, 114, 99, 115, 101, 116, 32, 115, 116, 121, 108, 101, 32, 120, 109, 108, 110, 115]
def linkT : ByteArray := str [98, 97, 99, 107, 103, 114, 111, 117, 110, 100, 32, 99, 105, 116, 101, 32, 104, 114, 101, 102, 32, 108, 111, 110, 103, 100, 101, 115, 99, 32, 112, 111, 115, 116, 101, 114, 32, 115, 114, 99]
/-- may a rule be behind those of a list -/
def evt (l : List UInt8) : Bool := Lib.hasPrefix (lowL l) [111, 110]
def kindB (r : RuleD) : Bool := decide (0 ≤ r.kind) && decide (r.kind < 9)
def ruleB (l : List RuleD) (r : RuleD) : Bool :=
  wrt true r.name.data.toList && !evt r.name.data.toList && !hasT (fieldsS barT) r.name && !hasR l r.name && kindB r && !(hasT (fieldsS linkT) r.name && decide (r.kind ≠ 5)) && (decide (r.kind = 7) == decide (0 < r.words.length)) && r.words.all wordB
def rulesFrom : List RuleD → List RuleD → Bool
  | _, [] => true
  | l, r :: t => ruleB l r && rulesFrom (l ++ [r]) t
def rulesB (l : List RuleD) : Bool := rulesFrom [] l
theorem rules_no {l : List RuleD} {k : Nat} (h : k < l.length) (hb : ruleB (l.take k) l[k] = false) : rulesFrom (l.take k) (l.drop k) = false := by
  rw [List.drop_eq_getElem_cons h, rulesFrom, hb]; rfl
theorem rules_go {l : List RuleD} {k : Nat} (h : k < l.length) (hb : ruleB (l.take k) l[k] = true) : rulesFrom (l.take k) (l.drop k) = rulesFrom (l.take (k + 1)) (l.drop (k + 1)) := by
  rw [List.drop_eq_getElem_cons h, rulesFrom, hb, List.take_succ_eq_append_getElem h]; rfl
theorem rules_end {l : List RuleD} {k : Nat} (h : l.length ≤ k) : rulesFrom (l.take k) (l.drop k) = true := by
  rw [List.drop_of_length_le h]; rfl

/-- what an element needs, as a text -/
def needsT (n : ByteArray) : ByteArray :=
  if n = str [108, 105] then str [117, 108]
  else if n = str [117, 108] then str [108, 105]
  else if n = str [111, 108] then str [108, 105]
  else if n = str [109, 101, 110, 117] then str [108, 105]
  else if n = str [100, 116] then str [100, 100, 32, 100, 108]
  else if n = str [100, 100] then str [100, 108]
  else if n = str [100, 108] then str [100, 100]
  else if n = str [116, 97, 98, 108, 101] then str [116, 98, 111, 100, 121, 32, 116, 100, 32, 116, 114]
  else if n = str [99, 97, 112, 116, 105, 111, 110] then str [116, 97, 98, 108, 101, 32, 116, 98, 111, 100, 121, 32, 116, 100, 32, 116, 114]
  else if n = str [99, 111, 108, 103, 114, 111, 117, 112] then str [116, 97, 98, 108, 101, 32, 116, 98, 111, 100, 121, 32, 116, 100, 32, 116, 114]
  else if n = str [116, 104, 101, 97, 100] then str [116, 97, 98, 108, 101, 32, 116, 98, 111, 100, 121, 32, 116, 100, 32, 116, 114]
  else if n = str [116, 102, 111, 111, 116] then str [116, 97, 98, 108, 101, 32, 116, 98, 111, 100, 121, 32, 116, 100, 32, 116, 114]
  else if n = str [116, 104] then str [116, 97, 98, 108, 101, 32, 116, 98, 111, 100, 121, 32, 116, 100, 32, 116, 114]
  else if n = str [116, 98, 111, 100, 121] then str [116, 97, 98, 108, 101, 32, 116, 100, 32, 116, 114]
  else if n = str [116, 114] then str [116, 97, 98, 108, 101, 32, 116, 98, 111, 100, 121, 32, 116, 100]
  else if n = str [116, 100] then str [116, 97, 98, 108, 101, 32, 116, 98, 111, 100, 121, 32, 116, 114]
  else if n = str [99, 111, 108] then str [99, 111, 108, 103, 114, 111, 117, 112, 32, 116, 97, 98, 108, 101, 32, 116, 98, 111, 100, 121, 32, 116, 100, 32, 116, 114]
  else str []
def needsL (n : ByteArray) : List ByteArray := fieldsS (needsT n)

/-- which error the elements give: 0, none -/
def elsFrom (inA : ByteArray → Bool) : List ElD → List ElD → Int
  | _, [] => 0
  | l, e :: t => if inA e.name = false ∨ hasE l e.name = true then 140 else if rulesB e.rules = false then 141 else elsFrom inA (l ++ [e]) t
theorem els_bad {inA : ByteArray → Bool} {l : List ElD} {k : Nat} (h : k < l.length) (hb : inA l[k].name = false ∨ hasE (l.take k) l[k].name = true) : elsFrom inA (l.take k) (l.drop k) = 140 := by
  rw [List.drop_eq_getElem_cons h, elsFrom, if_pos hb]
theorem els_rules {inA : ByteArray → Bool} {l : List ElD} {k : Nat} (h : k < l.length) (hi : inA l[k].name = true) (hh : hasE (l.take k) l[k].name = false) (hb : rulesB l[k].rules = false) : elsFrom inA (l.take k) (l.drop k) = 141 := by
  rw [List.drop_eq_getElem_cons h, elsFrom, if_neg (by simp [hi, hh]), if_pos hb]
theorem els_go {inA : ByteArray → Bool} {l : List ElD} {k : Nat} (h : k < l.length) (hi : inA l[k].name = true) (hh : hasE (l.take k) l[k].name = false) (hb : rulesB l[k].rules = true) : elsFrom inA (l.take k) (l.drop k) = elsFrom inA (l.take (k + 1)) (l.drop (k + 1)) := by
  rw [List.drop_eq_getElem_cons h, elsFrom, if_neg (by simp [hi, hh]), if_neg (by simp [hb]), List.take_succ_eq_append_getElem h]
theorem els_end {inA : ByteArray → Bool} {l : List ElD} {k : Nat} (h : l.length ≤ k) : elsFrom inA (l.take k) (l.drop k) = 0 := by
  rw [List.drop_of_length_le h]; rfl

/-- a list in which no text that is wrong stands, and none twice -/
def onceFrom (ok : ByteArray → Bool) : List ByteArray → List ByteArray → Bool
  | _, [] => true
  | l, s :: t => ok s && !hasT l s && onceFrom ok (l ++ [s]) t
theorem once_no {ok : ByteArray → Bool} {l : List ByteArray} {k : Nat} (h : k < l.length) (hb : ok l[k] = false ∨ hasT (l.take k) l[k] = true) : onceFrom ok (l.take k) (l.drop k) = false := by
  rw [List.drop_eq_getElem_cons h]; rcases hb with hb | hb <;> simp [onceFrom, hb]
theorem once_go {ok : ByteArray → Bool} {l : List ByteArray} {k : Nat} (h : k < l.length) (hb : ok l[k] = true) (hh : hasT (l.take k) l[k] = false) : onceFrom ok (l.take k) (l.drop k) = onceFrom ok (l.take (k + 1)) (l.drop (k + 1)) := by
  rw [List.drop_eq_getElem_cons h, onceFrom, hb, hh, List.take_succ_eq_append_getElem h]; rfl
theorem once_end {ok : ByteArray → Bool} {l : List ByteArray} {k : Nat} (h : l.length ≤ k) : onceFrom ok (l.take k) (l.drop k) = true := by
  rw [List.drop_of_length_le h]; rfl

/-- how many things there are -/
def wordsN (l : List RuleD) : Nat := (l.map fun r => r.words.length).sum
def elsN (l : List ElD) : Nat := (l.map fun e => e.rules.length + wordsN e.rules).sum
def thingsN (p : PolD) : Nat := p.els.length + p.glob.length + p.schemes.length + p.drop.length + wordsN p.glob + elsN p.els

/-- small letters, in rising order, each once -/
def onceL : List ByteArray → List ByteArray
  | [] => []
  | [x] => [x]
  | x :: y :: t => if x = y then onceL (y :: t) else x :: onceL (y :: t)

end Go.Proofs.YteikagdinecfoaaGreatDoor.Pd
