/- A policy's text read, plain: lines, words, numbers, rules; the library's Split. -/
import Derived.Test.YtejpdbiiikcmmaaGreatDoorVd
import Derived.Lib.SplitLaws
set_option linter.unusedVariables false
set_option linter.unusedSimpArgs false
namespace Go.Proofs.YtejpdbiiikcmmaaGreatDoor.Pt
open Go.RowKit Lb Gr Pd Fl Go.Proofs.YtejpdbiiikcmmaaGreatDoor.Pm Bk Is Go.Proofs.YtejpdbiiikcmmaaGreatDoor.Sl Go.Proofs.YtejpdbiiikcmmaaGreatDoor.Ck Go.Proofs.YtejpdbiiikcmmaaGreatDoor.Vd

/-- a text cut at each one of a byte -/
def cutG (c : UInt8) : List UInt8 → List UInt8 → List (List UInt8)
  | cur, [] => [cur]
  | cur, b :: t => if b = c then cur :: cutG c [] t else cutG c (cur ++ [b]) t
def cutL (c : UInt8) (l : List UInt8) : List (List UInt8) := cutG c [] l
def cutS (s : ByteArray) (c : UInt8) : List ByteArray := (cutL c s.data.toList).map str
/-- the first piece with something ahead -/
def onto (cur : List UInt8) : List (List UInt8) → List (List UInt8)
  | [] => [cur]
  | h :: r => (cur ++ h) :: r
theorem cutG_ne (c : UInt8) : ∀ (l cur : List UInt8), cutG c cur l ≠ []
  | [], cur => by simp [cutG]
  | b :: t, cur => by
    unfold cutG
    split
    · simp
    · exact cutG_ne c t _
theorem cutG_onto (c : UInt8) : ∀ (l cur : List UInt8), cutG c cur l = onto cur (cutG c [] l)
  | [], cur => by simp [cutG, onto]
  | b :: t, cur => by
    unfold cutG
    by_cases h : b = c
    · simp [h, onto]
    · rw [if_neg h, if_neg h, cutG_onto c t (cur ++ [b]), cutG_onto c t ([] ++ [b])]
      cases hc : cutG c [] t with
      | nil => exact absurd hc (cutG_ne c t [])
      | cons x r => simp [onto]
theorem cut_nil (c : UInt8) : cutL c [] = [[]] := rfl
theorem cut_eq (c : UInt8) (t : List UInt8) : cutL c (c :: t) = [] :: cutL c t := by unfold cutL; simp [cutG]
theorem cut_ne {b c : UInt8} (h : b ≠ c) (t : List UInt8) : cutL c (b :: t) = onto [b] (cutL c t) := by
  unfold cutL
  rw [show cutG c [] (b :: t) = cutG c ([] ++ [b]) t by simp [cutG, h], cutG_onto]
  rfl
open Go.Lib in
theorem split_cut (c : UInt8) : ∀ l : List UInt8, splitK [c] 0 (count l [c]) l = cutL c l
  | [] => by simp [count, countFrom, index, splitK, cut_nil]
  | b :: t => by
    have ih := split_cut c t
    by_cases h : b = c
    · subst h
      rw [count_cons_eq, cut_eq, ← ih, Nat.add_comm, splitK]
      have hi : index (b :: t) [b] = 0 := by simp [index]
      rw [hi]
      simp
    · rw [count_cons_ne b c t h, cut_ne h, ← ih]
      cases hk : count t [c] with
      | zero => simp [splitK, onto]
      | succ m =>
        have hne : index t [c] ≠ -1 := fun e => by rw [count_miss e] at hk; omega
        have hge := index_ge t [c]
        have hi : index (b :: t) [c] = index t [c] + 1 := by
          have hp : ([c].isPrefixOf (b :: t)) = false := by simp [List.isPrefixOf, Ne.symm h]
          show (if [c].isPrefixOf (b :: t) then 0 else if index t [c] == -1 then -1 else index t [c] + 1) = _
          rw [hp]
          simp [hne]
        obtain ⟨i, hi0⟩ : ∃ i : Nat, index t [c] = i := ⟨(index t [c]).toNat, by omega⟩
        rw [hi0] at hi
        have e1 : splitK [c] 0 (m + 1) (b :: t) = (b :: t).take (i + 1) :: splitK [c] 0 m ((b :: t).drop (i + 1 + 1)) := by
          rw [splitK, hi]
          have : ¬ (((i : Int) + 1 == -1) = true) := fun e => by have := beq_iff_eq.1 e; omega
          rw [if_neg this]
          rfl
        have e2 : splitK [c] 0 (m + 1) t = t.take i :: splitK [c] 0 m (t.drop (i + 1)) := by
          rw [splitK, hi0]
          have : ¬ (((i : Int) == -1) = true) := fun e => by have := beq_iff_eq.1 e; omega
          rw [if_neg this]
          rfl
        rw [e1, e2]
        simp [onto]
theorem cut_len_pos (c : UInt8) (l : List UInt8) : 0 < (cutL c l).length := by
  have := cutG_ne c l []
  unfold cutL
  cases h : cutG c [] l with
  | nil => exact absurd h this
  | cons _ _ => simp
open Go.Lib in
theorem splitB_cut (s : ByteArray) (c : UInt8) : splitB ⟨#[c]⟩ 0 (countB s ⟨#[c]⟩) s = cutS s c := by
  have h := splitB_data ⟨#[c]⟩ 0 (countB s ⟨#[c]⟩) s
  have e : countB s ⟨#[c]⟩ = count s.data.toList [c] := rfl
  rw [e] at h ⊢
  rw [split_cut] at h
  unfold cutS
  rw [← h, List.map_map]
  have : (str ∘ fun x : ByteArray => x.data.toList) = id := by funext x; exact str_of x
  rw [this, List.map_id]
/-- what the library's Split asks of the world -/
def Mx (w : World) : Prop := ∃ m, w.cell? ⟨2, 0, none⟩ = some (.int .i64 m)
theorem Mx.below {w w' : World} (h : Mx w) (hb : Below w.heap.size w w') : Mx w' := by
  obtain ⟨m, hm⟩ := h
  exact ⟨m, (hb.cell (p := ⟨2, 0, none⟩) (World.block_lt_of_cell? (a := ⟨2, 0, none⟩) _ hm)).trans hm⟩
theorem cutS_len (s : ByteArray) (c : UInt8) : (cutS s c).length = Lib.countB s ⟨#[c]⟩ + 1 := by
  rw [← splitB_cut]
  exact Lib.splitB_all ⟨#[c]⟩ (Nat.le_refl 1) 0 _ s rfl
theorem cutS_le (s : ByteArray) (c : UInt8) : (cutS s c).length ≤ s.size + 1 := by
  rw [cutS_len]
  have := Lib.countB_le ⟨#[c]⟩ (Nat.le_refl 1) s.size s (Nat.le_refl _)
  omega
theorem splitC (s : ByteArray) (c : UInt8) (w : World) (hm : Mx w) (hs : s.size < 4294967281) : Calls Tryz.prog 280 #[.string s, .string ⟨#[c]⟩] w fun e w' =>
    ∃ A cp F, e = .returned (.slice A (cutS s c).length cp) ∧ kdW.own w' w.heap.size (.slice A (cutS s c).length cp) (cutS s c) F ∧ Below w.heap.size w w' := by
  obtain ⟨m, hm⟩ := hm
  refine (Tryz.strings_Split s ⟨#[c]⟩ m w hs hm (Nat.le_refl 1)).mono ?_
  rintro e w' ⟨rfl, rfl⟩
  rw [splitB_cut, ← cutS_len]
  have hle := cutS_le s c
  refine ⟨_, _, _, rfl, ⟨?_, rfl⟩, (Below.refl _ _).alloc (Nat.le_refl _) _⟩
  have := World.ownsRow_lit (base := w.heap.size) (e := 9) (size := 1) w ((cutS s c).map Value.string).toArray (cutS s c).length (Nat.le_refl _) (by unfold maxLen; omega) (by simp)
  simpa using this

/-! ### numbers -/
def numV (l : List UInt8) : Int := l.foldl (fun n c => 10 * n + ((c.toNat : Int) - 48)) 0
def numB (s : ByteArray) : Bool := decide (1 ≤ s.size) && decide (s.size ≤ 9) && s.data.toList.all dgB
theorem numV_snoc (l : List UInt8) (c : UInt8) : numV (l ++ [c]) = 10 * numV l + ((c.toNat : Int) - 48) := by unfold numV; rw [List.foldl_append]; rfl
theorem numV_le : ∀ (k : Nat) (l : List UInt8), l.length = k → l.all dgB = true → 0 ≤ numV l ∧ numV l < 10 ^ k
  | 0, l, hl, _ => by
    have := List.eq_nil_of_length_eq_zero hl
    subst this
    simp [numV]
  | k + 1, l, hl, h => by
    rcases List.eq_nil_or_concat l with rfl | ⟨t, c, rfl⟩
    · simp at hl
    · rw [List.concat_eq_append] at hl h ⊢
      rw [List.all_append, Bool.and_eq_true] at h
      obtain ⟨h1, h2⟩ := numV_le k t (by simpa using hl) h.1
      have h3 : 48 ≤ c.toNat ∧ c.toNat ≤ 57 := by simpa [dgB] using h.2
      rw [numV_snoc, Int.pow_succ]
      omega

/-! ### rules, lines -/
/-- the place of a kind's name; -1: it is none -/
def kindZ (s : ByteArray) : Int := Go.Lib.idxOfS kindsL s
theorem kindZ_le (s : ByteArray) : -1 ≤ kindZ s ∧ kindZ s < 9 := by
  unfold kindZ
  have hl : kindsL.length = 9 := rfl
  have h : ∀ (l : List ByteArray) (i : Nat), -1 ≤ Go.Lib.idxFromS l s i ∧ Go.Lib.idxFromS l s i < (i : Int) + l.length + (if l = [] then 0 else 0) ∨ Go.Lib.idxFromS l s i = -1 := fun l => by
    induction l with
    | nil => intro i; right; rfl
    | cons a t ih =>
      intro i
      unfold Go.Lib.idxFromS
      by_cases ha : a = s
      · left; rw [if_pos ha]; simp; omega
      · rw [if_neg ha]
        rcases ih (i + 1) with h1 | h1
        · left
          refine ⟨h1.1, ?_⟩
          have h2 := h1.2
          simp at h2 ⊢
          omega
        · right; exact h1
  unfold Go.Lib.idxOfS
  rcases h kindsL 0 with h1 | h1
  · have h2 := h1.2
    rw [hl] at h2
    simp at h2
    exact ⟨h1.1, h2⟩
  · rw [h1]; decide
def ruleO (l : List ByteArray) : Option RuleD :=
  match l with
  | n :: k :: ws => if 0 ≤ kindZ k ∧ (kindZ k = 7 ∨ ws = []) then some ⟨n, kindZ k, ws⟩ else none
  | _ => none
structure RS where
  p : PolD
  sd : Bool
  sw : Bool
  sr : Bool
def lastR (l : List ElD) (r : RuleD) : List ElD := l.modify (l.length - 1) fun e => ⟨e.name, e.rules ++ [r]⟩
def wRel : ByteArray := str [114, 101, 108, 97, 116, 105, 118, 101]
def wDepth : ByteArray := str [100, 101, 112, 116, 104]
def wWindow : ByteArray := str [119, 105, 110, 100, 111, 119]
def wScheme : ByteArray := str [115, 99, 104, 101, 109, 101]
def wDrop : ByteArray := str [100, 114, 111, 112]
def wElement : ByteArray := str [101, 108, 101, 109, 101, 110, 116]
def wGlobal : ByteArray := str [103, 108, 111, 98, 97, 108]
def wAttr : ByteArray := str [97, 116, 116, 114]
def lineO (st : RS) (ws : List ByteArray) : Option RS :=
  if hasT ws ByteArray.empty then none else
  match ws with
  | [] => none
  | w :: l =>
    if w = wRel then if l = [] ∧ st.sr = false then some { st with p := { st.p with rel := true }, sr := true } else none
    else if w = wDepth then match l with
      | [x] => if numB x = true ∧ st.sd = false then some { st with p := { st.p with depth := numV x.data.toList }, sd := true } else none
      | _ => none
    else if w = wWindow then match l with
      | [x] => if numB x = true ∧ st.sw = false then some { st with p := { st.p with window := numV x.data.toList }, sw := true } else none
      | _ => none
    else if w = wScheme then match l with
      | [x] => some { st with p := { st.p with schemes := st.p.schemes ++ [x] } }
      | _ => none
    else if w = wDrop then match l with
      | [x] => some { st with p := { st.p with drop := st.p.drop ++ [x] } }
      | _ => none
    else if w = wElement then match l with
      | [x] => some { st with p := { st.p with els := st.p.els ++ [⟨x, []⟩] } }
      | _ => none
    else if w = wGlobal then match ruleO l with
      | some r => some { st with p := { st.p with glob := st.p.glob ++ [r] } }
      | none => none
    else if w = wAttr then if st.p.els = [] then none else match ruleO l with
      | some r => some { st with p := { st.p with els := lastR st.p.els r } }
      | none => none
    else none
/-- a line that says nothing -/
def skipB (s : ByteArray) : Bool := decide (s.size = 0) || decide ((s.data.toList.headD 0).toNat = 35)
def st0 : RS := ⟨⟨[], [], [], false, [], 64, 65536⟩, false, false, false⟩
/-- what the lines from the i-th on say: the policy, the line's number, the error -/
def parseF : RS → Nat → List ByteArray → PolD × Int × Int
  | st, _, [] => if checkI st.p = 0 then (st.p, 0, 0) else (zeroP, 0, checkI st.p)
  | st, i, l :: t => if skipB l then parseF st (i + 1) t else match lineO st (cutS l 32) with
    | some st' => parseF st' (i + 1) t
    | none => (zeroP, (i : Int) + 1, 145)
def parseQ (s : ByteArray) : PolD × Int × Int := parseF st0 0 (cutS s 10)
end Go.Proofs.YtejpdbiiikcmmaaGreatDoor.Pt

/- Numbers in a policy's text: the program's number and once, the reference's number. -/
set_option linter.unusedVariables false
set_option linter.unusedSimpArgs false
namespace Go.Proofs.YtejpdbiiikcmmaaGreatDoor.Pn
open Go.RowKit Lb Gr Pd Fl Go.Proofs.YtejpdbiiikcmmaaGreatDoor.Pm Bk Is Go.Proofs.YtejpdbiiikcmmaaGreatDoor.Fm Pt
attribute [local go_sem ↓] Go.wp_at_zero Go.wp_at_succ

def numR (s : ByteArray) : Int := if numB s then numV s.data.toList else 0
theorem ret2 {a b : Int} {x y : Bool} (h : b = a) (k : y = x) : Ending.returned (.tuple #[.int .i64 a, .bool x]) = .returned (.tuple #[.int .i64 b, .bool y]) := by rw [h, k]
theorem numR_no {s : ByteArray} (h : numB s = false) : numR s = 0 := by unfold numR; rw [h]; rfl
theorem numR_yes {s : ByteArray} (h : numB s = true) : numR s = numV s.data.toList := by unfold numR; rw [h]; rfl
theorem num_snoc {s : ByteArray} {k : Nat} (h : k < s.size) : numV (s.data.toList.take (k + 1)) = 10 * numV (s.data.toList.take k) + ((s[k].toNat : Int) - 48) := by
  rw [List.take_succ_eq_append_getElem (by rw [size_len]; exact h), numV_snoc, at_list h]
theorem all_snoc {s : ByteArray} {k : Nat} (h : k < s.size) : (s.data.toList.take (k + 1)).all dgB = ((s.data.toList.take k).all dgB && dgB s[k]) := by
  rw [List.take_succ_eq_append_getElem (by rw [size_len]; exact h), List.all_append, at_list h]; simp

end Go.Proofs.YtejpdbiiikcmmaaGreatDoor.Pn
