/- Maps by texts that the call itself makes: what they hold, in the order of the stores; a store of a new key, a look-up. No program. -/
import Derived.MapKept
import Derived.ChangeMaps5
import Derived.Maps.Own
import Derived.Test.YteikagdinecfoaaGreatDoorLib
set_option linter.unusedVariables false
set_option linter.unusedSimpArgs false
namespace Go.Proofs.YteikagdinecfoaaGreatDoor.Mp
open Go.RowKit Lb Go.ChangeMaps

/-- block b is a map that holds these, by texts -/
def MapS (w : World) (b : Nat) (L : List (ByteArray × Value)) : Prop :=
  ∃ es clock, w.heap[b]? = some (.map es clock) ∧ es.toList.map (fun e => (e.key, e.val)) = L.map fun x => (Value.string x.1, x.2)
theorem MapS.made (w : World) : MapS (w.alloc (.map #[] 0)) w.heap.size [] := ⟨#[], 0, (MapKept.heap_alloc w _).1, rfl⟩
theorem MapS.below {w w' : World} {b : Nat} {L : List (ByteArray × Value)} (h : MapS w b L) (hb : Below w.heap.size w w') : MapS w' b L := by
  obtain ⟨es, clock, h1, h2⟩ := h
  exact ⟨es, clock, (hb.block b (Array.getElem?_eq_some_iff.1 h1).1).trans h1, h2⟩
theorem MapS.other {w : World} {b : Nat} {L : List (ByteArray × Value)} (h : MapS w b L) {p : Addr} (hp : b ≠ p.block) (u : Value) : MapS (w.setCell p u) b L := by
  obtain ⟨es, clock, h1, h2⟩ := h
  exact ⟨es, clock, (Below.heap_setCell w p u b hp).trans h1, h2⟩
theorem MapS.lt {w : World} {b : Nat} {L : List (ByteArray × Value)} (h : MapS w b L) : b < w.heap.size := by
  obtain ⟨es, clock, h1, _⟩ := h
  exact (Array.getElem?_eq_some_iff.1 h1).1

def lookL (s : ByteArray) : List (ByteArray × Value) → Option Value
  | [] => none
  | x :: r => if s = x.1 then some x.2 else lookL s r
theorem findNow_str (s : ByteArray) : ∀ (es : List MapEntry) (L : List (ByteArray × Value)) (i : Nat), es.map (fun e => (e.key, e.val)) = L.map (fun x => (Value.string x.1, x.2)) →
    (lookL s L = none ∧ Instr.findNow .string (.string s) es i = some none) ∨ (∃ v j, lookL s L = some v ∧ Instr.findNow .string (.string s) es i = some (some (j, v)))
  | [], [], i, _ => .inl ⟨rfl, rfl⟩
  | [], x :: r, i, h => by simp at h
  | e :: es, [], i, h => by simp at h
  | e :: es, x :: r, i, h => by
    simp only [List.map_cons, List.cons.injEq, Prod.mk.injEq] at h
    obtain ⟨⟨hk, hv⟩, hr⟩ := h
    by_cases e1 : s = x.1
    · refine .inr ⟨x.2, i, by unfold lookL; rw [if_pos e1], ?_⟩
      unfold Instr.findNow
      rw [hk, ← hv]
      have hb : (s == x.1) = true := (MapKept.bytes_beq _ _).2 e1
      simp [Instr.sameNow, hb]
    · have hf : Instr.findNow .string (.string s) (e :: es) i = Instr.findNow .string (.string s) es (i + 1) := by
        have hb : (s == x.1) = false := by
          rw [Bool.eq_false_iff]
          exact fun hc => e1 ((MapKept.bytes_beq _ _).1 hc)
        conv => lhs; unfold Instr.findNow
        rw [hk]
        simp [Instr.sameNow, hb]
      rw [hf]
      have hl : lookL s (x :: r) = lookL s r := by
        conv => lhs; unfold lookL
        rw [if_neg e1]
      rw [hl]
      exact findNow_str s es r (i + 1) hr

variable {P : Program}
theorem run_put {w : World} {b : Nat} {L : List (ByteArray × Value)} {t k e : TypeId} (ht : P.underlying t = some (.map k e)) (hk : P.underlying k = some .string) (h : MapS w b L) {s : ByteArray} {v : Value} (hn : lookL s L = none) :
    ∃ w', (Instr.mapUpdate t (.map (some b)) (.string s) v).run P w = .ok () w' ∧ MapS w' b (L ++ [(s, v)]) ∧ w.grownBy w' (some b) := by
  obtain ⟨es, clock, hb, hL⟩ := h
  have hc := MapKept.run_checkKey (P := P) (w := w) (k := .string s) hk (by trivial) false 9999
  have hf : (Instr.findKey k (.string s) es.toList).run P w = .ok none w := by
    rcases findNow_str s es.toList L 0 hL with ⟨_, h2⟩ | ⟨v', j, h1, _⟩
    · exact MapKept.run_findKey hk h2
    · rw [hn] at h1; cases h1
  refine ⟨setBlock w b (.map (es.push ⟨.string s, v, clock⟩) (clock + 1)), ?_, ⟨_, _, heap_setBlock_same hb _, ?_⟩, ⟨rfl, rfl, rfl, by simp [setBlock], fun i _ hi => heap_setBlock_other hb _ (fun e => hi (by rw [e]))⟩⟩
  · simp [Instr.mapUpdate, run_underlying ht, MapKept.run_getObj_map hb, hc, hf, MapKept.run_setObj_map _ hb, Result.andThen, setBlock]
  · rw [Array.toList_push, List.map_append, List.map_append, hL]; rfl
theorem run_look {w : World} {b : Nat} {L : List (ByteArray × Value)} {t k e : TypeId} (ht : P.underlying t = some (.map k e)) (hk : P.underlying k = some .string) (h : MapS w b L) (s : ByteArray) {z : Value} (hz : (zeroValue e).run P w = .ok z w) (ok : Bool) :
    (Instr.lookup t (.map (some b)) (.string s) ok).run P w = .ok (if ok then .tuple #[(lookL s L).getD z, .bool (lookL s L).isSome] else (lookL s L).getD z) w := by
  obtain ⟨es, clock, hb, hL⟩ := h
  have hc := MapKept.run_checkKey (P := P) (w := w) (k := .string s) hk (by trivial) es.isEmpty 9999
  rcases findNow_str s es.toList L 0 hL with ⟨h1, h2⟩ | ⟨v, j, h1, h2⟩
  · have hf := MapKept.run_findKey (P := P) (w := w) hk h2
    rw [h1]
    cases ok <;> simp [Instr.lookup, run_underlying ht, MapKept.run_getObj_map hb, hc, hf, hz, Result.andThen]
  · have hf := MapKept.run_findKey (P := P) (w := w) hk h2
    rw [h1]
    cases ok <;> simp [Instr.lookup, run_underlying ht, MapKept.run_getObj_map hb, hc, hf, Result.andThen]

/-- a store of a new key, at the operation -/
theorem wpList_insert_new (w : World) {ops : Array Oper} {rest : List Oper} {o : Oper} {a : Act} {Q : Exit → Act → World → Prop}
    (hg : o.guard = none) (m x v : Operand) (t : TypeId) (hop : o.op = Op.insert t m x v)
    (k e : TypeId) (ht : P.underlying t = some (.map k e)) (hk : P.underlying k = some .string) (b : Nat) (L : List (ByteArray × Value)) (s : ByteArray) (val : Value)
    (hm : a.eval m = .map (some b)) (hown : MapS w b L) (hx : a.eval x = .string s) (hv : a.eval v = val) (hn : lookL s L = none)
    (hK : ∀ w', MapS w' b (L ++ [(s, val)]) → w.grownBy w' (some b) → wpList P ops Q rest (a.put o.dst undef) w') :
    wpList P ops Q (o :: rest) a w := by
  refine wpList_plain hg fun K' hK' => ?_
  obtain ⟨w', hrun, r1, r2⟩ := run_put ht hk hown (v := val) hn
  unfold Oper.wp
  simp [execOp, hop, hm, hx, hv, hrun, Result.andThen]
  exact hK' _ _ (hK w' r1 r2)
end Go.Proofs.YteikagdinecfoaaGreatDoor.Mp
