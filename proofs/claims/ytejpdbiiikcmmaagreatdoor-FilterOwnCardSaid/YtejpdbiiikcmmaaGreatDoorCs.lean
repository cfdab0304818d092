/- Maps by texts that the call itself makes: what they hold, in the order of the stores; a store of a new key, a look-up. No program. -/
import Derived.MapKept
import Derived.ChangeMaps5
import Derived.Maps.Own
import Derived.Test.YtejpdbiiikcmmaaGreatDoorCi
import Derived.Sort.OwnSorted
import Derived.Sort.KeysCollected
import Derived.WalkLawsBesides
import Derived.RegionTactic
import Derived.BigRegion
import Derived.BigQuiet
import Derived.Deep.QuietTactic
import Derived.Sort.Walk0
set_option linter.unusedVariables false
set_option linter.unusedSimpArgs false
namespace Go.Proofs.YtejpdbiiikcmmaaGreatDoor.Mp
open Go.RowKit Lb Go.ChangeMaps

/-- block b is a map that holds these, by texts -/
def MapS (w : World) (b : Nat) (L : List (ByteArray × Value)) : Prop :=
  ∃ es clock, w.heap[b]? = some (.map es clock) ∧ es.toList.map (fun e => (e.key, e.val)) = L.map fun x => (Value.string x.1, x.2)
theorem MapS.made (w : World) : MapS (w.alloc (.map #[] 0)) w.heap.size [] := ⟨#[], 0, (MapKept.heap_alloc w _).1, rfl⟩
theorem MapS.below {w w' : World} {b : Nat} {L : List (ByteArray × Value)} (h : MapS w b L) (hb : Below w.heap.size w w') : MapS w' b L := by
  obtain ⟨es, clock, h1, h2⟩ := h
  exact ⟨es, clock, (hb.block b (Array.getElem?_eq_some_iff.1 h1).1).trans h1, h2⟩
theorem MapS.other {w : World} {b : Nat} {L : List (ByteArray × Value)} (h : MapS w b L) {p : Addr} (hp : b ≠ p.block) (u : Value) : MapS (w.setCell p u) b L := by
  obtain ⟨es, clock, h1, h2⟩ := h
  exact ⟨es, clock, (Below.heap_setCell w p u b hp).trans h1, h2⟩
theorem MapS.lt {w : World} {b : Nat} {L : List (ByteArray × Value)} (h : MapS w b L) : b < w.heap.size := by
  obtain ⟨es, clock, h1, _⟩ := h
  exact (Array.getElem?_eq_some_iff.1 h1).1

def lookL (s : ByteArray) : List (ByteArray × Value) → Option Value
  | [] => none
  | x :: r => if s = x.1 then some x.2 else lookL s r
theorem findNow_str (s : ByteArray) : ∀ (es : List MapEntry) (L : List (ByteArray × Value)) (i : Nat), es.map (fun e => (e.key, e.val)) = L.map (fun x => (Value.string x.1, x.2)) →
    (lookL s L = none ∧ Instr.findNow .string (.string s) es i = some none) ∨ (∃ v j, lookL s L = some v ∧ Instr.findNow .string (.string s) es i = some (some (j, v)))
  | [], [], i, _ => .inl ⟨rfl, rfl⟩
  | [], x :: r, i, h => by simp at h
  | e :: es, [], i, h => by simp at h
  | e :: es, x :: r, i, h => by
    simp only [List.map_cons, List.cons.injEq, Prod.mk.injEq] at h
    obtain ⟨⟨hk, hv⟩, hr⟩ := h
    by_cases e1 : s = x.1
    · refine .inr ⟨x.2, i, by unfold lookL; rw [if_pos e1], ?_⟩
      unfold Instr.findNow
      rw [hk, ← hv]
      have hb : (s == x.1) = true := (MapKept.bytes_beq _ _).2 e1
      simp [Instr.sameNow, hb]
    · have hf : Instr.findNow .string (.string s) (e :: es) i = Instr.findNow .string (.string s) es (i + 1) := by
        have hb : (s == x.1) = false := by
          rw [Bool.eq_false_iff]
          exact fun hc => e1 ((MapKept.bytes_beq _ _).1 hc)
        conv => lhs; unfold Instr.findNow
        rw [hk]
        simp [Instr.sameNow, hb]
      rw [hf]
      have hl : lookL s (x :: r) = lookL s r := by
        conv => lhs; unfold lookL
        rw [if_neg e1]
      rw [hl]
      exact findNow_str s es r (i + 1) hr

variable {P : Program}
theorem run_put {w : World} {b : Nat} {L : List (ByteArray × Value)} {t k e : TypeId} (ht : P.underlying t = some (.map k e)) (hk : P.underlying k = some .string) (h : MapS w b L) {s : ByteArray} {v : Value} (hn : lookL s L = none) :
    ∃ w', (Instr.mapUpdate t (.map (some b)) (.string s) v).run P w = .ok () w' ∧ MapS w' b (L ++ [(s, v)]) ∧ w.grownBy w' (some b) := by
  obtain ⟨es, clock, hb, hL⟩ := h
  have hc := MapKept.run_checkKey (P := P) (w := w) (k := .string s) hk (by trivial) false 9999
  have hf : (Instr.findKey k (.string s) es.toList).run P w = .ok none w := by
    rcases findNow_str s es.toList L 0 hL with ⟨_, h2⟩ | ⟨v', j, h1, _⟩
    · exact MapKept.run_findKey hk h2
    · rw [hn] at h1; cases h1
  refine ⟨setBlock w b (.map (es.push ⟨.string s, v, clock⟩) (clock + 1)), ?_, ⟨_, _, heap_setBlock_same hb _, ?_⟩, ⟨rfl, rfl, rfl, by simp [setBlock], fun i _ hi => heap_setBlock_other hb _ (fun e => hi (by rw [e]))⟩⟩
  · simp [Instr.mapUpdate, run_underlying ht, MapKept.run_getObj_map hb, hc, hf, MapKept.run_setObj_map _ hb, Result.andThen, setBlock]
  · rw [Array.toList_push, List.map_append, List.map_append, hL]; rfl
theorem run_look {w : World} {b : Nat} {L : List (ByteArray × Value)} {t k e : TypeId} (ht : P.underlying t = some (.map k e)) (hk : P.underlying k = some .string) (h : MapS w b L) (s : ByteArray) {z : Value} (hz : (zeroValue e).run P w = .ok z w) (ok : Bool) :
    (Instr.lookup t (.map (some b)) (.string s) ok).run P w = .ok (if ok then .tuple #[(lookL s L).getD z, .bool (lookL s L).isSome] else (lookL s L).getD z) w := by
  obtain ⟨es, clock, hb, hL⟩ := h
  have hc := MapKept.run_checkKey (P := P) (w := w) (k := .string s) hk (by trivial) es.isEmpty 9999
  rcases findNow_str s es.toList L 0 hL with ⟨h1, h2⟩ | ⟨v, j, h1, h2⟩
  · have hf := MapKept.run_findKey (P := P) (w := w) hk h2
    rw [h1]
    cases ok <;> simp [Instr.lookup, run_underlying ht, MapKept.run_getObj_map hb, hc, hf, hz, Result.andThen]
  · have hf := MapKept.run_findKey (P := P) (w := w) hk h2
    rw [h1]
    cases ok <;> simp [Instr.lookup, run_underlying ht, MapKept.run_getObj_map hb, hc, hf, Result.andThen]

/-- a store of a new key, at the operation -/
theorem wpList_insert_new (w : World) {ops : Array Oper} {rest : List Oper} {o : Oper} {a : Act} {Q : Exit → Act → World → Prop}
    (hg : o.guard = none) (m x v : Operand) (t : TypeId) (hop : o.op = Op.insert t m x v)
    (k e : TypeId) (ht : P.underlying t = some (.map k e)) (hk : P.underlying k = some .string) (b : Nat) (L : List (ByteArray × Value)) (s : ByteArray) (val : Value)
    (hm : a.eval m = .map (some b)) (hown : MapS w b L) (hx : a.eval x = .string s) (hv : a.eval v = val) (hn : lookL s L = none)
    (hK : ∀ w', MapS w' b (L ++ [(s, val)]) → w.grownBy w' (some b) → wpList P ops Q rest (a.put o.dst undef) w') :
    wpList P ops Q (o :: rest) a w := by
  refine wpList_plain hg fun K' hK' => ?_
  obtain ⟨w', hrun, r1, r2⟩ := run_put ht hk hown (v := val) hn
  unfold Oper.wp
  simp [execOp, hop, hm, hx, hv, hrun, Result.andThen]
  exact hK' _ _ (hK w' r1 r2)
end Go.Proofs.YtejpdbiiikcmmaaGreatDoor.Mp

/- A set's names in rising order: what names.sorted gives. -/
set_option linter.unusedVariables false
set_option linter.unusedSimpArgs false
namespace Go.Proofs.YtejpdbiiikcmmaaGreatDoor.So
open Go.RowKit Lb St Fl Ls Rt Is

/-- a list of texts, in rising order -/
def srt (l : List ByteArray) : List ByteArray := ((l.map fun s => s.data.toList).mergeSort leB).map str
theorem bts_str (l : List (List UInt8)) : (l.map str).map (fun s : ByteArray => s.data.toList) = l := by
  rw [List.map_map]
  exact List.map_id' l
theorem str_bts (l : List ByteArray) : (l.map fun s : ByteArray => s.data.toList).map str = l := by
  rw [List.map_map]
  have : (str ∘ fun s : ByteArray => s.data.toList) = id := by funext s; exact str_of s
  rw [this, List.map_id]
theorem srt_str (l : List (List UInt8)) : srt (l.map str) = (l.mergeSort leB).map str := by unfold srt; rw [bts_str]
theorem srt_len (l : List ByteArray) : (srt l).length = l.length := by unfold srt; simp
/-- whatever is in rising order and has the same texts -/
theorem srt_eq {l r : List ByteArray} (hp : r.Perm l) (hs : r.Pairwise fun x y => leB x.data.toList y.data.toList = true) : r = srt l := by
  have h1 : (r.map fun s : ByteArray => s.data.toList) = (l.map fun s : ByteArray => s.data.toList).mergeSort leB := by
    have e1 : (r.map fun s : ByteArray => s.data.toList).mergeSort leB = r.map fun s : ByteArray => s.data.toList := List.mergeSort_of_pairwise (List.pairwise_map.2 hs)
    rw [← e1]
    exact mergeSort_of_perm (hp.map _)
  unfold srt
  rw [← h1, str_bts]

theorem own_str {w : World} {B : Nat} {v : Value} {l : List (List UInt8)} : Own w B v (l.map str) ↔ w.ownsRow B 9 1 v l.length (l.map encStr) := by
  unfold Own
  rw [List.length_map, List.map_map]
  exact Iff.rfl
theorem nm_len {k : Nat} (hk : k < 16) : (nm k).length ≤ 2000 := by
  have h1 := flds_length (rtx k) []
  have h2 := len_rt k hk
  have h3 : (nm k).length = (flds [] (rtx k)).length := rfl
  omega
/-- the library's sort, on a row of the call's own -/
theorem libSort {w : World} {B n c : Nat} {A : Option Addr} {l : List (List UInt8)} (h : Own w B (.slice A n c) (l.map str)) (hl : l.length < 4611686018427387904) : Calls Tryz.prog 129 #[.slice A n c] w fun e w' =>
    e = .returned (.tuple #[]) ∧ Own w' B (.slice A n c) (srt (l.map str)) ∧ w.grownBy w' (Value.slice A n c).ownBlock := by
  have h0 := own_str.1 h
  obtain ⟨hx, h0⟩ := h0
  rcases h0 with ⟨hv, hn⟩ | ⟨g, cap, cur, hv, hb, hg, hnc, hcm, hcs, htake⟩
  · injection hv with e1 e2 e3
    subst e1 e2 e3
    have hl0 : l = [] := List.eq_nil_of_length_eq_zero hn
    subst hl0
    refine (Tryz.slices_Sort_string_none none 0 w).mono ?_
    rintro e w' ⟨rfl, rfl⟩
    exact ⟨rfl, by rw [srt_str]; simpa using h, World.grownBy.refl _ _⟩
  · injection hv with e1 e2 e3
    subst e1 e2 e3
    refine (Tryz.slices_Sort_string g 0 c l w (holds_of_block hg (by simpa using htake)) (Array.getElem?_eq_some_iff.1 hg).1 hl).mono ?_
    rintro e w' ⟨rfl, nn, os, rfl⟩
    refine ⟨rfl, ?_, grownBy_sorted _⟩
    rw [srt_str]
    refine own_str.2 ?_
    have := ownsRow_sorted (n := nn) (os := os) (ss := l) (ts := l.mergeSort leB) (by simp) hb hg hnc hcm hcs
    rw [show (l.mergeSort leB).length = l.length from by simp]
    exact this

set_option maxHeartbeats 1000000 in
set_option maxRecDepth 100000 in
theorem sortedC (k : Int) (w : World) (ht : Tab w) (h0 : 0 ≤ k) (h1 : k < 16) : Calls Tryz.prog 206 #[.int .i64 k] w fun e w' => RetS w (srt ((nm k.toNat).map str)) e w' := by
  obtain ⟨i0, hi, hz0, hz1, hz2⟩ := info_parts infoStr
  have hkn : k.toNat < 16 := by omega
  have hidx := fun W => run_index_arr (P := Tryz.prog) (w := W) (kd := .i64) (i := k) (x := .string (str (ptx k.toNat))) Tryz.underlying191 hi hz1 (aggStr W) h0 (by omega) (setVals_at hkn)
  have hlen := nm_len hkn
  have hs := srt_len ((nm k.toNat).map str)
  rw [List.length_map] at hs
  obtain ⟨N, hN⟩ : ∃ N, N = nm k.toNat := ⟨_, rfl⟩
  rw [← hN] at hlen hs ⊢
  have HN := Lib.hid hN
  have HS := Lib.hid hs
  clear hN hs
  go_enter Tryz.func206, Tryz.ntmps206
  go_wp2_with (first
    | (go_at_call 180; refine (nLists _).mono ?_; rintro e w1 ⟨rfl, hb1⟩)
    | (go_at_call 147; refine (libFields k.toNat hkn _ (ht.below hb1)).mono ?_; rintro e w2 ⟨A, c, rfl, hown, hb2⟩; rw [← HN.out] at hown; have hgo := Lib.hid hown)
    | (go_at_call 129; rw [← HN.out]; refine (libSort hgo.out (by omega)).mono ?_; rintro e w3 ⟨rfl, ho3, hg3⟩))
  have hB : w.heap.size ≤ w1.heap.size := hb1.size
  go_ret
  have hb3 : Below w.heap.size w w3 := (seq hb1 hb2).grown hg3 (seq hb1 hb2).size (fun j hj => Nat.le_trans hB (hgo.out.ge j hj))
  obtain ⟨A3, c3, h3⟩ := ho3.form
  have h4 := h3
  injection h4 with r1 r2 r3
  rw [r2]
  exact ⟨A, c, rfl, by
    obtain ⟨q1, q2⟩ := ho3
    rw [← r2]
    exact ⟨q1, q2.elim .inl (fun ⟨g, cap, cur, hv, hb, r⟩ => .inr ⟨g, cap, cur, hv, Nat.le_trans hB hb, r⟩)⟩, hb3⟩
end Go.Proofs.YtejpdbiiikcmmaaGreatDoor.So

/- The reference's sorted: the same list, in rising order, in its own place. -/
set_option linter.unusedVariables false
set_option linter.unusedSimpArgs false
namespace Go.Proofs.YtejpdbiiikcmmaaGreatDoor.Rs
open Go.RowKit Lb St Fl Ls Rt Is Go.Proofs.YtejpdbiiikcmmaaGreatDoor.So

/-- no later than -/
def leS (a b : ByteArray) : Bool := leB a.data.toList b.data.toList
theorem le_trans' {a b c : ByteArray} (h1 : leS a b = true) (h2 : leS b c = true) : leS a c = true := by
  unfold leS leB at *
  simp only [decide_eq_true_eq] at *
  exact List.le_trans h1 h2
theorem less_no {a b : ByteArray} (h : Op.bytesLess a.toList b.toList = false) : leS b a = true := by
  rw [Lib.toList_data, Lib.toList_data, bytesLess_eq] at h
  unfold leS leB
  simp only [decide_eq_false_iff_not, decide_eq_true_eq] at *
  rcases List.le_total b.data.toList a.data.toList with h1 | h1
  · exact h1
  · exact List.not_lt.1 h
theorem less_yes {a b : ByteArray} (h : Op.bytesLess a.toList b.toList = true) : leS a b = true := by
  rw [Lib.toList_data, Lib.toList_data, bytesLess_eq] at h
  unfold leS leB
  simp only [decide_eq_true_eq] at *
  exact List.le_of_lt h

/-- behind j rounds -/
def Out (l0 l : List ByteArray) (j : Nat) : Prop := ∃ p r, l = p ++ r ∧ p.length = j ∧ p.Pairwise (fun a b => leS a b = true) ∧ l.Perm l0
/-- within a round: the name that goes down stands at k -/
def Inn (l0 l : List ByteArray) (j k : Nat) : Prop := ∃ p x q r, l = p ++ x :: (q ++ r) ∧ p.length = k ∧ p.length + q.length = j ∧ (p ++ q).Pairwise (fun a b => leS a b = true) ∧ (∀ y ∈ q, leS x y = true) ∧ l.Perm l0
theorem inn_start {l0 l : List ByteArray} {j : Nat} (h : Out l0 l j) (hj : j < l.length) : Inn l0 l j j := by
  obtain ⟨p, r, rfl, h1, h2, h3⟩ := h
  cases r with
  | nil => rw [List.append_nil] at hj; omega
  | cons x r => exact ⟨p, x, [], r, rfl, h1, by simpa using h1, by simpa using h2, fun y hy => (by cases hy), h3⟩
theorem inn_stop {l0 l : List ByteArray} {j k : Nat} (h : Inn l0 l j k) (hs : ∀ (h1 : k - 1 < l.length) (h2 : k < l.length), 0 < k → leS l[k - 1] l[k] = true) : Out l0 l (j + 1) := by
  obtain ⟨p, x, q, r, rfl, h1, h2, h3, h4, h5⟩ := h
  refine ⟨p ++ x :: q, r, by simp, by simp; omega, ?_, h5⟩
  rw [List.pairwise_append] at h3 ⊢
  obtain ⟨g1, g2, g3⟩ := h3
  have hpx : ∀ a ∈ p, leS a x = true := by
    rcases List.eq_nil_or_concat p with rfl | ⟨p', y, he⟩
    · intro a ha; cases ha
    · rw [List.concat_eq_append] at he
      subst he
      have hk : k = p'.length + 1 := by rw [← h1]; simp
      subst hk
      have h6 := hs (by simp) (by simp) (by omega)
      have e1 : ((p' ++ [y]) ++ x :: (q ++ r))[p'.length + 1]'(by simp) = x := by simp
      have e2 : ((p' ++ [y]) ++ x :: (q ++ r))[p'.length + 1 - 1]'(by simp) = y := by simp
      rw [e1, e2] at h6
      intro a ha
      rw [List.pairwise_append] at g1
      rcases List.mem_append.1 ha with ha | ha
      · exact le_trans' (g1.2.2 a ha y (List.mem_singleton.2 rfl)) h6
      · rw [List.mem_singleton.1 ha]; exact h6
  refine ⟨g1, List.pairwise_cons.2 ⟨h4, g2⟩, fun a ha b hb => ?_⟩
  rcases List.mem_cons.1 hb with rfl | hb
  · exact hpx a ha
  · exact g3 a ha b hb
theorem inn_swap {l0 l : List ByteArray} {j k : Nat} (h : Inn l0 l j (k + 1)) (hl : leS (l.getD (k + 1) ⟨#[]⟩) (l.getD k ⟨#[]⟩) = true) : Inn l0 ((l.set (k + 1) (l.getD k ⟨#[]⟩)).set k (l.getD (k + 1) ⟨#[]⟩)) j k := by
  obtain ⟨p, x, q, r, rfl, h1, h2, h3, h4, h5⟩ := h
  rcases List.eq_nil_or_concat p with rfl | ⟨p', y, he⟩
  · simp at h1
  · rw [List.concat_eq_append] at he
    subst he
    have hk : k = p'.length := by simpa using h1.symm
    subst hk
    have e0 : (p' ++ [y]) ++ x :: (q ++ r) = p' ++ y :: x :: (q ++ r) := by simp
    rw [e0] at hl h5 ⊢
    have e1 : (p' ++ y :: x :: (q ++ r)).getD (p'.length + 1) ⟨#[]⟩ = x := by rw [List.getD_eq_getElem?_getD]; simp
    have e2 : (p' ++ y :: x :: (q ++ r)).getD p'.length ⟨#[]⟩ = y := by rw [List.getD_eq_getElem?_getD]; simp
    rw [e1, e2] at hl ⊢
    have e3 : ((p' ++ y :: x :: (q ++ r)).set (p'.length + 1) y).set p'.length x = p' ++ x :: y :: (q ++ r) := by
      rw [List.set_append_right _ _ (by omega), List.set_append_right _ _ (by omega)]
      simp
    rw [e3]
    refine ⟨p', x, y :: q, r, by simp, rfl, by simp at h2 ⊢; omega, by simpa using h3, fun z hz => ?_, ?_⟩
    · rcases List.mem_cons.1 hz with rfl | hz
      · exact hl
      · exact h4 z hz
    · refine List.Perm.trans ?_ h5
      exact List.Perm.append_left _ (List.Perm.swap ..)
theorem out_end {l0 l : List ByteArray} {j : Nat} (h : Out l0 l j) (hj : l.length ≤ j) : l = srt l0 := by
  obtain ⟨p, r, rfl, h1, h2, h3⟩ := h
  have : r = [] := by
    rw [List.length_append] at hj
    exact List.eq_nil_of_length_eq_zero (by omega)
  subst this
  rw [List.append_nil] at h3 ⊢
  exact srt_eq h3 h2
theorem set_len2 (l : List ByteArray) (a b : Nat) (x y : ByteArray) : ((l.set a x).set b y).length = l.length := by simp

theorem grown_drewN {w w' : World} {r : Option Nat} (h : w.grownBy w' r) (k : Nat) : w.grownBy (w'.drewN k) r := ⟨h.1, h.2, h.3, h.4, h.5⟩

theorem own_set {w : World} {B g n c j : Nat} {l : List ByteArray} (h : Own w B (.slice (some ⟨g, 0, none⟩) n c) l) (hj : j < l.length) (x : ByteArray) : Own (w.setCell ⟨g, j, none⟩ (.string x)) B (.slice (some ⟨g, 0, none⟩) n c) (l.set j x) := by
  obtain ⟨g', e, _, _, _, _, h2⟩ := h.store hj x
  injection e with e
  injection e with e
  subst e
  exact h2
theorem own_swap {w : World} {B g n c a b : Nat} {l : List ByteArray} (h : Own w B (.slice (some ⟨g, 0, none⟩) n c) l) (ha : a < l.length) (hb : b < l.length) (x y : ByteArray) : Own ((w.setCell ⟨g, a, none⟩ (.string x)).setCell ⟨g, b, none⟩ (.string y)) B (.slice (some ⟨g, 0, none⟩) n c) ((l.set a x).set b y) :=
  own_set (own_set h ha x) (by rw [List.length_set]; exact hb) y
theorem grown_set {w wr : World} {g n c : Nat} (h : w.grownBy wr (Value.slice (some ⟨g, 0, none⟩) n c).ownBlock) (j : Nat) (u : Value) : w.grownBy (wr.setCell ⟨g, j, none⟩ u) (Value.slice (some ⟨g, 0, none⟩) n c).ownBlock :=
  ⟨h.os, h.tape, h.output, by have := h.size; simpa using this, fun k hk hne => (Below.heap_setCell wr ⟨g, j, none⟩ u k (fun e => hne (by rw [e]; rfl))).trans (h.block k hk hne)⟩
end Go.Proofs.YtejpdbiiikcmmaaGreatDoor.Rs

/- The reference's List: a set's names in rising order. -/
set_option linter.unusedVariables false
set_option linter.unusedSimpArgs false
namespace Go.Proofs.YtejpdbiiikcmmaaGreatDoor.Rl
open Go.RowKit Lb St Fl Ls Rt Is Go.Proofs.YtejpdbiiikcmmaaGreatDoor.So Rs

end Go.Proofs.YtejpdbiiikcmmaaGreatDoor.Rl

/- names.List of what may be allowed; the reference's. -/
set_option linter.unusedVariables false
set_option linter.unusedSimpArgs false
namespace Go.Proofs.YtejpdbiiikcmmaaGreatDoor.Ni
open Go.RowKit Lb Fl St Ls Rt Is Go.Proofs.YtejpdbiiikcmmaaGreatDoor.So
def n15 : List ByteArray := srt ((St.nm 15).map str)
set_option maxHeartbeats 2000000 in
set_option maxRecDepth 100000 in
theorem nList15 (w : World) (ht : Tab w) : Calls Tryz.prog 149 #[.int .i64 15] w fun e w' =>
    ∃ A c, e = .returned (.tuple #[.slice A n15.length c, .int .i64 0]) ∧ Own w' w.heap.size (.slice A n15.length c) n15 ∧ Below w.heap.size w w' := by
  have hb : ∀ W, Calls Tryz.prog 179 #[.int .i64 15] W fun e w' => e = .returned (.bool true) ∧ W = w' := fun W => nIsSet 15 W
  have hS := sortedC 15 w ht (by decide) (by decide)
  have HB := Lib.hid hb
  have HS : Hid (Calls Tryz.prog 206 #[.int .i64 15] w fun e w' => ∃ A c, e = .returned (.slice A n15.length c) ∧ Own w' w.heap.size (.slice A n15.length c) n15 ∧ Below w.heap.size w w') := Lib.hid hS
  clear hb hS ht
  generalize n15 = L at *
  go_enter Tryz.func149, Tryz.ntmps149
  go_wp2_with (first
    | (go_at_call 179; refine (HB.out _).mono ?_; rintro e w1 ⟨rfl, rfl⟩)
    | (go_at_call 206; refine HS.out.mono ?_; rintro e w2 ⟨A2, c2, rfl, ho2, hb2⟩))
  go_ret2
  exact ⟨A2, c2, rfl, ho2, hb2⟩
end Go.Proofs.YtejpdbiiikcmmaaGreatDoor.Ni
