/- nest.topmost: the place of the topmost name that is one, above the topmost one that stops; -1: there is none. The iterator down, and the range over it. -/
import Derived.RangeFuncNested
import Derived.RangeFuncBound
import Derived.RangeFuncCalls
import Derived.RangeFuncLeaves
import Derived.Shelf.Abstract
import Derived.Shelf.AbstractIn
import Derived.Shelf.RegionOpen
import Derived.WalkKit
import Derived.OwnWalkIn
import Derived.TacticsInMore
import Derived.LoopNIn
import Derived.LoopIn
import Derived.Test.YtddgpkdhakjjaaaDoorProg
import Derived.Test.YtddgpkdhakjjaaaDoorStr
set_option linter.unusedVariables false
set_option linter.unusedSimpArgs false
namespace Go.Proofs.YtddgpkdhakjjaaaDoor.Tp
open Go.RowKit Go.Shelf Lb Fl

attribute [local go_sem] Oper.semAt_some

def upto {α : Type} (f : Nat → α) (k : Nat) : List α := (List.range k).map f
theorem upto_succ {α : Type} (f : Nat → α) (k : Nat) : upto f (k + 1) = upto f k ++ [f k] := by simp [upto, List.range_succ]
theorem upto_length {α : Type} (f : Nat → α) (k : Nat) : (upto f k).length = k := by simp [upto]

/-- what comes at round k: the place and the name there, from the top -/
def dn (l : List ByteArray) (k : Nat) : Nat × ByteArray := (l.length - 1 - k, l.getD (l.length - 1 - k) ⟨#[]⟩)

set_option maxRecDepth 100000 in
set_option maxHeartbeats 2000000 in
theorem down1 (F : Fence) (n : Nat) (h8 : F.fn 89) (hro : F.round = none) (hn : 1 ≤ n) (lp Bs n₀ m cap : Nat) (A : Option Addr) (l : List ByteArray) (hm : m = l.length) (hreach : m ≤ 9223372036854775807) (J Jx : List (Nat × ByteArray) → World → Prop)
    (hY : ∀ pre x W, J pre W → pre.length < l.length → YieldAt F (n - 1) Tryd.prog lp #[.int .i64 (x.1 : Int), .string x.2] W fun e W' =>
      (e = .returned (.bool true) ∧ J (pre ++ [x]) W' ∧ Below n₀ W W') ∨ (e = .returned (.bool false) ∧ Jx (pre ++ [x]) W'))
    (W : World) (hBs : W.cell? ⟨Bs, 0, none⟩ = some (.slice A m cap)) (hBn : Bs < n₀) (hc : ∀ j (h : j < l.length), ∃ b off, A = some ⟨b, off, none⟩ ∧ ∀ W', Below n₀ W W' → W'.cell? ⟨b, off + j, none⟩ = some (.string l[j])) (h0 : J [] W) :
    CallsIn F n Tryd.prog 89 #[.func (.yield lp) #[] #[], .pointer (some ⟨Bs, 0, none⟩)] W fun e W' => (∃ v, e = .returned v) ∧
      ((∃ ys, ys = upto (dn l) l.length ∧ J ys W') ∨ (∃ pre, (∃ k, k ≤ l.length ∧ pre = upto (dn l) k) ∧ Jx pre W')) := by
  have HM := Lib.hid hm
  clear hm
  have HC := Lib.hid hc
  clear hc
  refine callsIn_of_wp Tryd.func89 rfl h8 ?_ hro
  simp only [Tryd.ntmps89, List.size_toArray, List.length_cons, List.length_nil, Nat.reduceAdd, Nat.reduceSub, Array.replicate_succ, Array.replicate_zero, List.push_toArray, List.append_toArray, List.nil_append, List.cons_append]
  gi_wp2
  gi_loopw [3] (fun i wr => ∃ k : Nat, k ≤ m ∧ i = .int .i64 ((k : Int) - 1) ∧ J (upto (dn l) (m - k)) wr ∧ Below n₀ W wr)
    (fun i _ => (intOf i + 1).toNat)
  case atStart => exact ⟨m, Nat.le_refl _, rfl, by rw [Nat.sub_self]; exact h0, Below.refl _ _⟩
  case round =>
    obtain ⟨k, hk, rfl, hJs, hnx⟩ := hrel
    have hbx := (hnx.cell (p := ⟨Bs, 0, none⟩) hBn).trans hBs
    cases k with
    | zero =>
      rw [Nat.sub_zero] at hJs
      have e : (((0 : Nat) : Int) - 1) = -1 := rfl
      rw [e]
      gi_wp2
      go_end0
      exact ⟨⟨_, rfl⟩, .inl ⟨_, by rw [HM.out], hJs⟩⟩
    | succ k =>
      have e : (((k + 1 : Nat) : Int) - 1) = (k : Int) := by omega
      rw [e]
      have hkl : k < l.length := by rw [← HM.out]; omega
      obtain ⟨b, off, rfl, hcell⟩ := HC.out k hkl
      have hcx := hcell wr hnx
      have hdn : dn l (m - (k + 1)) = (k, l[k]) := by
        unfold dn
        have e2 : l.length - 1 - (m - (k + 1)) = k := by rw [HM.out]; rw [HM.out] at hk; omega
        rw [e2, List.getD_eq_getElem?_getD, List.getElem?_eq_getElem hkl]
        rfl
      have hlen : (upto (dn l) (m - (k + 1))).length < l.length := by rw [upto_length, HM.out]; omega
      obtain ⟨fn, tmps, assign, body, hy, hR⟩ := hY _ (k, l[k]) wr hJs hlen
      dsimp only at hy
      have hup : upto (dn l) (m - k) = upto (dn l) (m - (k + 1)) ++ [(k, l[k])] := by
        have e3 : m - k = (m - (k + 1)) + 1 := by omega
        rw [e3, upto_succ, hdn]
      have HUP := Lib.hid hup
      obtain ⟨y, hy2⟩ : ∃ y, y = l[k] := ⟨_, rfl⟩
      rw [← hy2] at hcx hy hR
      have HY2 := Lib.hid hy2
      clear hup hdn hcell e hy2 hlen
      gi_wp2
      refine hR.mono ?_
      rintro e W3 (⟨rfl, hJ3, hk3⟩ | ⟨rfl, hJx3⟩)
      · gi_wp2
        go_roundw
        case rel => exact ⟨k, by omega, rfl, by rw [HUP.out, ← HY2.out]; exact hJ3, hnx.trans hk3⟩
        case measure => simp [intOf] <;> omega
      · gi_wp2
        refine bodyPost_ret (results_none rfl _ _ _) rfl ?_
        exact ⟨⟨_, rfl⟩, .inr ⟨_, ⟨m - k, by rw [HM.out]; omega, HUP.out.symm⟩, by rw [← HY2.out]; exact hJx3⟩⟩

set_option maxHeartbeats 1000000 in
theorem downIn (F : Fence) (n : Nat) (h5 : F.fn 77) (hro : F.round = none) (a : Option Addr) (len cap : Nat) (w : World) :
    CallsIn F n Tryd.prog 77 #[.slice a len cap] w fun e w' => e = .returned (.func (.func 89) #[] #[.pointer (some ⟨w.heap.size, 0, none⟩)]) ∧ w' = w.alloc (.cells #[.slice a len cap] 25) := by
  refine callsIn_of_wp Tryd.func77 rfl h5 ?_ hro
  simp only [Tryd.ntmps77, List.size_toArray, List.length_cons, List.length_nil, Nat.reduceAdd, Nat.reduceSub, Array.replicate_succ, Array.replicate_zero, List.push_toArray, List.append_toArray, List.nil_append, List.cons_append]
  gi_wp2
  go_ret
  exact ⟨rfl, rfl⟩

theorem downStops (F : Fence) (n : Nat) (h8 : F.fn 89) (hro : F.round = none) (hn : 1 ≤ n) (Bs n₀ cap m : Nat) (A : Option Addr) (l : List ByteArray) (hreach : m ≤ 9223372036854775807) (w : World) (hm : m = l.length) (hn₀ : n₀ ≤ w.heap.size) (hBs : Bs < n₀)
    (hc : w.cell? ⟨Bs, 0, none⟩ = some (.slice A m cap)) (hcs : ∀ j (h : j < l.length), ∃ b off, A = some ⟨b, off, none⟩ ∧ ∀ W', Below n₀ w W' → W'.cell? ⟨b, off + j, none⟩ = some (.string l[j])) :
    SeqStopsK F n Tryd.prog 89 #[.pointer (some ⟨Bs, 0, none⟩)] (fun x : Nat × ByteArray => #[Value.int .i64 (x.1 : Int), Value.string x.2]) (Below n₀) (fun ys => ys = upto (dn l) l.length)
      (fun pre => ∃ k, k ≤ l.length ∧ pre = upto (dn l) k) l.length w := fun lp J Jx W hW _ _ hY h0 => by
  have hW' := hW.mono hn₀
  refine down1 F n h8 hro hn lp Bs n₀ m cap A l hm hreach J Jx hY W ((hW'.cell (p := ⟨Bs, 0, none⟩) hBs).trans hc) hBs ?_ h0
  intro j hj
  obtain ⟨b, off, e, h⟩ := hcs j hj
  exact ⟨b, off, e, fun W' h' => h W' (hW'.trans h')⟩

theorem keeps_below {W W' : World} (h : Below W.heap.size W W') : KeepsOthers W W' :=
  ⟨h.size, fun k o hk _ => (h.block k (Array.getElem?_eq_some_iff.1 hk).1).trans hk⟩

/-- a function value that tells of a name whether p says yes, in every world behind w0 -/
def Pd (w0 : World) (k : FuncId) (lb : Array Value) (p : ByteArray → Bool) : Prop :=
  (∀ args w, (callFunc k args).run Tryd.prog w = .ok (.enter k args) w) ∧
  ∀ W, Below w0.heap.size w0 W → ∀ s, Calls Tryd.prog k (#[.string s] ++ lb) W fun e w' => e = .returned (.bool (p s)) ∧ Below W.heap.size W w'
theorem Pd.below {w w' : World} {k : FuncId} {lb : Array Value} {p : ByteArray → Bool} (h : Pd w k lb p) (hb : Below w.heap.size w w') : Pd w' k lb p :=
  ⟨h.1, fun W hW s => h.2 W (hb.trans (hW.mono hb.size)) s⟩

/-- the topmost place, from the top of a reversed stack -/
def tmGo (p q : ByteArray → Bool) : List ByteArray → Int
  | [] => -1
  | x :: r => if q x then -1 else if p x then (r.length : Int) else tmGo p q r
def tm (p q : ByteArray → Bool) (l : List ByteArray) : Int := tmGo p q l.reverse
theorem rev_split {l : List ByteArray} {k : Nat} (hk : k < l.length) : ∃ a, l.reverse = a ++ l[l.length - 1 - k] :: (l.take (l.length - 1 - k)).reverse ∧ a.length = k ∧ ∀ x ∈ a, ∃ j, j < k ∧ (dn l j).2 = x := by
  have e : l = l.take (l.length - 1 - k) ++ l[l.length - 1 - k] :: l.drop (l.length - k) := by
    have h1 : l.drop (l.length - 1 - k) = l[l.length - 1 - k] :: l.drop (l.length - k) := by
      rw [List.drop_eq_getElem_cons (by omega)]
      congr 2
      omega
    rw [← h1, List.take_append_drop]
  refine ⟨(l.drop (l.length - k)).reverse, ?_, by simp; omega, ?_⟩
  · have e2 := congrArg List.reverse e
    simpa only [List.reverse_append, List.reverse_cons, List.append_assoc, List.singleton_append] using e2
  · intro x hx
    rw [List.mem_reverse] at hx
    obtain ⟨i, hi, hx⟩ := List.getElem_of_mem hx
    rw [List.getElem_drop] at hx
    rw [List.length_drop] at hi
    refine ⟨l.length - 1 - (l.length - k + i), by omega, ?_⟩
    unfold dn
    have e2 : l.length - 1 - (l.length - 1 - (l.length - k + i)) = l.length - k + i := by omega
    simp only [e2]
    rw [List.getD_eq_getElem?_getD, List.getElem?_eq_getElem (by omega), Option.getD_some, hx]
theorem tmGo_skip (p q : ByteArray → Bool) : ∀ (a r : List ByteArray), (∀ x ∈ a, q x = false ∧ p x = false) → tmGo p q (a ++ r) = tmGo p q r
  | [], _, _ => rfl
  | x :: a, r, h => by
    have hx := h x (List.mem_cons_self ..)
    rw [List.cons_append, tmGo, hx.1, hx.2]
    simp only [Bool.false_eq_true, if_false]
    exact tmGo_skip p q a r (fun y hy => h y (List.mem_cons_of_mem _ hy))
theorem tm_none (p q : ByteArray → Bool) (l : List ByteArray) (h : ∀ x ∈ upto (dn l) l.length, q x.2 = false ∧ p x.2 = false) : tm p q l = -1 := by
  have := tmGo_skip p q l.reverse [] (fun x hx => by
    rw [List.mem_reverse] at hx
    obtain ⟨i, hi, e⟩ := List.getElem_of_mem hx
    have h2 := h (dn l (l.length - 1 - i)) (by simp only [upto, List.mem_map, List.mem_range]; exact ⟨_, by omega, rfl⟩)
    have e3 : (dn l (l.length - 1 - i)).2 = x := by
      unfold dn
      have e2 : l.length - 1 - (l.length - 1 - i) = i := by omega
      simp only [e2]
      rw [List.getD_eq_getElem?_getD, List.getElem?_eq_getElem hi, Option.getD_some, e]
    rw [e3] at h2
    exact h2)
  rw [List.append_nil] at this
  exact this
theorem tm_at (p q : ByteArray → Bool) (l : List ByteArray) (k : Nat) (hk : k < l.length) (h : ∀ x ∈ upto (dn l) k, q x.2 = false ∧ p x.2 = false) :
    tm p q l = if q (dn l k).2 then -1 else if p (dn l k).2 then ((dn l k).1 : Int) else tmGo p q (l.take (l.length - 1 - k)).reverse := by
  obtain ⟨a, e, ha, hx⟩ := rev_split hk
  unfold tm
  rw [e, tmGo_skip p q a _ (fun x hxa => by
    obtain ⟨j, hj, ej⟩ := hx x hxa
    have := h (dn l j) (by simp only [upto, List.mem_map, List.mem_range]; exact ⟨j, hj, rfl⟩)
    rw [ej] at this
    exact this)]
  have e4 : (dn l k).2 = l[l.length - 1 - k] := by
    unfold dn
    rw [List.getD_eq_getElem?_getD, List.getElem?_eq_getElem (by omega)]
    rfl
  rw [tmGo, e4]
  have e5 : ((l.take (l.length - 1 - k)).reverse.length : Int) = ((dn l k).1 : Int) := by
    unfold dn
    rw [List.length_reverse, List.length_take]
    have : min (l.length - 1 - k) l.length = l.length - 1 - k := by omega
    rw [this]
  rw [e5]
theorem tm_lt (p q : ByteArray → Bool) : ∀ l : List ByteArray, -1 ≤ tmGo p q l ∧ tmGo p q l < l.length
  | [] => by simp [tmGo]
  | x :: r => by
    have := tm_lt p q r
    unfold tmGo
    simp only [List.length_cons]
    split
    · omega
    · split <;> omega

set_option maxRecDepth 100000 in
set_option maxHeartbeats 4000000 in
theorem topmost {n c k1 k2 : Nat} {A : Option Addr} {l : List ByteArray} {lb1 lb2 : Array Value} {p q : ByteArray → Bool} (w : World) (hrd : Rd w A n l) (hn : n ≤ 9223372036854775807) (h1 : Pd w k1 lb1 p) (h2 : Pd w k2 lb2 q) :
    Calls Tryd.prog 52 #[.slice A n c, .func (.func k1) #[] lb1, .func (.func k2) #[] lb2] w fun e w' => e = .returned (.int .i64 (tm p q l)) ∧ Below w.heap.size w w' := by
  refine (callsIn_wide (n := 9)).1 ?_
  have hro : Fence.wide.round = none := rfl
  have en1 := h1.1
  have en2 := h2.1
  refine callsIn_of_wp_marks Tryd.func52 rfl trivial ?_ hro
  simp only [Tryd.ntmps52, List.size_toArray, List.length_cons, List.length_nil, Nat.reduceAdd, Nat.reduceSub, Array.replicate_succ, Array.replicate_zero, List.push_toArray, List.append_toArray, List.nil_append, List.cons_append]
  gi_wp2_with (refine ⟨trivial, ?_⟩; gi_at_call 77; refine (downIn Fence.wide _ trivial hro _ _ _ _).mono ?_; rintro e w' ⟨rfl, rfl⟩)
  have hlen := hrd.len
  have HL := Lib.hid hlen
  have HRD := Lib.hid hrd
  have HP1 := Lib.hid h1
  have HP2 := Lib.hid h2
  clear hlen hrd h1 h2
  have bb : Below w.heap.size w ((((w.alloc (.cells #[.func (.func k1) #[] lb1] 38)).alloc (.cells #[.func (.func k2) #[] lb2] 38)).alloc (.cells #[.int .i64 0] 3)).alloc (.cells #[.slice A n c] 25)) :=
    ((((Below.refl _ w).alloc (Nat.le_refl _) _).alloc (by simp) _).alloc (by simp <;> omega) _).alloc (by simp <;> omega) _
  have e1 : ((((w.alloc (.cells #[.func (.func k1) #[] lb1] 38)).alloc (.cells #[.func (.func k2) #[] lb2] 38)).alloc (.cells #[.int .i64 0] 3)).alloc (.cells #[.slice A n c] 25)).cell? ⟨w.heap.size, 0, none⟩ = some (.func (.func k1) #[] lb1) := by
    rw [World.cell?_alloc_past _ _ _ (by simp <;> omega), World.cell?_alloc_past _ _ _ (by simp <;> omega), World.cell?_alloc_past _ _ _ (by simp), World.cell?_alloc_new]
    first | done | rfl
  have e2 : ((((w.alloc (.cells #[.func (.func k1) #[] lb1] 38)).alloc (.cells #[.func (.func k2) #[] lb2] 38)).alloc (.cells #[.int .i64 0] 3)).alloc (.cells #[.slice A n c] 25)).cell? ⟨w.heap.size + 1, 0, none⟩ = some (.func (.func k2) #[] lb2) := by
    rw [World.cell?_alloc_past _ _ _ (by simp <;> omega), World.cell?_alloc_past _ _ _ (by simp), World.cell?_alloc_at _ _ _ _ (by simp)]
    first | done | rfl
  have e3 : ((((w.alloc (.cells #[.func (.func k1) #[] lb1] 38)).alloc (.cells #[.func (.func k2) #[] lb2] 38)).alloc (.cells #[.int .i64 0] 3)).alloc (.cells #[.slice A n c] 25)).cell? ⟨w.heap.size + 1 + 1, 0, none⟩ = some (.int .i64 0) := by
    rw [World.cell?_alloc_past _ _ _ (by simp), World.cell?_alloc_at _ _ _ _ (by simp)]
    first | done | rfl
  have e4 : ((((w.alloc (.cells #[.func (.func k1) #[] lb1] 38)).alloc (.cells #[.func (.func k2) #[] lb2] 38)).alloc (.cells #[.int .i64 0] 3)).alloc (.cells #[.slice A n c] 25)).frozen? ⟨w.heap.size + 1 + 1, 0, none⟩ = false := by
    rw [World.frozen?_alloc_past _ _ _ (by simp), World.frozen?_alloc_at _ _ _ _ (by simp)]
  have e5 : ((((w.alloc (.cells #[.func (.func k1) #[] lb1] 38)).alloc (.cells #[.func (.func k2) #[] lb2] 38)).alloc (.cells #[.int .i64 0] 3)).alloc (.cells #[.slice A n c] 25)).cell? ⟨w.heap.size + 1 + 1 + 1, 0, none⟩ = some (.slice A n c) := by
    rw [World.cell?_alloc_at _ _ _ _ (by simp)]
    first | done | rfl
  have e6 : ((((w.alloc (.cells #[.func (.func k1) #[] lb1] 38)).alloc (.cells #[.func (.func k2) #[] lb2] 38)).alloc (.cells #[.int .i64 0] 3)).alloc (.cells #[.slice A n c] 25)).heap.size = w.heap.size + 4 := by simp
  obtain ⟨W0, hW0⟩ : ∃ W0, ((((w.alloc (.cells #[.func (.func k1) #[] lb1] 38)).alloc (.cells #[.func (.func k2) #[] lb2] 38)).alloc (.cells #[.int .i64 0] 3)).alloc (.cells #[.slice A n c] 25)) = W0 := ⟨_, rfl⟩
  rw [hW0] at bb e1 e2 e3 e4 e5 e6 ⊢
  clear hW0
  have hcs : ∀ j (h : j < l.length), ∃ b off, A = some ⟨b, off, none⟩ ∧ ∀ W', Below W0.heap.size W0 W' → W'.cell? ⟨b, off + j, none⟩ = some (.string l[j]) := fun j hj => by
    obtain ⟨b, off, e, _, h⟩ := HRD.out.get hj
    exact ⟨b, off, e, fun W' h' => h W' (seq bb h')⟩
  refine wpIn_rangeFunc_ownG hro (by omega) (gf := 89) (lb := #[.pointer (some ⟨w.heap.size + 1 + 1 + 1, 0, none⟩)]) rfl trivial (enters_of Tryd.func89 (by kernel_rfl) rfl)
    (downStops Fence.wide _ trivial hro (by omega) (w.heap.size + 1 + 1 + 1) W0.heap.size c n A l hn W0 HL.out (Nat.le_refl _) (by omega) e5 hcs) belowK_t (belowK_b (Nat.le_refl _)) (Below.refl _ _) (fun _ => rfl)
    (fun pre W => ((∀ x ∈ pre, q x.2 = false ∧ p x.2 = false) ∧ W.cell? ⟨w.heap.size, 0, none⟩ = some (.func (.func k1) #[] lb1) ∧ W.cell? ⟨w.heap.size + 1, 0, none⟩ = some (.func (.func k2) #[] lb2) ∧ W.cell? ⟨w.heap.size + 1 + 1, 0, none⟩ = some (.int .i64 0) ∧ W.frozen? ⟨w.heap.size + 1 + 1, 0, none⟩ = false) ∧ Below W0.heap.size W0 W)
    (fun cd pre W => (cd = .ret ∧ ∃ ini last v, pre = ini ++ [last] ∧ (∀ x ∈ ini, q x.2 = false ∧ p x.2 = false) ∧ ((q last.2 = true ∧ v = -1) ∨ (q last.2 = false ∧ p last.2 = true ∧ v = (last.1 : Int))) ∧ W.cell? ⟨w.heap.size + 1 + 1, 0, none⟩ = some (.int .i64 v)) ∧ Below w.heap.size w W)
    (OwnFrom.and (Own.from (fun s A B row hs hg hr => ⟨hs.1, cell_kept hs.2.1 hg hr, cell_kept hs.2.2.1 hg hr, cell_kept hs.2.2.2.1 hg hr, (frozen_kept hs.2.2.2.1 hg hr).trans hs.2.2.2.2⟩) _) (ownFrom_below (Nat.le_refl _) (Nat.le_refl _)))
    (fun cd => OwnFrom.and (Own.from (fun s A B row hs hg hr => by obtain ⟨hc, ini, last, v, e1, e2, e3, e4⟩ := hs; exact ⟨hc, ini, last, v, e1, e2, e3, cell_kept e4 hg hr⟩) _) (ownFrom_below (Nat.le_refl _) (by omega)))
    ⟨⟨by simp, e1, e2, e3, e4⟩, Below.refl _ _⟩
    (fun x => { tmps := #[.slice A n c, .func (.func k1) #[] lb1, .func (.func k2) #[] lb2, undef, .pointer (some ⟨w.heap.size, 0, none⟩), .pointer (some ⟨w.heap.size + 1, 0, none⟩), .pointer (some ⟨w.heap.size + 1 + 1, 0, none⟩), .int .i64 (x.1 : Int), .string x.2, .slice A n c, .func (.func 89) #[] #[.pointer (some ⟨w.heap.size + 1 + 1 + 1, 0, none⟩)], .int .i64 (x.1 : Int), .string x.2, undef, undef, undef, undef, undef, undef, undef], defers := [] }) ?assign ?body ?done ?stop
  case assign =>
    intro l x W K hK
    gi_wp2
    exact hK
  case body =>
    rintro lp pre x W ⟨⟨hp, hc1, hc2, hc3, hc4⟩, hB⟩ _
    have hq := HP2.out.2 W (seq bb hB) x.2
    have hWs := hB.size
    have hbW := seq bb hB
    cases hqv : q x.2
    · rw [hqv] at hq
      gi_wp2_with fail
      refine ⟨trivial, (CallsIn.inRound lp (callsIn_wide.2 hq)).mono ?_⟩
      rintro e W1 ⟨rfl, hb1⟩
      have hp1 := HP1.out.2 W1 (seq hbW hb1) x.2
      have c1 := (hb1.cell (p := ⟨w.heap.size, 0, none⟩) (by simp <;> omega)).trans hc1
      have c3 := (hb1.cell (p := ⟨w.heap.size + 1 + 1, 0, none⟩) (by simp <;> omega)).trans hc3
      have c4 := (hb1.frozen (p := ⟨w.heap.size + 1 + 1, 0, none⟩) (by simp <;> omega)).trans hc4
      have hb2 := seq hbW hb1
      cases hpv : p x.2
      · rw [hpv] at hp1
        gi_wp2_with fail
        refine ⟨trivial, (CallsIn.inRound lp (callsIn_wide.2 hp1)).mono ?_⟩
        rintro e W2 ⟨rfl, hb3⟩
        have hb4 := seq hb1 hb3
        gi_wp2_with fail
        refine ⟨(keeps_below hb4).from _, hb4.mono hWs, ⟨?_, ?_, ?_, ?_, ?_⟩, hB.trans (hb4.mono hWs)⟩
        · intro y hy
          rcases List.mem_append.1 hy with hy | hy
          · exact hp y hy
          · simp at hy; subst hy; exact ⟨hqv, hpv⟩
        · exact (hb4.cell (p := ⟨w.heap.size, 0, none⟩) (by simp <;> omega)).trans hc1
        · exact (hb4.cell (p := ⟨w.heap.size + 1, 0, none⟩) (by simp <;> omega)).trans hc2
        · exact (hb4.cell (p := ⟨w.heap.size + 1 + 1, 0, none⟩) (by simp <;> omega)).trans hc3
        · exact (hb4.frozen (p := ⟨w.heap.size + 1 + 1, 0, none⟩) (by simp <;> omega)).trans hc4
      · rw [hpv] at hp1
        gi_wp2_with fail
        refine ⟨trivial, (CallsIn.inRound lp (callsIn_wide.2 hp1)).mono ?_⟩
        rintro e W2 ⟨rfl, hb3⟩
        have hb4 := seq hb1 hb3
        have d3 := (hb4.cell (p := ⟨w.heap.size + 1 + 1, 0, none⟩) (by simp <;> omega)).trans hc3
        have d4 := (hb4.frozen (p := ⟨w.heap.size + 1 + 1, 0, none⟩) (by simp <;> omega)).trans hc4
        gi_wp2_with fail
        exact ⟨((keeps_below hb4).trans (KeepsOthers.setCell _ _ _)).from _, ⟨rfl, pre, x, _, rfl, hp, .inr ⟨hqv, hpv, rfl⟩, World.cell?_setCell_same' _ _ _ (by rw [d3]; rfl)⟩, (seq hbW hb4).setCell (p := ⟨w.heap.size + 1 + 1, 0, none⟩) (by simp <;> omega) _⟩
    · rw [hqv] at hq
      gi_wp2_with fail
      refine ⟨trivial, (CallsIn.inRound lp (callsIn_wide.2 hq)).mono ?_⟩
      rintro e W1 ⟨rfl, hb1⟩
      have d3 := (hb1.cell (p := ⟨w.heap.size + 1 + 1, 0, none⟩) (by simp <;> omega)).trans hc3
      have d4 := (hb1.frozen (p := ⟨w.heap.size + 1 + 1, 0, none⟩) (by simp <;> omega)).trans hc4
      gi_wp2_with fail
      exact ⟨((keeps_below hb1).trans (KeepsOthers.setCell _ _ _)).from _, ⟨rfl, pre, x, _, rfl, hp, .inl ⟨hqv, rfl⟩, World.cell?_setCell_same' _ _ _ (by rw [d3]; rfl)⟩, (seq hbW hb1).setCell (p := ⟨w.heap.size + 1 + 1, 0, none⟩) (by simp <;> omega) _⟩
  case done =>
    rintro D ys W hD rfl ⟨⟨hne, hc1, hc2, hc3, hc4⟩, hB⟩ hK
    gi_wp2
    have hK' := (KeepsOthers.setCell W ⟨w.heap.size + 1 + 1, 0, none⟩ (.int .i64 (-1))).same D _ hK rfl
    refine ⟨by simp, .inl ⟨_, _, rfl, run_takeDeferred hK', ?_⟩⟩
    have hc5 := cell_kept (World.cell?_setCell_same' W ⟨w.heap.size + 1 + 1, 0, none⟩ (.int .i64 (-1)) (by rw [hc3]; rfl)) (grownBy_putObj' _ D (.deferred none)) (fun r e => by cases e; exact ⟨_, hK', rfl⟩)
    refine ⟨.int .i64 (-1), ?_, ri (tm_none p q l hne), ((seq bb hB).setCell (p := ⟨w.heap.size + 1 + 1, 0, none⟩) (by simp <;> omega) _).trans (belowK_b (w := w) (Nat.le_refl _) _ D _ _ (by omega) hK' rfl rfl)⟩
    simp [results, Tryd.f52, go_sem, hc5]
  case stop =>
    rintro D cd pre W hD ⟨k, hk, rfl⟩ ⟨⟨rfl, ini, last, v, e1, e2, e3, hcr⟩, hB⟩ hK
    gi_wp2
    refine ⟨by simp, .inl ⟨_, _, rfl, run_takeDeferred hK, ?_⟩⟩
    have hc5 := cell_kept hcr (grownBy_putObj' _ D (.deferred none)) (fun r e => by cases e; exact ⟨_, hK, rfl⟩)
    obtain ⟨k', rfl⟩ : ∃ k', k = k' + 1 := by
      cases k with
      | zero => simp [upto] at e1
      | succ k' => exact ⟨k', rfl⟩
    rw [upto_succ] at e1
    obtain ⟨rfl, e5⟩ := List.append_inj' e1 rfl
    obtain rfl : dn l k' = last := by simpa using e5
    have htm := tm_at p q l k' (by omega) e2
    refine ⟨.int .i64 v, ?_, ri ?_, hB.trans (belowK_b (w := w) (Nat.le_refl _) W D _ _ (by omega) hK rfl rfl)⟩
    · simp [results, Tryd.f52, go_sem, hc5]
    · rw [htm]
      rcases e3 with ⟨h1, rfl⟩ | ⟨h1, h2, rfl⟩
      · simp [h1]
      · simp [h1, h2]
end Go.Proofs.YtddgpkdhakjjaaaDoor.Tp
