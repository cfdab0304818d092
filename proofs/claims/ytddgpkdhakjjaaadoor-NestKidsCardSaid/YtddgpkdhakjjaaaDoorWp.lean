/- nest: what is put in (inner). Printed by wip/tools/gennest2.py. -/
import Derived.BigQuiet
import Derived.Deep.QuietTactic
import Derived.WalkSmall
import Derived.RegionTactic
import Derived.Test.YtddgpkdhakjjaaaDoorWk
set_option linter.unusedVariables false
set_option linter.unusedSimpArgs false
namespace Go.Proofs.YtddgpkdhakjjaaaDoor.Wp
open Go.RowKit Lb Fl Is Tp Np Wk

def s_tbody : ByteArray := ⟨#[116, 98, 111, 100, 121]⟩
def s_tr : ByteArray := ⟨#[116, 114]⟩
def s_td : ByteArray := ⟨#[116, 100]⟩
def s_li : ByteArray := ⟨#[108, 105]⟩
def s_dd : ByteArray := ⟨#[100, 100]⟩
def s_ul : ByteArray := ⟨#[117, 108]⟩
def s_dl : ByteArray := ⟨#[100, 108]⟩
def s_table : ByteArray := ⟨#[116, 97, 98, 108, 101]⟩
def s_colgroup : ByteArray := ⟨#[99, 111, 108, 103, 114, 111, 117, 112]⟩
def s_p : ByteArray := ⟨#[112]⟩
def s_a : ByteArray := ⟨#[97]⟩

/-- what the top wants around something -/
def addN (y : ByteArray) : List ByteArray :=
  if is_table y then [s_tbody, s_tr, s_td] else if groupB y then [s_tr, s_td] else if is_tr y then [s_td] else if listB y then [s_li] else if is_dl y then [s_dd] else []
/-- inner: the stack and what is put in -/
def inS2 (s p : List ByteArray) : List ByteArray := if p = [] ∧ is_colgroup (topS s) = true then s.dropLast else s
def inP2 (s p : List ByteArray) : List ByteArray := p ++ addN (if p = [] then topS (inS2 s p) else topS p)

/-- the blocks of w0 but g and the row r are as they were -/
def Oth (g : Nat) (r : Option Nat) (w0 w : World) : Prop := ∀ k, k < w0.heap.size → g ≠ k → r ≠ some k → w.heap[k]? = w0.heap[k]?

structure Bun (r : Option Nat) (w0 w : World) (B g : Nat) (A : Option Addr) (n c : Nat) (s : List ByteArray) (pv : Value) (p : List ByteArray) : Prop where
  k : Wrk w g (.slice A n c) pv
  o : Fl.Own w B pv p
  a : RdB w B A n s
  z : B ≤ w.heap.size
  b : Below B w0 w
  y : Oth g r w0 w
  m : w0.heap.size ≤ w.heap.size
  q : pv.ownBlock = r ∨ ∃ k, pv.ownBlock = some k ∧ w0.heap.size ≤ k
theorem Oth.go {g : Nat} {r : Option Nat} {w0 w w' : World} (h : Oth g r w0 w) (hm : w0.heap.size ≤ w.heap.size) (hb : Below w.heap.size w w') : Oth g r w0 w' := fun k hk h1 h2 => (hb.block k (by omega)).trans (h k hk h1 h2)
theorem Oth.grow {g : Nat} {r row : Option Nat} {w0 w w' : World} (h : Oth g r w0 w) (hm : w0.heap.size ≤ w.heap.size) (hb : w.grownBy w' row) (hq : row = r ∨ ∃ k, row = some k ∧ w0.heap.size ≤ k) : Oth g r w0 w' := fun k hk h1 h2 => by
  refine (hb.block k (by omega) ?_).trans (h k hk h1 h2)
  rcases hq with rfl | ⟨j, rfl, hj⟩
  · exact fun e => h2 e.symm
  · intro e
    injection e with e
    omega
theorem Oth.cell {g : Nat} {r : Option Nat} {w0 w : World} (h : Oth g r w0 w) (i : Nat) (u : Value) : Oth g r w0 (w.setCell ⟨g, i, none⟩ u) := fun k hk h1 h2 => (Below.heap_setCell w ⟨g, i, none⟩ u k (Ne.symm h1)).trans (h k hk h1 h2)
theorem Bun.drew {r : Option Nat} {w0 w : World} {B g n c : Nat} {A : Option Addr} {s p : List ByteArray} {pv : Value} (h : Bun r w0 w B g A n c s pv p) (k : Nat) : Bun r w0 (w.drewN k) B g A n c s pv p :=
  have hb : Below w.heap.size w (w.drewN k) := below_drewN (Below.refl _ _) k
  ⟨h.k.below hb, h.o.below hb, h.a.below (hb.mono h.z), Nat.le_trans h.z hb.size, h.b.trans (hb.mono h.z), h.y.go h.m hb, Nat.le_trans h.m hb.size, h.q⟩
theorem Bun.step {r : Option Nat} {w0 w w1 : World} {B g n c : Nat} {A : Option Addr} {s p : List ByteArray} {pv v' : Value} {x : ByteArray} (hg : B ≤ g) (h : Bun r w0 w B g A n c s pv p)
    (hown' : w1.ownsRow B 9 1 v' (p.length + 1) (p.map Value.string ++ [.string x])) (hgrow : (w.alloc (.cells #[.string x] 9)).grownBy w1 pv.ownBlock) (hrow : v'.ownBlock = pv.ownBlock ∨ v'.ownBlock = some (w.alloc (.cells #[.string x] 9)).heap.size) :
    Wrk w1 g (.slice A n c) pv ∧ Bun r w0 (w1.setCell ⟨g, 1, none⟩ v') B g A n c s v' (p ++ [x]) := by
  have h1 : Wrk w1 g (.slice A n c) pv := (h.k.below ((Below.refl _ w).alloc (Nat.le_refl _) _)).grown hgrow (fun e => h.k.apart h.o e.symm)
  have hb1 : Below B w w1 := ((Below.refl _ w).alloc h.z _).grown hgrow (by simp; have := h.z; omega) h.o.ge
  have ho := Own.push hown'
  have hb2 : Below B w (w1.setCell ⟨g, 1, none⟩ v') := hb1.setCell (p := ⟨g, 1, none⟩) hg _
  refine ⟨h1, h1.set1 _, ho.other' (h1.apart ho), h.a.below hb2, by have := hb2.size; have := h.z; omega, h.b.trans hb2, ((h.y.go h.m ((Below.refl _ w).alloc (Nat.le_refl _) _)).grow (by simp; have := h.m; omega) hgrow h.q).cell 1 _, by have h3 := hgrow.size; have := h.m; simp at h3 ⊢; omega, ?_⟩
  rcases hrow with e | e
  · rw [e]; exact h.q
  · exact .inr ⟨_, e, by simp; have := h.m; omega⟩
theorem Bun.cut {r : Option Nat} {w0 w : World} {B g n c : Nat} {A : Option Addr} {s p : List ByteArray} {pv : Value} (hg : B ≤ g) (h : Bun r w0 w B g A (n + 1) c s pv p) : Bun r w0 (w.setCell ⟨g, 0, none⟩ (.slice A n c)) B g A n c s.dropLast pv p := by
  have hb : Below B w (w.setCell ⟨g, 0, none⟩ (.slice A n c)) := (Below.refl _ _).setCell (p := ⟨g, 0, none⟩) hg _
  refine ⟨h.k.set0 _, h.o.other' (h.k.apart h.o), ?_, Nat.le_trans h.z hb.size, h.b.trans hb, h.y.cell 0 _, by simp; exact h.m, h.q⟩
  have := (h.a.take (k := n) (by omega)).below hb
  have e : s.take n = s.dropLast := by rw [List.dropLast_eq_take, ← h.a.1, Nat.add_sub_cancel]
  rw [e] at this
  exact this
theorem Bun.st {r : Option Nat} {w0 w : World} {B g n c : Nat} {A : Option Addr} {s p : List ByteArray} {pv : Value} (hg : B ≤ g) (hc : n ≤ c) (hc2 : c ≤ 9223372036854775807) (h : Bun r w0 w B g A n c s pv p) : St w B g pv.ownBlock s p :=
  ⟨A, n, c, pv, h.k, hc, hc2, h.a, h.o, hg, rfl⟩
theorem slice_of {w : World} {B e z n : Nat} {v : Value} {l : List Value} (h : w.ownsRow B e z v n l) : ∃ A m c, v = .slice A m c := by
  obtain ⟨A, c, rfl, _⟩ := Sl.of_own h
  exact ⟨A, _, c, rfl⟩
theorem len_max {k : Nat} (h : k ≤ 100010) : k ≤ maxLen := by unfold maxLen; omega
theorem len_by {k : Nat} (h : k ≤ 100010) : k * 16 ≤ 140737488355328 := by omega
theorem one_src (w : World) (x : Value) (t : TypeId) (b : Nat) (hb : w.heap.size = b) : 0 < [x].length → ∃ b' off, some (⟨b, 0, none⟩ : Addr) = some ⟨b', off, none⟩ ∧ ∀ j u, [x][j]? = some u → (w.alloc (.cells #[x] t)).cell? ⟨b', off + j, none⟩ = some u := by
  subst hb
  intro _
  refine ⟨_, 0, rfl, fun j u hj => ?_⟩
  cases j with
  | zero =>
    obtain rfl : x = u := by simpa using hj
    rw [Nat.add_zero, World.cell?_alloc_new]; rfl
  | succ j => simp at hj
/-- how a call on a work ends -/
def Ends (w : World) (B g : Nat) (r : Option Nat) (s p : List ByteArray) (e : Ending) (w' : World) : Prop := e = .returned (.tuple #[]) ∧ (∃ r', St w' B g r' s p ∧ (r' = r ∨ ∃ k, r' = some k ∧ w.heap.size ≤ k)) ∧ Below B w w' ∧ Oth g r w w' ∧ w.heap.size ≤ w'.heap.size
theorem Bun.ends {r : Option Nat} {w0 w : World} {B g n c : Nat} {A : Option Addr} {s p : List ByteArray} {pv : Value} (hg : B ≤ g) (hc : n ≤ c) (hc2 : c ≤ 9223372036854775807) (h : Bun r w0 w B g A n c s pv p) : Ends w0 B g r s p (.returned (.tuple #[])) w :=
  ⟨rfl, ⟨_, h.st hg hc hc2, h.q⟩, h.b, h.y, h.m⟩

set_option maxHeartbeats 1600000 in
set_option maxRecDepth 100000 in
theorem inP_T (r : Option Nat) (w : World) (B g n c c2 m b off : Nat) (A : Option Addr) (s p : List ByteArray) (y : ByteArray) (hu : Bun r w w B g A n c s (.slice (some ⟨b, off, none⟩) (m + 1) c2) p) (hcy : w.cell? ⟨b, off + m, none⟩ = some (.string y)) (hg : B ≤ g) (hn : n ≤ 9223372036854775807) (hm : m ≤ 100000) (hp : p.length ≤ 100000) (hcg : (y.toList == [99, 111, 108, 103, 114, 111, 117, 112]) = false) (h_tab : (y.toList == [116, 97, 98, 108, 101]) = true) (Q : Ending → World → Prop)
    (FIN : ∀ w' pv, Bun r w w' B g A n c s pv (p ++ [s_tbody, s_tr, s_td]) → Q (.returned (.tuple #[])) w') : Calls Tryd.prog 56 #[.pointer (some ⟨g, 0, none⟩)] w Q := by
  obtain ⟨i0, hi, hz0, hz1, hz2⟩ := info_parts infoStr
  have e0 := hu.k.c0
  have f0 := hu.k.c1
  have ef := hu.k.fz 0
  have ef0 := hu.k.fz 1
  have HF := Lib.hid FIN
  clear FIN
  go_enter Tryd.func56, Tryd.ntmps56
  go_wp2_with (first | (go_at_call 53; refine (topC _ (hu.a.rd hu.z) hn).mono ?_; rintro e w' ⟨rfl, rfl⟩))
  go_quiet (fail)
  have hu := hu.drew nq
  have e0 := hu.k.c0
  have f0 := hu.k.c1
  have ef := hu.k.fz 0
  have ef0 := hu.k.fz 1
  go_wp2_with (first | (go_at_call 53; refine (topC _ (hu.a.rd hu.z) hn).mono ?_; rintro e w' ⟨rfl, rfl⟩) | (go_at_call 54; refine (groupC _ _).mono ?_; rintro e w' ⟨rfl, rfl⟩) | (go_at_call 55; refine (listC _ _).mono ?_; rintro e w' ⟨rfl, rfl⟩) | (at_builtin; refine wpList_append_src _ rfl (.tmp 74) (.tmp 75) 25 rfl B 9 i0 (.string ByteArray.empty) 1 16 Tryd.underlying25 hi hz0 hz1 hz2 rfl (by decide) _ _ _ rfl (hu.o.alloc _) (some ⟨_, 0, none⟩) 1 1 [.string s_tbody] rfl rfl (one_src _ _ _ _ (by simp)) (Lb.one_cell rfl) (len_max (by (try simp only [List.length_append, List.length_cons, List.length_nil]); omega)) (len_by (by (try simp only [List.length_append, List.length_cons, List.length_nil]); omega)) (le_alloc hu.z _) ?_; intro v' w1 hown' hgrow hrow; obtain ⟨A', m', c', rfl⟩ := slice_of hown'; obtain ⟨hw1, hu⟩ := hu.step hg hown' hgrow hrow; have e1 := hw1.c1; have ef1 := hw1.fz 1; have e2 := hu.k.c1; have ef2 := hu.k.fz 1; clear hown' hgrow hw1 hrow) | (at_builtin; refine wpList_append_src _ rfl (.tmp 83) (.tmp 84) 25 rfl B 9 i0 (.string ByteArray.empty) 1 16 Tryd.underlying25 hi hz0 hz1 hz2 rfl (by decide) _ _ _ rfl (hu.o.alloc _) (some ⟨_, 0, none⟩) 1 1 [.string s_tr] rfl rfl (one_src _ _ _ _ (by simp)) (Lb.one_cell rfl) (len_max (by (try simp only [List.length_append, List.length_cons, List.length_nil]); omega)) (len_by (by (try simp only [List.length_append, List.length_cons, List.length_nil]); omega)) (le_alloc hu.z _) ?_; intro v' w1 hown' hgrow hrow; obtain ⟨A', m', c', rfl⟩ := slice_of hown'; obtain ⟨hw1, hu⟩ := hu.step hg hown' hgrow hrow; have e1 := hw1.c1; have ef1 := hw1.fz 1; have e2 := hu.k.c1; have ef2 := hu.k.fz 1; clear hown' hgrow hw1 hrow) | (at_builtin; refine wpList_append_src _ rfl (.tmp 92) (.tmp 93) 25 rfl B 9 i0 (.string ByteArray.empty) 1 16 Tryd.underlying25 hi hz0 hz1 hz2 rfl (by decide) _ _ _ rfl (hu.o.alloc _) (some ⟨_, 0, none⟩) 1 1 [.string s_td] rfl rfl (one_src _ _ _ _ (by simp)) (Lb.one_cell rfl) (len_max (by (try simp only [List.length_append, List.length_cons, List.length_nil]); omega)) (len_by (by (try simp only [List.length_append, List.length_cons, List.length_nil]); omega)) (le_alloc hu.z _) ?_; intro v' w1 hown' hgrow hrow; obtain ⟨A', m', c', rfl⟩ := slice_of hown'; obtain ⟨hw1, hu⟩ := hu.step hg hown' hgrow hrow; have e1 := hw1.c1; have ef1 := hw1.fz 1; have e2 := hu.k.c1; have ef2 := hu.k.fz 1; clear hown' hgrow hw1 hrow))
  go_end0
  exact HF.out _ _ (by simpa using hu)

set_option maxHeartbeats 1600000 in
set_option maxRecDepth 100000 in
theorem inP_G (r : Option Nat) (w : World) (B g n c c2 m b off : Nat) (A : Option Addr) (s p : List ByteArray) (y : ByteArray) (hu : Bun r w w B g A n c s (.slice (some ⟨b, off, none⟩) (m + 1) c2) p) (hcy : w.cell? ⟨b, off + m, none⟩ = some (.string y)) (hg : B ≤ g) (hn : n ≤ 9223372036854775807) (hm : m ≤ 100000) (hp : p.length ≤ 100000) (hcg : (y.toList == [99, 111, 108, 103, 114, 111, 117, 112]) = false) (h_tab : (y.toList == [116, 97, 98, 108, 101]) = false) (h_grp : groupB y = true) (Q : Ending → World → Prop)
    (FIN : ∀ w' pv, Bun r w w' B g A n c s pv (p ++ [s_tr, s_td]) → Q (.returned (.tuple #[])) w') : Calls Tryd.prog 56 #[.pointer (some ⟨g, 0, none⟩)] w Q := by
  obtain ⟨i0, hi, hz0, hz1, hz2⟩ := info_parts infoStr
  have e0 := hu.k.c0
  have f0 := hu.k.c1
  have ef := hu.k.fz 0
  have ef0 := hu.k.fz 1
  have HF := Lib.hid FIN
  clear FIN
  go_enter Tryd.func56, Tryd.ntmps56
  go_wp2_with (first | (go_at_call 53; refine (topC _ (hu.a.rd hu.z) hn).mono ?_; rintro e w' ⟨rfl, rfl⟩))
  go_quiet (fail)
  have hu := hu.drew nq
  have e0 := hu.k.c0
  have f0 := hu.k.c1
  have ef := hu.k.fz 0
  have ef0 := hu.k.fz 1
  go_wp2_with (first | (go_at_call 53; refine (topC _ (hu.a.rd hu.z) hn).mono ?_; rintro e w' ⟨rfl, rfl⟩) | (go_at_call 54; refine (groupC _ _).mono ?_; rintro e w' ⟨rfl, rfl⟩) | (go_at_call 55; refine (listC _ _).mono ?_; rintro e w' ⟨rfl, rfl⟩) | (at_builtin; refine wpList_append_src _ rfl (.tmp 83) (.tmp 84) 25 rfl B 9 i0 (.string ByteArray.empty) 1 16 Tryd.underlying25 hi hz0 hz1 hz2 rfl (by decide) _ _ _ rfl (hu.o.alloc _) (some ⟨_, 0, none⟩) 1 1 [.string s_tr] rfl rfl (one_src _ _ _ _ (by simp)) (Lb.one_cell rfl) (len_max (by (try simp only [List.length_append, List.length_cons, List.length_nil]); omega)) (len_by (by (try simp only [List.length_append, List.length_cons, List.length_nil]); omega)) (le_alloc hu.z _) ?_; intro v' w1 hown' hgrow hrow; obtain ⟨A', m', c', rfl⟩ := slice_of hown'; obtain ⟨hw1, hu⟩ := hu.step hg hown' hgrow hrow; have e1 := hw1.c1; have ef1 := hw1.fz 1; have e2 := hu.k.c1; have ef2 := hu.k.fz 1; clear hown' hgrow hw1 hrow) | (at_builtin; refine wpList_append_src _ rfl (.tmp 92) (.tmp 93) 25 rfl B 9 i0 (.string ByteArray.empty) 1 16 Tryd.underlying25 hi hz0 hz1 hz2 rfl (by decide) _ _ _ rfl (hu.o.alloc _) (some ⟨_, 0, none⟩) 1 1 [.string s_td] rfl rfl (one_src _ _ _ _ (by simp)) (Lb.one_cell rfl) (len_max (by (try simp only [List.length_append, List.length_cons, List.length_nil]); omega)) (len_by (by (try simp only [List.length_append, List.length_cons, List.length_nil]); omega)) (le_alloc hu.z _) ?_; intro v' w1 hown' hgrow hrow; obtain ⟨A', m', c', rfl⟩ := slice_of hown'; obtain ⟨hw1, hu⟩ := hu.step hg hown' hgrow hrow; have e1 := hw1.c1; have ef1 := hw1.fz 1; have e2 := hu.k.c1; have ef2 := hu.k.fz 1; clear hown' hgrow hw1 hrow))
  go_end0
  exact HF.out _ _ (by simpa using hu)

set_option maxHeartbeats 1600000 in
set_option maxRecDepth 100000 in
theorem inP_R (r : Option Nat) (w : World) (B g n c c2 m b off : Nat) (A : Option Addr) (s p : List ByteArray) (y : ByteArray) (hu : Bun r w w B g A n c s (.slice (some ⟨b, off, none⟩) (m + 1) c2) p) (hcy : w.cell? ⟨b, off + m, none⟩ = some (.string y)) (hg : B ≤ g) (hn : n ≤ 9223372036854775807) (hm : m ≤ 100000) (hp : p.length ≤ 100000) (hcg : (y.toList == [99, 111, 108, 103, 114, 111, 117, 112]) = false) (h_tab : (y.toList == [116, 97, 98, 108, 101]) = false) (h_grp : groupB y = false) (h_tr : (y.toList == [116, 114]) = true) (Q : Ending → World → Prop)
    (FIN : ∀ w' pv, Bun r w w' B g A n c s pv (p ++ [s_td]) → Q (.returned (.tuple #[])) w') : Calls Tryd.prog 56 #[.pointer (some ⟨g, 0, none⟩)] w Q := by
  obtain ⟨i0, hi, hz0, hz1, hz2⟩ := info_parts infoStr
  have e0 := hu.k.c0
  have f0 := hu.k.c1
  have ef := hu.k.fz 0
  have ef0 := hu.k.fz 1
  have HF := Lib.hid FIN
  clear FIN
  go_enter Tryd.func56, Tryd.ntmps56
  go_wp2_with (first | (go_at_call 53; refine (topC _ (hu.a.rd hu.z) hn).mono ?_; rintro e w' ⟨rfl, rfl⟩))
  go_quiet (fail)
  have hu := hu.drew nq
  have e0 := hu.k.c0
  have f0 := hu.k.c1
  have ef := hu.k.fz 0
  have ef0 := hu.k.fz 1
  go_wp2_with (first | (go_at_call 53; refine (topC _ (hu.a.rd hu.z) hn).mono ?_; rintro e w' ⟨rfl, rfl⟩) | (go_at_call 54; refine (groupC _ _).mono ?_; rintro e w' ⟨rfl, rfl⟩) | (go_at_call 55; refine (listC _ _).mono ?_; rintro e w' ⟨rfl, rfl⟩) | (at_builtin; refine wpList_append_src _ rfl (.tmp 92) (.tmp 93) 25 rfl B 9 i0 (.string ByteArray.empty) 1 16 Tryd.underlying25 hi hz0 hz1 hz2 rfl (by decide) _ _ _ rfl (hu.o.alloc _) (some ⟨_, 0, none⟩) 1 1 [.string s_td] rfl rfl (one_src _ _ _ _ (by simp)) (Lb.one_cell rfl) (len_max (by (try simp only [List.length_append, List.length_cons, List.length_nil]); omega)) (len_by (by (try simp only [List.length_append, List.length_cons, List.length_nil]); omega)) (le_alloc hu.z _) ?_; intro v' w1 hown' hgrow hrow; obtain ⟨A', m', c', rfl⟩ := slice_of hown'; obtain ⟨hw1, hu⟩ := hu.step hg hown' hgrow hrow; have e1 := hw1.c1; have ef1 := hw1.fz 1; have e2 := hu.k.c1; have ef2 := hu.k.fz 1; clear hown' hgrow hw1 hrow))
  go_end0
  exact HF.out _ _ (by simpa using hu)

set_option maxHeartbeats 1600000 in
set_option maxRecDepth 100000 in
theorem inP_L (r : Option Nat) (w : World) (B g n c c2 m b off : Nat) (A : Option Addr) (s p : List ByteArray) (y : ByteArray) (hu : Bun r w w B g A n c s (.slice (some ⟨b, off, none⟩) (m + 1) c2) p) (hcy : w.cell? ⟨b, off + m, none⟩ = some (.string y)) (hg : B ≤ g) (hn : n ≤ 9223372036854775807) (hm : m ≤ 100000) (hp : p.length ≤ 100000) (hcg : (y.toList == [99, 111, 108, 103, 114, 111, 117, 112]) = false) (h_tab : (y.toList == [116, 97, 98, 108, 101]) = false) (h_grp : groupB y = false) (h_tr : (y.toList == [116, 114]) = false) (h_lst : listB y = true) (Q : Ending → World → Prop)
    (FIN : ∀ w' pv, Bun r w w' B g A n c s pv (p ++ [s_li]) → Q (.returned (.tuple #[])) w') : Calls Tryd.prog 56 #[.pointer (some ⟨g, 0, none⟩)] w Q := by
  obtain ⟨i0, hi, hz0, hz1, hz2⟩ := info_parts infoStr
  have e0 := hu.k.c0
  have f0 := hu.k.c1
  have ef := hu.k.fz 0
  have ef0 := hu.k.fz 1
  have HF := Lib.hid FIN
  clear FIN
  go_enter Tryd.func56, Tryd.ntmps56
  go_wp2_with (first | (go_at_call 53; refine (topC _ (hu.a.rd hu.z) hn).mono ?_; rintro e w' ⟨rfl, rfl⟩))
  go_quiet (fail)
  have hu := hu.drew nq
  have e0 := hu.k.c0
  have f0 := hu.k.c1
  have ef := hu.k.fz 0
  have ef0 := hu.k.fz 1
  go_wp2_with (first | (go_at_call 53; refine (topC _ (hu.a.rd hu.z) hn).mono ?_; rintro e w' ⟨rfl, rfl⟩) | (go_at_call 54; refine (groupC _ _).mono ?_; rintro e w' ⟨rfl, rfl⟩) | (go_at_call 55; refine (listC _ _).mono ?_; rintro e w' ⟨rfl, rfl⟩) | (at_builtin; refine wpList_append_src _ rfl (.tmp 101) (.tmp 102) 25 rfl B 9 i0 (.string ByteArray.empty) 1 16 Tryd.underlying25 hi hz0 hz1 hz2 rfl (by decide) _ _ _ rfl (hu.o.alloc _) (some ⟨_, 0, none⟩) 1 1 [.string s_li] rfl rfl (one_src _ _ _ _ (by simp)) (Lb.one_cell rfl) (len_max (by (try simp only [List.length_append, List.length_cons, List.length_nil]); omega)) (len_by (by (try simp only [List.length_append, List.length_cons, List.length_nil]); omega)) (le_alloc hu.z _) ?_; intro v' w1 hown' hgrow hrow; obtain ⟨A', m', c', rfl⟩ := slice_of hown'; obtain ⟨hw1, hu⟩ := hu.step hg hown' hgrow hrow; have e1 := hw1.c1; have ef1 := hw1.fz 1; have e2 := hu.k.c1; have ef2 := hu.k.fz 1; clear hown' hgrow hw1 hrow))
  go_end0
  exact HF.out _ _ (by simpa using hu)

set_option maxHeartbeats 1600000 in
set_option maxRecDepth 100000 in
theorem inP_D (r : Option Nat) (w : World) (B g n c c2 m b off : Nat) (A : Option Addr) (s p : List ByteArray) (y : ByteArray) (hu : Bun r w w B g A n c s (.slice (some ⟨b, off, none⟩) (m + 1) c2) p) (hcy : w.cell? ⟨b, off + m, none⟩ = some (.string y)) (hg : B ≤ g) (hn : n ≤ 9223372036854775807) (hm : m ≤ 100000) (hp : p.length ≤ 100000) (hcg : (y.toList == [99, 111, 108, 103, 114, 111, 117, 112]) = false) (h_tab : (y.toList == [116, 97, 98, 108, 101]) = false) (h_grp : groupB y = false) (h_tr : (y.toList == [116, 114]) = false) (h_lst : listB y = false) (h_dl : (y.toList == [100, 108]) = true) (Q : Ending → World → Prop)
    (FIN : ∀ w' pv, Bun r w w' B g A n c s pv (p ++ [s_dd]) → Q (.returned (.tuple #[])) w') : Calls Tryd.prog 56 #[.pointer (some ⟨g, 0, none⟩)] w Q := by
  obtain ⟨i0, hi, hz0, hz1, hz2⟩ := info_parts infoStr
  have e0 := hu.k.c0
  have f0 := hu.k.c1
  have ef := hu.k.fz 0
  have ef0 := hu.k.fz 1
  have HF := Lib.hid FIN
  clear FIN
  go_enter Tryd.func56, Tryd.ntmps56
  go_wp2_with (first | (go_at_call 53; refine (topC _ (hu.a.rd hu.z) hn).mono ?_; rintro e w' ⟨rfl, rfl⟩))
  go_quiet (fail)
  have hu := hu.drew nq
  have e0 := hu.k.c0
  have f0 := hu.k.c1
  have ef := hu.k.fz 0
  have ef0 := hu.k.fz 1
  go_wp2_with (first | (go_at_call 53; refine (topC _ (hu.a.rd hu.z) hn).mono ?_; rintro e w' ⟨rfl, rfl⟩) | (go_at_call 54; refine (groupC _ _).mono ?_; rintro e w' ⟨rfl, rfl⟩) | (go_at_call 55; refine (listC _ _).mono ?_; rintro e w' ⟨rfl, rfl⟩) | (at_builtin; refine wpList_append_src _ rfl (.tmp 110) (.tmp 111) 25 rfl B 9 i0 (.string ByteArray.empty) 1 16 Tryd.underlying25 hi hz0 hz1 hz2 rfl (by decide) _ _ _ rfl (hu.o.alloc _) (some ⟨_, 0, none⟩) 1 1 [.string s_dd] rfl rfl (one_src _ _ _ _ (by simp)) (Lb.one_cell rfl) (len_max (by (try simp only [List.length_append, List.length_cons, List.length_nil]); omega)) (len_by (by (try simp only [List.length_append, List.length_cons, List.length_nil]); omega)) (le_alloc hu.z _) ?_; intro v' w1 hown' hgrow hrow; obtain ⟨A', m', c', rfl⟩ := slice_of hown'; obtain ⟨hw1, hu⟩ := hu.step hg hown' hgrow hrow; have e1 := hw1.c1; have ef1 := hw1.fz 1; have e2 := hu.k.c1; have ef2 := hu.k.fz 1; clear hown' hgrow hw1 hrow))
  go_end0
  exact HF.out _ _ (by simpa using hu)

set_option maxHeartbeats 1600000 in
set_option maxRecDepth 100000 in
theorem inP_Oc (r : Option Nat) (w : World) (B g n c c2 m b off : Nat) (A : Option Addr) (s p : List ByteArray) (y : ByteArray) (hu : Bun r w w B g A n c s (.slice (some ⟨b, off, none⟩) (m + 1) c2) p) (hcy : w.cell? ⟨b, off + m, none⟩ = some (.string y)) (hg : B ≤ g) (hn : n ≤ 9223372036854775807) (hm : m ≤ 100000) (hp : p.length ≤ 100000) (hcg : (y.toList == [99, 111, 108, 103, 114, 111, 117, 112]) = true) (h_tab : (y.toList == [116, 97, 98, 108, 101]) = false) (h_grp : groupB y = false) (h_tr : (y.toList == [116, 114]) = false) (h_lst : listB y = false) (h_dl : (y.toList == [100, 108]) = false) (Q : Ending → World → Prop)
    (FIN : ∀ w' pv, Bun r w w' B g A n c s pv (p ++ []) → Q (.returned (.tuple #[])) w') : Calls Tryd.prog 56 #[.pointer (some ⟨g, 0, none⟩)] w Q := by
  obtain ⟨i0, hi, hz0, hz1, hz2⟩ := info_parts infoStr
  have e0 := hu.k.c0
  have f0 := hu.k.c1
  have ef := hu.k.fz 0
  have ef0 := hu.k.fz 1
  have HF := Lib.hid FIN
  clear FIN
  go_enter Tryd.func56, Tryd.ntmps56
  go_wp2_with (first | (go_at_call 53; refine (topC _ (hu.a.rd hu.z) hn).mono ?_; rintro e w' ⟨rfl, rfl⟩))
  go_quiet (fail)
  have hu := hu.drew nq
  have e0 := hu.k.c0
  have f0 := hu.k.c1
  have ef := hu.k.fz 0
  have ef0 := hu.k.fz 1
  go_wp2_with (first | (go_at_call 53; refine (topC _ (hu.a.rd hu.z) hn).mono ?_; rintro e w' ⟨rfl, rfl⟩) | (go_at_call 54; refine (groupC _ _).mono ?_; rintro e w' ⟨rfl, rfl⟩) | (go_at_call 55; refine (listC _ _).mono ?_; rintro e w' ⟨rfl, rfl⟩))
  go_end0
  exact HF.out _ _ (by simpa using hu)

set_option maxHeartbeats 1600000 in
set_option maxRecDepth 100000 in
theorem inP_O (r : Option Nat) (w : World) (B g n c c2 m b off : Nat) (A : Option Addr) (s p : List ByteArray) (y : ByteArray) (hu : Bun r w w B g A n c s (.slice (some ⟨b, off, none⟩) (m + 1) c2) p) (hcy : w.cell? ⟨b, off + m, none⟩ = some (.string y)) (hg : B ≤ g) (hn : n ≤ 9223372036854775807) (hm : m ≤ 100000) (hp : p.length ≤ 100000) (hcg : (y.toList == [99, 111, 108, 103, 114, 111, 117, 112]) = false) (h_tab : (y.toList == [116, 97, 98, 108, 101]) = false) (h_grp : groupB y = false) (h_tr : (y.toList == [116, 114]) = false) (h_lst : listB y = false) (h_dl : (y.toList == [100, 108]) = false) (Q : Ending → World → Prop)
    (FIN : ∀ w' pv, Bun r w w' B g A n c s pv (p ++ []) → Q (.returned (.tuple #[])) w') : Calls Tryd.prog 56 #[.pointer (some ⟨g, 0, none⟩)] w Q := by
  obtain ⟨i0, hi, hz0, hz1, hz2⟩ := info_parts infoStr
  have e0 := hu.k.c0
  have f0 := hu.k.c1
  have ef := hu.k.fz 0
  have ef0 := hu.k.fz 1
  have HF := Lib.hid FIN
  clear FIN
  go_enter Tryd.func56, Tryd.ntmps56
  go_wp2_with (first | (go_at_call 53; refine (topC _ (hu.a.rd hu.z) hn).mono ?_; rintro e w' ⟨rfl, rfl⟩))
  go_quiet (fail)
  have hu := hu.drew nq
  have e0 := hu.k.c0
  have f0 := hu.k.c1
  have ef := hu.k.fz 0
  have ef0 := hu.k.fz 1
  go_wp2_with (first | (go_at_call 53; refine (topC _ (hu.a.rd hu.z) hn).mono ?_; rintro e w' ⟨rfl, rfl⟩) | (go_at_call 54; refine (groupC _ _).mono ?_; rintro e w' ⟨rfl, rfl⟩) | (go_at_call 55; refine (listC _ _).mono ?_; rintro e w' ⟨rfl, rfl⟩))
  go_end0
  exact HF.out _ _ (by simpa using hu)

set_option maxHeartbeats 1600000 in
set_option maxRecDepth 100000 in
theorem inQ_T (r : Option Nat) (w : World) (B g n c c2 : Nat) (A A2 : Option Addr) (s : List ByteArray) (y : ByteArray) (hy : topS s = y) (hu : Bun r w w B g A n c s (.slice A2 0 c2) []) (hg : B ≤ g) (hn : n ≤ 9223372036854775807) (hcg : (y.toList == [99, 111, 108, 103, 114, 111, 117, 112]) = false) (h_tab : (y.toList == [116, 97, 98, 108, 101]) = true) (Q : Ending → World → Prop)
    (FIN : ∀ w' pv, Bun r w w' B g A n c s pv [s_tbody, s_tr, s_td] → Q (.returned (.tuple #[])) w') : Calls Tryd.prog 56 #[.pointer (some ⟨g, 0, none⟩)] w Q := by
  obtain ⟨i0, hi, hz0, hz1, hz2⟩ := info_parts infoStr
  have e0 := hu.k.c0
  have f0 := hu.k.c1
  have ef := hu.k.fz 0
  have ef0 := hu.k.fz 1
  have HT := topC (c := c) w (hu.a.rd hu.z) hn
  rw [hy] at HT
  have HT := Lib.hid HT
  have HF := Lib.hid FIN
  clear FIN hy
  go_enter Tryd.func56, Tryd.ntmps56
  go_wp2_with (first | (go_at_call 53; refine HT.out.mono ?_; rintro e w' ⟨rfl, rfl⟩) | (go_at_call 54; refine (groupC _ _).mono ?_; rintro e w' ⟨rfl, rfl⟩) | (go_at_call 55; refine (listC _ _).mono ?_; rintro e w' ⟨rfl, rfl⟩) | (at_builtin; refine wpList_append_src _ rfl (.tmp 74) (.tmp 75) 25 rfl B 9 i0 (.string ByteArray.empty) 1 16 Tryd.underlying25 hi hz0 hz1 hz2 rfl (by decide) _ _ _ rfl (hu.o.alloc _) (some ⟨_, 0, none⟩) 1 1 [.string s_tbody] rfl rfl (one_src _ _ _ _ (by simp)) (Lb.one_cell rfl) (len_max (by (try simp only [List.length_append, List.length_cons, List.length_nil]); omega)) (len_by (by (try simp only [List.length_append, List.length_cons, List.length_nil]); omega)) (le_alloc hu.z _) ?_; intro v' w1 hown' hgrow hrow; obtain ⟨A', m', c', rfl⟩ := slice_of hown'; obtain ⟨hw1, hu⟩ := hu.step hg hown' hgrow hrow; have e1 := hw1.c1; have ef1 := hw1.fz 1; have e2 := hu.k.c1; have ef2 := hu.k.fz 1; clear hown' hgrow hw1 hrow) | (at_builtin; refine wpList_append_src _ rfl (.tmp 83) (.tmp 84) 25 rfl B 9 i0 (.string ByteArray.empty) 1 16 Tryd.underlying25 hi hz0 hz1 hz2 rfl (by decide) _ _ _ rfl (hu.o.alloc _) (some ⟨_, 0, none⟩) 1 1 [.string s_tr] rfl rfl (one_src _ _ _ _ (by simp)) (Lb.one_cell rfl) (len_max (by (try simp only [List.length_append, List.length_cons, List.length_nil]); omega)) (len_by (by (try simp only [List.length_append, List.length_cons, List.length_nil]); omega)) (le_alloc hu.z _) ?_; intro v' w1 hown' hgrow hrow; obtain ⟨A', m', c', rfl⟩ := slice_of hown'; obtain ⟨hw1, hu⟩ := hu.step hg hown' hgrow hrow; have e1 := hw1.c1; have ef1 := hw1.fz 1; have e2 := hu.k.c1; have ef2 := hu.k.fz 1; clear hown' hgrow hw1 hrow) | (at_builtin; refine wpList_append_src _ rfl (.tmp 92) (.tmp 93) 25 rfl B 9 i0 (.string ByteArray.empty) 1 16 Tryd.underlying25 hi hz0 hz1 hz2 rfl (by decide) _ _ _ rfl (hu.o.alloc _) (some ⟨_, 0, none⟩) 1 1 [.string s_td] rfl rfl (one_src _ _ _ _ (by simp)) (Lb.one_cell rfl) (len_max (by (try simp only [List.length_append, List.length_cons, List.length_nil]); omega)) (len_by (by (try simp only [List.length_append, List.length_cons, List.length_nil]); omega)) (le_alloc hu.z _) ?_; intro v' w1 hown' hgrow hrow; obtain ⟨A', m', c', rfl⟩ := slice_of hown'; obtain ⟨hw1, hu⟩ := hu.step hg hown' hgrow hrow; have e1 := hw1.c1; have ef1 := hw1.fz 1; have e2 := hu.k.c1; have ef2 := hu.k.fz 1; clear hown' hgrow hw1 hrow))
  go_end0
  exact HF.out _ _ (by simpa using hu)

set_option maxHeartbeats 1600000 in
set_option maxRecDepth 100000 in
theorem inQ_G (r : Option Nat) (w : World) (B g n c c2 : Nat) (A A2 : Option Addr) (s : List ByteArray) (y : ByteArray) (hy : topS s = y) (hu : Bun r w w B g A n c s (.slice A2 0 c2) []) (hg : B ≤ g) (hn : n ≤ 9223372036854775807) (hcg : (y.toList == [99, 111, 108, 103, 114, 111, 117, 112]) = false) (h_tab : (y.toList == [116, 97, 98, 108, 101]) = false) (h_grp : groupB y = true) (Q : Ending → World → Prop)
    (FIN : ∀ w' pv, Bun r w w' B g A n c s pv [s_tr, s_td] → Q (.returned (.tuple #[])) w') : Calls Tryd.prog 56 #[.pointer (some ⟨g, 0, none⟩)] w Q := by
  obtain ⟨i0, hi, hz0, hz1, hz2⟩ := info_parts infoStr
  have e0 := hu.k.c0
  have f0 := hu.k.c1
  have ef := hu.k.fz 0
  have ef0 := hu.k.fz 1
  have HT := topC (c := c) w (hu.a.rd hu.z) hn
  rw [hy] at HT
  have HT := Lib.hid HT
  have HF := Lib.hid FIN
  clear FIN hy
  go_enter Tryd.func56, Tryd.ntmps56
  go_wp2_with (first | (go_at_call 53; refine HT.out.mono ?_; rintro e w' ⟨rfl, rfl⟩) | (go_at_call 54; refine (groupC _ _).mono ?_; rintro e w' ⟨rfl, rfl⟩) | (go_at_call 55; refine (listC _ _).mono ?_; rintro e w' ⟨rfl, rfl⟩) | (at_builtin; refine wpList_append_src _ rfl (.tmp 83) (.tmp 84) 25 rfl B 9 i0 (.string ByteArray.empty) 1 16 Tryd.underlying25 hi hz0 hz1 hz2 rfl (by decide) _ _ _ rfl (hu.o.alloc _) (some ⟨_, 0, none⟩) 1 1 [.string s_tr] rfl rfl (one_src _ _ _ _ (by simp)) (Lb.one_cell rfl) (len_max (by (try simp only [List.length_append, List.length_cons, List.length_nil]); omega)) (len_by (by (try simp only [List.length_append, List.length_cons, List.length_nil]); omega)) (le_alloc hu.z _) ?_; intro v' w1 hown' hgrow hrow; obtain ⟨A', m', c', rfl⟩ := slice_of hown'; obtain ⟨hw1, hu⟩ := hu.step hg hown' hgrow hrow; have e1 := hw1.c1; have ef1 := hw1.fz 1; have e2 := hu.k.c1; have ef2 := hu.k.fz 1; clear hown' hgrow hw1 hrow) | (at_builtin; refine wpList_append_src _ rfl (.tmp 92) (.tmp 93) 25 rfl B 9 i0 (.string ByteArray.empty) 1 16 Tryd.underlying25 hi hz0 hz1 hz2 rfl (by decide) _ _ _ rfl (hu.o.alloc _) (some ⟨_, 0, none⟩) 1 1 [.string s_td] rfl rfl (one_src _ _ _ _ (by simp)) (Lb.one_cell rfl) (len_max (by (try simp only [List.length_append, List.length_cons, List.length_nil]); omega)) (len_by (by (try simp only [List.length_append, List.length_cons, List.length_nil]); omega)) (le_alloc hu.z _) ?_; intro v' w1 hown' hgrow hrow; obtain ⟨A', m', c', rfl⟩ := slice_of hown'; obtain ⟨hw1, hu⟩ := hu.step hg hown' hgrow hrow; have e1 := hw1.c1; have ef1 := hw1.fz 1; have e2 := hu.k.c1; have ef2 := hu.k.fz 1; clear hown' hgrow hw1 hrow))
  go_end0
  exact HF.out _ _ (by simpa using hu)

set_option maxHeartbeats 1600000 in
set_option maxRecDepth 100000 in
theorem inQ_R (r : Option Nat) (w : World) (B g n c c2 : Nat) (A A2 : Option Addr) (s : List ByteArray) (y : ByteArray) (hy : topS s = y) (hu : Bun r w w B g A n c s (.slice A2 0 c2) []) (hg : B ≤ g) (hn : n ≤ 9223372036854775807) (hcg : (y.toList == [99, 111, 108, 103, 114, 111, 117, 112]) = false) (h_tab : (y.toList == [116, 97, 98, 108, 101]) = false) (h_grp : groupB y = false) (h_tr : (y.toList == [116, 114]) = true) (Q : Ending → World → Prop)
    (FIN : ∀ w' pv, Bun r w w' B g A n c s pv [s_td] → Q (.returned (.tuple #[])) w') : Calls Tryd.prog 56 #[.pointer (some ⟨g, 0, none⟩)] w Q := by
  obtain ⟨i0, hi, hz0, hz1, hz2⟩ := info_parts infoStr
  have e0 := hu.k.c0
  have f0 := hu.k.c1
  have ef := hu.k.fz 0
  have ef0 := hu.k.fz 1
  have HT := topC (c := c) w (hu.a.rd hu.z) hn
  rw [hy] at HT
  have HT := Lib.hid HT
  have HF := Lib.hid FIN
  clear FIN hy
  go_enter Tryd.func56, Tryd.ntmps56
  go_wp2_with (first | (go_at_call 53; refine HT.out.mono ?_; rintro e w' ⟨rfl, rfl⟩) | (go_at_call 54; refine (groupC _ _).mono ?_; rintro e w' ⟨rfl, rfl⟩) | (go_at_call 55; refine (listC _ _).mono ?_; rintro e w' ⟨rfl, rfl⟩) | (at_builtin; refine wpList_append_src _ rfl (.tmp 92) (.tmp 93) 25 rfl B 9 i0 (.string ByteArray.empty) 1 16 Tryd.underlying25 hi hz0 hz1 hz2 rfl (by decide) _ _ _ rfl (hu.o.alloc _) (some ⟨_, 0, none⟩) 1 1 [.string s_td] rfl rfl (one_src _ _ _ _ (by simp)) (Lb.one_cell rfl) (len_max (by (try simp only [List.length_append, List.length_cons, List.length_nil]); omega)) (len_by (by (try simp only [List.length_append, List.length_cons, List.length_nil]); omega)) (le_alloc hu.z _) ?_; intro v' w1 hown' hgrow hrow; obtain ⟨A', m', c', rfl⟩ := slice_of hown'; obtain ⟨hw1, hu⟩ := hu.step hg hown' hgrow hrow; have e1 := hw1.c1; have ef1 := hw1.fz 1; have e2 := hu.k.c1; have ef2 := hu.k.fz 1; clear hown' hgrow hw1 hrow))
  go_end0
  exact HF.out _ _ (by simpa using hu)

set_option maxHeartbeats 1600000 in
set_option maxRecDepth 100000 in
theorem inQ_L (r : Option Nat) (w : World) (B g n c c2 : Nat) (A A2 : Option Addr) (s : List ByteArray) (y : ByteArray) (hy : topS s = y) (hu : Bun r w w B g A n c s (.slice A2 0 c2) []) (hg : B ≤ g) (hn : n ≤ 9223372036854775807) (hcg : (y.toList == [99, 111, 108, 103, 114, 111, 117, 112]) = false) (h_tab : (y.toList == [116, 97, 98, 108, 101]) = false) (h_grp : groupB y = false) (h_tr : (y.toList == [116, 114]) = false) (h_lst : listB y = true) (Q : Ending → World → Prop)
    (FIN : ∀ w' pv, Bun r w w' B g A n c s pv [s_li] → Q (.returned (.tuple #[])) w') : Calls Tryd.prog 56 #[.pointer (some ⟨g, 0, none⟩)] w Q := by
  obtain ⟨i0, hi, hz0, hz1, hz2⟩ := info_parts infoStr
  have e0 := hu.k.c0
  have f0 := hu.k.c1
  have ef := hu.k.fz 0
  have ef0 := hu.k.fz 1
  have HT := topC (c := c) w (hu.a.rd hu.z) hn
  rw [hy] at HT
  have HT := Lib.hid HT
  have HF := Lib.hid FIN
  clear FIN hy
  go_enter Tryd.func56, Tryd.ntmps56
  go_wp2_with (first | (go_at_call 53; refine HT.out.mono ?_; rintro e w' ⟨rfl, rfl⟩) | (go_at_call 54; refine (groupC _ _).mono ?_; rintro e w' ⟨rfl, rfl⟩) | (go_at_call 55; refine (listC _ _).mono ?_; rintro e w' ⟨rfl, rfl⟩) | (at_builtin; refine wpList_append_src _ rfl (.tmp 101) (.tmp 102) 25 rfl B 9 i0 (.string ByteArray.empty) 1 16 Tryd.underlying25 hi hz0 hz1 hz2 rfl (by decide) _ _ _ rfl (hu.o.alloc _) (some ⟨_, 0, none⟩) 1 1 [.string s_li] rfl rfl (one_src _ _ _ _ (by simp)) (Lb.one_cell rfl) (len_max (by (try simp only [List.length_append, List.length_cons, List.length_nil]); omega)) (len_by (by (try simp only [List.length_append, List.length_cons, List.length_nil]); omega)) (le_alloc hu.z _) ?_; intro v' w1 hown' hgrow hrow; obtain ⟨A', m', c', rfl⟩ := slice_of hown'; obtain ⟨hw1, hu⟩ := hu.step hg hown' hgrow hrow; have e1 := hw1.c1; have ef1 := hw1.fz 1; have e2 := hu.k.c1; have ef2 := hu.k.fz 1; clear hown' hgrow hw1 hrow))
  go_end0
  exact HF.out _ _ (by simpa using hu)

set_option maxHeartbeats 1600000 in
set_option maxRecDepth 100000 in
theorem inQ_D (r : Option Nat) (w : World) (B g n c c2 : Nat) (A A2 : Option Addr) (s : List ByteArray) (y : ByteArray) (hy : topS s = y) (hu : Bun r w w B g A n c s (.slice A2 0 c2) []) (hg : B ≤ g) (hn : n ≤ 9223372036854775807) (hcg : (y.toList == [99, 111, 108, 103, 114, 111, 117, 112]) = false) (h_tab : (y.toList == [116, 97, 98, 108, 101]) = false) (h_grp : groupB y = false) (h_tr : (y.toList == [116, 114]) = false) (h_lst : listB y = false) (h_dl : (y.toList == [100, 108]) = true) (Q : Ending → World → Prop)
    (FIN : ∀ w' pv, Bun r w w' B g A n c s pv [s_dd] → Q (.returned (.tuple #[])) w') : Calls Tryd.prog 56 #[.pointer (some ⟨g, 0, none⟩)] w Q := by
  obtain ⟨i0, hi, hz0, hz1, hz2⟩ := info_parts infoStr
  have e0 := hu.k.c0
  have f0 := hu.k.c1
  have ef := hu.k.fz 0
  have ef0 := hu.k.fz 1
  have HT := topC (c := c) w (hu.a.rd hu.z) hn
  rw [hy] at HT
  have HT := Lib.hid HT
  have HF := Lib.hid FIN
  clear FIN hy
  go_enter Tryd.func56, Tryd.ntmps56
  go_wp2_with (first | (go_at_call 53; refine HT.out.mono ?_; rintro e w' ⟨rfl, rfl⟩) | (go_at_call 54; refine (groupC _ _).mono ?_; rintro e w' ⟨rfl, rfl⟩) | (go_at_call 55; refine (listC _ _).mono ?_; rintro e w' ⟨rfl, rfl⟩) | (at_builtin; refine wpList_append_src _ rfl (.tmp 110) (.tmp 111) 25 rfl B 9 i0 (.string ByteArray.empty) 1 16 Tryd.underlying25 hi hz0 hz1 hz2 rfl (by decide) _ _ _ rfl (hu.o.alloc _) (some ⟨_, 0, none⟩) 1 1 [.string s_dd] rfl rfl (one_src _ _ _ _ (by simp)) (Lb.one_cell rfl) (len_max (by (try simp only [List.length_append, List.length_cons, List.length_nil]); omega)) (len_by (by (try simp only [List.length_append, List.length_cons, List.length_nil]); omega)) (le_alloc hu.z _) ?_; intro v' w1 hown' hgrow hrow; obtain ⟨A', m', c', rfl⟩ := slice_of hown'; obtain ⟨hw1, hu⟩ := hu.step hg hown' hgrow hrow; have e1 := hw1.c1; have ef1 := hw1.fz 1; have e2 := hu.k.c1; have ef2 := hu.k.fz 1; clear hown' hgrow hw1 hrow))
  go_end0
  exact HF.out _ _ (by simpa using hu)

set_option maxHeartbeats 1600000 in
set_option maxRecDepth 100000 in
theorem inQ_O (r : Option Nat) (w : World) (B g n c c2 : Nat) (A A2 : Option Addr) (s : List ByteArray) (y : ByteArray) (hy : topS s = y) (hu : Bun r w w B g A n c s (.slice A2 0 c2) []) (hg : B ≤ g) (hn : n ≤ 9223372036854775807) (hcg : (y.toList == [99, 111, 108, 103, 114, 111, 117, 112]) = false) (h_tab : (y.toList == [116, 97, 98, 108, 101]) = false) (h_grp : groupB y = false) (h_tr : (y.toList == [116, 114]) = false) (h_lst : listB y = false) (h_dl : (y.toList == [100, 108]) = false) (Q : Ending → World → Prop)
    (FIN : ∀ w' pv, Bun r w w' B g A n c s pv [] → Q (.returned (.tuple #[])) w') : Calls Tryd.prog 56 #[.pointer (some ⟨g, 0, none⟩)] w Q := by
  obtain ⟨i0, hi, hz0, hz1, hz2⟩ := info_parts infoStr
  have e0 := hu.k.c0
  have f0 := hu.k.c1
  have ef := hu.k.fz 0
  have ef0 := hu.k.fz 1
  have HT := topC (c := c) w (hu.a.rd hu.z) hn
  rw [hy] at HT
  have HT := Lib.hid HT
  have HF := Lib.hid FIN
  clear FIN hy
  go_enter Tryd.func56, Tryd.ntmps56
  go_wp2_with (first | (go_at_call 53; refine HT.out.mono ?_; rintro e w' ⟨rfl, rfl⟩) | (go_at_call 54; refine (groupC _ _).mono ?_; rintro e w' ⟨rfl, rfl⟩) | (go_at_call 55; refine (listC _ _).mono ?_; rintro e w' ⟨rfl, rfl⟩))
  go_end0
  exact HF.out _ _ (by simpa using hu)

set_option maxHeartbeats 1600000 in
set_option maxRecDepth 100000 in
theorem inR_T (r : Option Nat) (w : World) (B g n c c2 : Nat) (A A2 : Option Addr) (s : List ByteArray) (y0 y : ByteArray) (hy0 : topS s = y0) (hy : topS s.dropLast = y) (hu : Bun r w w B g A (n + 1) c s (.slice A2 0 c2) []) (hg : B ≤ g) (hnc : n + 1 ≤ c) (hn : n + 1 ≤ 9223372036854775807) (hcg : (y0.toList == [99, 111, 108, 103, 114, 111, 117, 112]) = true) (h_tab : (y.toList == [116, 97, 98, 108, 101]) = true) (Q : Ending → World → Prop)
    (FIN : ∀ w' pv, Bun r w w' B g A n c s.dropLast pv [s_tbody, s_tr, s_td] → Q (.returned (.tuple #[])) w') : Calls Tryd.prog 56 #[.pointer (some ⟨g, 0, none⟩)] w Q := by
  obtain ⟨i0, hi, hz0, hz1, hz2⟩ := info_parts infoStr
  have e0 := hu.k.c0
  have f0 := hu.k.c1
  have ef := hu.k.fz 0
  have ef0 := hu.k.fz 1
  have HT := topC (c := c) w (hu.a.rd hu.z) hn
  rw [hy0] at HT
  have HT := Lib.hid HT
  have HF := Lib.hid FIN
  have HY := Lib.hid hy
  clear FIN hy0 hy
  have hu1 := hu.drew 1
  have e0d := hu1.k.c0
  have efd := hu1.k.fz 0
  have f0d := hu1.k.c1
  have hnn : ((n : Int) + 1 - 1) = n := by omega
  go_enter Tryd.func56, Tryd.ntmps56
  go_wp2_with (first | (go_at_call 53; refine HT.out.mono ?_; rintro e w' ⟨rfl, rfl⟩))
  go_region
  all_goals (
    have hu := hu1.cut hg
    have HT := topC (c := c) _ (hu.a.rd hu.z) (by omega)
    rw [HY.out] at HT
    have HT := Lib.hid HT
    have e0 := hu.k.c0
    have f0 := hu.k.c1
    have ef := hu.k.fz 0
    have ef0 := hu.k.fz 1
    go_wp2_with (first | (go_at_call 53; refine HT.out.mono ?_; rintro e w' ⟨rfl, rfl⟩) | (go_at_call 54; refine (groupC _ _).mono ?_; rintro e w' ⟨rfl, rfl⟩) | (go_at_call 55; refine (listC _ _).mono ?_; rintro e w' ⟨rfl, rfl⟩) | (at_builtin; refine wpList_append_src _ rfl (.tmp 74) (.tmp 75) 25 rfl B 9 i0 (.string ByteArray.empty) 1 16 Tryd.underlying25 hi hz0 hz1 hz2 rfl (by decide) _ _ _ rfl (hu.o.alloc _) (some ⟨_, 0, none⟩) 1 1 [.string s_tbody] rfl rfl (one_src _ _ _ _ (by simp)) (Lb.one_cell rfl) (len_max (by (try simp only [List.length_append, List.length_cons, List.length_nil]); omega)) (len_by (by (try simp only [List.length_append, List.length_cons, List.length_nil]); omega)) (le_alloc hu.z _) ?_; intro v' w1 hown' hgrow hrow; obtain ⟨A', m', c', rfl⟩ := slice_of hown'; obtain ⟨hw1, hu⟩ := hu.step hg hown' hgrow hrow; have e1 := hw1.c1; have ef1 := hw1.fz 1; have e2 := hu.k.c1; have ef2 := hu.k.fz 1; clear hown' hgrow hw1 hrow) | (at_builtin; refine wpList_append_src _ rfl (.tmp 83) (.tmp 84) 25 rfl B 9 i0 (.string ByteArray.empty) 1 16 Tryd.underlying25 hi hz0 hz1 hz2 rfl (by decide) _ _ _ rfl (hu.o.alloc _) (some ⟨_, 0, none⟩) 1 1 [.string s_tr] rfl rfl (one_src _ _ _ _ (by simp)) (Lb.one_cell rfl) (len_max (by (try simp only [List.length_append, List.length_cons, List.length_nil]); omega)) (len_by (by (try simp only [List.length_append, List.length_cons, List.length_nil]); omega)) (le_alloc hu.z _) ?_; intro v' w1 hown' hgrow hrow; obtain ⟨A', m', c', rfl⟩ := slice_of hown'; obtain ⟨hw1, hu⟩ := hu.step hg hown' hgrow hrow; have e1 := hw1.c1; have ef1 := hw1.fz 1; have e2 := hu.k.c1; have ef2 := hu.k.fz 1; clear hown' hgrow hw1 hrow) | (at_builtin; refine wpList_append_src _ rfl (.tmp 92) (.tmp 93) 25 rfl B 9 i0 (.string ByteArray.empty) 1 16 Tryd.underlying25 hi hz0 hz1 hz2 rfl (by decide) _ _ _ rfl (hu.o.alloc _) (some ⟨_, 0, none⟩) 1 1 [.string s_td] rfl rfl (one_src _ _ _ _ (by simp)) (Lb.one_cell rfl) (len_max (by (try simp only [List.length_append, List.length_cons, List.length_nil]); omega)) (len_by (by (try simp only [List.length_append, List.length_cons, List.length_nil]); omega)) (le_alloc hu.z _) ?_; intro v' w1 hown' hgrow hrow; obtain ⟨A', m', c', rfl⟩ := slice_of hown'; obtain ⟨hw1, hu⟩ := hu.step hg hown' hgrow hrow; have e1 := hw1.c1; have ef1 := hw1.fz 1; have e2 := hu.k.c1; have ef2 := hu.k.fz 1; clear hown' hgrow hw1 hrow))
    go_end0
    exact HF.out _ _ (by simpa using hu))

set_option maxHeartbeats 1600000 in
set_option maxRecDepth 100000 in
theorem inR_G (r : Option Nat) (w : World) (B g n c c2 : Nat) (A A2 : Option Addr) (s : List ByteArray) (y0 y : ByteArray) (hy0 : topS s = y0) (hy : topS s.dropLast = y) (hu : Bun r w w B g A (n + 1) c s (.slice A2 0 c2) []) (hg : B ≤ g) (hnc : n + 1 ≤ c) (hn : n + 1 ≤ 9223372036854775807) (hcg : (y0.toList == [99, 111, 108, 103, 114, 111, 117, 112]) = true) (h_tab : (y.toList == [116, 97, 98, 108, 101]) = false) (h_grp : groupB y = true) (Q : Ending → World → Prop)
    (FIN : ∀ w' pv, Bun r w w' B g A n c s.dropLast pv [s_tr, s_td] → Q (.returned (.tuple #[])) w') : Calls Tryd.prog 56 #[.pointer (some ⟨g, 0, none⟩)] w Q := by
  obtain ⟨i0, hi, hz0, hz1, hz2⟩ := info_parts infoStr
  have e0 := hu.k.c0
  have f0 := hu.k.c1
  have ef := hu.k.fz 0
  have ef0 := hu.k.fz 1
  have HT := topC (c := c) w (hu.a.rd hu.z) hn
  rw [hy0] at HT
  have HT := Lib.hid HT
  have HF := Lib.hid FIN
  have HY := Lib.hid hy
  clear FIN hy0 hy
  have hu1 := hu.drew 1
  have e0d := hu1.k.c0
  have efd := hu1.k.fz 0
  have f0d := hu1.k.c1
  have hnn : ((n : Int) + 1 - 1) = n := by omega
  go_enter Tryd.func56, Tryd.ntmps56
  go_wp2_with (first | (go_at_call 53; refine HT.out.mono ?_; rintro e w' ⟨rfl, rfl⟩))
  go_region
  all_goals (
    have hu := hu1.cut hg
    have HT := topC (c := c) _ (hu.a.rd hu.z) (by omega)
    rw [HY.out] at HT
    have HT := Lib.hid HT
    have e0 := hu.k.c0
    have f0 := hu.k.c1
    have ef := hu.k.fz 0
    have ef0 := hu.k.fz 1
    go_wp2_with (first | (go_at_call 53; refine HT.out.mono ?_; rintro e w' ⟨rfl, rfl⟩) | (go_at_call 54; refine (groupC _ _).mono ?_; rintro e w' ⟨rfl, rfl⟩) | (go_at_call 55; refine (listC _ _).mono ?_; rintro e w' ⟨rfl, rfl⟩) | (at_builtin; refine wpList_append_src _ rfl (.tmp 83) (.tmp 84) 25 rfl B 9 i0 (.string ByteArray.empty) 1 16 Tryd.underlying25 hi hz0 hz1 hz2 rfl (by decide) _ _ _ rfl (hu.o.alloc _) (some ⟨_, 0, none⟩) 1 1 [.string s_tr] rfl rfl (one_src _ _ _ _ (by simp)) (Lb.one_cell rfl) (len_max (by (try simp only [List.length_append, List.length_cons, List.length_nil]); omega)) (len_by (by (try simp only [List.length_append, List.length_cons, List.length_nil]); omega)) (le_alloc hu.z _) ?_; intro v' w1 hown' hgrow hrow; obtain ⟨A', m', c', rfl⟩ := slice_of hown'; obtain ⟨hw1, hu⟩ := hu.step hg hown' hgrow hrow; have e1 := hw1.c1; have ef1 := hw1.fz 1; have e2 := hu.k.c1; have ef2 := hu.k.fz 1; clear hown' hgrow hw1 hrow) | (at_builtin; refine wpList_append_src _ rfl (.tmp 92) (.tmp 93) 25 rfl B 9 i0 (.string ByteArray.empty) 1 16 Tryd.underlying25 hi hz0 hz1 hz2 rfl (by decide) _ _ _ rfl (hu.o.alloc _) (some ⟨_, 0, none⟩) 1 1 [.string s_td] rfl rfl (one_src _ _ _ _ (by simp)) (Lb.one_cell rfl) (len_max (by (try simp only [List.length_append, List.length_cons, List.length_nil]); omega)) (len_by (by (try simp only [List.length_append, List.length_cons, List.length_nil]); omega)) (le_alloc hu.z _) ?_; intro v' w1 hown' hgrow hrow; obtain ⟨A', m', c', rfl⟩ := slice_of hown'; obtain ⟨hw1, hu⟩ := hu.step hg hown' hgrow hrow; have e1 := hw1.c1; have ef1 := hw1.fz 1; have e2 := hu.k.c1; have ef2 := hu.k.fz 1; clear hown' hgrow hw1 hrow))
    go_end0
    exact HF.out _ _ (by simpa using hu))

set_option maxHeartbeats 1600000 in
set_option maxRecDepth 100000 in
theorem inR_R (r : Option Nat) (w : World) (B g n c c2 : Nat) (A A2 : Option Addr) (s : List ByteArray) (y0 y : ByteArray) (hy0 : topS s = y0) (hy : topS s.dropLast = y) (hu : Bun r w w B g A (n + 1) c s (.slice A2 0 c2) []) (hg : B ≤ g) (hnc : n + 1 ≤ c) (hn : n + 1 ≤ 9223372036854775807) (hcg : (y0.toList == [99, 111, 108, 103, 114, 111, 117, 112]) = true) (h_tab : (y.toList == [116, 97, 98, 108, 101]) = false) (h_grp : groupB y = false) (h_tr : (y.toList == [116, 114]) = true) (Q : Ending → World → Prop)
    (FIN : ∀ w' pv, Bun r w w' B g A n c s.dropLast pv [s_td] → Q (.returned (.tuple #[])) w') : Calls Tryd.prog 56 #[.pointer (some ⟨g, 0, none⟩)] w Q := by
  obtain ⟨i0, hi, hz0, hz1, hz2⟩ := info_parts infoStr
  have e0 := hu.k.c0
  have f0 := hu.k.c1
  have ef := hu.k.fz 0
  have ef0 := hu.k.fz 1
  have HT := topC (c := c) w (hu.a.rd hu.z) hn
  rw [hy0] at HT
  have HT := Lib.hid HT
  have HF := Lib.hid FIN
  have HY := Lib.hid hy
  clear FIN hy0 hy
  have hu1 := hu.drew 1
  have e0d := hu1.k.c0
  have efd := hu1.k.fz 0
  have f0d := hu1.k.c1
  have hnn : ((n : Int) + 1 - 1) = n := by omega
  go_enter Tryd.func56, Tryd.ntmps56
  go_wp2_with (first | (go_at_call 53; refine HT.out.mono ?_; rintro e w' ⟨rfl, rfl⟩))
  go_region
  all_goals (
    have hu := hu1.cut hg
    have HT := topC (c := c) _ (hu.a.rd hu.z) (by omega)
    rw [HY.out] at HT
    have HT := Lib.hid HT
    have e0 := hu.k.c0
    have f0 := hu.k.c1
    have ef := hu.k.fz 0
    have ef0 := hu.k.fz 1
    go_wp2_with (first | (go_at_call 53; refine HT.out.mono ?_; rintro e w' ⟨rfl, rfl⟩) | (go_at_call 54; refine (groupC _ _).mono ?_; rintro e w' ⟨rfl, rfl⟩) | (go_at_call 55; refine (listC _ _).mono ?_; rintro e w' ⟨rfl, rfl⟩) | (at_builtin; refine wpList_append_src _ rfl (.tmp 92) (.tmp 93) 25 rfl B 9 i0 (.string ByteArray.empty) 1 16 Tryd.underlying25 hi hz0 hz1 hz2 rfl (by decide) _ _ _ rfl (hu.o.alloc _) (some ⟨_, 0, none⟩) 1 1 [.string s_td] rfl rfl (one_src _ _ _ _ (by simp)) (Lb.one_cell rfl) (len_max (by (try simp only [List.length_append, List.length_cons, List.length_nil]); omega)) (len_by (by (try simp only [List.length_append, List.length_cons, List.length_nil]); omega)) (le_alloc hu.z _) ?_; intro v' w1 hown' hgrow hrow; obtain ⟨A', m', c', rfl⟩ := slice_of hown'; obtain ⟨hw1, hu⟩ := hu.step hg hown' hgrow hrow; have e1 := hw1.c1; have ef1 := hw1.fz 1; have e2 := hu.k.c1; have ef2 := hu.k.fz 1; clear hown' hgrow hw1 hrow))
    go_end0
    exact HF.out _ _ (by simpa using hu))

set_option maxHeartbeats 1600000 in
set_option maxRecDepth 100000 in
theorem inR_L (r : Option Nat) (w : World) (B g n c c2 : Nat) (A A2 : Option Addr) (s : List ByteArray) (y0 y : ByteArray) (hy0 : topS s = y0) (hy : topS s.dropLast = y) (hu : Bun r w w B g A (n + 1) c s (.slice A2 0 c2) []) (hg : B ≤ g) (hnc : n + 1 ≤ c) (hn : n + 1 ≤ 9223372036854775807) (hcg : (y0.toList == [99, 111, 108, 103, 114, 111, 117, 112]) = true) (h_tab : (y.toList == [116, 97, 98, 108, 101]) = false) (h_grp : groupB y = false) (h_tr : (y.toList == [116, 114]) = false) (h_lst : listB y = true) (Q : Ending → World → Prop)
    (FIN : ∀ w' pv, Bun r w w' B g A n c s.dropLast pv [s_li] → Q (.returned (.tuple #[])) w') : Calls Tryd.prog 56 #[.pointer (some ⟨g, 0, none⟩)] w Q := by
  obtain ⟨i0, hi, hz0, hz1, hz2⟩ := info_parts infoStr
  have e0 := hu.k.c0
  have f0 := hu.k.c1
  have ef := hu.k.fz 0
  have ef0 := hu.k.fz 1
  have HT := topC (c := c) w (hu.a.rd hu.z) hn
  rw [hy0] at HT
  have HT := Lib.hid HT
  have HF := Lib.hid FIN
  have HY := Lib.hid hy
  clear FIN hy0 hy
  have hu1 := hu.drew 1
  have e0d := hu1.k.c0
  have efd := hu1.k.fz 0
  have f0d := hu1.k.c1
  have hnn : ((n : Int) + 1 - 1) = n := by omega
  go_enter Tryd.func56, Tryd.ntmps56
  go_wp2_with (first | (go_at_call 53; refine HT.out.mono ?_; rintro e w' ⟨rfl, rfl⟩))
  go_region
  all_goals (
    have hu := hu1.cut hg
    have HT := topC (c := c) _ (hu.a.rd hu.z) (by omega)
    rw [HY.out] at HT
    have HT := Lib.hid HT
    have e0 := hu.k.c0
    have f0 := hu.k.c1
    have ef := hu.k.fz 0
    have ef0 := hu.k.fz 1
    go_wp2_with (first | (go_at_call 53; refine HT.out.mono ?_; rintro e w' ⟨rfl, rfl⟩) | (go_at_call 54; refine (groupC _ _).mono ?_; rintro e w' ⟨rfl, rfl⟩) | (go_at_call 55; refine (listC _ _).mono ?_; rintro e w' ⟨rfl, rfl⟩) | (at_builtin; refine wpList_append_src _ rfl (.tmp 101) (.tmp 102) 25 rfl B 9 i0 (.string ByteArray.empty) 1 16 Tryd.underlying25 hi hz0 hz1 hz2 rfl (by decide) _ _ _ rfl (hu.o.alloc _) (some ⟨_, 0, none⟩) 1 1 [.string s_li] rfl rfl (one_src _ _ _ _ (by simp)) (Lb.one_cell rfl) (len_max (by (try simp only [List.length_append, List.length_cons, List.length_nil]); omega)) (len_by (by (try simp only [List.length_append, List.length_cons, List.length_nil]); omega)) (le_alloc hu.z _) ?_; intro v' w1 hown' hgrow hrow; obtain ⟨A', m', c', rfl⟩ := slice_of hown'; obtain ⟨hw1, hu⟩ := hu.step hg hown' hgrow hrow; have e1 := hw1.c1; have ef1 := hw1.fz 1; have e2 := hu.k.c1; have ef2 := hu.k.fz 1; clear hown' hgrow hw1 hrow))
    go_end0
    exact HF.out _ _ (by simpa using hu))

set_option maxHeartbeats 1600000 in
set_option maxRecDepth 100000 in
theorem inR_D (r : Option Nat) (w : World) (B g n c c2 : Nat) (A A2 : Option Addr) (s : List ByteArray) (y0 y : ByteArray) (hy0 : topS s = y0) (hy : topS s.dropLast = y) (hu : Bun r w w B g A (n + 1) c s (.slice A2 0 c2) []) (hg : B ≤ g) (hnc : n + 1 ≤ c) (hn : n + 1 ≤ 9223372036854775807) (hcg : (y0.toList == [99, 111, 108, 103, 114, 111, 117, 112]) = true) (h_tab : (y.toList == [116, 97, 98, 108, 101]) = false) (h_grp : groupB y = false) (h_tr : (y.toList == [116, 114]) = false) (h_lst : listB y = false) (h_dl : (y.toList == [100, 108]) = true) (Q : Ending → World → Prop)
    (FIN : ∀ w' pv, Bun r w w' B g A n c s.dropLast pv [s_dd] → Q (.returned (.tuple #[])) w') : Calls Tryd.prog 56 #[.pointer (some ⟨g, 0, none⟩)] w Q := by
  obtain ⟨i0, hi, hz0, hz1, hz2⟩ := info_parts infoStr
  have e0 := hu.k.c0
  have f0 := hu.k.c1
  have ef := hu.k.fz 0
  have ef0 := hu.k.fz 1
  have HT := topC (c := c) w (hu.a.rd hu.z) hn
  rw [hy0] at HT
  have HT := Lib.hid HT
  have HF := Lib.hid FIN
  have HY := Lib.hid hy
  clear FIN hy0 hy
  have hu1 := hu.drew 1
  have e0d := hu1.k.c0
  have efd := hu1.k.fz 0
  have f0d := hu1.k.c1
  have hnn : ((n : Int) + 1 - 1) = n := by omega
  go_enter Tryd.func56, Tryd.ntmps56
  go_wp2_with (first | (go_at_call 53; refine HT.out.mono ?_; rintro e w' ⟨rfl, rfl⟩))
  go_region
  all_goals (
    have hu := hu1.cut hg
    have HT := topC (c := c) _ (hu.a.rd hu.z) (by omega)
    rw [HY.out] at HT
    have HT := Lib.hid HT
    have e0 := hu.k.c0
    have f0 := hu.k.c1
    have ef := hu.k.fz 0
    have ef0 := hu.k.fz 1
    go_wp2_with (first | (go_at_call 53; refine HT.out.mono ?_; rintro e w' ⟨rfl, rfl⟩) | (go_at_call 54; refine (groupC _ _).mono ?_; rintro e w' ⟨rfl, rfl⟩) | (go_at_call 55; refine (listC _ _).mono ?_; rintro e w' ⟨rfl, rfl⟩) | (at_builtin; refine wpList_append_src _ rfl (.tmp 110) (.tmp 111) 25 rfl B 9 i0 (.string ByteArray.empty) 1 16 Tryd.underlying25 hi hz0 hz1 hz2 rfl (by decide) _ _ _ rfl (hu.o.alloc _) (some ⟨_, 0, none⟩) 1 1 [.string s_dd] rfl rfl (one_src _ _ _ _ (by simp)) (Lb.one_cell rfl) (len_max (by (try simp only [List.length_append, List.length_cons, List.length_nil]); omega)) (len_by (by (try simp only [List.length_append, List.length_cons, List.length_nil]); omega)) (le_alloc hu.z _) ?_; intro v' w1 hown' hgrow hrow; obtain ⟨A', m', c', rfl⟩ := slice_of hown'; obtain ⟨hw1, hu⟩ := hu.step hg hown' hgrow hrow; have e1 := hw1.c1; have ef1 := hw1.fz 1; have e2 := hu.k.c1; have ef2 := hu.k.fz 1; clear hown' hgrow hw1 hrow))
    go_end0
    exact HF.out _ _ (by simpa using hu))

set_option maxHeartbeats 1600000 in
set_option maxRecDepth 100000 in
theorem inR_O (r : Option Nat) (w : World) (B g n c c2 : Nat) (A A2 : Option Addr) (s : List ByteArray) (y0 y : ByteArray) (hy0 : topS s = y0) (hy : topS s.dropLast = y) (hu : Bun r w w B g A (n + 1) c s (.slice A2 0 c2) []) (hg : B ≤ g) (hnc : n + 1 ≤ c) (hn : n + 1 ≤ 9223372036854775807) (hcg : (y0.toList == [99, 111, 108, 103, 114, 111, 117, 112]) = true) (h_tab : (y.toList == [116, 97, 98, 108, 101]) = false) (h_grp : groupB y = false) (h_tr : (y.toList == [116, 114]) = false) (h_lst : listB y = false) (h_dl : (y.toList == [100, 108]) = false) (Q : Ending → World → Prop)
    (FIN : ∀ w' pv, Bun r w w' B g A n c s.dropLast pv [] → Q (.returned (.tuple #[])) w') : Calls Tryd.prog 56 #[.pointer (some ⟨g, 0, none⟩)] w Q := by
  obtain ⟨i0, hi, hz0, hz1, hz2⟩ := info_parts infoStr
  have e0 := hu.k.c0
  have f0 := hu.k.c1
  have ef := hu.k.fz 0
  have ef0 := hu.k.fz 1
  have HT := topC (c := c) w (hu.a.rd hu.z) hn
  rw [hy0] at HT
  have HT := Lib.hid HT
  have HF := Lib.hid FIN
  have HY := Lib.hid hy
  clear FIN hy0 hy
  have hu1 := hu.drew 1
  have e0d := hu1.k.c0
  have efd := hu1.k.fz 0
  have f0d := hu1.k.c1
  have hnn : ((n : Int) + 1 - 1) = n := by omega
  go_enter Tryd.func56, Tryd.ntmps56
  go_wp2_with (first | (go_at_call 53; refine HT.out.mono ?_; rintro e w' ⟨rfl, rfl⟩))
  go_region
  all_goals (
    have hu := hu1.cut hg
    have HT := topC (c := c) _ (hu.a.rd hu.z) (by omega)
    rw [HY.out] at HT
    have HT := Lib.hid HT
    have e0 := hu.k.c0
    have f0 := hu.k.c1
    have ef := hu.k.fz 0
    have ef0 := hu.k.fz 1
    go_wp2_with (first | (go_at_call 53; refine HT.out.mono ?_; rintro e w' ⟨rfl, rfl⟩) | (go_at_call 54; refine (groupC _ _).mono ?_; rintro e w' ⟨rfl, rfl⟩) | (go_at_call 55; refine (listC _ _).mono ?_; rintro e w' ⟨rfl, rfl⟩))
    go_end0
    exact HF.out _ _ (by simpa using hu))

end Go.Proofs.YtddgpkdhakjjaaaDoor.Wp
