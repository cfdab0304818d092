/- A policy that comes in, opened: what it reads as, how long its lists are, how much it holds. -/
import Derived.Test.YteikagdinecfoaaGreatDoorRows
import Derived.Test.YteikagdinecfoaaGreatDoorBk
import Derived.ProofKit
import Derived.OpenShut
import Derived.Deep.DeepHandedRow
import Derived.Deep.Slices
import Derived.Deep.Fields
import Derived.SizedLaws
import Derived.SliceStrings
set_option linter.unusedVariables false
set_option linter.unusedSimpArgs false
namespace Go.Proofs.YteikagdinecfoaaGreatDoor.Pa
open Go.ChangeShapes Go.WideShapes Go.ChangeAt Go.RowKit Go.Deep Lb Gr Pd Go.Proofs.YteikagdinecfoaaGreatDoor.Pm

theorem cellsStr : Tryz.prog.cellsOf 9 = 1 := by kernel_rfl
theorem bytesStr : Tryz.prog.bytesOf 9 = 16 := by kernel_rfl
theorem cellsWords : Tryz.prog.cellsOf 27 = 1 := by kernel_rfl
theorem cellsKind : Tryz.prog.cellsOf 48 = 1 := by kernel_rfl
theorem cellsRules : Tryz.prog.cellsOf 26 = 1 := by kernel_rfl
theorem cellsEls : Tryz.prog.cellsOf 25 = 1 := by kernel_rfl
theorem cellsRule : Tryz.prog.cellsOf 50 = 3 := by kernel_rfl
theorem cellsEl : Tryz.prog.cellsOf 45 = 2 := by kernel_rfl
theorem bytesRule : Tryz.prog.bytesOf 50 = 48 := by kernel_rfl
theorem bytesEl : Tryz.prog.bytesOf 45 = 40 := by kernel_rfl

theorem add_none (b o j : Nat) : (⟨b, o, none⟩ : Addr).add j = ⟨b, o + j, none⟩ := by unfold Addr.add; split <;> simp_all
theorem add_zero (a : Addr) : a.add 0 = a := by unfold Addr.add; simp
theorem spot_none {W : World} {b o : Nat} {spot : Option Nat} {u : Value} (h : W.cell? ⟨b, o, spot⟩ = some u) : spot = none := by
  cases spot with
  | none => rfl
  | some k =>
    exfalso
    simp only [World.cell?] at h
    split at h <;> simp at h

section
variable {H : Type} {enc : TypeId × Value → H} {W : World}
theorem bulk_map {α : Type} (f : α → DataW H) : ∀ l : List α, Rows.uptoBulkAll (l.map f) = (l.map fun i => Rows.uptoBulk (f i)).sum
  | [] => rfl
  | a :: l => by simp [Rows.uptoBulkAll, bulk_map f l]
theorem weights_all {e : TypeId} : ∀ {ds : List (DataW H)} {d : DataW H}, d ∈ ds → ∀ k ∈ d.weights Tryz.prog e, k ∈ DataW.weightsAll Tryz.prog e ds
  | [], _, h, _, _ => by cases h
  | d0 :: ds, d, h, k, hk => by
    simp only [DataW.weightsAll, List.mem_append]
    rcases List.mem_cons.1 h with rfl | h
    · exact .inl hk
    · exact .inr (weights_all h k hk)
theorem sum_le {α : Type} {f g : α → Nat} : ∀ {l : List α}, (∀ a ∈ l, f a ≤ g a) → (l.map f).sum ≤ (l.map g).sum
  | [], _ => Nat.le_refl _
  | a :: l, h => by
    simp only [List.map_cons, List.sum_cons]
    exact Nat.add_le_add (h a (List.mem_cons_self ..)) (sum_le fun b hb => h b (List.mem_cons_of_mem _ hb))

theorem wf64 {k : Int} (h : (Lit.int .i64 k).wf = true) : -9223372036854775808 ≤ k ∧ k ≤ 9223372036854775807 := by
  unfold Lit.wf at h
  rw [Bool.and_eq_true, decide_eq_true_iff, decide_eq_true_iff] at h
  exact h
/-- a row of structs -/
theorem rows_of {α β : Type} [Inhabited α] (M : Fm α β) {t : TypeId} {fuel : Nat} {v : Value} {x : DataW H × List MemPlace} (good : α → Prop) (bl : α → Nat)
    (ht : Tryz.prog.underlying t = some (.slice M.e)) (hC : Tryz.prog.cellsOf M.e = M.size)
    (hel : ∀ n cs d p, DataW.trod enc Tryz.prog W 0 (fun _ => true) true n M.e cs = some (d, p) → (∀ k ∈ d.weights Tryz.prog M.e, k ≤ reachBytes) → ∃ t : It α, cs = M.enc t.a t.v ∧ M.kd.rd W 0 W.heap.size t.v (M.sub t.a) ∧ good t.a ∧ bl t.a ≤ Rows.uptoBulk d)
    (h : DataW.trod enc Tryz.prog W 0 (fun _ => true) true fuel t [v] = some x) (hw : ∀ k ∈ x.1.weights Tryz.prog t, k ≤ reachBytes) :
    ∃ l, M.rd W 0 W.heap.size v l ∧ l.length * Tryz.prog.bytesOf M.e ≤ reachBytes ∧ (∀ a ∈ l, good a) ∧ (l.map bl).sum + 1 ≤ Rows.uptoBulk x.1 := by
  rcases open_slice ht h with ⟨hcs, rfl⟩ | ⟨a, len, cap, m, n, D, Pl, hcs, _, hl, hm, hmm, rfl, hi⟩
  · injection hcs with hcs _
    subst hcs
    exact ⟨[], M.rd_nil _ _ _, by simp, by simp, by simp [Rows.uptoBulk]⟩
  · injection hcs with hcs _
    subst hcs
    simp only [if_true] at hmm
    subst hmm
    have hw1 : len * Tryz.prog.bytesOf M.e ≤ reachBytes := by
      have : (((List.range len).map D).length + ((List.range (m - len)).map fun j => D (len + j)).length) * Tryz.prog.bytesOf M.e ≤ reachBytes := hw _ (by simp only [DataW.weights, ht]; exact List.mem_cons_self ..)
      refine Nat.le_trans (Nat.mul_le_mul_right _ ?_) this
      simp
    have hw2 : ∀ i, i < len → ∀ k ∈ (D i).weights Tryz.prog M.e, k ≤ reachBytes := fun i hil k hk => hw k (by
      simp only [DataW.weights, ht]
      refine List.mem_cons_of_mem _ (List.mem_append_left _ (weights_all (d := D i) ?_ k hk))
      exact List.mem_map.2 ⟨i, List.mem_range.2 hil, rfl⟩)
    haveI : Inhabited (It α) := ⟨⟨default, .bool false, []⟩⟩
    obtain ⟨V, hV⟩ := choose_lt (n := len) (α := It α) (p := fun i t => (∀ c u, (M.enc t.a t.v)[c]? = some u → W.cell? ((a.add (i * M.size)).add c) = some u) ∧ M.kd.rd W 0 W.heap.size t.v (M.sub t.a) ∧ good t.a ∧ bl t.a ≤ Rows.uptoBulk (D i)) (fun i hil => by
      obtain ⟨cs', h1, h2⟩ := hi i (by omega)
      obtain ⟨tt, rfl, h3, h4, h5⟩ := hel n cs' (D i) (Pl i) h2 (hw2 i hil)
      rw [hC] at h1
      obtain ⟨_, hlen, hat⟩ := World.cells?_some h1
      refine ⟨tt, fun c u hu => ?_, h3, h4, h5⟩
      have hc : c < M.size := by rw [← hlen]; exact (List.getElem?_eq_some_iff.1 hu).1
      rw [hat c hc]; exact hu)
    have hTl : ((List.range len).map V).length = len := by simp
    refine ⟨((List.range len).map V).map (·.a), ⟨(List.range len).map V, rfl, ?_, ?_⟩, by simpa using hw1, ?_, ?_⟩
    · refine ⟨some a, m, by rw [hTl], by rw [hTl]; exact hl, hm, fun hp => ?_⟩
      rw [M.cells_len, hTl] at hp
      have hlen0 : 0 < len := Nat.pos_of_mul_pos_right hp
      obtain ⟨b, off, spot⟩ := a
      have h0 := (hV 0 hlen0).1 0 _ (List.getElem?_eq_getElem (by rw [M.len]; exact M.pos))
      have hsp : spot = none := by
        rw [Nat.zero_mul, add_zero, add_zero] at h0
        exact spot_none h0
      subst hsp
      rw [add_none, add_none] at h0
      refine ⟨b, off, rfl, Nat.zero_le _, World.block_lt_of_cell? (a := ⟨b, _, none⟩) _ h0, fun j u hu => ?_⟩
      have hj : j < len * M.size := by
        have := (List.getElem?_eq_some_iff.1 hu).1
        rwa [M.cells_len, hTl] at this
      have hdm : j / M.size * M.size + j % M.size = j := by rw [Nat.mul_comm]; exact Nat.div_add_mod j M.size
      have hi1 : j / M.size < len := (Nat.div_lt_iff_lt_mul M.pos).2 hj
      rw [← hdm] at hu
      rw [M.cells_at (t := V (j / M.size)) (by rw [List.getElem?_map, List.getElem?_range hi1]; rfl) (Nat.mod_lt _ M.pos)] at hu
      have h1 := (hV _ hi1).1 _ u hu
      rw [add_none, add_none, Nat.add_assoc, hdm] at h1
      exact h1
    · intro t htm
      obtain ⟨i, hir, rfl⟩ := List.mem_map.1 htm
      exact (hV i (List.mem_range.1 hir)).2.1
    · intro z hz
      obtain ⟨t, htm, rfl⟩ := List.mem_map.1 hz
      obtain ⟨i, hir, rfl⟩ := List.mem_map.1 htm
      exact (hV i (List.mem_range.1 hir)).2.2.1
    · simp only [Rows.uptoBulk]
      rw [bulk_map D]
      have h3 : ((((List.range len).map V).map (·.a)).map bl).sum ≤ ((List.range len).map fun i => Rows.uptoBulk (D i)).sum := by
        rw [List.map_map, List.map_map]
        exact sum_le fun i hir => (hV i (List.mem_range.1 hir)).2.2.2
      omega

/-- a list of texts: how much it holds -/
def bT (l : List ByteArray) : Nat := (l.map fun s => s.size + 1).sum + 1
def SzT (l : List ByteArray) : Prop := l.length * 16 ≤ reachBytes ∧ ∀ s ∈ l, s.size ≤ reachBytes
theorem texts_of {fuel : Nat} {v : Value} {x : DataW H × List MemPlace} (h : DataW.trod enc Tryz.prog W 0 (fun _ => true) true fuel 27 [v] = some x) (hw : ∀ k ∈ x.1.weights Tryz.prog 27, k ≤ reachBytes) :
    ∃ l, kdW.rd W 0 W.heap.size v l ∧ SzT l ∧ bT l ≤ Rows.uptoBulk x.1 := by
  have ht : Tryz.prog.underlying 27 = some (.slice 9) := Tryz.underlying27
  rcases open_slice1 ht cellsStr h with ⟨hcs, rfl⟩ | ⟨a, len, cap, m, n, V, D, Pl, hcs, _, hl, hm, hmm, rfl, hi⟩
  · injection hcs with hcs _
    subst hcs
    exact ⟨[], ⟨none, 0, rfl, Nat.le_refl _, by simp, fun h => by simp at h⟩, ⟨by simp [reachBytes], by simp⟩, by simp [bT, Rows.uptoBulk]⟩
  · injection hcs with hcs _
    subst hcs
    simp only [if_true] at hmm
    subst hmm
    have hw1 : len * 16 ≤ reachBytes := by
      have : (((List.range len).map D).length + ((List.range (m - len)).map fun j => D (len + j)).length) * Tryz.prog.bytesOf 9 ≤ reachBytes := hw _ (by simp only [DataW.weights, ht]; exact List.mem_cons_self ..)
      rw [bytesStr] at this
      refine Nat.le_trans (Nat.mul_le_mul_right _ ?_) this
      simp
    have hw2 : ∀ i, i < len → ∀ k ∈ (D i).weights Tryz.prog 9, k ≤ reachBytes := fun i hil k hk => hw k (by
      simp only [DataW.weights, ht]
      refine List.mem_cons_of_mem _ (List.mem_append_left _ (weights_all (d := D i) ?_ k hk))
      exact List.mem_map.2 ⟨i, List.mem_range.2 hil, rfl⟩)
    obtain ⟨S, hS⟩ := choose_lt (n := len) (α := ByteArray) (p := fun i s => W.cell? (a.add i) = some (.string s) ∧ s.size ≤ reachBytes ∧ s.size + 1 ≤ Rows.uptoBulk (D i)) (fun i hil => by
      obtain ⟨h1, h2⟩ := hi i (by omega)
      obtain ⟨s, hs1, hs2, _⟩ := DataW.trod_string Tryz.underlying9 h2
      injection hs1 with hs1 _
      have hd : D i = .lit (.string s.data.toList) := congrArg Prod.fst hs2
      refine ⟨s, by rw [h1, hs1], ?_, ?_⟩
      · have := hw2 i hil s.data.toList.length (by rw [hd]; simp [DataW.weights])
        rwa [size_len] at this
      · rw [hd]; simp only [Rows.uptoBulk]; rw [size_len]; exact Nat.le_refl _)
    refine ⟨(List.range len).map S, ⟨some a, m, by simp, by simpa using hl, hm, fun hp => ?_⟩, ⟨by simpa using hw1, fun s hs => ?_⟩, ?_⟩
    · have hlen0 : 0 < len := by simpa using hp
      obtain ⟨b, off, spot⟩ := a
      have h0 := (hS 0 hlen0).1
      rw [add_zero] at h0
      obtain rfl := spot_none h0
      refine ⟨b, off, rfl, Nat.zero_le _, World.block_lt_of_cell? (a := ⟨b, _, none⟩) _ h0, fun j u hu => ?_⟩
      rw [List.map_map] at hu
      obtain ⟨hj, hju⟩ := List.getElem?_eq_some_iff.1 hu
      have hjl : j < len := by simpa using hj
      have h1 := (hS j hjl).1
      rw [add_none] at h1
      rw [h1, ← hju]
      simp
    · obtain ⟨i, hir, rfl⟩ := List.mem_map.1 hs
      exact (hS i (List.mem_range.1 hir)).2.1
    · unfold bT
      simp only [Rows.uptoBulk]
      rw [bulk_map D, List.map_map]
      have h3 : ((List.range len).map ((fun s : ByteArray => s.size + 1) ∘ S)).sum ≤ ((List.range len).map fun i => Rows.uptoBulk (D i)).sum := sum_le fun i hir => (hS i (List.mem_range.1 hir)).2.2
      omega

/-- rules, elements: how long their lists are, how much they hold -/
def GdR (r : RuleD) : Prop := r.name.size ≤ reachBytes ∧ -9223372036854775808 ≤ r.kind ∧ r.kind ≤ 9223372036854775807 ∧ SzT r.words
def bR (r : RuleD) : Nat := r.name.size + bT r.words + 3
def GdE (e : ElD) : Prop := e.name.size ≤ reachBytes ∧ e.rules.length * 48 ≤ reachBytes ∧ ∀ r ∈ e.rules, GdR r
def bE (e : ElD) : Nat := e.name.size + (e.rules.map bR).sum + 3
set_option maxRecDepth 100000 in
theorem rule_of (n : Nat) (cs : List Value) (d : DataW H) (p : List MemPlace) (h : DataW.trod enc Tryz.prog W 0 (fun _ => true) true n 50 cs = some (d, p)) (hw : ∀ k ∈ d.weights Tryz.prog 50, k ≤ reachBytes) :
    ∃ t : It RuleD, cs = fmR.enc t.a t.v ∧ fmR.kd.rd W 0 W.heap.size t.v (fmR.sub t.a) ∧ GdR t.a ∧ bR t.a ≤ Rows.uptoBulk d := by
  obtain ⟨ys, n', _, hy, hlen, hyl, hf⟩ := DataW.trod_struct Tryz.underlying50 h
  rw [cellsRule] at hlen
  match cs, hlen with
  | [c0, c1, c2], _ =>
    match ys, hyl with
    | [y0, y1, y2], _ =>
      simp only [Prod.mk.injEq] at hy
      obtain ⟨rfl, _⟩ := hy
      have g0 : DataW.trod enc Tryz.prog W 0 (fun _ => true) true n' 9 [c0] = some y0 := by have := hf 0 _ rfl; simpa [cellsStr] using this
      have g1 : DataW.trod enc Tryz.prog W 0 (fun _ => true) true n' 48 [c1] = some y1 := by have := hf 1 _ rfl; simpa [cellsKind] using this
      have g2 : DataW.trod enc Tryz.prog W 0 (fun _ => true) true n' 27 [c2] = some y2 := by have := hf 2 _ rfl; simpa [cellsWords] using this
      obtain ⟨s, hs1, rfl, _⟩ := DataW.trod_string Tryz.underlying9 g0
      obtain ⟨k, hk1, rfl, hk2⟩ := DataW.trod_int Tryz.underlying48 g1
      injection hs1 with hs1 _
      injection hk1 with hk1 _
      subst hs1 hk1
      have hwt : ∀ z ∈ DataW.weightsEach Tryz.prog [9, 48, 27] [.lit (.string s.data.toList), .lit (.int .i64 k), y2.1], z ≤ reachBytes := fun q hq => hw q (by
        simp only [List.map_cons, List.map_nil, DataW.weights, Tryz.underlying50]
        exact hq)
      simp only [DataW.weightsEach, DataW.weights, List.mem_append, List.mem_cons, List.not_mem_nil, or_false, false_or, List.append_nil, List.nil_append] at hwt
      obtain ⟨l, h1, h2, h3⟩ := texts_of g2 (fun q hq => hwt q (.inr hq))
      refine ⟨⟨⟨s, k, l⟩, c2, []⟩, rfl, h1, ⟨by have := hwt _ (.inl rfl); rwa [size_len] at this, ?_, ?_, h2⟩, ?_⟩
      · exact (wf64 hk2).1
      · exact (wf64 hk2).2
      · simp only [List.map_cons, List.map_nil, Rows.uptoBulk, Rows.uptoBulkAll, bR]
        rw [size_len]
        omega
set_option maxRecDepth 100000 in
theorem el_of (n : Nat) (cs : List Value) (d : DataW H) (p : List MemPlace) (h : DataW.trod enc Tryz.prog W 0 (fun _ => true) true n 45 cs = some (d, p)) (hw : ∀ k ∈ d.weights Tryz.prog 45, k ≤ reachBytes) :
    ∃ t : It ElD, cs = fmE.enc t.a t.v ∧ fmE.kd.rd W 0 W.heap.size t.v (fmE.sub t.a) ∧ GdE t.a ∧ bE t.a ≤ Rows.uptoBulk d := by
  obtain ⟨ys, n', _, hy, hlen, hyl, hf⟩ := DataW.trod_struct Tryz.underlying45 h
  rw [cellsEl] at hlen
  match cs, hlen with
  | [c0, c1], _ =>
    match ys, hyl with
    | [y0, y1], _ =>
      simp only [Prod.mk.injEq] at hy
      obtain ⟨rfl, _⟩ := hy
      have g0 : DataW.trod enc Tryz.prog W 0 (fun _ => true) true n' 9 [c0] = some y0 := by have := hf 0 _ rfl; simpa [cellsStr] using this
      have g1 : DataW.trod enc Tryz.prog W 0 (fun _ => true) true n' 26 [c1] = some y1 := by have := hf 1 _ rfl; simpa [cellsRules] using this
      obtain ⟨s, hs1, rfl, _⟩ := DataW.trod_string Tryz.underlying9 g0
      injection hs1 with hs1 _
      subst hs1
      have hwt : ∀ k ∈ DataW.weightsEach Tryz.prog [9, 26] [.lit (.string s.data.toList), y1.1], k ≤ reachBytes := fun q hq => hw q (by
        simp only [List.map_cons, List.map_nil, DataW.weights, Tryz.underlying45]
        exact hq)
      simp only [DataW.weightsEach, DataW.weights, List.mem_append, List.mem_cons, List.not_mem_nil, or_false, false_or, List.append_nil, List.nil_append] at hwt
      obtain ⟨l, h1, h2, h3, h4⟩ := rows_of fmR GdR bR Tryz.underlying26 cellsRule rule_of g1 (fun q hq => hwt q (.inr hq))
      have h2' : l.length * 48 ≤ reachBytes := by
        have e : Tryz.prog.bytesOf fmR.e = 48 := bytesRule
        rw [e] at h2; exact h2
      refine ⟨⟨⟨s, l⟩, c1, []⟩, rfl, h1, ⟨by have := hwt _ (.inl rfl); rwa [size_len] at this, h2', h3⟩, ?_⟩
      simp only [List.map_cons, List.map_nil, Rows.uptoBulk, Rows.uptoBulkAll, bE]
      rw [size_len]
      omega

/-- a policy -/
def GdP (p : PolD) : Prop := p.els.length * 40 ≤ reachBytes ∧ (∀ e ∈ p.els, GdE e) ∧ p.glob.length * 48 ≤ reachBytes ∧ (∀ r ∈ p.glob, GdR r) ∧ SzT p.schemes ∧ SzT p.drop ∧
  (-9223372036854775808 ≤ p.depth ∧ p.depth ≤ 9223372036854775807) ∧ (-9223372036854775808 ≤ p.window ∧ p.window ≤ 9223372036854775807)
def bP (p : PolD) : Nat := (p.els.map bE).sum + (p.glob.map bR).sum + bT p.schemes + bT p.drop + 5
theorem cellsPol : Tryz.prog.cellsOf 29 = 7 := by kernel_rfl
theorem cellsBool : Tryz.prog.cellsOf 4 = 1 := by kernel_rfl
theorem cellsInt : Tryz.prog.cellsOf 3 = 1 := by kernel_rfl
set_option maxRecDepth 100000 in
theorem pol_arg {r : Reach} {base : Nat} {v : Value} {d : DataW H} {q : List MemPlace} (hv : Value.okWide Tryz.prog W r base 29 v) (h : DataW.Trod enc Tryz.prog W 0 (fun _ => true) true 29 v d q) (hw : ∀ k ∈ d.weights Tryz.prog 29, k ≤ reachBytes) :
    ∃ (x : Vs) (p : PolD), v = polV x p ∧ RdP W 0 W.heap.size x p ∧ GdP p ∧ bP p ≤ Rows.uptoBulk d := by
  obtain ⟨cs, rfl, hsz⟩ := okWide_struct Tryz.underlying29 hv
  obtain ⟨l⟩ := cs
  have hsz' : l.length = 7 := by rw [← cellsPol, ← hsz]; rfl
  match l, hsz' with
  | [c0, c1, c2, c3, c4, c5, c6], _ =>
    obtain ⟨fuel, hf0⟩ := h
    obtain ⟨ys, n', _, hy, _, hyl, hf⟩ := DataW.trod_struct Tryz.underlying29 hf0
    match ys, hyl with
    | [y0, y1, y2, y3, y4, y5, y6], _ =>
      simp only [Prod.mk.injEq] at hy
      obtain ⟨rfl, _⟩ := hy
      have g0 : DataW.trod enc Tryz.prog W 0 (fun _ => true) true n' 25 [c0] = some y0 := by have := hf 0 _ rfl; simpa [cellsEls, Value.cells] using this
      have g1 : DataW.trod enc Tryz.prog W 0 (fun _ => true) true n' 26 [c1] = some y1 := by have := hf 1 _ rfl; simpa [cellsRules, Value.cells] using this
      have g2 : DataW.trod enc Tryz.prog W 0 (fun _ => true) true n' 27 [c2] = some y2 := by have := hf 2 _ rfl; simpa [cellsWords, Value.cells] using this
      have g3 : DataW.trod enc Tryz.prog W 0 (fun _ => true) true n' 4 [c3] = some y3 := by have := hf 3 _ rfl; simpa [cellsBool, Value.cells] using this
      have g4 : DataW.trod enc Tryz.prog W 0 (fun _ => true) true n' 27 [c4] = some y4 := by have := hf 4 _ rfl; simpa [cellsWords, Value.cells] using this
      have g5 : DataW.trod enc Tryz.prog W 0 (fun _ => true) true n' 3 [c5] = some y5 := by have := hf 5 _ rfl; simpa [cellsInt, Value.cells] using this
      have g6 : DataW.trod enc Tryz.prog W 0 (fun _ => true) true n' 3 [c6] = some y6 := by have := hf 6 _ rfl; simpa [cellsInt, Value.cells] using this
      obtain ⟨b, hb1, rfl⟩ := DataW.trod_bool Tryz.underlying4 g3
      obtain ⟨k5, hk5, rfl, hz5⟩ := DataW.trod_int Tryz.underlying3 g5
      obtain ⟨k6, hk6, rfl, hz6⟩ := DataW.trod_int Tryz.underlying3 g6
      injection hb1 with hb1 _
      injection hk5 with hk5 _
      injection hk6 with hk6 _
      subst hb1 hk5 hk6
      have hwt : ∀ k ∈ DataW.weightsEach Tryz.prog [25, 26, 27, 4, 27, 3, 3] [y0.1, y1.1, y2.1, .lit (.bool b), y4.1, .lit (.int .i64 k5), .lit (.int .i64 k6)], k ≤ reachBytes := fun q hq => hw q (by
        simp only [List.map_cons, List.map_nil, DataW.weights, Tryz.underlying29]
        exact hq)
      simp only [DataW.weightsEach, List.mem_append] at hwt
      obtain ⟨l0, a1, a2, a3, a4⟩ := rows_of fmE GdE bE Tryz.underlying25 cellsEl el_of g0 (fun q hq => hwt q (.inl hq))
      obtain ⟨l1, b1, b2, b3, b4⟩ := rows_of fmR GdR bR Tryz.underlying26 cellsRule rule_of g1 (fun q hq => hwt q (.inr (.inl hq)))
      obtain ⟨l2, e1, e2, e3⟩ := texts_of g2 (fun q hq => hwt q (.inr (.inr (.inl hq))))
      obtain ⟨l4, f1, f2, f3⟩ := texts_of g4 (fun q hq => hwt q (.inr (.inr (.inr (.inr (.inl hq))))))
      have a2' : l0.length * 40 ≤ reachBytes := by
        have e : Tryz.prog.bytesOf fmE.e = 40 := bytesEl
        rw [e] at a2; exact a2
      have b2' : l1.length * 48 ≤ reachBytes := by
        have e : Tryz.prog.bytesOf fmR.e = 48 := bytesRule
        rw [e] at b2; exact b2
      refine ⟨⟨c0, c1, c2, c4⟩, ⟨l0, l1, l2, b, l4, k5, k6⟩, rfl, ⟨a1, b1, e1, f1⟩, ⟨a2', a3, b2', b3, e2, f2, ?_, ?_⟩, ?_⟩
      · exact wf64 hz5
      · exact wf64 hz6
      · simp only [List.map_cons, List.map_nil, Rows.uptoBulk, Rows.uptoBulkAll, bP]
        omega
theorem wts_of {ts : List TypeId} {ds : List (DataW H)} (h : (DataW.weightsEach Tryz.prog ts ds).all (· ≤ reachBytes) = true) {j : Nat} {t : TypeId} {d : DataW H} (ht : ts[j]? = some t) (hd : ds[j]? = some d) : ∀ k ∈ d.weights Tryz.prog t, k ≤ reachBytes := fun k hk => by
  have := List.all_eq_true.1 h k (DataW.weights_mem_each ht hd k hk)
  simpa using this
end
end Go.Proofs.YteikagdinecfoaaGreatDoor.Pa
