/- Small laws for the policies' texts: what is closed (plain); rows of texts that are read or appended to. -/
import Derived.Test.YtejpdbiiikcmmaaGreatDoorCh
import Derived.Test.YtejpdbiiikcmmaaGreatDoorEs
import Derived.Deep.AppendLies
set_option linter.unusedVariables false
set_option linter.unusedSimpArgs false
namespace Go.Proofs.YtejpdbiiikcmmaaGreatDoor.Cn
open Go.RowKit Lb Gr Pd Go.Proofs.YtejpdbiiikcmmaaGreatDoor.Ne Go.Proofs.YtejpdbiiikcmmaaGreatDoor.So

def uniL : List ByteArray := [str [117, 108], str [108, 105], str [100, 100], str [100, 108], str [116, 98, 111, 100, 121], str [116, 100], str [116, 114], str [116, 97, 98, 108, 101], str [99, 111, 108, 103, 114, 111, 117, 112]]
theorem uni_keys : (keyL 9).all (fun x => (needsL x.1).all fun y => hasT uniL y) = true := by decide +kernel
theorem needs_uni {s y : ByteArray} (h : y ∈ needsL s) : y ∈ uniL := by
  by_cases hs : s ∈ (keyL 9).map (·.1)
  · obtain ⟨x, hx, rfl⟩ := List.mem_map.1 hs
    have h1 := List.all_eq_true.1 uni_keys x hx
    exact hasT_iff.1 (List.all_eq_true.1 h1 y h)
  · rw [needs_not hs] at h
    cases h
theorem needs_sizes : (keyL 9).all (fun x => decide ((needsL x.1).length ≤ 5)) = true := by decide +kernel
theorem needs_len (s : ByteArray) : (needsL s).length ≤ 5 := by
  by_cases hs : s ∈ (keyL 9).map (·.1)
  · obtain ⟨x, hx, rfl⟩ := List.mem_map.1 hs
    simpa using List.all_eq_true.1 needs_sizes x hx
  · rw [needs_not hs]; simp

theorem nodup_len : ∀ {l m : List ByteArray}, l.Nodup → (∀ x ∈ l, x ∈ m) → l.length ≤ m.length
  | [], _, _, _ => Nat.zero_le _
  | x :: l, m, hn, hs => by
    have hx := hs x (by simp)
    obtain ⟨a, b, rfl⟩ := List.append_of_mem hx
    have h1 := nodup_len (l := l) (m := a ++ b) (List.nodup_cons.1 hn).2 (fun y hy => by
      have h2 := hs y (List.mem_cons_of_mem _ hy)
      have h3 : y ≠ x := fun e => (List.nodup_cons.1 hn).1 (e ▸ hy)
      simp only [List.mem_append, List.mem_cons] at h2 ⊢
      rcases h2 with h2 | h2 | h2
      · exact .inl h2
      · exact absurd h2 h3
      · exact .inr h2)
    simp only [List.length_append, List.length_cons] at h1 ⊢
    omega
/-- with m, all that N's names and m's own need is there -/
def Clo (N m : List ByteArray) : Prop := ∀ n, n ∈ N ∨ n ∈ m → ∀ y ∈ needsL n, y ∈ N ∨ y ∈ m
/-- m: each once, none of N's, and none that is not needed -/
structure Iv (N m : List ByteArray) : Prop where
  nd : m.Nodup
  ap : ∀ x ∈ m, x ∉ N
  un : ∀ x ∈ m, x ∈ uniL
  mi : ∀ m', Clo N m' → ∀ x ∈ m, x ∈ N ∨ x ∈ m'
theorem Iv.nil (N : List ByteArray) : Iv N [] := ⟨List.nodup_nil, by simp, by simp, by simp⟩
theorem Iv.add {N m : List ByteArray} (h : Iv N m) {n y : ByteArray} (hn : n ∈ N ∨ n ∈ m) (hy : y ∈ needsL n) (h1 : hasT N y = false) (h2 : hasT m y = false) : Iv N (m ++ [y]) := by
  have e1 : y ∉ N := fun hx => by rw [hasT_iff.2 hx] at h1; cases h1
  have e2 : y ∉ m := fun hx => by rw [hasT_iff.2 hx] at h2; cases h2
  refine ⟨?_, ?_, ?_, ?_⟩
  · exact List.nodup_append.2 ⟨h.nd, by simp, fun a ha b hb e => by simp at hb; subst hb; subst e; exact e2 ha⟩
  · intro x hx
    rcases List.mem_append.1 hx with hx | hx
    · exact h.ap x hx
    · simp at hx; subst hx; exact e1
  · intro x hx
    rcases List.mem_append.1 hx with hx | hx
    · exact h.un x hx
    · simp at hx; subst hx; exact needs_uni hy
  · intro m' hm' x hx
    rcases List.mem_append.1 hx with hx | hx
    · exact h.mi m' hm' x hx
    · simp at hx; subst hx
      exact hm' n (hn.elim .inl fun hn => h.mi m' hm' n hn) x hy
theorem Iv.len {N m : List ByteArray} (h : Iv N m) : m.length ≤ 9 := nodup_len h.nd h.un
/-- what is done: the needs of L are there -/
def Dn (N m L : List ByteArray) : Prop := ∀ n ∈ L, ∀ y ∈ needsL n, y ∈ N ∨ y ∈ m
theorem Dn.nil (N m : List ByteArray) : Dn N m [] := by intro n hn; cases hn
theorem Dn.more {N m m' L : List ByteArray} (h : Dn N m L) (hs : ∀ x ∈ m, x ∈ m') : Dn N m' L := fun n hn y hy => (h n hn y hy).imp id (hs y)
/-- within a name's needs: the first j are there -/
def Hd (N m ns : List ByteArray) (j : Nat) : Prop := ∀ y ∈ ns.take j, y ∈ N ∨ y ∈ m
theorem Hd.zero (N m ns : List ByteArray) : Hd N m ns 0 := by intro y hy; simp at hy
theorem Hd.had {N m ns : List ByteArray} {j : Nat} (h : Hd N m ns j) (hj : j < ns.length) (hh : hasT N ns[j] = true ∨ hasT m ns[j] = true) : Hd N m ns (j + 1) := by
  intro y hy
  rw [List.take_succ_eq_append_getElem hj] at hy
  rcases List.mem_append.1 hy with hy | hy
  · exact h y hy
  · simp at hy; subst hy
    exact hh.imp hasT_iff.1 hasT_iff.1
theorem Hd.add {N m ns : List ByteArray} {j : Nat} (h : Hd N m ns j) (hj : j < ns.length) : Hd N (m ++ [ns[j]]) ns (j + 1) := by
  intro y hy
  rw [List.take_succ_eq_append_getElem hj] at hy
  rcases List.mem_append.1 hy with hy | hy
  · exact (h y hy).imp id (List.mem_append_left _)
  · simp at hy; subst hy
    exact .inr (by simp)
theorem Dn.next {N m L : List ByteArray} {k : Nat} (h : Dn N m (L.take k)) (hk : k < L.length) (hh : Hd N m (needsL L[k]) (needsL L[k]).length) : Dn N m (L.take (k + 1)) := by
  intro n hn y hy
  rw [List.take_succ_eq_append_getElem hk] at hn
  rcases List.mem_append.1 hn with hn | hn
  · exact h n hn y hy
  · simp at hn; subst hn
    exact hh y (by rw [List.take_length]; exact hy)
theorem clo_of {N m : List ByteArray} (h1 : Dn N m N) (h2 : Dn N m m) : Clo N m := fun n hn => hn.elim (h1 n) (h2 n)
/-- a list of the names that are needed: all of them, each once -/
def Full (N m : List ByteArray) : Prop := Iv N m ∧ Clo N m
theorem full_perm {N m m' : List ByteArray} (h : Full N m) (h' : Full N m') : m.Perm m' :=
  (List.perm_ext_iff_of_nodup h.1.nd h'.1.nd).2 fun x => ⟨fun hx => (h.1.mi m' h'.2 x hx).elim (fun hn => absurd hn (h.1.ap x hx)) id, fun hx => (h'.1.mi m h.2 x hx).elim (fun hn => absurd hn (h'.1.ap x hx)) id⟩
theorem srt_perm {l l' : List ByteArray} (h : l.Perm l') : srt l = srt l' := by
  unfold srt
  rw [mergeSort_of_perm (h.map _)]
theorem full_srt {N m m' : List ByteArray} (h : Full N m) (h' : Full N m') : srt m = srt m' := srt_perm (full_perm h h')
theorem srt_perm' (m : List ByteArray) : (srt m).Perm m := by
  have h := (List.mergeSort_perm (m.map fun s : ByteArray => s.data.toList) leB).map str
  rw [str_bts] at h
  exact h
theorem srt_mem {m : List ByteArray} {x : ByteArray} : x ∈ srt m ↔ x ∈ m := (srt_perm' m).mem_iff

def nms (p : PolD) : List ByteArray := p.els.map ElD.name
theorem hasE_nms (p : PolD) (s : ByteArray) : hasE p.els s = hasT (nms p) s := hasE_map _ _
/-- a policy with the elements m besides -/
def closeP (p : PolD) (m : List ByteArray) : PolD := { p with els := p.els ++ (srt m).map fun n => (⟨n, []⟩ : ElD) }
theorem nms_close (p : PolD) (m : List ByteArray) : nms (closeP p m) = nms p ++ srt m := by
  unfold nms closeP
  simp only [List.map_append, List.map_map]
  congr 1
  exact List.map_id' _
theorem close_nil (p : PolD) : closeP p [] = p := by
  have : srt [] = [] := List.eq_nil_of_length_eq_zero (srt_len [])
  unfold closeP
  rw [this]
  simp
theorem close_clo {p : PolD} {m : List ByteArray} (h : Full (nms p) m) : Clo (nms (closeP p m)) [] := by
  intro n hn y hy
  left
  rw [nms_close] at hn ⊢
  rw [List.mem_append, srt_mem]
  refine h.2 n ?_ y hy
  rcases hn with hn | hn
  · rw [List.mem_append, srt_mem] at hn; exact hn
  · cases hn
theorem shut_nil {p : PolD} {m m' : List ByteArray} (h : Full (nms p) m) (h' : Full (nms (closeP p m)) m') : m' = [] := by
  cases m' with
  | nil => rfl
  | cons x r =>
    rcases h'.1.mi [] (close_clo h) x (by simp) with hx | hx
    · exact absurd hx (h'.1.ap x (by simp))
    · cases hx
open Go.Proofs.YtejpdbiiikcmmaaGreatDoor.Ck in
theorem closed_close {p : PolD} {m : List ByteArray} (h : Full (nms p) m) : closedB (closeP p m).els = true := by
  unfold closedB
  rw [List.all_eq_true]
  intro e he
  rw [List.all_eq_true]
  intro n hn
  rw [hasE_map, hasT_iff]
  rcases close_clo h e.name (.inl (List.mem_map.2 ⟨e, he, rfl⟩)) n hn with hx | hx
  · exact hx
  · cases hx
open Go.Proofs.YtejpdbiiikcmmaaGreatDoor.Ck in
theorem elsFrom_ne : ∀ (t l : List ElD), elsFrom inA l t ≠ 142
  | [], _ => by simp [elsFrom]
  | e :: t, l => by
    rw [elsFrom]
    split
    · decide
    · split
      · decide
      · exact elsFrom_ne t _
open Go.Proofs.YtejpdbiiikcmmaaGreatDoor.Ck in
theorem check_ne {p : PolD} (h : closedB p.els = true) : checkI p ≠ 142 := by
  have h1 : elsI p ≠ 142 := elsFrom_ne _ _
  have h2 : globI p ≠ 142 := by unfold globI; split <;> decide
  have h3 : closI p = 0 := by unfold closI; rw [if_pos h]
  have h4 : schI p ≠ 142 := by unfold schI; split <;> decide
  have h5 : dropI p ≠ 142 := by unfold dropI; split <;> decide
  have h6 : limI p ≠ 142 := by unfold limI; split <;> decide
  unfold checkI firstI
  simp only [firstI, h3]
  split
  · split
    · simp only [if_true]
      split
      · split
        · split
          · decide
          · exact h6
        · exact h5
      · exact h4
    · exact h2
  · exact h1
end Go.Proofs.YtejpdbiiikcmmaaGreatDoor.Cn
namespace Go.Proofs.YtejpdbiiikcmmaaGreatDoor.Cl
open Go.RowKit Lb Gr Pd Fl Go.Proofs.YtejpdbiiikcmmaaGreatDoor.Pm Bk Ru Co Is Sl Ha Go.Proofs.YtejpdbiiikcmmaaGreatDoor.Nd Go.Proofs.YtejpdbiiikcmmaaGreatDoor.So Go.Proofs.YtejpdbiiikcmmaaGreatDoor.Cn
theorem rd_own {w : World} {B : Nat} {v : Value} {l : List ByteArray} (h : Own w B v l) : kdW.rd w 0 w.heap.size v l := kdW.read (F := v.ownBlock.toList) ⟨h, rfl⟩ (Nat.zero_le _) (Nat.le_refl _)
end Go.Proofs.YtejpdbiiikcmmaaGreatDoor.Cl
namespace Go.Proofs.YtejpdbiiikcmmaaGreatDoor.Lc
open Go.RowKit Lb Gr Pd Fl Go.Proofs.YtejpdbiiikcmmaaGreatDoor.Pm Bk Ru
/-- what is read, to be appended -/
theorem rd_src {w : World} {lo hi n c : Nat} {A : Option Addr} {l : List ByteArray} (h : kdW.rd w lo hi (.slice A n c) l) : 0 < (l.map Value.string).length → ∃ b off, A = some ⟨b, off, none⟩ ∧ ∀ j u, (l.map Value.string)[j]? = some u → w.cell? ⟨b, off + j, none⟩ = some u := fun hp => by
  obtain ⟨A', c', hv, _, _, h3⟩ := h
  injection hv with e1 e2 e3
  subst e1
  obtain ⟨b, off, rfl, _, _, hc⟩ := h3 hp
  exact ⟨b, off, rfl, hc⟩
theorem own_empty (W : World) (g : Nat) (h : W.heap.size = g) : (W.alloc (.cells #[] 9 (0, 0))).ownsRow g 9 1 (.slice (some ⟨g, 0, none⟩) 0 0) 0 [] := by
  subst h
  exact ⟨rfl, .inr ⟨_, 0, #[], rfl, Nat.le_refl _, heap_alloc_new W _, Nat.le_refl _, by simp, rfl, rfl⟩⟩
end Go.Proofs.YtejpdbiiikcmmaaGreatDoor.Lc
namespace Go.Proofs.YtejpdbiiikcmmaaGreatDoor.Ow
open Go.RowKit Lb Gr Pd Fl Go.Proofs.YtejpdbiiikcmmaaGreatDoor.Pm Bk Ru Co Lc
/-- append of whatever is read, at a step of a region that draws -/
theorem step_append_src {P : Program} (w : World) {ops : Array Oper} {o : Oper} {a : Act} {K : Act → World → Prop} {Q : Exit → Act → World → Prop} {E : Prop} (hgd : o.guard = none) (s x : Operand) (t : TypeId)
    (ho : o.op = .call { callee := .builtin .append, args := #[s, x], argTypes := #[t, t] })
    (base : Nat) (e : TypeId) (i : TypeInfo) (z : Value) (size bytes : Nat) (ht : P.underlying t = some (.slice e)) (hi : P.info? e = some i) (hz : i.zero = some z)
    (hsize : i.size = size) (hby : i.bytes = bytes) (hzs : z.cells.size = size) (hsz : 0 < size) (v : Value) (n : Nat) (xs : List Value) (hs : a.eval s = v) (hown : w.ownsRow base e size v n xs)
    (A : Option Addr) (m c : Nat) (news : List Value) (hx : a.eval x = .slice A m c) (hl : news.length = m * size) (hcell : 0 < news.length → ∃ b off, A = some ⟨b, off, none⟩ ∧ ∀ j u, news[j]? = some u → w.cell? ⟨b, off + j, none⟩ = some u)
    (h1 : ∀ u ∈ news, u.oneCell' = true) (h63 : n + m ≤ maxLen) (hbytes : (n + m) * bytes ≤ 140737488355328) (hbase : base ≤ w.heap.size)
    (h : ∀ v' w', w'.ownsRow base e size v' (n + m) (xs ++ news) → w.grownBy w' v.ownBlock → (v'.ownBlock = v.ownBlock ∨ v'.ownBlock = some w.heap.size) → K (a.put o.dst v') w') :
    if Region.wanted o (yielded ops a.tmps) = true then Oper.wp P o a w K Q else E := by
  have hw : Region.wanted o (yielded ops a.tmps) = true := by simp [Region.wanted, hgd]
  rw [if_pos hw]
  obtain ⟨v', w', hr, h2, h3, h4⟩ := run_append_src (P := P) w base t o.type e i z size bytes ht hi hz hsize hby hzs hsz v n xs hown A m c news hl hcell h1 h63 hbytes hbase
  have hK := h v' w' h2 h3 h4
  unfold Oper.wp execOp
  simp only [ho, resolve, invoke, builtin, Sem.run_bind, Sem.run_pure, Result.andThen_ok, List.map_toArray, List.map_cons, List.map_nil, hs, hx, hr]
  exact hK

end Go.Proofs.YtejpdbiiikcmmaaGreatDoor.Ow
