/- What the two readers' proofs share: a line's ways in memory, and a read policy's sizes. -/
import Derived.Test.YtjhimmljanbjcaaGreatDoorRx
set_option linter.unusedVariables false
set_option linter.unusedSimpArgs false
namespace Go.Proofs.YtjhimmljanbjcaaGreatDoor.Lp
open Go.RowKit Lb Gr Pd Fl Go.Proofs.YtjhimmljanbjcaaGreatDoor.Pm Bk Is Go.Proofs.YtjhimmljanbjcaaGreatDoor.Sl Go.Proofs.YtjhimmljanbjcaaGreatDoor.Ck Go.Proofs.YtjhimmljanbjcaaGreatDoor.Th Go.Proofs.YtjhimmljanbjcaaGreatDoor.Ow Pt Pn Po Rw Go.Proofs.YtjhimmljanbjcaaGreatDoor.Rx
theorem Kpt.grown {w1 w9 : World} {B g : Nat} {v : Value} {o : Obj} (hgB : g < B) (hB : B ≤ w1.heap.size) (hg : (w1.alloc o).grownBy w9 v.ownBlock) (hv : ∀ j, v.ownBlock = some j → B ≤ j) : Kpt w1 B g g w9 :=
  ⟨((Below.refl g w1).alloc (by omega) o).grown hg (by simp; omega) (fun j hj => by have := hv j hj; omega),
    fun k hk _ _ => (hg.block k (by simp; omega) (fun e => by have := hv k e.symm; omega)).trans (Below.heap_alloc _ _ _ (by omega))⟩
theorem Kpt.set {w : World} {B g : Nat} (hgB : g < B) (hB : B ≤ w.heap.size) (i : Nat) (u : Value) : Kpt w B g g (w.setCell ⟨g, i, none⟩ u) :=
  Kpt.fr (by omega) (Nat.le_refl _) hB (Fr.setCell w ⟨g, i, none⟩ u (.inl (by simp)))
theorem own_set {w : World} {B g : Nat} {x : Vs} {p : PolD} {F : List Nat} (h : OwnP w B x p F) (hgB : g < B) (i : Nat) (u : Value) : OwnP (w.setCell ⟨g, i, none⟩ u) B x p F :=
  h.keep (by simp [World.setCell]) fun k hk => Below.heap_setCell _ _ _ _ (by have := (h.ge k hk).1; show k ≠ g; omega)
theorem lastR_set {l : List ElD} {i : Nat} (h : l.length = i + 1) (r : RuleD) : lastR l r = l.set i ⟨(l[i]'(by omega)).name, (l[i]'(by omega)).rules ++ [r]⟩ := by
  unfold lastR
  have e : l.length - 1 = i := by omega
  rw [e]
  refine List.ext_getElem (by simp) fun j h1 h2 => ?_
  rw [List.getElem_modify, List.getElem_set]
  by_cases hj : i = j
  · subst hj; simp
  · rw [if_neg hj, if_neg hj]
/-- an element's rules, in its row -/
theorem closeE {w5 : World} {B g n c k : Nat} {xs : List Value} {e : ElD} (hk : k < n) (hxs : w5.ownsRow B fmE.e fmE.size (.slice (some ⟨g, 0, none⟩) n c) n xs) (hxl : xs.length = n * fmE.size)
    (h0 : w5.cell? ⟨g, k * 2, none⟩ = some (.string e.name)) (rs : List RuleD) (u5 : Value) :
    (w5.setCell ⟨g, k * 2 + 1, none⟩ u5).ownsRow B fmE.e fmE.size (.slice (some ⟨g, 0, none⟩) n c) n (xs.take (k * fmE.size) ++ fmE.enc ⟨e.name, rs⟩ u5 ++ xs.drop ((k + 1) * fmE.size)) := by
  have hs : fmE.size = 2 := rfl
  rw [hs] at hxl
  have g0 := hxs.cellAt (k * 2) (by rw [hs]; omega)
  rw [h0] at g0
  have g2 := (hxs.stored (k * 2 + 1) u5).1
  have h1 := Go.Proofs.YtjhimmljanbjcaaGreatDoor.Sr.set2 (xs := xs.set (k * 2 + 1) u5) (n := n) (a := .string e.name) (b := u5) (by rw [List.length_set]; exact hxl) hk (by rw [List.getElem?_set_ne (by omega)]; exact g0.symm) (by rw [List.getElem?_set_self (by omega)])
  rw [List.take_set_of_le (by omega), List.drop_set_of_lt (by omega)] at h1
  have h2 : xs.take (k * fmE.size) ++ fmE.enc ⟨e.name, rs⟩ u5 ++ xs.drop ((k + 1) * fmE.size) = xs.set (k * 2 + 1) u5 := h1
  rw [h2]
  exact g2
theorem grown_undrew {w w' : World} {b : Option Nat} (h : w.drew.grownBy w' b) : w.grownBy w' b := ⟨h.os, h.tape, h.output, h.size, h.block⟩
theorem lit_no {s : ByteArray} {l : List UInt8} (h : s ≠ str l) : (s.toList == l) = false := by
  have h1 := toList_ne_of h
  rw [Lib.toList_data (str l)] at h1
  exact h1
end Go.Proofs.YtjhimmljanbjcaaGreatDoor.Lp
namespace Go.Proofs.YtjhimmljanbjcaaGreatDoor.Lq
open Go.RowKit Lb Gr Pd Fl Go.Proofs.YtjhimmljanbjcaaGreatDoor.Pm Bk Is Go.Proofs.YtjhimmljanbjcaaGreatDoor.Sl Go.Proofs.YtjhimmljanbjcaaGreatDoor.Ck Go.Proofs.YtjhimmljanbjcaaGreatDoor.Th Go.Proofs.YtjhimmljanbjcaaGreatDoor.Lk Go.Proofs.YtjhimmljanbjcaaGreatDoor.Ro Go.Proofs.YtjhimmljanbjcaaGreatDoor.Vd Go.Proofs.YtjhimmljanbjcaaGreatDoor.Ow Pt Pn Po Rw Go.Proofs.YtjhimmljanbjcaaGreatDoor.Rx Go.Proofs.YtjhimmljanbjcaaGreatDoor.Ch
/-! ### sizes -/
def TxR (M : Nat) (r : RuleD) : Prop := r.name.size ≤ M ∧ 0 ≤ r.kind ∧ r.kind < 9 ∧ r.words.length ≤ M ∧ ∀ s ∈ r.words, s.size ≤ M
structure TxP (M : Nat) (p : PolD) : Prop where
  els : ∀ e ∈ p.els, e.name.size ≤ M ∧ ∀ r ∈ e.rules, TxR M r
  glob : ∀ r ∈ p.glob, TxR M r
  schemes : ∀ s ∈ p.schemes, s.size ≤ M
  drop : ∀ s ∈ p.drop, s.size ≤ M
theorem ruleO_tx {M : Nat} : ∀ {l : List ByteArray} {r : RuleD}, ruleO l = some r → (∀ s ∈ l, s.size ≤ M) → l.length ≤ M → TxR M r
  | [], r, h, _, _ => by cases h
  | [a], r, h, _, _ => by cases h
  | n :: k :: ws, r, h, hl, hn => by
    simp only [ruleO] at h
    split at h
    · rename_i hc
      obtain rfl := Option.some.inj h
      have := kindZ_le k
      simp at hn
      exact ⟨hl n (by simp), hc.1, by show kindZ k < 9; omega, by show ws.length ≤ M; omega, fun s hs => hl s (by simp [show s ∈ ws from hs])⟩
    · cases h
theorem mem_one {M : Nat} {l : List ByteArray} {x : ByteArray} (h1 : ∀ s ∈ l, s.size ≤ M) (h2 : x.size ≤ M) : ∀ s ∈ l ++ [x], s.size ≤ M := fun s hs => by
  rcases List.mem_append.1 hs with hs | hs
  · exact h1 s hs
  · rw [List.mem_singleton.1 hs]; exact h2
theorem line_tx {st st' : RS} {ws : List ByteArray} {M : Nat} (h : lineO st ws = some st') (hw : ∀ s ∈ ws, s.size ≤ M) (hn : ws.length ≤ M + 1) (ht : TxP M st.p) : TxP M st'.p := by
  unfold lineO at h
  by_cases h0 : hasT ws ByteArray.empty = true
  · rw [if_pos h0] at h; cases h
  rw [if_neg h0] at h
  match ws, hw, hn, h with
  | [], _, _, h => cases h
  | w :: l, hw, hn, h =>
    simp only at h
    have hl : ∀ s ∈ l, s.size ≤ M := fun s hs => hw s (List.mem_cons_of_mem _ hs)
    have hln : l.length ≤ M := by simp at hn; omega
    by_cases e0 : w = wRel
    · rw [if_pos e0] at h
      split at h
      · obtain rfl := Option.some.inj h; exact ⟨ht.els, ht.glob, ht.schemes, ht.drop⟩
      · cases h
    rw [if_neg e0] at h
    by_cases e1 : w = wDepth
    · rw [if_pos e1] at h
      match l, h with
      | [], h => cases h
      | _ :: _ :: _, h => cases h
      | [x], h =>
        simp only at h
        split at h
        · obtain rfl := Option.some.inj h; exact ⟨ht.els, ht.glob, ht.schemes, ht.drop⟩
        · cases h
    rw [if_neg e1] at h
    by_cases e2 : w = wWindow
    · rw [if_pos e2] at h
      match l, h with
      | [], h => cases h
      | _ :: _ :: _, h => cases h
      | [x], h =>
        simp only at h
        split at h
        · obtain rfl := Option.some.inj h; exact ⟨ht.els, ht.glob, ht.schemes, ht.drop⟩
        · cases h
    rw [if_neg e2] at h
    by_cases e3 : w = wScheme
    · rw [if_pos e3] at h
      match l, hl, h with
      | [], _, h => cases h
      | _ :: _ :: _, _, h => cases h
      | [x], hl, h => obtain rfl := Option.some.inj h; exact ⟨ht.els, ht.glob, mem_one ht.schemes (hl x (by simp)), ht.drop⟩
    rw [if_neg e3] at h
    by_cases e4 : w = wDrop
    · rw [if_pos e4] at h
      match l, hl, h with
      | [], _, h => cases h
      | _ :: _ :: _, _, h => cases h
      | [x], hl, h => obtain rfl := Option.some.inj h; exact ⟨ht.els, ht.glob, ht.schemes, mem_one ht.drop (hl x (by simp))⟩
    rw [if_neg e4] at h
    by_cases e5 : w = wElement
    · rw [if_pos e5] at h
      match l, hl, h with
      | [], _, h => cases h
      | _ :: _ :: _, _, h => cases h
      | [x], hl, h =>
        obtain rfl := Option.some.inj h
        refine ⟨fun e he => ?_, ht.glob, ht.schemes, ht.drop⟩
        rcases List.mem_append.1 he with he | he
        · exact ht.els e he
        · rw [List.mem_singleton.1 he]; exact ⟨hl x (by simp), fun r hr => by cases hr⟩
    rw [if_neg e5] at h
    by_cases e6 : w = wGlobal
    · rw [if_pos e6] at h
      cases hr : ruleO l with
      | none => rw [hr] at h; cases h
      | some r =>
        rw [hr] at h
        obtain rfl := Option.some.inj h
        refine ⟨ht.els, fun r' hr' => ?_, ht.schemes, ht.drop⟩
        rcases List.mem_append.1 hr' with hr' | hr'
        · exact ht.glob r' hr'
        · rw [List.mem_singleton.1 hr']; exact ruleO_tx hr hl hln
    rw [if_neg e6] at h
    by_cases e7 : w = wAttr
    · rw [if_pos e7] at h
      split at h
      · cases h
      · cases hr : ruleO l with
        | none => rw [hr] at h; cases h
        | some r =>
          rw [hr] at h
          obtain rfl := Option.some.inj h
          refine ⟨fun e he => ?_, ht.glob, ht.schemes, ht.drop⟩
          rcases lastR_mem he with he | ⟨e', he', rfl⟩
          · exact ht.els e he
          · refine ⟨(ht.els e' he').1, fun r' hr' => ?_⟩
            rcases List.mem_append.1 hr' with hr' | hr'
            · exact (ht.els e' he').2 r' hr'
            · rw [List.mem_singleton.1 hr']; exact ruleO_tx hr hl hln
    · rw [if_neg e7] at h; cases h
theorem cutG_size (c : UInt8) : ∀ (l cur x : List UInt8), x ∈ cutG c cur l → x.length ≤ cur.length + l.length
  | [], cur, x, h => by
    rw [show cutG c cur [] = [cur] from rfl, List.mem_singleton] at h
    subst h; simp
  | b :: l, cur, x, h => by
    unfold cutG at h
    split at h
    · rcases List.mem_cons.1 h with rfl | h
      · simp
      · have := cutG_size c l [] x h; simp at this ⊢; omega
    · have := cutG_size c l (cur ++ [b]) x h; simp at this ⊢; omega
theorem cutS_size (s : ByteArray) (c : UInt8) : ∀ x ∈ cutS s c, x.size ≤ s.size := by
  intro x hx
  obtain ⟨l, hl, rfl⟩ := List.mem_map.1 hx
  have := cutG_size c _ [] l hl
  rw [str_size, ← size_len s]
  simpa using this
theorem okr_of {M n : Nat} {l : List RuleD} (hM : M ≤ 4294967296) (hn : n ≤ 4294967296) (h : ∀ r ∈ l, TxR M r) (hl : l.length ≤ n) : OkR l := by
  refine ⟨by omega, fun i hi => ?_⟩
  obtain ⟨h1, h2, h3, h4, h5⟩ := h _ (List.getElem_mem hi)
  unfold maxLen
  refine ⟨by omega, by omega, by omega, by omega⟩
theorem okp_of {M n : Nat} {p : PolD} (hM : M ≤ 4294967296) (hn : n ≤ 4294967296) (h : TxP M p) (hl : LenP p n) : OkP p := by
  obtain ⟨l1, l2, l3, l4, l5⟩ := hl
  refine ⟨⟨by omega, fun i hi => okr_of hM hn (h.els _ (List.getElem_mem hi)).2 (l5 _ (List.getElem_mem hi))⟩, okr_of hM hn h.glob l2, ⟨by omega, fun i hi => ?_⟩, ⟨by omega, fun i hi => ?_⟩⟩
  · have := h.schemes _ (List.getElem_mem hi); unfold maxLen; omega
  · have := h.drop _ (List.getElem_mem hi); unfold maxLen; omega

theorem cell_old {w w' : World} {B g : Nat} (hk : Kpt w B g g w') {p : Addr} (h1 : p.block < B) (h2 : p.block ≠ g) : w'.cell? p = w.cell? p := World.cell?_of_block (hk.old p.block h1 h2 h2)
theorem st0_tx (M : Nat) : TxP M st0.p := ⟨fun e he => (by cases he), fun e he => (by cases he), fun e he => (by cases he), fun e he => (by cases he)⟩
theorem st0_len (n : Nat) : LenP st0.p n := ⟨Nat.zero_le _, Nat.zero_le _, Nat.zero_le _, Nat.zero_le _, fun e he => by cases he⟩
theorem len_up {p : PolD} {n : Nat} (h : LenP p n) : LenP p (n + 1) := by
  obtain ⟨h1, h2, h3, h4, h5⟩ := h
  exact ⟨by omega, by omega, by omega, by omega, fun e he => by have := h5 e he; omega⟩
theorem parse_skip {st : RS} {k : Nat} {L : List ByteArray} {ln : ByteArray} (h : k < L.length) (e : ln = L[k]) (hs : skipB ln = true) : parseF st k (L.drop k) = parseF st (k + 1) (L.drop (k + 1)) := by
  subst e
  rw [List.drop_eq_getElem_cons h, parseF, if_pos hs]
theorem parse_none {st : RS} {k : Nat} {L : List ByteArray} {ln : ByteArray} (h : k < L.length) (e : ln = L[k]) (hs : skipB ln = false) (hl : lineO st (cutS ln 32) = none) : parseF st k (L.drop k) = (zeroP, (k : Int) + 1, 145) := by
  subst e
  rw [List.drop_eq_getElem_cons h, parseF, if_neg (by rw [hs]; decide), hl]
theorem parse_some {st st' : RS} {k : Nat} {L : List ByteArray} {ln : ByteArray} (h : k < L.length) (e : ln = L[k]) (hs : skipB ln = false) (hl : lineO st (cutS ln 32) = some st') : parseF st k (L.drop k) = parseF st' (k + 1) (L.drop (k + 1)) := by
  subst e
  rw [List.drop_eq_getElem_cons h, parseF, if_neg (by rw [hs]; decide), hl]
theorem parse_end {st : RS} {k : Nat} {L : List ByteArray} (h : L.length ≤ k) : parseF st k (L.drop k) = if checkI st.p = 0 then (st.p, 0, 0) else (zeroP, 0, checkI st.p) := by
  rw [List.drop_of_length_le h]; rfl
theorem skip_0 {s : ByteArray} (h : s.size = 0) : skipB s = true := by unfold skipB; rw [h]; rfl
theorem skip_at {s : ByteArray} (h : 0 < s.size) : skipB s = decide (s[0].toNat = 35) := by
  unfold skipB
  rw [head_at h, decide_eq_false (by omega), Bool.false_or]
theorem res_cell3 {P : Program} {fn : Func} {t u v : Tmp} {ty tg : TypeId} {tmps : Array Value} {w : World} {g : Nat} {xs : List Value} {d : TypeDesc} (h : fn.results = #[.cell t ty, .tmp u, .tmp v]) (hp : tmps.getD t undef = .pointer (some ⟨g, 0, none⟩)) (hb : Bl w g tg xs)
    (hu : P.underlying ty = some d) (hd : d.isRow = true) (hi : (P.info? ty).map (·.size) = some xs.length) : (results fn tmps).run P w = .ok (.tuple #[.agg xs.toArray, tmps.getD u undef, tmps.getD v undef]) w := by
  have hl := run_loadVar_mid w g 0 ty xs d hb.range hu hd hi
  rw [Array.getD_eq_getD_getElem?] at hp
  simp [results, h, hp, asAddr, hl]
/-- what Parse gives -/
def PaR (res : PolD × Int × Int) (w : World) (e : Ending) (w' : World) : Prop :=
  ∃ y F, e = .returned (.tuple #[polV y res.1, .int .i64 res.2.1, .int .i64 res.2.2]) ∧ OwnP w' w.heap.size y res.1 F ∧ Below w.heap.size w w'
end Go.Proofs.YtjhimmljanbjcaaGreatDoor.Lq
