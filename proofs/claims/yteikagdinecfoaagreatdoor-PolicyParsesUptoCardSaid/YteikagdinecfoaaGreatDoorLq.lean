/- A policy's text: the program's Parse. -/
import Derived.Test.YteikagdinecfoaaGreatDoorLp
set_option linter.unusedVariables false
set_option linter.unusedSimpArgs false
namespace Go.Proofs.YteikagdinecfoaaGreatDoor.Lq
open Go.RowKit Lb Gr Pd Fl Go.Proofs.YteikagdinecfoaaGreatDoor.Pm Bk Is Go.Proofs.YteikagdinecfoaaGreatDoor.Sl Go.Proofs.YteikagdinecfoaaGreatDoor.Ck Go.Proofs.YteikagdinecfoaaGreatDoor.Th Go.Proofs.YteikagdinecfoaaGreatDoor.Lk Go.Proofs.YteikagdinecfoaaGreatDoor.Ro Go.Proofs.YteikagdinecfoaaGreatDoor.Vd Go.Proofs.YteikagdinecfoaaGreatDoor.Ow Pt Pn Po Rw Go.Proofs.YteikagdinecfoaaGreatDoor.Rx Go.Proofs.YteikagdinecfoaaGreatDoor.Lp Go.Proofs.YteikagdinecfoaaGreatDoor.Ch
attribute [local go_sem ↓] Go.wp_at_zero Go.wp_at_succ

/-! ### sizes -/
def TxR (M : Nat) (r : RuleD) : Prop := r.name.size ≤ M ∧ 0 ≤ r.kind ∧ r.kind < 9 ∧ r.words.length ≤ M ∧ ∀ s ∈ r.words, s.size ≤ M
structure TxP (M : Nat) (p : PolD) : Prop where
  els : ∀ e ∈ p.els, e.name.size ≤ M ∧ ∀ r ∈ e.rules, TxR M r
  glob : ∀ r ∈ p.glob, TxR M r
  schemes : ∀ s ∈ p.schemes, s.size ≤ M
  drop : ∀ s ∈ p.drop, s.size ≤ M
theorem ruleO_tx {M : Nat} : ∀ {l : List ByteArray} {r : RuleD}, ruleO l = some r → (∀ s ∈ l, s.size ≤ M) → l.length ≤ M → TxR M r
  | [], r, h, _, _ => by cases h
  | [a], r, h, _, _ => by cases h
  | n :: k :: ws, r, h, hl, hn => by
    simp only [ruleO] at h
    split at h
    · rename_i hc
      obtain rfl := Option.some.inj h
      have := kindZ_le k
      simp at hn
      exact ⟨hl n (by simp), hc.1, by show kindZ k < 9; omega, by show ws.length ≤ M; omega, fun s hs => hl s (by simp [show s ∈ ws from hs])⟩
    · cases h
theorem mem_one {M : Nat} {l : List ByteArray} {x : ByteArray} (h1 : ∀ s ∈ l, s.size ≤ M) (h2 : x.size ≤ M) : ∀ s ∈ l ++ [x], s.size ≤ M := fun s hs => by
  rcases List.mem_append.1 hs with hs | hs
  · exact h1 s hs
  · rw [List.mem_singleton.1 hs]; exact h2
theorem line_tx {st st' : RS} {ws : List ByteArray} {M : Nat} (h : lineO st ws = some st') (hw : ∀ s ∈ ws, s.size ≤ M) (hn : ws.length ≤ M + 1) (ht : TxP M st.p) : TxP M st'.p := by
  unfold lineO at h
  by_cases h0 : hasT ws ByteArray.empty = true
  · rw [if_pos h0] at h; cases h
  rw [if_neg h0] at h
  match ws, hw, hn, h with
  | [], _, _, h => cases h
  | w :: l, hw, hn, h =>
    simp only at h
    have hl : ∀ s ∈ l, s.size ≤ M := fun s hs => hw s (List.mem_cons_of_mem _ hs)
    have hln : l.length ≤ M := by simp at hn; omega
    by_cases e0 : w = wRel
    · rw [if_pos e0] at h
      split at h
      · obtain rfl := Option.some.inj h; exact ⟨ht.els, ht.glob, ht.schemes, ht.drop⟩
      · cases h
    rw [if_neg e0] at h
    by_cases e1 : w = wDepth
    · rw [if_pos e1] at h
      match l, h with
      | [], h => cases h
      | _ :: _ :: _, h => cases h
      | [x], h =>
        simp only at h
        split at h
        · obtain rfl := Option.some.inj h; exact ⟨ht.els, ht.glob, ht.schemes, ht.drop⟩
        · cases h
    rw [if_neg e1] at h
    by_cases e2 : w = wWindow
    · rw [if_pos e2] at h
      match l, h with
      | [], h => cases h
      | _ :: _ :: _, h => cases h
      | [x], h =>
        simp only at h
        split at h
        · obtain rfl := Option.some.inj h; exact ⟨ht.els, ht.glob, ht.schemes, ht.drop⟩
        · cases h
    rw [if_neg e2] at h
    by_cases e3 : w = wScheme
    · rw [if_pos e3] at h
      match l, hl, h with
      | [], _, h => cases h
      | _ :: _ :: _, _, h => cases h
      | [x], hl, h => obtain rfl := Option.some.inj h; exact ⟨ht.els, ht.glob, mem_one ht.schemes (hl x (by simp)), ht.drop⟩
    rw [if_neg e3] at h
    by_cases e4 : w = wDrop
    · rw [if_pos e4] at h
      match l, hl, h with
      | [], _, h => cases h
      | _ :: _ :: _, _, h => cases h
      | [x], hl, h => obtain rfl := Option.some.inj h; exact ⟨ht.els, ht.glob, ht.schemes, mem_one ht.drop (hl x (by simp))⟩
    rw [if_neg e4] at h
    by_cases e5 : w = wElement
    · rw [if_pos e5] at h
      match l, hl, h with
      | [], _, h => cases h
      | _ :: _ :: _, _, h => cases h
      | [x], hl, h =>
        obtain rfl := Option.some.inj h
        refine ⟨fun e he => ?_, ht.glob, ht.schemes, ht.drop⟩
        rcases List.mem_append.1 he with he | he
        · exact ht.els e he
        · rw [List.mem_singleton.1 he]; exact ⟨hl x (by simp), fun r hr => by cases hr⟩
    rw [if_neg e5] at h
    by_cases e6 : w = wGlobal
    · rw [if_pos e6] at h
      cases hr : ruleO l with
      | none => rw [hr] at h; cases h
      | some r =>
        rw [hr] at h
        obtain rfl := Option.some.inj h
        refine ⟨ht.els, fun r' hr' => ?_, ht.schemes, ht.drop⟩
        rcases List.mem_append.1 hr' with hr' | hr'
        · exact ht.glob r' hr'
        · rw [List.mem_singleton.1 hr']; exact ruleO_tx hr hl hln
    rw [if_neg e6] at h
    by_cases e7 : w = wAttr
    · rw [if_pos e7] at h
      split at h
      · cases h
      · cases hr : ruleO l with
        | none => rw [hr] at h; cases h
        | some r =>
          rw [hr] at h
          obtain rfl := Option.some.inj h
          refine ⟨fun e he => ?_, ht.glob, ht.schemes, ht.drop⟩
          rcases lastR_mem he with he | ⟨e', he', rfl⟩
          · exact ht.els e he
          · refine ⟨(ht.els e' he').1, fun r' hr' => ?_⟩
            rcases List.mem_append.1 hr' with hr' | hr'
            · exact (ht.els e' he').2 r' hr'
            · rw [List.mem_singleton.1 hr']; exact ruleO_tx hr hl hln
    · rw [if_neg e7] at h; cases h
theorem cutG_size (c : UInt8) : ∀ (l cur x : List UInt8), x ∈ cutG c cur l → x.length ≤ cur.length + l.length
  | [], cur, x, h => by
    rw [show cutG c cur [] = [cur] from rfl, List.mem_singleton] at h
    subst h; simp
  | b :: l, cur, x, h => by
    unfold cutG at h
    split at h
    · rcases List.mem_cons.1 h with rfl | h
      · simp
      · have := cutG_size c l [] x h; simp at this ⊢; omega
    · have := cutG_size c l (cur ++ [b]) x h; simp at this ⊢; omega
theorem cutS_size (s : ByteArray) (c : UInt8) : ∀ x ∈ cutS s c, x.size ≤ s.size := by
  intro x hx
  obtain ⟨l, hl, rfl⟩ := List.mem_map.1 hx
  have := cutG_size c _ [] l hl
  rw [str_size, ← size_len s]
  simpa using this
theorem okr_of {M n : Nat} {l : List RuleD} (hM : M ≤ 4294967296) (hn : n ≤ 4294967296) (h : ∀ r ∈ l, TxR M r) (hl : l.length ≤ n) : OkR l := by
  refine ⟨by omega, fun i hi => ?_⟩
  obtain ⟨h1, h2, h3, h4, h5⟩ := h _ (List.getElem_mem hi)
  unfold maxLen
  refine ⟨by omega, by omega, by omega, by omega⟩
theorem okp_of {M n : Nat} {p : PolD} (hM : M ≤ 4294967296) (hn : n ≤ 4294967296) (h : TxP M p) (hl : LenP p n) : OkP p := by
  obtain ⟨l1, l2, l3, l4, l5⟩ := hl
  refine ⟨⟨by omega, fun i hi => okr_of hM hn (h.els _ (List.getElem_mem hi)).2 (l5 _ (List.getElem_mem hi))⟩, okr_of hM hn h.glob l2, ⟨by omega, fun i hi => ?_⟩, ⟨by omega, fun i hi => ?_⟩⟩
  · have := h.schemes _ (List.getElem_mem hi); unfold maxLen; omega
  · have := h.drop _ (List.getElem_mem hi); unfold maxLen; omega

/-! ### the line -/
theorem lineC (w : World) (B g : Nat) (x : Vs) (st : RS) (F : List Nat) (s : ByteArray) (hs : Sp w B g x st F) (hm : Mx w) (hz : s.size < 4294967281) (n : Nat) (hn : n ≤ 4294967296) (hl : LenP st.p n) :
    Calls Tryz.prog 114 #[.pointer (some ⟨g, 0, none⟩), .string s] w (LineP w B g st (cutS s 32)) := by
  by_cases he : hasT (cutS s 32) ByteArray.empty = true
  · exact pLineE w B g x st F s hs hm hz he
  · have he' : hasT (cutS s 32) ByteArray.empty = false := by simpa using he
    have hlen := Pt.cutS_le s 32
    have hp : 0 < (cutS s 32).length := by unfold cutS; rw [List.length_map]; exact cut_len_pos 32 _
    obtain ⟨l1, l2, l3, l4, l5⟩ := hl
    cases hws : cutS s 32 with
    | nil => rw [hws] at hp; simp at hp
    | cons w0 l =>
      rw [hws] at he' hlen
      have hlz : (l.length + 1) * 48 ≤ 140737488355328 := by simp at hlen; omega
      by_cases e0 : w0 = wRel
      · subst e0
        by_cases h0 : l = []
        · subst h0
          cases hr : st.sr
          · exact pLineRel w B g x st F s hr hs hm hz hws he'
          · exact pLineRel2 w B g x st F s hr hs hm hz hws he'
        · exact pLineNRel w B g x st F s l hs hm hz hws he' h0 hlz
      by_cases e1 : w0 = wDepth
      · subst e1
        by_cases h0 : l.length = 1
        · obtain ⟨x1, rfl⟩ := List.length_eq_one_iff.1 h0
          cases hd : st.sd
          · cases hb : numB x1
            · exact pLineDepth2 w B g x st F s x1 hd hb hs hm hz hws he'
            · exact pLineDepth w B g x st F s x1 hd hb hs hm hz hws he'
          · exact pLineDepth3 w B g x st F s x1 hd hs hm hz hws he'
        · exact pLineNDepth w B g x st F s l hs hm hz hws he' h0 hlz
      by_cases e2 : w0 = wWindow
      · subst e2
        by_cases h0 : l.length = 1
        · obtain ⟨x1, rfl⟩ := List.length_eq_one_iff.1 h0
          cases hd : st.sw
          · cases hb : numB x1
            · exact pLineWindow2 w B g x st F s x1 hd hb hs hm hz hws he'
            · exact pLineWindow w B g x st F s x1 hd hb hs hm hz hws he'
          · exact pLineWindow3 w B g x st F s x1 hd hs hm hz hws he'
        · exact pLineNWindow w B g x st F s l hs hm hz hws he' h0 hlz
      by_cases e3 : w0 = wScheme
      · subst e3
        by_cases h0 : l.length = 1
        · obtain ⟨x1, rfl⟩ := List.length_eq_one_iff.1 h0
          exact pLineScheme w B g x st F s x1 (by omega) hs hm hz hws he'
        · exact pLineNScheme w B g x st F s l hs hm hz hws he' h0 hlz
      by_cases e4 : w0 = wDrop
      · subst e4
        by_cases h0 : l.length = 1
        · obtain ⟨x1, rfl⟩ := List.length_eq_one_iff.1 h0
          exact pLineDrop w B g x st F s x1 (by omega) hs hm hz hws he'
        · exact pLineNDrop w B g x st F s l hs hm hz hws he' h0 hlz
      by_cases e5 : w0 = wElement
      · subst e5
        by_cases h0 : l.length = 1
        · obtain ⟨x1, rfl⟩ := List.length_eq_one_iff.1 h0
          exact pLineElement w B g x st F s x1 (by omega) hs hm hz hws he'
        · exact pLineNElement w B g x st F s l hs hm hz hws he' h0 hlz
      by_cases e6 : w0 = wGlobal
      · subst e6
        exact pLineGlobal w B g x st F s (by omega) l hs hm hz hws he' hlz
      by_cases e7 : w0 = wAttr
      · subst e7
        cases hel : st.p.els.length with
        | zero => exact pLineAttr0 w B g x st F s (List.eq_nil_of_length_eq_zero hel) l hs hm hz hws he' hlz
        | succ i => exact pLineAttr w B g x st F s i hel (fun e h => by have := l5 e h; omega) l hs hm hz hws he' hlz
      · exact pLineX w B g x st F s w0 e0 e1 e2 e3 e4 e5 e6 e7 l hs hm hz hws he' hlz

/-! ### Parse -/
theorem cell_old {w w' : World} {B g : Nat} (hk : Kpt w B g g w') {p : Addr} (h1 : p.block < B) (h2 : p.block ≠ g) : w'.cell? p = w.cell? p := World.cell?_of_block (hk.old p.block h1 h2 h2)
theorem st0_tx (M : Nat) : TxP M st0.p := ⟨fun e he => (by cases he), fun e he => (by cases he), fun e he => (by cases he), fun e he => (by cases he)⟩
theorem st0_len (n : Nat) : LenP st0.p n := ⟨Nat.zero_le _, Nat.zero_le _, Nat.zero_le _, Nat.zero_le _, fun e he => by cases he⟩
theorem len_up {p : PolD} {n : Nat} (h : LenP p n) : LenP p (n + 1) := by
  obtain ⟨h1, h2, h3, h4, h5⟩ := h
  exact ⟨by omega, by omega, by omega, by omega, fun e he => by have := h5 e he; omega⟩
theorem parse_skip {st : RS} {k : Nat} {L : List ByteArray} {ln : ByteArray} (h : k < L.length) (e : ln = L[k]) (hs : skipB ln = true) : parseF st k (L.drop k) = parseF st (k + 1) (L.drop (k + 1)) := by
  subst e
  rw [List.drop_eq_getElem_cons h, parseF, if_pos hs]
theorem parse_none {st : RS} {k : Nat} {L : List ByteArray} {ln : ByteArray} (h : k < L.length) (e : ln = L[k]) (hs : skipB ln = false) (hl : lineO st (cutS ln 32) = none) : parseF st k (L.drop k) = (zeroP, (k : Int) + 1, 145) := by
  subst e
  rw [List.drop_eq_getElem_cons h, parseF, if_neg (by rw [hs]; decide), hl]
theorem parse_some {st st' : RS} {k : Nat} {L : List ByteArray} {ln : ByteArray} (h : k < L.length) (e : ln = L[k]) (hs : skipB ln = false) (hl : lineO st (cutS ln 32) = some st') : parseF st k (L.drop k) = parseF st' (k + 1) (L.drop (k + 1)) := by
  subst e
  rw [List.drop_eq_getElem_cons h, parseF, if_neg (by rw [hs]; decide), hl]
theorem parse_end {st : RS} {k : Nat} {L : List ByteArray} (h : L.length ≤ k) : parseF st k (L.drop k) = if checkI st.p = 0 then (st.p, 0, 0) else (zeroP, 0, checkI st.p) := by
  rw [List.drop_of_length_le h]; rfl
theorem skip_0 {s : ByteArray} (h : s.size = 0) : skipB s = true := by unfold skipB; rw [h]; rfl
theorem skip_at {s : ByteArray} (h : 0 < s.size) : skipB s = decide (s[0].toNat = 35) := by
  unfold skipB
  rw [head_at h, decide_eq_false (by omega), Bool.false_or]
theorem res_cell3 {P : Program} {fn : Func} {t u v : Tmp} {ty tg : TypeId} {tmps : Array Value} {w : World} {g : Nat} {xs : List Value} {d : TypeDesc} (h : fn.results = #[.cell t ty, .tmp u, .tmp v]) (hp : tmps.getD t undef = .pointer (some ⟨g, 0, none⟩)) (hb : Bl w g tg xs)
    (hu : P.underlying ty = some d) (hd : d.isRow = true) (hi : (P.info? ty).map (·.size) = some xs.length) : (results fn tmps).run P w = .ok (.tuple #[.agg xs.toArray, tmps.getD u undef, tmps.getD v undef]) w := by
  have hl := run_loadVar_mid w g 0 ty xs d hb.range hu hd hi
  rw [Array.getD_eq_getD_getElem?] at hp
  simp [results, h, hp, asAddr, hl]
theorem lineP_none {w w2 : World} {B g : Nat} {st : RS} {ws : List ByteArray} {e : Ending} (h : LineP w B g st ws e w2) (hl : lineO st ws = none) : e = .returned (.bool false) ∧ Kpt w B g g w2 := by
  unfold LineP at h
  rw [hl] at h
  exact ⟨h.2, h.1⟩
theorem lineP_some {w w2 : World} {B g : Nat} {st st' : RS} {ws : List ByteArray} {e : Ending} (h : LineP w B g st ws e w2) (hl : lineO st ws = some st') : e = .returned (.bool true) ∧ (∃ x' F', Sp w2 B g x' st' F') ∧ Kpt w B g g w2 := by
  unfold LineP at h
  rw [hl] at h
  exact ⟨h.2.1, h.2.2, h.1⟩
/-- what Parse gives -/
def PaR (res : PolD × Int × Int) (w : World) (e : Ending) (w' : World) : Prop :=
  ∃ y F, e = .returned (.tuple #[polV y res.1, .int .i64 res.2.1, .int .i64 res.2.2]) ∧ OwnP w' w.heap.size y res.1 F ∧ Below w.heap.size w w'
set_option maxHeartbeats 8000000 in
set_option maxRecDepth 100000 in
theorem ParseC (s : ByteArray) (w : World) (ht : Tab w) (hnv : NevT w) (hm : Mx w) (hz : s.size ≤ 2147483647) : Calls Tryz.prog 51 #[.string s] w (PaR (parseQ s) w) := by
  obtain ⟨Wa, hWa⟩ : ∃ W, W = w.alloc (.cells #[.slice none 0 0, .slice none 0 0, .slice none 0 0, .bool false, .slice none 0 0, .int .i64 0, .int .i64 0] 29) := ⟨_, rfl⟩
  obtain ⟨W0, hW0⟩ : ∃ W, W = Wa.alloc (.cells #[.slice none 0 0, .slice none 0 0, .slice none 0 0, .bool false, .slice none 0 0, .int .i64 64, .int .i64 65536, .bool false, .bool false, .bool false] 125) := ⟨_, rfl⟩
  have hza : Wa.heap.size = w.heap.size + 1 := by rw [hWa]; simp
  have hba : Below w.heap.size w Wa := hWa ▸ (Below.refl _ _).alloc (Nat.le_refl _) _
  have hb0 : Below w.heap.size w W0 := hW0 ▸ hba.alloc (by omega) _
  have hsz0 : W0.heap.size = w.heap.size + 2 := by rw [hW0]; simp; omega
  have k0 : Bl W0 w.heap.size 29 [.slice none 0 0, .slice none 0 0, .slice none 0 0, .bool false, .slice none 0 0, .int .i64 0, .int .i64 0] := hW0 ▸ (hWa ▸ Bl.new w _ _ rfl : Bl Wa w.heap.size _ _).alloc _
  have k1 : Bl W0 Wa.heap.size 125 [.slice none 0 0, .slice none 0 0, .slice none 0 0, .bool false, .slice none 0 0, .int .i64 64, .int .i64 65536, .bool false, .bool false, .bool false] := hW0 ▸ Bl.new Wa _ _ rfl
  obtain ⟨L, hL⟩ : ∃ L, cutS s 10 = L := ⟨_, rfl⟩
  obtain ⟨n, hn⟩ : ∃ n, L.length = n := ⟨_, rfl⟩
  have hnz : n ≤ s.size + 1 := by rw [← hn, ← hL]; exact Pt.cutS_le s 10
  have hLz : Hid (∀ x ∈ L, x.size ≤ s.size) := Lib.hid (by rw [← hL]; exact cutS_size s 10)
  have HSP := Lib.hid (wordsC s 10 W0 (hm.below hb0) (by omega) L n hL hn)
  have HLC : Hid (∀ W B g x st F ln k, Sp W B g x st F → Mx W → ln.size < 4294967281 → k ≤ 4294967296 → LenP st.p k → Calls Tryz.prog 114 #[.pointer (some ⟨g, 0, none⟩), .string ln] W (LineP W B g st (cutS ln 32))) :=
    Lib.hid fun W B g x st F ln k h1 h2 h3 h4 h5 => lineC W B g x st F ln h1 h2 h3 k h4 h5
  have HCK : Hid (∀ W x p, Below w.heap.size w W → RdP W 0 W.heap.size x p → OkP p → Calls Tryz.prog 22 #[.agg #[x.e, x.g, x.s, .bool p.rel, x.d, .int .i64 p.depth, .int .i64 p.window]] W fun e w' => e = .returned (.int .i64 (checkI p)) ∧ Below W.heap.size W w') :=
    Lib.hid fun W x p hb hr ho => CheckC x p W (ht.below hb) (hnv.below hb) hr ho
  have HMX : Hid (∀ W, Below w.heap.size w W → Mx W) := Lib.hid fun W hb => hm.below hb
  have HPQ : Hid (parseF st0 0 (L.drop 0) = parseQ s) := Lib.hid (by unfold parseQ; rw [hL]; rfl)
  have HLN := Lib.hid hn
  have HX0 := Lib.hid hW0
  have HXA := Lib.hid hWa
  have HBA := Lib.hid hba
  obtain ⟨g, hg⟩ : ∃ g, g = Wa.heap.size := ⟨_, rfl⟩
  rw [← hg] at k1 hza
  have HGE := Lib.hid hg
  have hg1 : w.heap.size < g := by omega
  have hg2 : g < W0.heap.size := by omega
  have hg3 : g ≤ w.heap.size + 1 := by omega
  generalize parseQ s = res at *
  clear ht hnv hm hL hn hW0 hWa hba hza hsz0 hg
  go_enter Tryz.func51, Tryz.ntmps51
  go_upto_region 1 with fail
  rw [← HXA.out]
  go_upto_region 2 with fail
  rw [← HX0.out, ← HGE.out]
  go_wp2_with (go_at_call 113; refine HSP.out.mono ?_; rintro e w1 ⟨b, off, cp, rfl, hb2, hb1, hn1, hn2, hr1, hc1, hw1⟩; have HC1 := Lib.hid hc1; have HW1 := Lib.hid hw1; have HR1 := Lib.hid hr1; clear hr1 hc1 hw1)
  have hq1 : n ≤ cp := hn1
  have hq2 : (n : Int) ≤ 9223372036854775807 := by omega
  have hsp0 : Hid (Sp w1 w1.heap.size g zeroV st0 []) := Lib.hid ⟨⟨[], [], [], [], fmE.own_nil _ _, fmR.own_nil _ _, ⟨World.ownsRow_nil _ _ _ _, rfl⟩, ⟨World.ownsRow_nil _ _ _ _, rfl⟩, rfl, by simp⟩, k1.below HW1.out, by omega, Nat.le_refl _⟩
  have hst0 : Hid (LenP st0.p 0 ∧ TxP (s.size + 1) st0.p ∧ parseF st0 0 (L.drop 0) = res) := Lib.hid ⟨st0_len 0, st0_tx _, HPQ.out⟩
  have hkp0 : Kpt w1 w1.heap.size g g w1 := Kpt.of (by omega) (Nat.le_refl _) (Below.refl _ _)
  go_loopw [15] (fun i wr => ∃ (k : Nat) (x : Vs) (st : RS) (F : List Nat), k ≤ n ∧ i = .int .i64 k ∧ Hid (Sp wr w1.heap.size g x st F) ∧ Hid (LenP st.p k ∧ TxP (s.size + 1) st.p ∧ parseF st k (L.drop k) = res) ∧ Kpt w1 w1.heap.size g g wr) (fun i _ => n - (intOf i).toNat)
  case atStart => exact ⟨0, zeroV, st0, [], Nat.zero_le _, rfl, hsp0, hst0, hkp0⟩
  case round =>
    obtain ⟨k, x, st, F, hk, rfl, hsp, hst, hkp⟩ := hrel
    have hbw : Below w.heap.size w wr := (hb0.trans (HW1.out.mono (by omega))).trans (hkp.below.mono (by omega))
    have HBW := Lib.hid hbw
    have k0w : Bl wr w.heap.size 29 [.slice none 0 0, .slice none 0 0, .slice none 0 0, .bool false, .slice none 0 0, .int .i64 0, .int .i64 0] := (k0.below HW1.out).of (hkp.old _ (by have := k0.lt; have := HW1.out.size; omega) (by omega) (by omega))
    have hwz := hbw.size
    by_cases hlt : k < n
    · have hkL : k < L.length := by have := HLN.out; omega
      obtain ⟨ln, hln⟩ : ∃ ln, ln = L[k] := ⟨_, rfl⟩
      have y0 : wr.cell? ⟨b, off + k, none⟩ = some (.string ln) := by
        rw [cell_old hkp (p := ⟨b, off + k, none⟩) hb1 (by show b ≠ g; omega), hln]
        exact HC1.out k hkL
      have hlz := hLz.out ln (by rw [hln]; exact List.getElem_mem hkL)
      have HLE := Lib.hid hln
      clear hln
      by_cases h0 : ln.size = 0
      · have e0 := toList_nil h0
        have hst2 : Hid (LenP st.p (k + 1) ∧ TxP (s.size + 1) st.p ∧ parseF st (k + 1) (L.drop (k + 1)) = res) := Lib.hid ⟨len_up hst.out.1, hst.out.2.1, by rw [← parse_skip hkL HLE.out (skip_0 h0)]; exact hst.out.2.2⟩
        clear hst
        go_wp2
        go_roundw
        case rel => exact ⟨k + 1, x, st, F, by omega, by go_num, hsp, hst2, hkp⟩
        case measure => simp [intOf] <;> omega
      · have e0 := toList_ne (s := ln) (by omega)
        have e1 := isEmpty_ne (s := ln) (by omega)
        have h1 : 0 < ln.size := by omega
        by_cases h35 : ln[0].toNat = 35
        · have b1 : ((ln[0].toNat : Int) == 35) = true := by rw [h35]; rfl
          have hst2 : Hid (LenP st.p (k + 1) ∧ TxP (s.size + 1) st.p ∧ parseF st (k + 1) (L.drop (k + 1)) = res) := Lib.hid ⟨len_up hst.out.1, hst.out.2.1, by rw [← parse_skip hkL HLE.out (by rw [skip_at h1, decide_eq_true h35])]; exact hst.out.2.2⟩
          clear hst h35
          go_wp2
          go_roundw
          case rel => exact ⟨k + 1, x, st, F, by omega, by go_num, hsp, hst2, hkp⟩
          case measure => simp [intOf] <;> omega
        · have b1 : ((ln[0].toNat : Int) == 35) = false := by simp; omega
          have hsk : Hid (skipB ln = false) := Lib.hid (by rw [skip_at h1, decide_eq_false h35])
          have HL1 := Lib.hid (HLC.out wr _ g x st F ln k hsp.out (HMX.out _ hbw) (by omega) (by omega) hst.out.1)
          clear h35
          obtain ⟨ws, hws⟩ : ∃ ws, ws = cutS ln 32 := ⟨_, rfl⟩
          have HWS := Lib.hid hws
          rw [← hws] at HL1
          obtain ⟨o, hlo⟩ : ∃ o, lineO st ws = o := ⟨_, rfl⟩
          clear hws
          cases o with
          | none =>
            have HL2 : Hid (Calls Tryz.prog 114 #[.pointer (some ⟨g, 0, none⟩), .string ln] wr fun e w2 => e = .returned (.bool false) ∧ Kpt wr w1.heap.size g g w2) := Lib.hid (HL1.out.mono fun e w2 h => lineP_none h hlo)
            have hres : Hid (res = (zeroP, (k : Int) + 1, 145)) := Lib.hid (by rw [← hst.out.2.2]; exact parse_none hkL HLE.out hsk.out (HWS.out ▸ hlo))
            clear HL1 hst hlo
            go_upto_region 7 with (go_at_call 114; refine HL2.out.mono ?_; rintro e w2 ⟨rfl, hk2⟩)
            have m1 := k0w.of (hk2.old w.heap.size (by have := HW1.out.size; omega) (by omega) (by omega))
            have hbw2 : Below w.heap.size w w2 := HBW.out.trans (hk2.below.mono (by omega))
            obtain ⟨s0, s1, s2, s3, s4, s5, s6, s7, s8, s9, s10, s11, s12, s13⟩ := m1.store7 (.slice none 0 0) (.slice none 0 0) (.slice none 0 0) (.bool false) (.slice none 0 0) (.int .i64 0) (.int .i64 0)
            have jz := m1.seven (.slice none 0 0) (.slice none 0 0) (.slice none 0 0) (.bool false) (.slice none 0 0) (.int .i64 0) (.int .i64 0)
            have hfz := Fr.set7 w2 w.heap.size (.slice none 0 0) (.slice none 0 0) (.slice none 0 0) (.bool false) (.slice none 0 0) (.int .i64 0) (.int .i64 0)
            have hwr : IntKind.i64.wrap ((k : Int) + 1) = (k : Int) + 1 := by rw [IntKind.wrap_i64] <;> omega
            go_wp2
            refine bodyPost_ret (res_cell3 Tryz.results51 rfl jz Tryz.underlying29 rfl (by kernel_rfl)) rfl ?_
            refine ⟨zeroV, [], ?_, ?_, hbw2.trans (hfz.below hbw2.size (by simp))⟩
            · rw [hres.out]; rfl
            · rw [hres.out]; exact own_zero _ _
          | some st' =>
            have HL2 : Hid (Calls Tryz.prog 114 #[.pointer (some ⟨g, 0, none⟩), .string ln] wr fun e w2 => e = .returned (.bool true) ∧ (∃ x' F', Sp w2 w1.heap.size g x' st' F') ∧ Kpt wr w1.heap.size g g w2) := Lib.hid (HL1.out.mono fun e w2 h => lineP_some h hlo)
            have hst2 : Hid (LenP st'.p (k + 1) ∧ TxP (s.size + 1) st'.p ∧ parseF st' (k + 1) (L.drop (k + 1)) = res) := Lib.hid ⟨line_len hlo hst.out.1, line_tx hlo (fun y hy => by rw [HWS.out] at hy; have := cutS_size ln 32 y hy; omega) (by rw [HWS.out]; have := Pt.cutS_le ln 32; omega) hst.out.2.1, by rw [← parse_some hkL HLE.out hsk.out (HWS.out ▸ hlo)]; exact hst.out.2.2⟩
            clear HL1 hst hlo
            go_wp2_with (go_at_call 114; refine HL2.out.mono ?_; rintro e w2 ⟨rfl, ⟨x', F', hsp2⟩, hk2⟩; have HSP2 := Lib.hid hsp2; clear hsp2)
            go_roundw
            case rel => exact ⟨k + 1, x', st', F', by omega, by go_num, HSP2, hst2, hkp.trans hk2⟩
            case measure => simp [intOf] <;> omega
    · obtain rfl : k = n := by omega
      have hkL : L.length ≤ k := by have := HLN.out; omega
      have hend := parse_end (st := st) hkL
      rw [hst.out.2.2] at hend
      have HEND := Lib.hid hend
      have hok := okp_of (M := s.size + 1) (n := k) (by omega) (by omega) hst.out.2.1 hst.out.1
      have hrd := hsp.out.own.rd (lo := 0) (hi := wr.heap.size) (Nat.zero_le _) (Nat.le_refl _)
      have HC2 := Lib.hid (HCK.out wr x st.p hbw hrd hok)
      have hbg := hsp.out.bg
      have a0 := hbg.cell 0 rfl
      have a1 := hbg.cell 1 rfl
      have a2 := hbg.cell 2 rfl
      have a3 := hbg.cell 3 rfl
      have a4 := hbg.cell 4 rfl
      have a5 := hbg.cell 5 rfl
      have a6 := hbg.cell 6 rfl
      have HOW := Lib.hid hsp.out.own
      have hgl := hbg.lt
      obtain ⟨p, hp⟩ : ∃ p, p = st.p := ⟨_, rfl⟩
      rw [← hp] at HC2 HOW HEND a3 a5 a6 hbg
      clear hend hok hrd hst hp hsp
      by_cases hc : checkI p = 0
      · rw [hc] at HC2
        have HRES : Hid (res = (p, 0, 0)) := Lib.hid (by rw [HEND.out, if_pos hc])
        clear HEND hc
        go_upto_region 12 with (go_at_call 22; refine HC2.out.mono ?_; rintro e w2 ⟨rfl, hb3⟩)
        have m1 := k0w.below hb3
        obtain ⟨A1, d1, A2, d2, A3, d3, A4, d4, hxx, _⟩ := (HOW.out.rd (lo := 0) (hi := wr.heap.size) (Nat.zero_le _) (Nat.le_refl _)).form
        subst hxx
        have m2 : Bl w2 g 125 [.slice A1 p.els.length d1, .slice A2 p.glob.length d2, .slice A3 p.schemes.length d3, .bool p.rel, .slice A4 p.drop.length d4, .int .i64 p.depth, .int .i64 p.window, .bool st.sd, .bool st.sw, .bool st.sr] := hbg.below hb3
        clear a0 a1 a2 a3 a4 a5 a6 hbg
        have c0 := m2.cell 0 rfl
        have c1 := m2.cell 1 rfl
        have c2 := m2.cell 2 rfl
        have c3 := m2.cell 3 rfl
        have c4 := m2.cell 4 rfl
        have c5 := m2.cell 5 rfl
        have c6 := m2.cell 6 rfl
        obtain ⟨s0, s1, s2, s3, s4, s5, s6, s7, s8, s9, s10, s11, s12, s13⟩ := m1.store7 (.slice A1 p.els.length d1) (.slice A2 p.glob.length d2) (.slice A3 p.schemes.length d3) (.bool p.rel) (.slice A4 p.drop.length d4) (.int .i64 p.depth) (.int .i64 p.window)
        have jz := m1.seven (.slice A1 p.els.length d1) (.slice A2 p.glob.length d2) (.slice A3 p.schemes.length d3) (.bool p.rel) (.slice A4 p.drop.length d4) (.int .i64 p.depth) (.int .i64 p.window)
        have hfz := Fr.set7 w2 w.heap.size (.slice A1 p.els.length d1) (.slice A2 p.glob.length d2) (.slice A3 p.schemes.length d3) (.bool p.rel) (.slice A4 p.drop.length d4) (.int .i64 p.depth) (.int .i64 p.window)
        have hbw2 : Below w.heap.size w w2 := HBW.out.trans (hb3.mono hwz)
        have ho2 : OwnP w2 w1.heap.size ⟨.slice A1 p.els.length d1, .slice A2 p.glob.length d2, .slice A3 p.schemes.length d3, .slice A4 p.drop.length d4⟩ p F := HOW.out.keep hb3.size fun j hj => hb3.block j (HOW.out.ge j hj).2
        have HO2 := Lib.hid ho2
        have hw1z := HW1.out.size
        clear ho2
        go_wp2
        refine bodyPost_ret (res_cell3 Tryz.results51 rfl jz Tryz.underlying29 rfl (by kernel_rfl)) rfl ?_
        refine Exists.intro (⟨.slice A1 p.els.length d1, .slice A2 p.glob.length d2, .slice A3 p.schemes.length d3, .slice A4 p.drop.length d4⟩ : Vs) (Exists.intro F (And.intro ?_ (And.intro ?_ (hbw2.trans (hfz.below hbw2.size (by simp))))))
        · rw [HRES.out]; rfl
        · rw [HRES.out]
          exact (HO2.out.keep hfz.size fun j hj => hfz.block j (HO2.out.ge j hj).2 (by have := (HO2.out.ge j hj).1; simp; omega)).low (by omega)
      · have hc2 : (checkI p != 0) = true := by simpa using hc
        have HRES : Hid (res = (zeroP, 0, checkI p)) := Lib.hid (by rw [HEND.out, if_neg hc])
        clear HEND hc
        generalize checkI p = c at *
        go_upto_region 11 with (go_at_call 22; refine HC2.out.mono ?_; rintro e w2 ⟨rfl, hb3⟩)
        have m1 := k0w.below hb3
        obtain ⟨s0, s1, s2, s3, s4, s5, s6, s7, s8, s9, s10, s11, s12, s13⟩ := m1.store7 (.slice none 0 0) (.slice none 0 0) (.slice none 0 0) (.bool false) (.slice none 0 0) (.int .i64 0) (.int .i64 0)
        have jz := m1.seven (.slice none 0 0) (.slice none 0 0) (.slice none 0 0) (.bool false) (.slice none 0 0) (.int .i64 0) (.int .i64 0)
        have hfz := Fr.set7 w2 w.heap.size (.slice none 0 0) (.slice none 0 0) (.slice none 0 0) (.bool false) (.slice none 0 0) (.int .i64 0) (.int .i64 0)
        have hbw2 : Below w.heap.size w w2 := HBW.out.trans (hb3.mono hwz)
        go_wp2
        refine bodyPost_ret (res_cell3 Tryz.results51 rfl jz Tryz.underlying29 rfl (by kernel_rfl)) rfl ?_
        refine ⟨zeroV, [], ?_, ?_, hbw2.trans (hfz.below hbw2.size (by simp))⟩
        · rw [HRES.out]; rfl
        · rw [HRES.out]; exact own_zero _ _
end Go.Proofs.YteikagdinecfoaaGreatDoor.Lq
