/- What is in order is right, and stays: plain laws. -/
import Derived.Test.YteikagdinecfoaaGreatDoorVd
import Derived.Test.YteikagdinecfoaaGreatDoorRa
import Derived.Test.YteikagdinecfoaaGreatDoorSp
set_option linter.unusedVariables false
set_option linter.unusedSimpArgs false
namespace Go.Proofs.YteikagdinecfoaaGreatDoor.Bt
open Go.RowKit Lb Gr Pd Ea Go.Proofs.YteikagdinecfoaaGreatDoor.Fd Go.Proofs.YteikagdinecfoaaGreatDoor.Ra Dp Go.Proofs.YteikagdinecfoaaGreatDoor.Ck Go.Proofs.YteikagdinecfoaaGreatDoor.Lk Go.Proofs.YteikagdinecfoaaGreatDoor.Th Go.Proofs.YteikagdinecfoaaGreatDoor.So Go.Proofs.YteikagdinecfoaaGreatDoor.Rs Go.Proofs.YteikagdinecfoaaGreatDoor.Or Go.Proofs.YteikagdinecfoaaGreatDoor.Vd Go.Proofs.YteikagdinecfoaaGreatDoor.Ty Is

/-! ### lists in which nothing stands twice -/
theorem once_iff {ok : ByteArray → Bool} : ∀ {t l : List ByteArray}, onceFrom ok l t = true ↔ (∀ s ∈ t, ok s = true) ∧ t.Nodup ∧ ∀ s ∈ t, s ∉ l
  | [], l => by simp [onceFrom]
  | a :: t, l => by
    rw [onceFrom, Bool.and_eq_true, Bool.and_eq_true, once_iff (t := t) (l := l ++ [a])]
    have hh : hasT l a = false ↔ a ∉ l := by rw [← hasT_iff, Bool.not_eq_true]
    have hsa : ∀ s, (s ∉ l ++ [a]) ↔ s ∉ l ∧ ¬ s = a := fun s => by rw [List.mem_append, List.mem_singleton, not_or]
    simp only [Bool.not_eq_true', List.mem_cons, List.nodup_cons, hsa]
    rw [hh]
    constructor
    · rintro ⟨⟨h1, h2⟩, h3, h4, h5⟩
      refine ⟨?_, ⟨fun h => (h5 a h).2 rfl, h4⟩, ?_⟩
      · rintro s (rfl | hs)
        · exact h1
        · exact h3 s hs
      · rintro s (rfl | hs)
        · exact h2
        · exact (h5 s hs).1
    · rintro ⟨h1, ⟨h2, h3⟩, h4⟩
      exact ⟨⟨h1 a (.inl rfl), h4 a (.inl rfl)⟩, fun s hs => h1 s (.inr hs), h3, fun s hs => ⟨h4 s (.inr hs), fun e => h2 (e ▸ hs)⟩⟩
theorem once_perm {ok : ByteArray → Bool} {t r : List ByteArray} (hp : r.Perm t) (h : onceFrom ok [] t = true) : onceFrom ok [] r = true := by
  rw [once_iff] at h ⊢
  exact ⟨fun s hs => h.1 s (hp.mem_iff.1 hs), hp.nodup_iff.2 h.2.1, fun s _ hs => by cases hs⟩
theorem ruleB_one (l : List RuleD) (r : RuleD) : ruleB l r = (ruleB [] r && !hasR l r.name) := by
  unfold ruleB
  have h0 : hasR [] r.name = false := rfl
  rw [h0]
  cases hasR l r.name <;> simp
theorem rules_iff : ∀ {t l : List RuleD}, rulesFrom l t = true ↔ (∀ r ∈ t, ruleB [] r = true) ∧ (t.map RuleD.name).Nodup ∧ ∀ r ∈ t, hasR l r.name = false
  | [], l => by simp [rulesFrom]
  | a :: t, l => by
    have hh : ∀ s, hasR (l ++ [a]) s = (hasR l s || decide (a.name = s)) := fun s => by simp [hasR]
    rw [rulesFrom, ruleB_one, Bool.and_eq_true, Bool.and_eq_true, rules_iff (t := t) (l := l ++ [a])]
    simp only [Bool.not_eq_true', List.mem_cons, List.map_cons, List.nodup_cons, hh, Bool.or_eq_false_iff, decide_eq_false_iff_not, List.mem_map, not_exists, not_and]
    constructor
    · rintro ⟨⟨h1, h2⟩, h3, h4, h5⟩
      refine ⟨?_, ⟨fun x hx e => (h5 x hx).2 e.symm, h4⟩, ?_⟩
      · rintro r (rfl | hr)
        · exact h1
        · exact h3 r hr
      · rintro r (rfl | hr)
        · exact h2
        · exact (h5 r hr).1
    · rintro ⟨h1, ⟨h2, h3⟩, h4⟩
      exact ⟨⟨h1 a (.inl rfl), h4 a (.inl rfl)⟩, fun r hr => h1 r (.inr hr), h3, fun r hr => ⟨h4 r (.inr hr), fun e => h2 r hr e.symm⟩⟩
theorem rulesB_iff {t : List RuleD} : rulesB t = true ↔ (∀ r ∈ t, ruleB [] r = true) ∧ (t.map RuleD.name).Nodup := by
  unfold rulesB
  rw [rules_iff]
  exact ⟨fun h => ⟨h.1, h.2.1⟩, fun h => ⟨h.1, h.2, fun r _ => rfl⟩⟩
theorem els_zero : ∀ {t l : List ElD}, (∀ e ∈ t, inA e.name = true ∧ rulesB e.rules = true) → (t.map ElD.name).Nodup → (∀ e ∈ t, hasE l e.name = false) → elsFrom inA l t = 0
  | [], l, _, _, _ => rfl
  | a :: t, l, h1, h2, h3 => by
    obtain ⟨h4, h5⟩ := h1 a (List.mem_cons_self ..)
    rw [List.map_cons, List.nodup_cons] at h2
    rw [elsFrom, if_neg (by rw [h4, h3 a (List.mem_cons_self ..)]; simp), if_neg (by rw [h5]; simp)]
    refine els_zero (fun e he => h1 e (List.mem_cons_of_mem _ he)) h2.2 fun e he => ?_
    have h6 := h3 e (List.mem_cons_of_mem _ he)
    have h7 : a.name ≠ e.name := fun h => h2.1 (h ▸ List.mem_map_of_mem he)
    unfold hasE at *
    rw [List.any_append, h6]
    simp [h7]
theorem of_valid {p : PolD} (h : Valid p) : checkI p = 0 := by
  have e1 : elsI p = 0 := els_zero h.els h.nodup fun e he => rfl
  have e2 : globI p = 0 := by unfold globI; rw [if_pos h.glob]
  have e3 : closI p = 0 := by unfold closI; rw [if_pos h.closed]
  have e4 : schI p = 0 := by unfold schI; rw [if_pos h.schemes]
  have e5 : dropI p = 0 := by unfold dropI; rw [if_pos h.drop]
  have e6 : limI p = 0 := by unfold limI; rw [if_pos h.lim]
  unfold checkI
  simp [firstI, e1, e2, e3, e4, e5, e6]

/-! ### words in order -/
theorem low_ok {c : UInt8} (h : okW c = true) : okW (lowB c) = true := by
  unfold okW at *
  simp only [Bool.and_eq_true, decide_eq_true_eq] at *
  by_cases hc : 65 ≤ c.toNat ∧ c.toNat ≤ 90
  · have := lowB_up hc.1 hc.2; omega
  · rw [lowB_no hc]; exact h
theorem wordB_low {s : ByteArray} (h : wordB s = true) : wordB (lowS s) = true := by
  unfold wordB at *
  rw [lowS_size]
  rw [Bool.and_eq_true] at *
  refine ⟨h.1, ?_⟩
  show (lowL s.data.toList).all okW = true
  unfold lowL
  rw [List.all_map, List.all_eq_true]
  intro c hc
  exact low_ok (List.all_eq_true.1 h.2 c hc)
theorem once_mem : ∀ {l : List ByteArray} {x : ByteArray}, x ∈ onceL l ↔ x ∈ l
  | [], x => Iff.rfl
  | [a], x => Iff.rfl
  | a :: b :: t, x => by
    have ih := once_mem (l := b :: t) (x := x)
    show x ∈ (if a = b then onceL (b :: t) else a :: onceL (b :: t)) ↔ _
    split
    · rename_i h; subst h; rw [ih]; simp
    · rw [List.mem_cons, ih]; exact List.mem_cons.symm
theorem once_sub : ∀ l : List ByteArray, (onceL l).Sublist l
  | [] => List.Sublist.refl _
  | [a] => List.Sublist.refl _
  | a :: b :: t => by
    have ih := once_sub (b :: t)
    show (if a = b then onceL (b :: t) else a :: onceL (b :: t)).Sublist _
    split
    · exact ih.cons _
    · exact ih.cons_cons _
theorem once_self : ∀ {l : List ByteArray}, l.Nodup → onceL l = l
  | [], _ => rfl
  | [a], _ => rfl
  | a :: b :: t, h => by
    rw [List.nodup_cons] at h
    show (if a = b then onceL (b :: t) else a :: onceL (b :: t)) = _
    rw [if_neg (fun e => h.1 (by simp [e])), once_self h.2]
theorem once_nodup : ∀ {l : List ByteArray}, l.Pairwise (fun a b => leS a b = true) → (onceL l).Nodup
  | [], _ => List.nodup_nil
  | [a], _ => by simp [onceL]
  | a :: b :: t, h => by
    rw [List.pairwise_cons] at h
    have ih := once_nodup h.2
    show (if a = b then onceL (b :: t) else a :: onceL (b :: t)).Nodup
    split
    · exact ih
    · rename_i hab
      rw [List.nodup_cons]
      refine ⟨fun hm => ?_, ih⟩
      rw [once_mem] at hm
      rcases List.mem_cons.1 hm with e | hm
      · exact hab e
      · exact hab (leS_anti (h.1 b (List.mem_cons_self ..)) ((List.pairwise_cons.1 h.2).1 a hm))
theorem tidyW_mem {l : List ByteArray} {x : ByteArray} : x ∈ tidyW l ↔ ∃ w ∈ l, lowS w = x := by
  unfold tidyW; rw [once_mem, srt_mem, List.mem_map]
theorem tidyW_sorted (l : List ByteArray) : (tidyW l).Pairwise fun a b => leS a b = true := (srt_sorted _).sublist (once_sub _)
theorem tidyW_nodup (l : List ByteArray) : (tidyW l).Nodup := once_nodup (srt_sorted _)
theorem srt_self {l : List ByteArray} (h : l.Pairwise fun a b => leS a b = true) : srt l = l := (srt_eq (List.Perm.refl _) h).symm
theorem tidyW_self (l : List ByteArray) : tidyW (tidyW l) = tidyW l := by
  have e : (tidyW l).map lowS = (tidyW l).map id := List.map_congr_left fun x hx => by
    obtain ⟨w, _, rfl⟩ := tidyW_mem.1 hx
    exact lowS_lowS w
  rw [List.map_id] at e
  show onceL (srt ((tidyW l).map lowS)) = _
  rw [e, srt_self (tidyW_sorted l), once_self (tidyW_nodup l)]
theorem tidyW_len (l : List ByteArray) : (tidyW l).length ≤ l.length := by
  unfold tidyW
  refine Nat.le_trans (once_sub _).length_le ?_
  rw [(srt_perm _).length_eq, List.length_map]
  exact Nat.le_refl _
theorem tidyW_pos (l : List ByteArray) : 0 < (tidyW l).length ↔ 0 < l.length := by
  rw [List.length_pos_iff_exists_mem, List.length_pos_iff_exists_mem]
  constructor
  · rintro ⟨x, hx⟩; obtain ⟨w, hw, _⟩ := tidyW_mem.1 hx; exact ⟨w, hw⟩
  · rintro ⟨w, hw⟩; exact ⟨_, tidyW_mem.2 ⟨w, hw, rfl⟩⟩

/-! ### rules and elements in order -/
theorem tidyR_self (r : RuleD) : tidyR (tidyR r) = tidyR r := by
  show (⟨r.name, r.kind, tidyW (tidyW r.words)⟩ : RuleD) = ⟨r.name, r.kind, tidyW r.words⟩
  rw [tidyW_self]
theorem tidyRs_names (l : List RuleD) : ((tidyRs l).map RuleD.name).Perm (l.map RuleD.name) := by
  have h := (ordBy_perm RuleD.name (l.map tidyR)).map RuleD.name
  rw [List.map_map, show RuleD.name ∘ tidyR = RuleD.name from rfl] at h
  exact h
theorem tidyRs_mem {l : List RuleD} {r : RuleD} : r ∈ tidyRs l ↔ ∃ r0 ∈ l, tidyR r0 = r := by
  unfold tidyRs; rw [(ordBy_perm _ _).mem_iff, List.mem_map]
theorem tidyRs_self {l : List RuleD} (hn : (l.map RuleD.name).Nodup) : tidyRs (tidyRs l) = tidyRs l := by
  have e : (tidyRs l).map tidyR = (tidyRs l).map id := List.map_congr_left fun x hx => by
    obtain ⟨w, _, rfl⟩ := tidyRs_mem.1 hx
    exact tidyR_self w
  rw [List.map_id] at e
  show ordBy RuleD.name ((tidyRs l).map tidyR) = _
  rw [e]
  exact (ordBy_eq (List.Perm.refl _) (ordBy_sorted _ _) ((tidyRs_names l).nodup_iff.2 hn)).symm
theorem tidyP_els {p : PolD} {e : ElD} : e ∈ (tidyP p).els ↔ ∃ e0 ∈ p.els, tidyE e0 = e := by
  show e ∈ ordBy ElD.name (p.els.map tidyE) ↔ _
  rw [(ordBy_perm _ _).mem_iff, List.mem_map]
theorem names_perm (p : PolD) : ((tidyP p).els.map ElD.name).Perm (p.els.map ElD.name) := by
  have h := (ordBy_perm ElD.name (p.els.map tidyE)).map ElD.name
  rw [List.map_map, show ElD.name ∘ tidyE = ElD.name from rfl] at h
  exact h
theorem tidyP_self {p : PolD} (h : Valid p) : tidyP (tidyP p) = tidyP p := by
  have e1 : (tidyP p).els.map tidyE = (tidyP p).els.map id := List.map_congr_left fun x hx => by
    obtain ⟨e, he, rfl⟩ := tidyP_els.1 hx
    show (⟨e.name, tidyRs (tidyRs e.rules)⟩ : ElD) = ⟨e.name, tidyRs e.rules⟩
    rw [tidyRs_self (rules_nodup (h.els e he).2)]
  rw [List.map_id] at e1
  have e2 : ordBy ElD.name ((tidyP p).els.map tidyE) = (tidyP p).els := by
    rw [e1]
    exact (ordBy_eq (List.Perm.refl _) (ordBy_sorted _ _) ((names_perm p).nodup_iff.2 h.nodup)).symm
  show (⟨ordBy ElD.name ((tidyP p).els.map tidyE), tidyRs (tidyRs p.glob), srt (srt p.schemes), p.rel, srt (srt p.drop), p.depth, p.window⟩ : PolD) = _
  rw [e2, tidyRs_self (rules_nodup h.glob), srt_self (srt_sorted p.schemes), srt_self (srt_sorted p.drop)]
  rfl

/-! ### what is in order is right -/
theorem ruleB_tidy {r : RuleD} (h : ruleB [] r = true) : ruleB [] (tidyR r) = true := by
  unfold ruleB at *
  simp only [Bool.and_eq_true] at *
  obtain ⟨⟨h1, h2⟩, h3⟩ := h
  refine ⟨⟨h1, ?_⟩, ?_⟩
  · have e : decide (0 < (tidyR r).words.length) = decide (0 < r.words.length) := decide_eq_decide.2 (tidyW_pos r.words)
    rw [e]
    exact h2
  · show (tidyW r.words).all wordB = true
    rw [List.all_eq_true] at *
    intro x hx
    obtain ⟨w, hw, rfl⟩ := tidyW_mem.1 hx
    exact wordB_low (h3 w hw)
theorem rulesB_tidy {l : List RuleD} (h : rulesB l = true) : rulesB (tidyRs l) = true := by
  rw [rulesB_iff] at *
  refine ⟨fun r hr => ?_, (tidyRs_names l).nodup_iff.2 h.2⟩
  obtain ⟨r0, h0, rfl⟩ := tidyRs_mem.1 hr
  exact ruleB_tidy (h.1 r0 h0)
theorem bool_iff {a b : Bool} (h : a = true ↔ b = true) : a = b := by cases a <;> cases b <;> simp_all
theorem hasE_tidy (p : PolD) (s : ByteArray) : hasE (tidyP p).els s = hasE p.els s := by
  rw [hasE_map, hasE_map]
  exact bool_iff (by rw [hasT_iff, hasT_iff]; exact (names_perm p).mem_iff)
theorem wordsN_tidy (l : List RuleD) : wordsN (tidyRs l) ≤ wordsN l := by
  unfold wordsN tidyRs
  rw [((ordBy_perm RuleD.name (l.map tidyR)).map fun r => r.words.length).sum_nat, List.map_map]
  induction l with
  | nil => simp
  | cons a t ih =>
    have := tidyW_len a.words
    have e : ((fun r : RuleD => r.words.length) ∘ tidyR) a = (tidyW a.words).length := rfl
    simp only [List.map_cons, List.sum_cons, e]
    omega
theorem tidyRs_len (l : List RuleD) : (tidyRs l).length = l.length := by
  unfold tidyRs; rw [ordBy_len, List.length_map]
theorem elsN_tidy (p : PolD) : elsN (tidyP p).els ≤ elsN p.els := by
  show elsN (ordBy ElD.name (p.els.map tidyE)) ≤ _
  unfold elsN
  rw [((ordBy_perm ElD.name (p.els.map tidyE)).map fun e => e.rules.length + wordsN e.rules).sum_nat, List.map_map]
  generalize p.els = l
  induction l with
  | nil => simp
  | cons a t ih =>
    have h1 := wordsN_tidy a.rules
    have h2 := tidyRs_len a.rules
    have e : ((fun e : ElD => e.rules.length + wordsN e.rules) ∘ tidyE) a = (tidyRs a.rules).length + wordsN (tidyRs a.rules) := rfl
    simp only [List.map_cons, List.sum_cons, e]
    omega
theorem things_tidy (p : PolD) : thingsN (tidyP p) ≤ thingsN p := by
  have e1 : (tidyP p).els.length = p.els.length := by show (ordBy ElD.name (p.els.map tidyE)).length = _; rw [ordBy_len, List.length_map]
  have e2 : (tidyP p).glob.length = p.glob.length := tidyRs_len _
  have e3 : (tidyP p).schemes.length = p.schemes.length := (srt_perm _).length_eq
  have e4 : (tidyP p).drop.length = p.drop.length := (srt_perm _).length_eq
  have e5 : wordsN (tidyP p).glob ≤ wordsN p.glob := wordsN_tidy _
  have e6 := elsN_tidy p
  unfold thingsN
  omega
theorem valid_tidy {p : PolD} (h : Valid p) (hz : thingsN p ≤ 9223372036854775807) : Valid (tidyP p) := by
  refine ⟨(names_perm p).nodup_iff.2 h.nodup, fun e he => ?_, rulesB_tidy h.glob, ?_, once_perm (srt_perm _) h.schemes, ?_, ?_⟩
  · obtain ⟨e0, h0, rfl⟩ := tidyP_els.1 he
    exact ⟨(h.els e0 h0).1, rulesB_tidy (h.els e0 h0).2⟩
  · have hc := h.closed
    unfold closedB at *
    rw [List.all_eq_true] at *
    intro e he
    obtain ⟨e0, h0, rfl⟩ := tidyP_els.1 he
    have h1 := hc e0 h0
    rw [List.all_eq_true] at *
    intro n hn
    rw [hasE_tidy]
    exact h1 n hn
  · have hd := h.drop
    unfold dropOk at *
    have e : (fun n => tagB n && !hasE (tidyP p).els n) = fun n => tagB n && !hasE p.els n := funext fun n => by rw [hasE_tidy]
    rw [e]
    exact once_perm (srt_perm _) hd
  · have hl := h.lim
    unfold limOk at *
    have h1 := things_tidy p
    rw [w64_in hz] at hl
    rw [w64_in (by omega)]
    simp only [Bool.and_eq_true, decide_eq_true_eq] at *
    obtain ⟨⟨⟨⟨h2, h3⟩, h4⟩, h5⟩, h6⟩ := hl
    exact ⟨⟨⟨⟨h2, h3⟩, h4⟩, h5⟩, by omega⟩

/-! ### what is found in it -/
theorem fnd_iff {α : Type} {f : α → ByteArray} : ∀ {l : List α}, (l.map f).Nodup → ∀ {s : ByteArray} {x : α}, (l.find? fun e => decide (f e = s)) = some x ↔ x ∈ l ∧ f x = s
  | [], _, s, x => by simp
  | a :: t, h, s, x => by
    rw [List.map_cons, List.nodup_cons] at h
    rw [List.find?_cons]
    by_cases ha : f a = s
    · rw [decide_eq_true ha]
      simp only [Option.some.injEq, List.mem_cons]
      constructor
      · rintro rfl; exact ⟨.inl rfl, ha⟩
      · rintro ⟨rfl | hx, he⟩
        · rfl
        · exact absurd (List.mem_map.2 ⟨x, hx, he.trans ha.symm⟩) h.1
    · rw [decide_eq_false ha]
      show (t.find? fun e => decide (f e = s)) = some x ↔ _
      rw [fnd_iff h.2, List.mem_cons]
      constructor
      · rintro ⟨h1, h2⟩; exact ⟨.inr h1, h2⟩
      · rintro ⟨rfl | hx, he⟩
        · exact absurd he ha
        · exact ⟨hx, he⟩
theorem fnd_none {α : Type} {f : α → ByteArray} {l : List α} {s : ByteArray} : (l.find? fun e => decide (f e = s)) = none ↔ ∀ x ∈ l, f x ≠ s := by
  rw [List.find?_eq_none]; simp
theorem fnd_turn {α : Type} {f : α → ByteArray} (m : α → α) (hm : ∀ a, f (m a) = f a) {l r : List α} (hp : r.Perm (l.map m)) (hn : (l.map f).Nodup) (s : ByteArray) : (r.find? fun e => decide (f e = s)) = (l.find? fun e => decide (f e = s)).map m := by
  have hr : (r.map f).Nodup := by
    have h1 := hp.map f
    rw [List.map_map, show f ∘ m = f from funext hm] at h1
    exact h1.nodup_iff.2 hn
  cases h : l.find? fun e => decide (f e = s) with
  | none =>
    rw [fnd_none] at h
    show _ = none
    rw [fnd_none]
    intro x hx
    obtain ⟨y, hy, rfl⟩ := List.mem_map.1 (hp.mem_iff.1 hx)
    rw [hm]
    exact h y hy
  | some x =>
    obtain ⟨h1, h2⟩ := (fnd_iff hn).1 h
    exact (fnd_iff hr).2 ⟨hp.mem_iff.2 (List.mem_map_of_mem h1), by rw [hm]; exact h2⟩
theorem fndE_tidy {p : PolD} (h : Valid p) (s : ByteArray) : fndE (tidyP p).els s = (fndE p.els s).map tidyE := fnd_turn tidyE tidyE_name (ordBy_perm _ _) h.nodup s
theorem fndR_tidy {l : List RuleD} (h : rulesB l = true) (s : ByteArray) : fndR (tidyRs l) s = (fndR l s).map tidyR := fnd_turn tidyR tidyR_name (ordBy_perm _ _) (rules_nodup h) s
theorem ruleL_tidy {p : PolD} (h : Valid p) (n a : ByteArray) : ruleL (tidyP p) n a = (ruleL p n a).map tidyR := by
  unfold ruleL
  rw [fndE_tidy h]
  cases he : fndE p.els n with
  | none => rfl
  | some e =>
    have hm : e ∈ p.els := List.mem_of_find?_eq_some he
    show (match fndR (tidyE e).rules a with | some r => some r | none => fndR (tidyP p).glob a) = Option.map tidyR (match fndR e.rules a with | some r => some r | none => fndR p.glob a)
    have e1 : fndR (tidyE e).rules a = (fndR e.rules a).map tidyR := fndR_tidy (h.els e hm).2 a
    have e2 : fndR (tidyP p).glob a = (fndR p.glob a).map tidyR := fndR_tidy h.glob a
    rw [e1, e2]
    cases fndR e.rules a <;> rfl
theorem drpB_tidy (p : PolD) (s : ByteArray) : drpB (tidyP p) s = drpB p s := by
  have e : hasT (tidyP p).drop s = hasT p.drop s := bool_iff (by rw [hasT_iff, hasT_iff]; exact srt_mem)
  unfold drpB
  rw [e]
end Go.Proofs.YteikagdinecfoaaGreatDoor.Bt
