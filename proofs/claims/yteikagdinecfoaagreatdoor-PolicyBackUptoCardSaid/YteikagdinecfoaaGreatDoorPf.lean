/- Sizes of policies in order: plain laws. -/
import Derived.Test.YteikagdinecfoaaGreatDoorWPolicyShut
import Derived.Test.YteikagdinecfoaaGreatDoorPp
import Derived.Test.YteikagdinecfoaaGreatDoorWr
set_option linter.unusedVariables false
set_option linter.unusedSimpArgs false
namespace Go.Proofs.YteikagdinecfoaaGreatDoor.Pf
open Go.RowKit Lb Gr Pd Fl Go.Proofs.YteikagdinecfoaaGreatDoor.Pm Ru Co Pa Ro Is Go.Proofs.YteikagdinecfoaaGreatDoor.Sl Go.Proofs.YteikagdinecfoaaGreatDoor.Ck Go.Proofs.YteikagdinecfoaaGreatDoor.So Go.Proofs.YteikagdinecfoaaGreatDoor.Rs Go.Proofs.YteikagdinecfoaaGreatDoor.Or Go.Proofs.YteikagdinecfoaaGreatDoor.Sk Go.Proofs.YteikagdinecfoaaGreatDoor.Sr Go.Proofs.YteikagdinecfoaaGreatDoor.Ty Go.Proofs.YteikagdinecfoaaGreatDoor.Vd Go.Proofs.YteikagdinecfoaaGreatDoor.Pl Go.Proofs.YteikagdinecfoaaGreatDoor.Pp Fg

theorem okW_of {l : List RuleD} (h1 : l.length * 48 ≤ reachBytes) (h2 : ∀ r ∈ l, GdR r) : OkW l := by
  have hr : reachBytes = 140737488351232 := rfl
  have hm : maxLen = 9223372036854775807 := rfl
  refine ⟨by omega, fun i hi => ?_⟩
  obtain ⟨_, _, _, g⟩ := h2 _ (List.getElem_mem hi)
  have := g.1
  exact ⟨by omega, fun j hj => by have := g.2 _ (List.getElem_mem hj); omega⟩
theorem okv_of {p : PolD} (h : GdP p) : OkV p := by
  have hr : reachBytes = 140737488351232 := rfl
  obtain ⟨h1, h2, h3, h4, h5, h6, _⟩ := h
  have h7 := h5.1
  have h8 := h6.1
  exact ⟨by omega, fun i hi => okW_of (h2 _ (List.getElem_mem hi)).2.1 (h2 _ (List.getElem_mem hi)).2.2, okW_of h3 h4, by omega, by omega⟩
theorem sized_of {p : PolD} (h : GdP p) : Sized p := ⟨fit_of h, ok_of h, okv_of h⟩

/-! ### how long a policy's text is -/
theorem dec_len : ∀ u : Nat, (Lib.decDigits u).length ≤ u + 1 := by
  intro u
  induction u using Nat.strongRecOn with
  | _ u ih =>
    rw [Lib.decDigits]
    by_cases h : u < 10
    · rw [dif_pos h]; simp
    · rw [dif_neg h, List.length_append]
      have := ih (u / 10) (by omega)
      simp
      omega
theorem itoa_len {n : Int} (h : 0 ≤ n) : (itoaS n).data.toList.length ≤ n.toNat + 1 := by
  show (Lib.itoa n).length ≤ _
  unfold Lib.itoa
  rw [if_neg (by omega)]
  exact dec_len _
def tailN (l : List ByteArray) : Nat := (l.map fun s => s.size + 1).sum
theorem line_len (x : ByteArray) (l : List ByteArray) : (lineL (x :: l)).length = x.size + tailN l + 1 := by
  unfold lineL tailN
  rw [List.map_cons, Lib.join_cons]
  unfold Lib.joinTail
  rw [List.length_append, List.length_append, List.map_map, List.length_flatten, List.map_map, size_len]
  have : (l.map ((List.length ∘ ([32] ++ ·)) ∘ fun s : ByteArray => s.data.toList)) = l.map fun s => s.size + 1 := List.map_congr_left fun s _ => by
    show ([32] ++ s.data.toList).length = s.size + 1
    simp
  simp only [Function.comp_def] at this ⊢
  rw [this]
  simp
theorem tailN_perm {a b : List ByteArray} (h : a.Perm b) : tailN a = tailN b := (h.map _).sum_nat
theorem tailN_once : ∀ l : List ByteArray, tailN (onceL l) ≤ tailN l
  | [] => by simp [onceL]
  | [a] => by simp [onceL]
  | a :: b :: t => by
    have ih := tailN_once (b :: t)
    show tailN (if a = b then onceL (b :: t) else a :: onceL (b :: t)) ≤ _
    unfold tailN at *
    split
    · simp at ih ⊢; omega
    · simp at ih ⊢; omega
theorem tailN_tidy (l : List ByteArray) : tailN (tidyW l) ≤ tailN l := by
  unfold tidyW
  refine Nat.le_trans (tailN_once _) ?_
  rw [tailN_perm (srt_perm _)]
  unfold tailN
  rw [List.map_map]
  exact Nat.le_of_eq (congrArg List.sum (List.map_congr_left fun s _ => by show (lowS s).size + 1 = _; rw [lowS_size]))
theorem kind_len (k : Nat) : (kindN k).size ≤ 6 := by
  unfold kindN
  by_cases h : k < 9
  · match k, h with
    | 0, _ => decide
    | 1, _ => decide
    | 2, _ => decide
    | 3, _ => decide
    | 4, _ => decide
    | 5, _ => decide
    | 6, _ => decide
    | 7, _ => decide
    | 8, _ => decide
  · rw [List.getD_eq_getElem?_getD, List.getElem?_eq_none (by show kindsL.length ≤ k; have : kindsL.length = 9 := rfl; omega)]
    decide
theorem bT_tail (l : List ByteArray) : bT l = tailN l + 1 := rfl
theorem say_len (wd : ByteArray) (r : RuleD) (hw : wd.size ≤ 10) : (sayL wd (tidyR r)).length ≤ 8 * bR r := by
  unfold sayL
  rw [line_len]
  have h1 := kind_len (tidyR r).kind.toNat
  have h2 := tailN_tidy r.words
  have e : tailN ((tidyR r).name :: kindN (tidyR r).kind.toNat :: (tidyR r).words) = (r.name.size + 1) + ((kindN (tidyR r).kind.toNat).size + 1) + tailN (tidyW r.words) := by
    unfold tailN; simp only [List.map_cons, List.sum_cons]; show _ = _; simp only [tidyR]; omega
  rw [e]
  unfold bR
  rw [bT_tail]
  omega
theorem flat_sum {α : Type} (f : α → List UInt8) (b : α → Nat) (l : List α) (h : ∀ x ∈ l, (f x).length ≤ 8 * b x) : (l.flatMap f).length ≤ 8 * (l.map b).sum := by
  rw [List.length_flatMap]
  induction l with
  | nil => simp
  | cons a t ih =>
    have h1 := h a (List.mem_cons_self ..)
    have h2 := ih fun x hx => h x (List.mem_cons_of_mem _ hx)
    simp only [List.map_cons, List.sum_cons]
    omega
theorem flat_perm {α : Type} (f : α → List UInt8) {a b : List α} (h : a.Perm b) : (a.flatMap f).length = (b.flatMap f).length := (h.flatMap_right f).length_eq
theorem rules_len (wd : ByteArray) (hw : wd.size ≤ 10) (l : List RuleD) : ((tidyRs l).flatMap (sayL wd)).length ≤ 8 * (l.map bR).sum := by
  unfold tidyRs
  rw [flat_perm _ (ordBy_perm _ _), List.flatMap_map]
  exact flat_sum _ bR l fun r _ => say_len wd r hw
theorem el_len (e : ElD) : (fE (tidyE e)).length ≤ 8 * bE e := by
  unfold fE
  rw [List.length_append, line_len]
  have h1 := rules_len (str [97, 116, 116, 114]) (by decide) e.rules
  have e1 : (tidyE e).rules.flatMap fA = (tidyRs e.rules).flatMap (sayL (str [97, 116, 116, 114])) := rfl
  have e2 : tailN [(tidyE e).name] = e.name.size + 1 := by unfold tailN; simp [tidyE]
  have e3 : (str [101, 108, 101, 109, 101, 110, 116]).size = 7 := rfl
  rw [e1, e2, e3]
  unfold bE
  omega
theorem words_len (wd : ByteArray) (hw : wd.size ≤ 7) (l : List ByteArray) : (l.flatMap fun s => lineL [wd, s]).length ≤ 9 * bT l := by
  have h1 : ∀ s ∈ l, (lineL [wd, s]).length ≤ 9 * (s.size + 1) := fun s _ => by
    rw [line_len]
    have e2 : tailN [s] = s.size + 1 := by unfold tailN; simp
    omega
  rw [bT_tail, List.length_flatMap]
  unfold tailN
  induction l with
  | nil => simp
  | cons a t ih =>
    have h2 := h1 a (List.mem_cons_self ..)
    have h3 := ih fun x hx => h1 x (List.mem_cons_of_mem _ hx)
    simp only [List.map_cons, List.sum_cons]
    omega
theorem print_len (p : PolD) (hd : 0 ≤ p.depth ∧ p.depth ≤ 512) (hw : 0 ≤ p.window ∧ p.window ≤ 1048576) : (printL (tidyP p)).length ≤ 9 * bP p + 1100000 := by
  unfold printL
  simp only [List.length_append]
  have h0 : (t0 (tidyP p)).length ≤ 600 := by
    unfold t0; rw [line_len]
    have h := itoa_len hd.1
    rw [size_len] at h
    have e : tailN [itoaS (tidyP p).depth] = (itoaS p.depth).size + 1 := by unfold tailN; simp [tidyP]
    have e2 : (str [100, 101, 112, 116, 104]).size = 5 := rfl
    omega
  have h1 : (t1 (tidyP p)).length ≤ 1050000 := by
    unfold t1; rw [line_len]
    have h := itoa_len hw.1
    rw [size_len] at h
    have e : tailN [itoaS (tidyP p).window] = (itoaS p.window).size + 1 := by unfold tailN; simp [tidyP]
    have e2 : (str [119, 105, 110, 100, 111, 119]).size = 6 := rfl
    omega
  have h2 : (t2 (tidyP p).rel).length ≤ 20 := by unfold t2; split <;> decide
  have h3 : ((tidyP p).schemes.flatMap fS).length ≤ 9 * bT p.schemes := by
    show ((srt p.schemes).flatMap fS).length ≤ _
    rw [flat_perm _ (srt_perm _)]
    exact words_len _ (by decide) _
  have h4 : ((tidyP p).drop.flatMap fD).length ≤ 9 * bT p.drop := by
    show ((srt p.drop).flatMap fD).length ≤ _
    rw [flat_perm _ (srt_perm _)]
    exact words_len _ (by decide) _
  have h5 : ((tidyP p).glob.flatMap fG).length ≤ 8 * (p.glob.map bR).sum := rules_len (str [103, 108, 111, 98, 97, 108]) (by decide) p.glob
  have h6 : ((tidyP p).els.flatMap fE).length ≤ 8 * (p.els.map bE).sum := by
    show ((ordBy ElD.name (p.els.map tidyE)).flatMap fE).length ≤ _
    rw [flat_perm _ (ordBy_perm _ _), List.flatMap_map]
    exact flat_sum _ bE p.els fun e _ => el_len e
  unfold bP
  omega

/-! ### what is in order may be written -/
theorem kok_of {l : List RuleD} (h : rulesB l = true) (hg : ∀ r ∈ l, GdR r) {r : RuleD} (hr : r ∈ tidyRs l) : KOk r := by
  have hr1 : reachBytes = 140737488351232 := rfl
  unfold tidyRs at hr
  obtain ⟨r0, hr0, rfl⟩ := List.mem_map.1 ((ordBy_perm _ _).mem_iff.1 hr)
  obtain ⟨l', hl'⟩ := rules_each h hr0
  unfold ruleB at hl'
  simp only [Bool.and_eq_true] at hl'
  have hk : kindB r0 = true := hl'.1.1.1.2
  unfold kindB at hk
  simp only [Bool.and_eq_true, decide_eq_true_eq] at hk
  have hw := (hg _ hr0).2.2.2.1
  have hl2 : (tidyW r0.words).length ≤ r0.words.length := by
    unfold tidyW
    refine Nat.le_trans (once_len _) ?_
    rw [srt_len, List.length_map]
    exact Nat.le_refl _
  exact ⟨hk.1, hk.2, by show (3 + (tidyW r0.words).length) * 16 ≤ _; omega⟩
theorem prok_of {p : PolD} (hg : GdP p) (hc : checkI p = 0) (hb : bP p ≤ 1048576) : PrOk (tidyP p) ∧ (0 ≤ p.depth ∧ p.depth ≤ 512) ∧ (0 ≤ p.window ∧ p.window ≤ 1048576) := by
  have hr1 : reachBytes = 140737488351232 := rfl
  have hv := valid_of hc
  have hl := hv.lim
  unfold limOk at hl
  simp only [Bool.and_eq_true, decide_eq_true_eq] at hl
  obtain ⟨⟨⟨⟨l1, l2⟩, l3⟩, l4⟩, _⟩ := hl
  have hd : 0 ≤ p.depth ∧ p.depth ≤ 512 := ⟨by omega, l2⟩
  have hw : 0 ≤ p.window ∧ p.window ≤ 1048576 := ⟨by omega, l4⟩
  obtain ⟨g1, g2, g3, g4, g5, g6, _⟩ := hg
  have e1 : (tidyP p).els.length = p.els.length := by show (ordBy ElD.name (p.els.map tidyE)).length = _; rw [ordBy_len, List.length_map]
  have e2 : (tidyP p).glob.length = p.glob.length := by show (ordBy RuleD.name (p.glob.map tidyR)).length = _; rw [ordBy_len, List.length_map]
  have e3 : (tidyP p).schemes.length = p.schemes.length := srt_len _
  have e4 : (tidyP p).drop.length = p.drop.length := srt_len _
  have g7 := g5.1
  have g8 := g6.1
  have hmem : ∀ i (h : i < (tidyP p).els.length), ∃ e ∈ p.els, (tidyP p).els[i] = tidyE e := fun i h => by
    have h1 : (tidyP p).els[i] ∈ ordBy ElD.name (p.els.map tidyE) := List.getElem_mem _
    obtain ⟨e, he, h2⟩ := List.mem_map.1 ((ordBy_perm _ _).mem_iff.1 h1)
    exact ⟨e, he, h2.symm⟩
  refine ⟨⟨fun i h => kok_of hv.glob g4 (List.getElem_mem h), fun i h j hj => ?_, ⟨by show _ ≤ p.depth; omega, by show p.depth ≤ _; omega⟩, ⟨by show _ ≤ p.window; omega, by show p.window ≤ _; omega⟩, Nat.le_trans (print_len p hd hw) (by omega), ⟨by omega, by omega, by omega, by omega⟩, fun i h => ?_⟩, hd, hw⟩
  · obtain ⟨e, he, h2⟩ := hmem i h
    have h3 : (tidyP p).els[i].rules[j] ∈ tidyRs e.rules := by
      have : (tidyP p).els[i].rules = tidyRs e.rules := by rw [h2]; rfl
      rw [← this]; exact List.getElem_mem _
    exact kok_of (hv.els e he).2 (g2 e he).2.2 h3
  · obtain ⟨e, he, h2⟩ := hmem i h
    have h3 : (tidyP p).els[i].rules.length = e.rules.length := by
      rw [h2]
      show (ordBy RuleD.name (e.rules.map tidyR)).length = _
      rw [ordBy_len, List.length_map]
    have := (g2 e he).2.1
    omega
open Go.Proofs.YteikagdinecfoaaGreatDoor.Wr in
theorem spb_tidy {p : PolD} (hg : GdP p) : Spb (tidyP p) := by
  have hr1 : reachBytes = 140737488351232 := rfl
  obtain ⟨g1, g2, g3, g4, g5, g6, _⟩ := hg
  have e1 : (tidyP p).els.length = p.els.length := by show (ordBy ElD.name (p.els.map tidyE)).length = _; rw [ordBy_len, List.length_map]
  have e2 : (tidyP p).glob.length = p.glob.length := by show (ordBy RuleD.name (p.glob.map tidyR)).length = _; rw [ordBy_len, List.length_map]
  have e3 : (tidyP p).schemes.length = p.schemes.length := srt_len _
  have e4 : (tidyP p).drop.length = p.drop.length := srt_len _
  have g7 := g5.1
  have g8 := g6.1
  have hw : ∀ (l : List RuleD), (∀ r ∈ l, GdR r) → ∀ r ∈ tidyRs l, r.words.length ≤ 9223372036854775807 := fun l hl r hr => by
    unfold tidyRs at hr
    obtain ⟨r0, hr0, rfl⟩ := List.mem_map.1 ((ordBy_perm _ _).mem_iff.1 hr)
    have h1 := (hl _ hr0).2.2.2.1
    have h2 : (tidyW r0.words).length ≤ r0.words.length := by
      unfold tidyW
      refine Nat.le_trans (once_len _) ?_
      rw [srt_len, List.length_map]
      exact Nat.le_refl _
    show (tidyW r0.words).length ≤ _
    omega
  have hmem : ∀ i (h : i < (tidyP p).els.length), ∃ e ∈ p.els, (tidyP p).els[i] = tidyE e := fun i h => by
    have h1 : (tidyP p).els[i] ∈ ordBy ElD.name (p.els.map tidyE) := List.getElem_mem _
    obtain ⟨e, he, h2⟩ := List.mem_map.1 ((ordBy_perm _ _).mem_iff.1 h1)
    exact ⟨e, he, h2.symm⟩
  refine ⟨by omega, fun i h => ?_, by omega, fun j hj => hw p.glob g4 _ (List.getElem_mem hj), by omega, by omega⟩
  obtain ⟨e, he, h2⟩ := hmem i h
  have h3 : (tidyP p).els[i].rules = tidyRs e.rules := by rw [h2]; rfl
  have h4 : (tidyRs e.rules).length = e.rules.length := by
    show (ordBy RuleD.name (e.rules.map tidyR)).length = _
    rw [ordBy_len, List.length_map]
  refine ⟨by rw [h3, h4]; have := (g2 e he).2.1; omega, fun j hj => hw e.rules (g2 e he).2.2 _ (by rw [← h3]; exact List.getElem_mem _)⟩
end Go.Proofs.YteikagdinecfoaaGreatDoor.Pf
