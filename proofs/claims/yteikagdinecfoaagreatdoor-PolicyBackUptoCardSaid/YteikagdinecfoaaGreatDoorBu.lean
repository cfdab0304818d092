/- The text of a policy read again: plain laws. -/
import Derived.Test.YteikagdinecfoaaGreatDoorPt
import Derived.Test.YteikagdinecfoaaGreatDoorPp
import Derived.Test.YteikagdinecfoaaGreatDoorBt
set_option linter.unusedVariables false
set_option linter.unusedSimpArgs false
namespace Go.Proofs.YteikagdinecfoaaGreatDoor.Bu
open Go.RowKit Lb Gr Pd Ea Go.Proofs.YteikagdinecfoaaGreatDoor.Ck Go.Proofs.YteikagdinecfoaaGreatDoor.Lk Go.Proofs.YteikagdinecfoaaGreatDoor.Th Go.Proofs.YteikagdinecfoaaGreatDoor.So Go.Proofs.YteikagdinecfoaaGreatDoor.Rs Go.Proofs.YteikagdinecfoaaGreatDoor.Or Go.Proofs.YteikagdinecfoaaGreatDoor.Vd Go.Proofs.YteikagdinecfoaaGreatDoor.Ty Go.Proofs.YteikagdinecfoaaGreatDoor.Pl Go.Proofs.YteikagdinecfoaaGreatDoor.Pp Pt Bt Is

/-! ### lines and words -/
theorem cutG_app (c : UInt8) : ∀ (l cur t : List UInt8), (∀ b ∈ l, b ≠ c) → cutG c cur (l ++ c :: t) = (cur ++ l) :: cutG c [] t
  | [], cur, t, _ => by simp [cutG]
  | b :: l, cur, t, h => by
    rw [List.cons_append, cutG, if_neg (h b (List.mem_cons_self ..)), cutG_app c l (cur ++ [b]) t fun x hx => h x (List.mem_cons_of_mem _ hx)]
    simp
theorem cutG_end (c : UInt8) : ∀ (l cur : List UInt8), (∀ b ∈ l, b ≠ c) → cutG c cur l = [cur ++ l]
  | [], cur, _ => by simp [cutG]
  | b :: l, cur, h => by
    rw [cutG, if_neg (h b (List.mem_cons_self ..)), cutG_end c l (cur ++ [b]) fun x hx => h x (List.mem_cons_of_mem _ hx)]
    simp
theorem cut_lines (c : UInt8) : ∀ L : List (List UInt8), (∀ l ∈ L, ∀ b ∈ l, b ≠ c) → cutL c (L.flatMap fun l => l ++ [c]) = L ++ [[]]
  | [], _ => rfl
  | l :: L, h => by
    have ih := cut_lines c L fun x hx => h x (List.mem_cons_of_mem _ hx)
    unfold cutL at *
    rw [List.flatMap_cons, List.append_assoc]
    show cutG c [] (l ++ c :: (L.flatMap fun l => l ++ [c])) = _
    rw [cutG_app c l [] _ (h l (List.mem_cons_self ..)), ih]
    simp
theorem cut_tail (c : UInt8) : ∀ (r : List (List UInt8)) (a : List UInt8), (∀ b ∈ a, b ≠ c) → (∀ l ∈ r, ∀ b ∈ l, b ≠ c) → cutL c (a ++ Lib.joinTail [c] r) = a :: r
  | [], a, h, _ => by
    unfold cutL Lib.joinTail
    simp only [List.map_nil, List.flatten_nil, List.append_nil]
    rw [cutG_end c a [] h]
    simp
  | b :: r, a, h, h2 => by
    have ih := cut_tail c r b (h2 b (List.mem_cons_self ..)) fun x hx => h2 x (List.mem_cons_of_mem _ hx)
    unfold cutL Lib.joinTail at *
    rw [List.map_cons, List.flatten_cons]
    show cutG c [] (a ++ c :: (b ++ (r.map ([c] ++ ·)).flatten)) = _
    rw [cutG_app c a [] _ h, ih]
    simp
def lineT (ws : List ByteArray) : List UInt8 := Lib.join (ws.map fun s => s.data.toList) [32]
theorem lineL_T (ws : List ByteArray) : lineL ws = lineT ws ++ [10] := rfl
/-- a word without a blank; a line that says something -/
structure Gw (s : ByteArray) : Prop where
  pos : 1 ≤ s.size
  no : ∀ b ∈ s.data.toList, b ≠ 32 ∧ b ≠ 10
structure Gl (ws : List ByteArray) : Prop where
  all : ∀ s ∈ ws, Gw s
  head : ∃ w r, ws = w :: r ∧ (w.data.toList.headD 0).toNat ≠ 35
theorem line_cut {ws : List ByteArray} (h : Gl ws) : cutS (str (lineT ws)) 32 = ws := by
  obtain ⟨w, r, rfl, _⟩ := h.head
  unfold cutS lineT
  rw [str_toList, List.map_cons, Lib.join_cons, cut_tail 32 _ _ (fun b hb => ((h.all w (List.mem_cons_self ..)).no b hb).1) (fun l hl b hb => by
    obtain ⟨s, hs, rfl⟩ := List.mem_map.1 hl
    exact ((h.all s (List.mem_cons_of_mem _ hs)).no b hb).1)]
  rw [List.map_cons, List.map_map, str_of]
  congr 1
  have e : r.map (str ∘ fun s : ByteArray => s.data.toList) = r.map id := List.map_congr_left fun s _ => str_of s
  rw [e, List.map_id]
theorem line_no {ws : List ByteArray} (h : Gl ws) : ∀ b ∈ lineT ws, b ≠ 10 := by
  obtain ⟨w, r, rfl, _⟩ := h.head
  intro b hb
  unfold lineT at hb
  rw [List.map_cons, Lib.join_cons] at hb
  rcases List.mem_append.1 hb with hb | hb
  · exact ((h.all w (List.mem_cons_self ..)).no b hb).2
  · unfold Lib.joinTail at hb
    obtain ⟨l, hl, hb⟩ := List.mem_flatten.1 hb
    obtain ⟨l2, hl2, rfl⟩ := List.mem_map.1 hl
    obtain ⟨s, hs, rfl⟩ := List.mem_map.1 hl2
    rcases List.mem_append.1 hb with hb | hb
    · rw [List.mem_singleton.1 hb]; decide
    · exact ((h.all s (List.mem_cons_of_mem _ hs)).no b hb).2
theorem line_skip {ws : List ByteArray} (h : Gl ws) : skipB (str (lineT ws)) = false := by
  obtain ⟨w, r, rfl, h2⟩ := h.head
  have h1 := (h.all w (List.mem_cons_self ..)).pos
  rw [← size_len] at h1
  unfold skipB lineT
  rw [str_toList, str_size, List.map_cons, Lib.join_cons]
  cases hw : w.data.toList with
  | nil => rw [hw] at h1; simp at h1
  | cons c t =>
    rw [hw] at h2
    simp only [List.headD_cons] at h2
    simp [h2]

/-! ### a text's lines, read -/
def foldO : RS → List (List ByteArray) → Option RS
  | st, [] => some st
  | st, ws :: t => match lineO st ws with
    | some st' => foldO st' t
    | none => none
theorem fold_app : ∀ (a b : List (List ByteArray)) (st st' : RS), foldO st a = some st' → foldO st (a ++ b) = foldO st' b
  | [], b, st, st', h => by obtain rfl := Option.some.inj h; rfl
  | ws :: a, b, st, st', h => by
    rw [List.cons_append, foldO]
    rw [foldO] at h
    cases hl : lineO st ws with
    | none => rw [hl] at h; cases h
    | some s2 => rw [hl] at h; exact fold_app a b s2 st' h
theorem parseF_fold : ∀ (L : List (List ByteArray)) (st st' : RS) (i : Nat), (∀ ws ∈ L, Gl ws) → foldO st L = some st' → checkI st'.p = 0 → parseF st i (L.map (fun ws => str (lineT ws)) ++ [str []]) = (st'.p, 0, 0)
  | [], st, st', i, _, h, hc => by
    obtain rfl := Option.some.inj h
    have e : skipB (str []) = true := by decide
    show parseF st i [str []] = _
    rw [parseF, if_pos e, parseF, if_pos hc]
  | ws :: L, st, st', i, hg, h, hc => by
    have h1 := hg ws (List.mem_cons_self ..)
    rw [foldO] at h
    rw [List.map_cons, List.cons_append, parseF, line_skip h1, line_cut h1]
    cases hl : lineO st ws with
    | none => rw [hl] at h; cases h
    | some s2 =>
      rw [hl] at h
      exact parseF_fold L s2 st' (i + 1) (fun x hx => hg x (List.mem_cons_of_mem _ hx)) h hc
theorem parse_lines {L : List (List ByteArray)} {st' : RS} (hg : ∀ ws ∈ L, Gl ws) (h : foldO st0 L = some st') (hc : checkI st'.p = 0) : parseQ (str (L.flatMap lineL)) = (st'.p, 0, 0) := by
  have e : L.flatMap lineL = (L.map lineT).flatMap fun l => l ++ [10] := by rw [List.flatMap_map]; rfl
  have hn : ∀ l ∈ L.map lineT, ∀ b ∈ l, b ≠ (10 : UInt8) := fun l hl b hb => by
    obtain ⟨ws, hws, rfl⟩ := List.mem_map.1 hl
    exact line_no (hg ws hws) b hb
  unfold parseQ cutS
  rw [str_toList, e, cut_lines 10 _ hn, List.map_append, List.map_map]
  exact parseF_fold L st0 st' 0 hg h hc

/-! ### numbers -/
theorem dec_num : ∀ u : Nat, numV (Lib.decDigits u) = (u : Int) ∧ (Lib.decDigits u).all dgB = true ∧ 1 ≤ (Lib.decDigits u).length := by
  intro u
  induction u using Nat.strongRecOn with
  | _ u ih =>
    have hd : ∀ k : Nat, k < 10 → (UInt8.ofNat (48 + k)).toNat = 48 + k := fun k hk => by rw [UInt8.toNat_ofNat']; omega
    have hg : ∀ k : Nat, k < 10 → dgB (UInt8.ofNat (48 + k)) = true := fun k hk => by
      unfold dgB; rw [hd k hk]; simp; omega
    rw [Lib.decDigits]
    by_cases h : u < 10
    · rw [dif_pos h]
      refine ⟨?_, by rw [List.all_cons, hg u h]; rfl, by simp⟩
      show 10 * (0 : Int) + (((UInt8.ofNat (48 + u)).toNat : Int) - 48) = _
      rw [hd u h]; omega
    · rw [dif_neg h]
      obtain ⟨h1, h2, h3⟩ := ih (u / 10) (by omega)
      have h4 : u % 10 < 10 := Nat.mod_lt _ (by omega)
      refine ⟨?_, by rw [List.all_append, h2, List.all_cons, hg _ h4]; rfl, by simp⟩
      rw [numV_snoc, h1, hd _ h4]
      omega
theorem dec_len : ∀ (k u : Nat), u < 10 ^ (k + 1) → (Lib.decDigits u).length ≤ k + 1
  | 0, u, h => by rw [Lib.decDigits, dif_pos (by simpa using h)]; simp
  | k + 1, u, h => by
    rw [Lib.decDigits]
    by_cases h1 : u < 10
    · rw [dif_pos h1]; simp
    · rw [dif_neg h1, List.length_append]
      have := dec_len k (u / 10) (by rw [Nat.pow_succ] at h; omega)
      simp
      omega
theorem itoa_num {n : Int} (h0 : 0 ≤ n) (h1 : n ≤ 999999999) : numB (itoaS n) = true ∧ numV (itoaS n).data.toList = n ∧ Gw (itoaS n) := by
  obtain ⟨u, rfl⟩ : ∃ u : Nat, n = u := ⟨n.toNat, by omega⟩
  have e : itoaS (u : Int) = str (Lib.decDigits u) := by
    unfold itoaS Lib.itoa
    rw [if_neg (by omega), Int.toNat_natCast]
  obtain ⟨d1, d2, d3⟩ := dec_num u
  have d4 := dec_len 8 u (by omega)
  rw [e]
  refine ⟨?_, ?_, ⟨by rw [str_size]; exact d3, fun b hb => ?_⟩⟩
  · unfold numB
    rw [str_size, str_toList, d2]
    simp
    omega
  · rw [str_toList, d1]
  · have h2 := List.all_eq_true.1 d2 b hb
    unfold dgB at h2
    simp only [Bool.and_eq_true, decide_eq_true_eq] at h2
    exact ⟨fun e => by rw [e] at h2; exact absurd h2.1 (by decide), fun e => by rw [e] at h2; exact absurd h2.1 (by decide)⟩

/-! ### a policy's lines -/
def rW (wd : ByteArray) (r : RuleD) : List ByteArray := wd :: r.name :: kindN r.kind.toNat :: r.words
def eW (e : ElD) : List (List ByteArray) := [wElement, e.name] :: e.rules.map (rW wAttr)
def relW (b : Bool) : List (List ByteArray) := if b then [[wRel]] else []
def polW (q : PolD) : List (List ByteArray) := [[wDepth, itoaS q.depth]] ++ ([[wWindow, itoaS q.window]] ++ (relW q.rel ++ (q.schemes.map (fun s => [wScheme, s]) ++ (q.drop.map (fun s => [wDrop, s]) ++ (q.glob.map (rW wGlobal) ++ q.els.flatMap eW)))))
theorem printL_W (q : PolD) : printL q = (polW q).flatMap lineL := by
  have e1 : q.schemes.flatMap fS = (q.schemes.map fun s => [wScheme, s]).flatMap lineL := by rw [List.flatMap_map]; rfl
  have e2 : q.drop.flatMap fD = (q.drop.map fun s => [wDrop, s]).flatMap lineL := by rw [List.flatMap_map]; rfl
  have e3 : q.glob.flatMap fG = (q.glob.map (rW wGlobal)).flatMap lineL := by rw [List.flatMap_map]; rfl
  have e4 : q.els.flatMap fE = (q.els.flatMap eW).flatMap lineL := by
    rw [List.flatMap_assoc]
    congr 1
    funext e
    unfold fE eW
    rw [List.flatMap_cons, List.flatMap_map]
    rfl
  have e5 : t2 q.rel = (relW q.rel).flatMap lineL := by unfold t2 relW; cases q.rel <;> rfl
  have e6 : t0 q = [[wDepth, itoaS q.depth]].flatMap lineL := by rw [List.flatMap_cons, List.flatMap_nil, List.append_nil]; rfl
  have e7 : t1 q = [[wWindow, itoaS q.window]].flatMap lineL := by rw [List.flatMap_cons, List.flatMap_nil, List.append_nil]; rfl
  unfold printL polW
  rw [e1, e2, e3, e4, e5, e6, e7]
  simp only [List.flatMap_append, List.append_assoc]
theorem has2 {a b : ByteArray} (h1 : Gw a) (h2 : Gw b) : hasT [a, b] ByteArray.empty = false := by
  have e : ∀ s : ByteArray, Gw s → s ≠ ByteArray.empty := fun s hs h => by have := hs.pos; rw [h] at this; exact absurd this (by decide)
  unfold hasT
  simp [e a h1, e b h2]
theorem has_no {ws : List ByteArray} (h : ∀ s ∈ ws, Gw s) : hasT ws ByteArray.empty = false := by
  rw [← Bool.not_eq_true, hasT_iff]
  intro hm
  have := (h _ hm).pos
  exact absurd this (by decide)
theorem gw_rel : Gw wRel := ⟨by decide, by decide⟩
theorem gw_depth : Gw wDepth := ⟨by decide, by decide⟩
theorem gw_window : Gw wWindow := ⟨by decide, by decide⟩
theorem gw_scheme : Gw wScheme := ⟨by decide, by decide⟩
theorem gw_drop : Gw wDrop := ⟨by decide, by decide⟩
theorem gw_element : Gw wElement := ⟨by decide, by decide⟩
theorem gw_global : Gw wGlobal := ⟨by decide, by decide⟩
theorem gw_attr : Gw wAttr := ⟨by decide, by decide⟩
/-- a rule whose text may be read again -/
structure Gr1 (r : RuleD) : Prop where
  name : Gw r.name
  kind : 0 ≤ r.kind ∧ r.kind < 9
  words : ∀ s ∈ r.words, Gw s
  one : r.kind = 7 ∨ r.words = []
theorem kind_gw : ∀ k : Nat, k < 9 → Gw (kindN k) ∧ kindZ (kindN k) = (k : Int)
  | 0, _ => ⟨⟨by decide, by decide⟩, by decide⟩
  | 1, _ => ⟨⟨by decide, by decide⟩, by decide⟩
  | 2, _ => ⟨⟨by decide, by decide⟩, by decide⟩
  | 3, _ => ⟨⟨by decide, by decide⟩, by decide⟩
  | 4, _ => ⟨⟨by decide, by decide⟩, by decide⟩
  | 5, _ => ⟨⟨by decide, by decide⟩, by decide⟩
  | 6, _ => ⟨⟨by decide, by decide⟩, by decide⟩
  | 7, _ => ⟨⟨by decide, by decide⟩, by decide⟩
  | 8, _ => ⟨⟨by decide, by decide⟩, by decide⟩
theorem rW_gl {wd : ByteArray} {r : RuleD} (hw : Gw wd) (hh : (wd.data.toList.headD 0).toNat ≠ 35) (h : Gr1 r) : Gl (rW wd r) := by
  refine ⟨fun s hs => ?_, wd, _, rfl, hh⟩
  unfold rW at hs
  have := h.kind
  rcases List.mem_cons.1 hs with rfl | hs
  · exact hw
  · rcases List.mem_cons.1 hs with rfl | hs
    · exact h.name
    · rcases List.mem_cons.1 hs with rfl | hs
      · exact (kind_gw _ (by omega)).1
      · exact h.words s hs
theorem rule_back {r : RuleD} (h : Gr1 r) : ruleO (r.name :: kindN r.kind.toNat :: r.words) = some r := by
  have hk := h.kind
  have e : kindZ (kindN r.kind.toNat) = r.kind := by rw [(kind_gw _ (by omega)).2]; omega
  show (if 0 ≤ kindZ (kindN r.kind.toNat) ∧ (kindZ (kindN r.kind.toNat) = 7 ∨ r.words = []) then some (⟨r.name, kindZ (kindN r.kind.toNat), r.words⟩ : RuleD) else none) = _
  rw [e]
  exact if_pos ⟨hk.1, h.one⟩
theorem fold_schemes : ∀ (l : List ByteArray) (st : RS), (∀ s ∈ l, Gw s) → foldO st (l.map fun s => [wScheme, s]) = some { st with p := { st.p with schemes := st.p.schemes ++ l } }
  | [], st, _ => by simp [foldO]
  | s :: l, st, h => by
    have hs : lineO st [wScheme, s] = some { st with p := { st.p with schemes := st.p.schemes ++ [s] } } := by
      unfold lineO
      rw [if_neg (by rw [has2 gw_scheme (h s (List.mem_cons_self ..))]; decide)]
      rfl
    rw [List.map_cons, foldO, hs]
    show foldO _ _ = _
    rw [fold_schemes l _ fun x hx => h x (List.mem_cons_of_mem _ hx)]
    simp
theorem fold_drop : ∀ (l : List ByteArray) (st : RS), (∀ s ∈ l, Gw s) → foldO st (l.map fun s => [wDrop, s]) = some { st with p := { st.p with drop := st.p.drop ++ l } }
  | [], st, _ => by simp [foldO]
  | s :: l, st, h => by
    have hs : lineO st [wDrop, s] = some { st with p := { st.p with drop := st.p.drop ++ [s] } } := by
      unfold lineO
      rw [if_neg (by rw [has2 gw_drop (h s (List.mem_cons_self ..))]; decide)]
      rfl
    rw [List.map_cons, foldO, hs]
    show foldO _ _ = _
    rw [fold_drop l _ fun x hx => h x (List.mem_cons_of_mem _ hx)]
    simp
theorem fold_glob : ∀ (l : List RuleD) (st : RS), (∀ r ∈ l, Gr1 r) → foldO st (l.map (rW wGlobal)) = some { st with p := { st.p with glob := st.p.glob ++ l } }
  | [], st, _ => by simp [foldO]
  | r :: l, st, h => by
    have hr := h r (List.mem_cons_self ..)
    have hs : lineO st (rW wGlobal r) = some { st with p := { st.p with glob := st.p.glob ++ [r] } } := by
      unfold lineO
      rw [if_neg (by rw [has_no (rW_gl gw_global (by decide) hr).all]; decide)]
      unfold rW
      simp only [rule_back hr]
      rfl
    rw [List.map_cons, foldO, hs]
    show foldO _ _ = _
    rw [fold_glob l _ fun x hx => h x (List.mem_cons_of_mem _ hx)]
    simp
theorem modify_end {α : Type} (f : α → α) (e : α) : ∀ es : List α, (es ++ [e]).modify es.length f = es ++ [f e]
  | [] => rfl
  | a :: es => by rw [List.length_cons, List.cons_append, List.modify_succ_cons, modify_end f e es]; rfl
theorem last_add (es : List ElD) (n : ByteArray) (rs : List RuleD) (r : RuleD) : lastR (es ++ [⟨n, rs⟩]) r = es ++ [⟨n, rs ++ [r]⟩] := by
  unfold lastR
  rw [List.length_append, List.length_singleton, Nat.add_sub_cancel, modify_end]
theorem fold_attrs : ∀ (l rs : List RuleD) (n : ByteArray) (es : List ElD) (st : RS), st.p.els = es ++ [⟨n, rs⟩] → (∀ r ∈ l, Gr1 r) → foldO st (l.map (rW wAttr)) = some { st with p := { st.p with els := es ++ [⟨n, rs ++ l⟩] } }
  | [], rs, n, es, st, he, _ => by
    rw [List.append_nil, ← he]; rfl
  | r :: l, rs, n, es, st, he, h => by
    have hr := h r (List.mem_cons_self ..)
    have hs : lineO st (rW wAttr r) = some { st with p := { st.p with els := es ++ [⟨n, rs ++ [r]⟩] } } := by
      unfold lineO
      rw [if_neg (by rw [has_no (rW_gl gw_attr (by decide) hr).all]; decide)]
      have h0 : ¬ st.p.els = [] := by rw [he]; simp
      show (if st.p.els = [] then none else match ruleO (r.name :: kindN r.kind.toNat :: r.words) with | some r => some { st with p := { st.p with els := lastR st.p.els r } } | none => none) = _
      rw [if_neg h0, rule_back hr]
      show some { st with p := { st.p with els := lastR st.p.els r } } = _
      rw [he, last_add]
    rw [List.map_cons, foldO, hs]
    show foldO _ _ = _
    rw [fold_attrs l (rs ++ [r]) n es _ rfl fun x hx => h x (List.mem_cons_of_mem _ hx)]
    simp
structure Ge1 (e : ElD) : Prop where
  name : Gw e.name
  rules : ∀ r ∈ e.rules, Gr1 r
theorem fold_els : ∀ (l : List ElD) (st : RS), (∀ e ∈ l, Ge1 e) → foldO st (l.flatMap eW) = some { st with p := { st.p with els := st.p.els ++ l } }
  | [], st, _ => by simp [foldO]
  | e :: l, st, h => by
    have hr := h e (List.mem_cons_self ..)
    have hs : lineO st [wElement, e.name] = some { st with p := { st.p with els := st.p.els ++ [⟨e.name, []⟩] } } := by
      unfold lineO
      rw [if_neg (by rw [has2 gw_element hr.name]; decide)]
      rfl
    have h1 : foldO st (eW e) = some { st with p := { st.p with els := st.p.els ++ [e] } } := by
      unfold eW
      rw [foldO, hs]
      show foldO _ _ = _
      rw [fold_attrs e.rules [] e.name st.p.els _ rfl hr.rules]
      simp
    rw [List.flatMap_cons, fold_app _ _ _ _ h1, fold_els l _ fun x hx => h x (List.mem_cons_of_mem _ hx)]
    simp
/-- a policy whose text may be read again -/
structure Gp (q : PolD) : Prop where
  els : ∀ e ∈ q.els, Ge1 e
  glob : ∀ r ∈ q.glob, Gr1 r
  schemes : ∀ s ∈ q.schemes, Gw s
  drop : ∀ s ∈ q.drop, Gw s
  depth : 0 ≤ q.depth ∧ q.depth ≤ 999999999
  window : 0 ≤ q.window ∧ q.window ≤ 999999999
theorem fold_pol {q : PolD} (h : Gp q) : ∃ st, foldO st0 (polW q) = some st ∧ st.p = q := by
  obtain ⟨d1, d2, d3⟩ := itoa_num h.depth.1 h.depth.2
  obtain ⟨w1, w2, w3⟩ := itoa_num h.window.1 h.window.2
  have s1 : foldO st0 [[wDepth, itoaS q.depth]] = some { st0 with p := { st0.p with depth := q.depth }, sd := true } := by
    have : lineO st0 [wDepth, itoaS q.depth] = some { st0 with p := { st0.p with depth := q.depth }, sd := true } := by
      unfold lineO
      rw [if_neg (by rw [has2 gw_depth d3]; decide)]
      show (if numB (itoaS q.depth) = true ∧ st0.sd = false then some _ else none) = _
      rw [if_pos ⟨d1, rfl⟩, d2]
    rw [foldO, this]; rfl
  have s2 : ∀ st : RS, st.sw = false → foldO st [[wWindow, itoaS q.window]] = some { st with p := { st.p with window := q.window }, sw := true } := fun st hst => by
    have : lineO st [wWindow, itoaS q.window] = some { st with p := { st.p with window := q.window }, sw := true } := by
      unfold lineO
      rw [if_neg (by rw [has2 gw_window w3]; decide)]
      show (if numB (itoaS q.window) = true ∧ st.sw = false then some _ else none) = _
      rw [if_pos ⟨w1, hst⟩, w2]
    rw [foldO, this]; rfl
  have s3 : ∀ st : RS, st.sr = false → st.p.rel = false → ∃ b, foldO st (relW q.rel) = some { st with p := { st.p with rel := q.rel }, sr := b } := fun st hst hr => by
    cases hq : q.rel with
    | false =>
      refine ⟨st.sr, ?_⟩
      obtain ⟨⟨a1, a2, a3, a4, a5, a6, a7⟩, b1, b2, b3⟩ := st
      simp only at hr
      subst hr
      rfl
    | true =>
      refine ⟨true, ?_⟩
      have : lineO st [wRel] = some { st with p := { st.p with rel := true }, sr := true } := by
        unfold lineO
        rw [if_neg (by rw [has_no (ws := [wRel]) (fun s hs => by rw [List.mem_singleton.1 hs]; exact gw_rel)]; decide)]
        show (if ([] : List ByteArray) = [] ∧ st.sr = false then some _ else none) = _
        rw [if_pos ⟨rfl, hst⟩]
      unfold relW
      rw [if_pos rfl, foldO, this]; rfl
  unfold polW
  rw [fold_app _ _ _ _ s1, fold_app _ _ _ _ (s2 _ rfl)]
  obtain ⟨b, s3'⟩ := s3 { st0 with p := { st0.p with depth := q.depth, window := q.window }, sd := true, sw := true } rfl rfl
  rw [fold_app _ _ _ _ s3', fold_app _ _ _ _ (fold_schemes q.schemes _ h.schemes), fold_app _ _ _ _ (fold_drop q.drop _ h.drop), fold_app _ _ _ _ (fold_glob q.glob _ h.glob), fold_els q.els _ h.els]
  exact ⟨_, rfl, rfl⟩
theorem gl2 {a b : ByteArray} (ha : Gw a) (hb : Gw b) (hh : (a.data.toList.headD 0).toNat ≠ 35) : Gl [a, b] :=
  ⟨fun s hs => by
    rcases List.mem_cons.1 hs with rfl | hs
    · exact ha
    · rw [List.mem_singleton.1 hs]; exact hb, a, _, rfl, hh⟩
theorem pol_gl {q : PolD} (h : Gp q) : ∀ ws ∈ polW q, Gl ws := by
  obtain ⟨d1, d2, d3⟩ := itoa_num h.depth.1 h.depth.2
  obtain ⟨w1, w2, w3⟩ := itoa_num h.window.1 h.window.2
  intro ws hws
  unfold polW at hws
  simp only [List.mem_append] at hws
  rcases hws with hws | hws | hws | hws | hws | hws | hws
  · rw [List.mem_singleton.1 hws]; exact gl2 gw_depth d3 (by decide)
  · rw [List.mem_singleton.1 hws]; exact gl2 gw_window w3 (by decide)
  · unfold relW at hws
    split at hws
    · rw [List.mem_singleton.1 hws]
      exact ⟨fun s hs => by rw [List.mem_singleton.1 hs]; exact gw_rel, _, _, rfl, by decide⟩
    · cases hws
  · obtain ⟨s, hs, rfl⟩ := List.mem_map.1 hws; exact gl2 gw_scheme (h.schemes s hs) (by decide)
  · obtain ⟨s, hs, rfl⟩ := List.mem_map.1 hws; exact gl2 gw_drop (h.drop s hs) (by decide)
  · obtain ⟨r, hr, rfl⟩ := List.mem_map.1 hws; exact rW_gl gw_global (by decide) (h.glob r hr)
  · obtain ⟨e, he, hws⟩ := List.mem_flatMap.1 hws
    unfold eW at hws
    rcases List.mem_cons.1 hws with rfl | hws
    · exact gl2 gw_element (h.els e he).name (by decide)
    · obtain ⟨r, hr, rfl⟩ := List.mem_map.1 hws; exact rW_gl gw_attr (by decide) ((h.els e he).rules r hr)
theorem parse_print {q : PolD} (h : Gp q) (hc : checkI q = 0) : parseQ (str (printL q)) = (q, 0, 0) := by
  obtain ⟨st, h1, h2⟩ := fold_pol h
  rw [printL_W, parse_lines (pol_gl h) h1 (by rw [h2]; exact hc), h2]

/-! ### a valid policy's text -/
theorem gw_ok {s : ByteArray} (h1 : 1 ≤ s.size) (h2 : ∀ b ∈ s.data.toList, 33 ≤ b.toNat) : Gw s :=
  ⟨h1, fun b hb => ⟨fun e => by have := h2 b hb; rw [e] at this; exact absurd this (by decide), fun e => by have := h2 b hb; rw [e] at this; exact absurd this (by decide)⟩⟩
theorem gw_wrt {o : Bool} {s : ByteArray} (h : wrt o s.data.toList = true) : Gw s := by
  unfold wrt at h
  simp only [Bool.and_eq_true, decide_eq_true_eq] at h
  obtain ⟨⟨⟨⟨h1, _⟩, _⟩, _⟩, h5⟩ := h
  rw [size_len] at h1
  refine gw_ok h1 fun b hb => ?_
  have h6 := List.all_eq_true.1 h5 b hb
  unfold okB smB dgB at h6
  simp only [Bool.or_eq_true, Bool.and_eq_true, decide_eq_true_eq, beq_iff_eq] at h6
  omega
theorem gw_word {s : ByteArray} (h : wordB s = true) : Gw s := by
  unfold wordB at h
  simp only [Bool.and_eq_true, decide_eq_true_eq] at h
  refine gw_ok h.1.1 fun b hb => ?_
  have h6 := List.all_eq_true.1 h.2 b hb
  unfold okW at h6
  simp only [Bool.and_eq_true, decide_eq_true_eq] at h6
  exact h6.1
theorem gw_scheme' {s : ByteArray} (h : schemeB s = true) : Gw s := by
  unfold schemeB at h
  simp only [Bool.and_eq_true, decide_eq_true_eq] at h
  obtain ⟨⟨⟨⟨⟨h1, _⟩, _⟩, _⟩, h5⟩, _⟩ := h
  refine gw_ok h1 fun b hb => ?_
  have h6 := List.all_eq_true.1 h5 b hb
  unfold schB Cls.up Cls.lo Cls.dg at h6
  simp only [Bool.or_eq_true, Bool.and_eq_true, decide_eq_true_eq, beq_iff_eq] at h6
  omega
theorem gr_of {r : RuleD} (h : ruleB [] r = true) : Gr1 r := by
  unfold ruleB kindB at h
  simp only [Bool.and_eq_true, Bool.not_eq_true', decide_eq_true_eq, beq_iff_eq] at h
  obtain ⟨⟨⟨⟨⟨⟨⟨h1, _⟩, _⟩, _⟩, h5⟩, _⟩, h7⟩, h8⟩ := h
  refine ⟨gw_wrt h1, h5, fun s hs => gw_word (List.all_eq_true.1 h8 s hs), ?_⟩
  by_cases hk : r.kind = 7
  · exact .inl hk
  · right
    rw [decide_eq_false hk] at h7
    have h9 := of_decide_eq_false h7.symm
    exact List.eq_nil_of_length_eq_zero (by omega)
theorem nm15 : (St.nm 15).all (fun l => decide (1 ≤ l.length) && l.all fun b => decide (33 ≤ b.toNat)) = true := by decide +kernel
theorem inA_gw (s : ByteArray) (h : inA s = true) : Gw s := by
  unfold inA at h
  rw [in_list, rtS_in (by decide) (by decide)] at h
  obtain ⟨l, hl, rfl⟩ := List.mem_map.1 h
  have h1 := List.all_eq_true.1 nm15 l hl
  rw [Bool.and_eq_true, decide_eq_true_eq] at h1
  exact gw_ok (by rw [str_size]; exact h1.1) fun b hb => by
    have := List.all_eq_true.1 h1.2 b hb
    exact of_decide_eq_true this
theorem gp_of {p : PolD} (h : Valid p) : Gp p := by
  have hl := h.lim
  unfold limOk at hl
  simp only [Bool.and_eq_true, decide_eq_true_eq] at hl
  obtain ⟨⟨⟨⟨l1, l2⟩, l3⟩, l4⟩, _⟩ := hl
  refine ⟨fun e he => ⟨inA_gw _ (h.els e he).1, fun r hr => gr_of ((rulesB_iff.1 (h.els e he).2).1 r hr)⟩, fun r hr => gr_of ((rulesB_iff.1 h.glob).1 r hr), fun s hs => ?_, fun s hs => ?_, ⟨by omega, by omega⟩, ⟨by omega, by omega⟩⟩
  · have h1 := h.schemes
    unfold schOk at h1
    exact gw_scheme' ((once_iff.1 h1).1 s hs)
  · have h1 := h.drop
    unfold dropOk at h1
    have h2 := (once_iff.1 h1).1 s hs
    simp only [Bool.and_eq_true] at h2
    exact gw_wrt h2.1
theorem back {p : PolD} (h : checkI p = 0) (hz : thingsN p ≤ 9223372036854775807) : parseQ (str (printL (tidyP p))) = (tidyP p, 0, 0) :=
  parse_print (gp_of (valid_tidy (valid_of h) hz)) (of_valid (valid_tidy (valid_of h) hz))
end Go.Proofs.YteikagdinecfoaaGreatDoor.Bu
