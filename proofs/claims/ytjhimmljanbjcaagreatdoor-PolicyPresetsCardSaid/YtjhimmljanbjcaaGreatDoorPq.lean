/- The program's presets rich and full: maps of rules. -/
import Derived.Test.YtjhimmljanbjcaaGreatDoorPo
import Derived.Test.YtjhimmljanbjcaaGreatDoorPs
import Derived.Test.YtjhimmljanbjcaaGreatDoorAw
set_option linter.unusedVariables false
set_option linter.unusedSimpArgs false
namespace Go.Proofs.YtjhimmljanbjcaaGreatDoor.Pr
open Go.RowKit Lb Gr Pd Fl Go.Proofs.YtjhimmljanbjcaaGreatDoor.Pm Bk Mp Is Ru Co Go.Proofs.YtjhimmljanbjcaaGreatDoor.Sr Go.Proofs.YtjhimmljanbjcaaGreatDoor.Es Go.Proofs.YtjhimmljanbjcaaGreatDoor.Sl Go.Proofs.YtjhimmljanbjcaaGreatDoor.Ck Go.Proofs.YtjhimmljanbjcaaGreatDoor.Or Go.Proofs.YtjhimmljanbjcaaGreatDoor.Ty Go.Proofs.YtjhimmljanbjcaaGreatDoor.Vd Go.Proofs.YtjhimmljanbjcaaGreatDoor.Pl Go.Proofs.YtjhimmljanbjcaaGreatDoor.Pp Pt Po At Ps Go.Proofs.YtjhimmljanbjcaaGreatDoor.Pb
attribute [local go_sem ↓] Go.wp_at_zero Go.wp_at_succ
/-- a map of rules under way: what it holds, and the rows that its values are -/
structure RM (b : Nat) (W : World) (L : List (ByteArray × Value × List RuleD)) : Prop where
  m : MapS W b (L.map fun x => (x.1, x.2.1))
  rd : ∀ x ∈ L, kdR.rd W (b + 1) W.heap.size x.2.1 x.2.2
theorem RM.made (w : World) : RM w.heap.size (w.alloc (.map #[] 0)) [] := ⟨MapS.made w, fun x h => by cases h⟩
theorem RM.below {b : Nat} {W W' : World} {L : List (ByteArray × Value × List RuleD)} (h : RM b W L) (hb : Below W.heap.size W W') : RM b W' L :=
  ⟨h.m.below hb, fun x hx => kdR.wide (rd_below (h.rd x hx) hb (Nat.le_refl _)) (Nat.le_refl _) hb.size⟩
theorem RM.put {b : Nat} {W W' : World} {L : List (ByteArray × Value × List RuleD)} (h : RM b W L) {s : ByteArray} {v : Value} {r : List RuleD} (hm : MapS W' b ((L.map fun x => (x.1, x.2.1)) ++ [(s, v)])) (hg : W.grownBy W' (some b)) (hv : kdR.rd W (b + 1) W.heap.size v r) : RM b W' (L ++ [(s, v, r)]) := by
  have hk : ∀ k, b + 1 ≤ k → k < W.heap.size → W'.heap[k]? = W.heap[k]? := fun k h1 h2 => hg.block k h2 (fun e => by injection e with e; omega)
  refine ⟨by rw [List.map_append]; exact hm, fun x hx => ?_⟩
  rcases List.mem_append.1 hx with hx | hx
  · exact kdR.wide (kdR.stay (h.rd x hx) hk) (Nat.le_refl _) hg.size
  · rw [List.mem_singleton.1 hx]
    exact kdR.wide (kdR.stay hv hk) (Nat.le_refl _) hg.size
def lookR (s : ByteArray) : List (ByteArray × Value × List RuleD) → Value × List RuleD
  | [] => (.slice none 0 0, [])
  | x :: r => if s = x.1 then x.2 else lookR s r
theorem lookR_1 (s : ByteArray) : ∀ L : List (ByteArray × Value × List RuleD), (lookL s (L.map fun x => (x.1, x.2.1))).getD (.slice none 0 0) = (lookR s L).1
  | [] => rfl
  | x :: r => by
    rw [List.map_cons]
    unfold lookL lookR
    split
    · rfl
    · exact lookR_1 s r
theorem lookR_rd {w : World} {lo hi : Nat} (s : ByteArray) : ∀ L : List (ByteArray × Value × List RuleD), (∀ x ∈ L, kdR.rd w lo hi x.2.1 x.2.2) → kdR.rd w lo hi (lookR s L).1 (lookR s L).2
  | [], _ => fmR.rd_nil _ _ _
  | x :: r, h => by
    unfold lookR
    split
    · exact h x (List.mem_cons_self ..)
    · exact lookR_rd s r fun y hy => h y (List.mem_cons_of_mem _ hy)
/-- the rules of a name, as the map says -/
def rulesOf (RL : List (ByteArray × List RuleD)) (s : ByteArray) : List RuleD := ((RL.find? fun x => decide (s = x.1)).map (·.2)).getD []
theorem lookR_2 (s : ByteArray) : ∀ L : List (ByteArray × Value × List RuleD), (lookR s L).2 = rulesOf (L.map fun x => (x.1, x.2.2)) s
  | [] => rfl
  | x :: r => by
    have ih := lookR_2 s r
    unfold rulesOf at ih ⊢
    show (if s = x.1 then x.2 else lookR s r).2 = _
    rw [List.map_cons, List.find?_cons]
    by_cases h : s = x.1
    · rw [if_pos h, decide_eq_true h]; rfl
    · rw [if_neg h, decide_eq_false h]; exact ih
theorem elemsC (l : List ByteArray) (A : Option Addr) (n c b : Nat) (L : List (ByteArray × Value × List RuleD)) (w : World) (h : kdW.rd w 0 w.heap.size (.slice A n c) l) (hz : l.length * 40 ≤ 140737488355328) (hm : RM b w L) :
    Calls Tryz.prog 73 #[.slice A n c, .map (some b)] w fun e w' => ∃ v, e = .returned v ∧ kdE.rd w' 0 w'.heap.size v (elsOf (rulesOf (L.map fun x => (x.1, x.2.2))) l) ∧ Below w.heap.size w w' := by
  have h1 := elementsC l A n c (.map (some b)) (fun s => (lookR s L).2) (fun s => (lookR s L).1) w h hz (fun W hW s => by
    have h2 := run_look (P := Tryz.prog) (w := W) Tryz.underlying96 Tryz.underlying9 (hm.m.below hW) s (z := .slice none 0 0) (Tryz.zeroValue23 W) false
    rw [h2, ← lookR_1]
    rfl) (fun s => kdR.wide (lookR_rd s L hm.rd) (Nat.zero_le _) (Nat.le_refl _))
  rw [show (fun s => (lookR s L).2) = rulesOf (L.map fun x => (x.1, x.2.2)) from funext fun s => lookR_2 s L] at h1
  exact h1
/-- rules by their texts, the texts a literal row -/
theorem attrs_lit (l : List ByteArray) (rs : List RuleD) (n g : Nat) (w : World) (ht : Tab w) (hg : g = w.heap.size) (hn : n = l.length) (hlr : rs.length = l.length) (hr : ∀ i (hi : i < l.length), Txt l[i] (rs[i]'(by omega))) (hz : l.length * 48 ≤ 140737488355328) :
    Calls Tryz.prog 75 #[.slice (some ⟨g, 0, none⟩) n n] (w.alloc (.cells (l.map Value.string).toArray 9)) fun e w' => ∃ A c, e = .returned (.slice A rs.length c) ∧ kdR.rd w' w.heap.size w'.heap.size (.slice A rs.length c) rs ∧ Below w.heap.size w w' := by
  subst hg
  have hb : Below w.heap.size w (w.alloc (.cells (l.map Value.string).toArray 9)) := (Below.refl _ _).alloc (Nat.le_refl _) _
  refine (attrsC l rs _ _ (ht.below hb) (rd_lit hn (by unfold maxLen; omega)) hlr hr hz).mono ?_
  rintro e w' ⟨v, F, rfl, ho, hb2⟩
  obtain ⟨A, c, rfl, _⟩ := fmR.own_form ho
  exact ⟨A, c, rfl, kdR.wide (kdR.read ho (Nat.le_refl _) (Nat.le_refl _)) (by simp) (Nat.le_refl _), hb.trans (hb2.mono hb.size)⟩
/-! ### little policies -/
def smR (r : RuleD) : Bool := decide (r.name.size ≤ 1000) && decide (0 ≤ r.kind) && decide (r.kind ≤ 100) && decide (r.words.length ≤ 1000) && r.words.all fun w => decide (w.size ≤ 1000)
def smRs (l : List RuleD) : Bool := decide (l.length ≤ 1000) && l.all smR
def smP (p : PolD) : Bool := decide (p.els.length ≤ 1000) && (p.els.all fun e => smRs e.rules) && smRs p.glob && decide (p.schemes.length ≤ 1000) && decide (p.drop.length ≤ 1000)
theorem smR_of {r : RuleD} (h : smR r = true) : r.name.size ≤ 1000 ∧ 0 ≤ r.kind ∧ r.kind ≤ 100 ∧ r.words.length ≤ 1000 ∧ ∀ w ∈ r.words, w.size ≤ 1000 := by
  unfold smR at h
  simp only [Bool.and_eq_true, decide_eq_true_eq, List.all_eq_true] at h
  obtain ⟨⟨⟨⟨h1, h2⟩, h3⟩, h4⟩, h5⟩ := h
  exact ⟨h1, h2, h3, h4, h5⟩
theorem smRs_of {l : List RuleD} (h : smRs l = true) : FitR l ∧ OkW l := by
  unfold smRs at h
  simp only [Bool.and_eq_true, decide_eq_true_eq, List.all_eq_true] at h
  obtain ⟨h1, h2⟩ := h
  refine ⟨⟨by omega, fun i hi => ?_⟩, ⟨by omega, fun i hi => ?_⟩⟩
  · obtain ⟨_, _, _, h4, _⟩ := smR_of (h2 _ (List.getElem_mem hi))
    omega
  · obtain ⟨_, _, _, h4, h5⟩ := smR_of (h2 _ (List.getElem_mem hi))
    refine ⟨by omega, fun j hj => ?_⟩
    have := h5 _ (List.getElem_mem hj)
    unfold maxLen
    omega
theorem smP_of {p : PolD} (h : smP p = true) : FitP p ∧ OkV p := by
  unfold smP at h
  simp only [Bool.and_eq_true, decide_eq_true_eq, List.all_eq_true] at h
  obtain ⟨⟨⟨⟨h1, h2⟩, h3⟩, h4⟩, h5⟩ := h
  exact ⟨⟨⟨by omega, fun i hi => (smRs_of (h2 _ (List.getElem_mem hi))).1⟩, (smRs_of h3).1, by omega, by omega⟩, ⟨by omega, fun i hi => (smRs_of (h2 _ (List.getElem_mem hi))).2, (smRs_of h3).2, by omega, by omega⟩⟩
theorem dif_of {p : PolD} (h : difB p = true) : Dif p := by
  unfold difB at h
  simp only [Bool.and_eq_true, decide_eq_true_eq, List.all_eq_true] at h
  exact ⟨h.1.1, fun i hi => h.2 _ (List.getElem_mem hi), h.1.2⟩
end Go.Proofs.YtjhimmljanbjcaaGreatDoor.Pr

/- The program's preset 'rich'. -/
set_option linter.unusedVariables false
set_option linter.unusedSimpArgs false
namespace Go.Proofs.YtjhimmljanbjcaaGreatDoor.Pq
open Go.RowKit Lb Gr Pd Fl Go.Proofs.YtjhimmljanbjcaaGreatDoor.Pm Bk Mp Is Ru Co Go.Proofs.YtjhimmljanbjcaaGreatDoor.Sr Go.Proofs.YtjhimmljanbjcaaGreatDoor.Es Go.Proofs.YtjhimmljanbjcaaGreatDoor.Sl Go.Proofs.YtjhimmljanbjcaaGreatDoor.Ck Go.Proofs.YtjhimmljanbjcaaGreatDoor.Or Go.Proofs.YtjhimmljanbjcaaGreatDoor.Ty Go.Proofs.YtjhimmljanbjcaaGreatDoor.Vd Go.Proofs.YtjhimmljanbjcaaGreatDoor.Pl Go.Proofs.YtjhimmljanbjcaaGreatDoor.Pp Pt Po At Ps Go.Proofs.YtjhimmljanbjcaaGreatDoor.Pr
attribute [local go_sem ↓] Go.wp_at_zero Go.wp_at_succ

theorem tx0 : Txt (str [104, 114, 101, 102, 32, 108, 105, 110, 107]) (⟨str [104, 114, 101, 102], 5, []⟩) := ⟨by decide, by decide +kernel, by decide +kernel, by decide +kernel, by decide +kernel⟩
theorem tx1 : Txt (str [116, 105, 116, 108, 101, 32, 97, 110, 121]) (⟨str [116, 105, 116, 108, 101], 0, []⟩) := ⟨by decide, by decide +kernel, by decide +kernel, by decide +kernel, by decide +kernel⟩
def rA : List RuleD := [⟨str [104, 114, 101, 102], 5, []⟩, ⟨str [116, 105, 116, 108, 101], 0, []⟩]
theorem rA_C (g : Nat) (w : World) (ht : Tab w) (hg : g = w.heap.size) : Calls Tryz.prog 75 #[.slice (some ⟨g, 0, none⟩) 2 2] (w.alloc (.cells #[.string ⟨#[104, 114, 101, 102, 32, 108, 105, 110, 107]⟩, .string ⟨#[116, 105, 116, 108, 101, 32, 97, 110, 121]⟩] 9)) fun e w' => ∃ A c, e = .returned (.slice A 2 c) ∧ kdR.rd w' w.heap.size w'.heap.size (.slice A 2 c) rA ∧ Below w.heap.size w w' :=
  attrs_lit [str [104, 114, 101, 102, 32, 108, 105, 110, 107], str [116, 105, 116, 108, 101, 32, 97, 110, 121]] rA 2 g w ht hg rfl rfl (fun i hi => match i, hi with | 0, _ => tx0 | 1, _ => tx1 | i + 2, h => absurd h (by simp)) (by decide)
theorem tx2 : Txt (str [99, 105, 116, 101, 32, 108, 105, 110, 107]) (⟨str [99, 105, 116, 101], 5, []⟩) := ⟨by decide, by decide +kernel, by decide +kernel, by decide +kernel, by decide +kernel⟩
def rQ : List RuleD := [⟨str [99, 105, 116, 101], 5, []⟩]
theorem rQ_C (g : Nat) (w : World) (ht : Tab w) (hg : g = w.heap.size) : Calls Tryz.prog 75 #[.slice (some ⟨g, 0, none⟩) 1 1] (w.alloc (.cells #[.string ⟨#[99, 105, 116, 101, 32, 108, 105, 110, 107]⟩] 9)) fun e w' => ∃ A c, e = .returned (.slice A 1 c) ∧ kdR.rd w' w.heap.size w'.heap.size (.slice A 1 c) rQ ∧ Below w.heap.size w w' :=
  attrs_lit [str [99, 105, 116, 101, 32, 108, 105, 110, 107]] rQ 1 g w ht hg rfl rfl (fun i hi => match i, hi with | 0, _ => tx2 | i + 1, h => absurd h (by simp)) (by decide)
theorem tx3 : Txt (str [115, 116, 97, 114, 116, 32, 110, 117, 109, 98, 101, 114]) (⟨str [115, 116, 97, 114, 116], 3, []⟩) := ⟨by decide, by decide +kernel, by decide +kernel, by decide +kernel, by decide +kernel⟩
def rO : List RuleD := [⟨str [115, 116, 97, 114, 116], 3, []⟩]
theorem rO_C (g : Nat) (w : World) (ht : Tab w) (hg : g = w.heap.size) : Calls Tryz.prog 75 #[.slice (some ⟨g, 0, none⟩) 1 1] (w.alloc (.cells #[.string ⟨#[115, 116, 97, 114, 116, 32, 110, 117, 109, 98, 101, 114]⟩] 9)) fun e w' => ∃ A c, e = .returned (.slice A 1 c) ∧ kdR.rd w' w.heap.size w'.heap.size (.slice A 1 c) rO ∧ Below w.heap.size w w' :=
  attrs_lit [str [115, 116, 97, 114, 116, 32, 110, 117, 109, 98, 101, 114]] rO 1 g w ht hg rfl rfl (fun i hi => match i, hi with | 0, _ => tx3 | i + 1, h => absurd h (by simp)) (by decide)
theorem tx4 : Txt (str [99, 108, 97, 115, 115, 32, 116, 111, 107, 101, 110, 115]) (⟨str [99, 108, 97, 115, 115], 1, []⟩) := ⟨by decide, by decide +kernel, by decide +kernel, by decide +kernel, by decide +kernel⟩
theorem tx5 : Txt (str [108, 97, 110, 103, 32, 108, 97, 110, 103]) (⟨str [108, 97, 110, 103], 6, []⟩) := ⟨by decide, by decide +kernel, by decide +kernel, by decide +kernel, by decide +kernel⟩
def rG : List RuleD := [⟨str [99, 108, 97, 115, 115], 1, []⟩, ⟨str [108, 97, 110, 103], 6, []⟩]
theorem rG_C (g : Nat) (w : World) (ht : Tab w) (hg : g = w.heap.size) : Calls Tryz.prog 75 #[.slice (some ⟨g, 0, none⟩) 2 2] (w.alloc (.cells #[.string ⟨#[99, 108, 97, 115, 115, 32, 116, 111, 107, 101, 110, 115]⟩, .string ⟨#[108, 97, 110, 103, 32, 108, 97, 110, 103]⟩] 9)) fun e w' => ∃ A c, e = .returned (.slice A 2 c) ∧ kdR.rd w' w.heap.size w'.heap.size (.slice A 2 c) rG ∧ Below w.heap.size w w' :=
  attrs_lit [str [99, 108, 97, 115, 115, 32, 116, 111, 107, 101, 110, 115], str [108, 97, 110, 103, 32, 108, 97, 110, 103]] rG 2 g w ht hg rfl rfl (fun i hi => match i, hi with | 0, _ => tx4 | 1, _ => tx5 | i + 2, h => absurd h (by simp)) (by decide)
theorem tx6 : Txt (str [97, 108, 116, 32, 97, 110, 121]) (⟨str [97, 108, 116], 0, []⟩) := ⟨by decide, by decide +kernel, by decide +kernel, by decide +kernel, by decide +kernel⟩
theorem tx7 : Txt (str [104, 101, 105, 103, 104, 116, 32, 108, 101, 110, 103, 116, 104]) (⟨str [104, 101, 105, 103, 104, 116], 4, []⟩) := ⟨by decide, by decide +kernel, by decide +kernel, by decide +kernel, by decide +kernel⟩
theorem tx8 : Txt (str [115, 114, 99, 32, 108, 105, 110, 107]) (⟨str [115, 114, 99], 5, []⟩) := ⟨by decide, by decide +kernel, by decide +kernel, by decide +kernel, by decide +kernel⟩
theorem tx9 : Txt (str [119, 105, 100, 116, 104, 32, 108, 101, 110, 103, 116, 104]) (⟨str [119, 105, 100, 116, 104], 4, []⟩) := ⟨by decide, by decide +kernel, by decide +kernel, by decide +kernel, by decide +kernel⟩
def rI : List RuleD := [⟨str [97, 108, 116], 0, []⟩, ⟨str [104, 101, 105, 103, 104, 116], 4, []⟩, ⟨str [115, 114, 99], 5, []⟩, ⟨str [119, 105, 100, 116, 104], 4, []⟩]
theorem rI_C (v : Value) (w : World) (ht : Tab w) (h : kdW.rd w 0 w.heap.size v [str [97, 108, 116, 32, 97, 110, 121], str [104, 101, 105, 103, 104, 116, 32, 108, 101, 110, 103, 116, 104], str [115, 114, 99, 32, 108, 105, 110, 107], str [119, 105, 100, 116, 104, 32, 108, 101, 110, 103, 116, 104]]) : Calls Tryz.prog 75 #[v] w fun e w' => ∃ A c, e = .returned (.slice A 4 c) ∧ kdR.rd w' w.heap.size w'.heap.size (.slice A 4 c) rI ∧ Below w.heap.size w w' :=
  (attrsC _ rI v w ht h rfl (fun i hi => match i, hi with | 0, _ => tx6 | 1, _ => tx7 | 2, _ => tx8 | 3, _ => tx9 | i + 4, h => absurd h (by simp)) (by decide)).mono fun e w' ⟨v, F, he, ho, hb⟩ => by
    obtain ⟨A, c, rfl, _⟩ := fmR.own_form ho
    exact ⟨A, c, he, kdR.read ho (Nat.le_refl _) (Nat.le_refl _), hb⟩
def richF : ByteArray := str [98, 32, 98, 114, 32, 99, 111, 100, 101, 32, 101, 109, 32, 105, 32, 112, 32, 115, 116, 114, 111, 110, 103, 32, 97, 32, 98, 108, 111, 99, 107, 113, 117, 111, 116, 101, 32, 104, 49, 32, 104, 50, 32, 104, 51, 32, 104, 52, 32, 104, 53, 32, 104, 54, 32, 104, 114, 32, 105, 109, 103, 32, 108, 105, 32, 111, 108, 32, 112, 114, 101, 32, 117, 108]
def richN : List ByteArray := [str [98], str [98, 114], str [99, 111, 100, 101], str [101, 109], str [105], str [112], str [115, 116, 114, 111, 110, 103], str [97], str [98, 108, 111, 99, 107, 113, 117, 111, 116, 101], str [104, 49], str [104, 50], str [104, 51], str [104, 52], str [104, 53], str [104, 54], str [104, 114], str [105, 109, 103], str [108, 105], str [111, 108], str [112, 114, 101], str [117, 108]]
theorem richF_fields : fieldsS richF = richN := by decide +kernel
theorem richF_asc : richF.data.toList.all (fun b => decide (b.toNat < 128)) = true := by decide +kernel
theorem richF_lib : Lib.fields richF.data.toList = fieldsL richF.data.toList := by decide +kernel
def richR : List (ByteArray × List RuleD) := [(str [97], rA), (str [98, 108, 111, 99, 107, 113, 117, 111, 116, 101], rQ), (str [105, 109, 103], rI), (str [111, 108], rO)]
theorem rich_els : elsOf (rulesOf richR) richN = richP.els := by decide +kernel
theorem rich_rest : richP.glob = rG ∧ richP.schemes = [str [104, 116, 116, 112], str [104, 116, 116, 112, 115], str [109, 97, 105, 108, 116, 111]] ∧ richP.drop = [] ∧ richP.rel = true ∧ richP.depth = 64 ∧ richP.window = 65536 := by decide +kernel
theorem rich_sm : smP richP = true := by decide +kernel
theorem look_keys {s : ByteArray} {L : List (ByteArray × Value)} (K : List ByteArray) (hK : L.map (·.1) = K) (h : (K.all fun k => !decide (s = k)) = true) : lookL s L = none := by
  subst hK
  induction L with
  | nil => rfl
  | cons x r ih =>
    rw [List.map_cons, List.all_cons, Bool.and_eq_true] at h
    unfold lookL
    rw [if_neg (by simpa using h.1)]
    exact ih h.2

set_option maxHeartbeats 8000000 in
set_option maxRecDepth 100000 in
theorem presetRichC (w : World) (ht : Tab w) : Calls Tryz.prog 23 #[.string (str [114, 105, 99, 104])] w fun e w' =>
    ∃ y F, e = .returned (.tuple #[polV y (tidyP richP), .bool true]) ∧ OwnP w' w.heap.size y (tidyP richP) F ∧ Below w.heap.size w w' := by
  obtain ⟨hfit, hokv⟩ := smP_of rich_sm
  have hdif := dif_of rich_dif.1
  have HT : Hid (∀ W, Below w.heap.size w W → Tab W) := Lib.hid fun W hW => ht.below hW
  obtain ⟨Wa, hWa⟩ : ∃ W, W = w.alloc (.cells #[.slice none 0 0, .slice none 0 0, .slice none 0 0, .bool false, .slice none 0 0, .int .i64 0, .int .i64 0] 26) := ⟨_, rfl⟩
  obtain ⟨W0, hW0⟩ : ∃ W, W = Wa.alloc (.cells #[.string ⟨#[97, 108, 116, 32, 97, 110, 121]⟩, .string ⟨#[104, 101, 105, 103, 104, 116, 32, 108, 101, 110, 103, 116, 104]⟩, .string ⟨#[115, 114, 99, 32, 108, 105, 110, 107]⟩, .string ⟨#[119, 105, 100, 116, 104, 32, 108, 101, 110, 103, 116, 104]⟩] 9) := ⟨_, rfl⟩
  have hba : Below w.heap.size w Wa := hWa ▸ (Below.refl _ _).alloc (Nat.le_refl _) _
  have hb0 : Below w.heap.size w W0 := hW0 ▸ hba.alloc hba.size _
  have k1 : Bl W0 w.heap.size 26 [.slice none 0 0, .slice none 0 0, .slice none 0 0, .bool false, .slice none 0 0, .int .i64 0, .int .i64 0] := hW0 ▸ (hWa ▸ Bl.new w _ _ rfl : Bl Wa w.heap.size _ _).alloc _
  have hi0 : Hid (kdW.rd W0 0 W0.heap.size (.slice (some ⟨Wa.heap.size, 0, none⟩) 4 4) [str [97, 108, 116, 32, 97, 110, 121], str [104, 101, 105, 103, 104, 116, 32, 108, 101, 110, 103, 116, 104], str [115, 114, 99, 32, 108, 105, 110, 107], str [119, 105, 100, 116, 104, 32, 108, 101, 110, 103, 116, 104]]) := Lib.hid (hW0 ▸ rd_lit (W := Wa) (l := [str [97, 108, 116, 32, 97, 110, 121], str [104, 101, 105, 103, 104, 116, 32, 108, 101, 110, 103, 116, 104], str [115, 114, 99, 32, 108, 105, 110, 107], str [119, 105, 100, 116, 104, 32, 108, 101, 110, 103, 116, 104]]) rfl (by decide))
  have HI5 : Hid (∀ W, Below W0.heap.size W0 W → kdW.rd W 0 W.heap.size (.slice (some ⟨Wa.heap.size, 0, none⟩) 4 4) [str [97, 108, 116, 32, 97, 110, 121], str [104, 101, 105, 103, 104, 116, 32, 108, 101, 110, 103, 116, 104], str [115, 114, 99, 32, 108, 105, 110, 107], str [119, 105, 100, 116, 104, 32, 108, 101, 110, 103, 116, 104]]) := Lib.hid fun W hW => kdW.wide (rd_below hi0.out hW (Nat.le_refl _)) (Nat.le_refl _) hW.size
  have HX0 := Lib.hid hW0
  have HXA := Lib.hid hWa
  have hzz := hb0.size
  have hbq : ((str [114, 105, 99, 104]).toList == [98, 97, 115, 105, 99]) = false := by rw [Lib.toList_data]; rfl
  have hbr : ((str [114, 105, 99, 104]).toList == [114, 105, 99, 104]) = true := by rw [Lib.toList_data]; rfl
  have HF : Hid (∀ W, Below w.heap.size w W → Calls Tryz.prog 74 #[.string richF] W fun e w' => ∃ A c, e = .returned (.slice A 21 c) ∧ kdW.rd w' 0 w'.heap.size (.slice A 21 c) richN ∧ Below W.heap.size W w') := Lib.hid fun W hW => (libFieldsC richF W (ht.below hW) (by decide) richF_asc richF_lib).mono (by
    rw [richF_fields]
    rintro e w' ⟨A, c, G, he, ho, hb⟩
    exact ⟨A, c, he, kdW.read ho (Nat.zero_le _) (Nat.le_refl _), hb⟩)
  obtain ⟨Q, hQ⟩ : ∃ Q, Q = tidyP richP := ⟨_, rfl⟩
  have hq : Hid (Q.rel = true ∧ Q.depth = 64 ∧ Q.window = 65536) := Lib.hid (by rw [hQ]; exact ⟨rfl, rfl, rfl⟩)
  have HTD : Hid (∀ W v vg vs, Below w.heap.size w W → kdE.rd W 0 W.heap.size v richP.els → kdR.rd W 0 W.heap.size vg richP.glob → kdW.rd W 0 W.heap.size vs [str [104, 116, 116, 112], str [104, 116, 116, 112, 115], str [109, 97, 105, 108, 116, 111]] → Calls Tryz.prog 54 #[.agg #[v, vg, vs, .bool true, .slice none 0 0, .int .i64 64, .int .i64 65536]] W fun e w' => ∃ y F, e = .returned (.agg #[y.e, y.g, y.s, .bool true, y.d, .int .i64 64, .int .i64 65536]) ∧ OwnP w' W.heap.size y Q F ∧ Below W.heap.size W w') := Lib.hid fun W v vg vs hW h1 h2 h3 => by
    have h4 := tidyC ⟨v, vg, vs, .slice none 0 0⟩ richP W ⟨h1, h2, h3, ⟨none, 0, rfl, Nat.le_refl _, by simp, fun h => by simp [richP] at h⟩⟩ hfit hdif hokv
    rw [← hQ] at h4
    refine h4.mono fun e w' ⟨y, F, he, ho, hb⟩ => ⟨y, F, ?_, ho, hb⟩
    unfold polV at he
    rw [hq.out.1, hq.out.2.1, hq.out.2.2] at he
    exact he
  have HSC : Hid (∀ (W W' : World) v o, Below W.heap.size W W' → kdE.rd W 0 W.heap.size v richP.els → kdE.rd (W'.alloc o) 0 (W'.alloc o).heap.size v richP.els) := Lib.hid fun W W' v o hb h => kdE.wide (rd_below h (hb.alloc hb.size o) (Nat.le_refl _)) (Nat.le_refl _) (hb.alloc hb.size o).size
  have HSG : Hid (∀ (W W' : World) o A c, kdR.rd W' W.heap.size W'.heap.size (.slice A 2 c) rG → kdR.rd (W'.alloc o) 0 (W'.alloc o).heap.size (.slice A 2 c) richP.glob) := Lib.hid fun W W' o A c h => by
    rw [rich_rest.1]
    have hb : Below W'.heap.size W' (W'.alloc o) := (Below.refl _ _).alloc (Nat.le_refl _) _
    exact kdR.wide (rd_below h hb (Nat.le_refl _)) (Nat.zero_le _) hb.size
  rw [← hQ]
  clear ht hW0 hWa hba hQ hfit hokv hdif
  go_enter Tryz.func23, Tryz.ntmps23
  go_upto_region 1 with fail
  rw [← HXA.out]
  go_upto_region 6 with fail
  rw [← HX0.out]
  have hmm := @run_makeMap Tryz.prog
  have i0 : Hid (RM W0.heap.size (W0.alloc (.map #[] 0)) []) := Lib.hid (RM.made W0)
  have hw1 : Below w.heap.size w (W0.alloc (.map #[] 0)) := hb0.alloc hb0.size _
  have hz1 : W0.heap.size + 1 = (W0.alloc (.map #[] 0)).heap.size := by simp
  have HZ1 := Lib.hid hz1
  clear hz1
  have hw1q : Below W0.heap.size W0 (W0.alloc (.map #[] 0)) := (Below.refl _ _).alloc (Nat.le_refl _) _
  go_upto_region 7 with (first
    | (go_at_call 75; have _z := i3; refine (rO_C w7.heap.size w7 (HT.out _ hw7) rfl).mono ?_; rintro e w8 ⟨A4, c4, rfl, hr, hb⟩; have j4 := Lib.hid (And.intro (i3.out.below hb) (kdR.wide (lo' := W0.heap.size + 1) hr (by have := i3.out.m.lt; omega) (Nat.le_refl _))); have hw8 : Below w.heap.size w w8 := hw7.trans (hb.mono hw7.size); have hw8q : Below W0.heap.size W0 w8 := hw7q.trans (hb.mono hw7q.size); clear hr hb)
    | (go_at_call 75; have _z := i2; refine (rI_C _ _ (HT.out _ hw5) (HI5.out _ hw5q)).mono ?_; rintro e w6 ⟨A3, c3, rfl, hr, hb⟩; have j3 := Lib.hid (And.intro (i2.out.below hb) (kdR.wide (lo' := W0.heap.size + 1) hr (by have := i2.out.m.lt; omega) (Nat.le_refl _))); have hw6 : Below w.heap.size w w6 := hw5.trans (hb.mono hw5.size); have hw6q : Below W0.heap.size W0 w6 := hw5q.trans (hb.mono hw5q.size); clear hr hb)
    | (go_at_call 75; have _z := i1; refine (rQ_C w3.heap.size w3 (HT.out _ hw3) rfl).mono ?_; rintro e w4 ⟨A2, c2, rfl, hr, hb⟩; have j2 := Lib.hid (And.intro (i1.out.below hb) (kdR.wide (lo' := W0.heap.size + 1) hr (by have := i1.out.m.lt; omega) (Nat.le_refl _))); have hw4 : Below w.heap.size w w4 := hw3.trans (hb.mono hw3.size); have hw4q : Below W0.heap.size W0 w4 := hw3q.trans (hb.mono hw3q.size); clear hr hb)
    | (go_at_call 75; refine (rA_C (W0.heap.size + 1) (W0.alloc (.map #[] 0)) (HT.out _ hw1) HZ1.out).mono ?_; rintro e w2 ⟨A1, c1, rfl, hr, hb⟩; have j1 := Lib.hid (And.intro (i0.out.below hb) (kdR.wide (lo' := W0.heap.size + 1) hr (by have := i0.out.m.lt; omega) (Nat.le_refl _))); have hw2 : Below w.heap.size w w2 := hw1.trans (hb.mono hw1.size); have hw2q : Below W0.heap.size W0 w2 := hw1q.trans (hb.mono hw1q.size); clear hr hb)
    | (refine wpList_insert_new _ rfl (.tmp 23) (.const (.string (str [97]))) (.tmp 25) 96 rfl 9 23 Tryz.underlying96 Tryz.underlying9 W0.heap.size _ (str [97]) _ rfl j1.out.1.m rfl rfl (look_keys [] rfl (by decide +kernel)) ?_; intro w3 mm gg; have i1 := Lib.hid (j1.out.1.put mm gg j1.out.2); have hw3 : Below w.heap.size w w3 := hw2.grown gg hw2.size (fun j hj => by injection hj with hj; omega); have hw3q : Below W0.heap.size W0 w3 := hw2q.grown gg hw2q.size (fun j hj => by injection hj with hj; omega); clear mm gg)
    | (refine wpList_insert_new _ rfl (.tmp 23) (.const (.string (str [98, 108, 111, 99, 107, 113, 117, 111, 116, 101]))) (.tmp 27) 96 rfl 9 23 Tryz.underlying96 Tryz.underlying9 W0.heap.size _ (str [98, 108, 111, 99, 107, 113, 117, 111, 116, 101]) _ rfl j2.out.1.m rfl rfl (look_keys [str [97]] rfl (by decide +kernel)) ?_; intro w5 mm gg; have i2 := Lib.hid (j2.out.1.put mm gg j2.out.2); have hw5 : Below w.heap.size w w5 := hw4.grown gg hw4.size (fun j hj => by injection hj with hj; omega); have hw5q : Below W0.heap.size W0 w5 := hw4q.grown gg hw4q.size (fun j hj => by injection hj with hj; omega); clear mm gg)
    | (refine wpList_insert_new _ rfl (.tmp 23) (.const (.string (str [105, 109, 103]))) (.tmp 29) 96 rfl 9 23 Tryz.underlying96 Tryz.underlying9 W0.heap.size _ (str [105, 109, 103]) _ rfl j3.out.1.m rfl rfl (look_keys [str [97], str [98, 108, 111, 99, 107, 113, 117, 111, 116, 101]] rfl (by decide +kernel)) ?_; intro w7 mm gg; have i3 := Lib.hid (j3.out.1.put mm gg j3.out.2); have hw7 : Below w.heap.size w w7 := hw6.grown gg hw6.size (fun j hj => by injection hj with hj; omega); have hw7q : Below W0.heap.size W0 w7 := hw6q.grown gg hw6q.size (fun j hj => by injection hj with hj; omega); clear mm gg)
    | (refine wpList_insert_new _ rfl (.tmp 23) (.const (.string (str [111, 108]))) (.tmp 31) 96 rfl 9 23 Tryz.underlying96 Tryz.underlying9 W0.heap.size _ (str [111, 108]) _ rfl j4.out.1.m rfl rfl (look_keys [str [97], str [98, 108, 111, 99, 107, 113, 117, 111, 116, 101], str [105, 109, 103]] rfl (by decide +kernel)) ?_; intro w9 mm gg; have i4 := Lib.hid (j4.out.1.put mm gg j4.out.2); have hw9 : Below w.heap.size w w9 := hw8.grown gg hw8.size (fun j hj => by injection hj with hj; omega); have hw9q : Below W0.heap.size W0 w9 := hw8q.grown gg hw8q.size (fun j hj => by injection hj with hj; omega); clear mm gg))
  have hw9z := hw9.size
  have k9 := k1.below hw9q
  have HK9 := Lib.hid k9
  go_upto_region 22 with (first
    | (go_at_call 74; refine (HF.out _ hw9).mono ?_; rintro e w10 ⟨A9, c9, rfl, hr10, hb10⟩; have HR10 := Lib.hid hr10; have hw10 : Below w.heap.size w w10 := hw9.trans (hb10.mono hw9.size); clear hr10)
    | (go_at_call 73; refine (elemsC richN A9 21 c9 W0.heap.size _ w10 HR10.out (by decide) (i4.out.below hb10)).mono ?_; rintro e w11 ⟨v, rfl, hv, hb11⟩; have hv2 : kdE.rd w11 0 w11.heap.size v richP.els := (by rw [← rich_els]; exact hv); obtain ⟨B0, d0, rfl, _⟩ := fmE.rd_form hv2; have HV := Lib.hid hv2; have hw11 : Below w.heap.size w w11 := hw10.trans (hb11.mono hw10.size); clear hv hv2)
    | (go_at_call 75; refine (rG_C w11.heap.size w11 (HT.out _ hw11) rfl).mono ?_; rintro e w12 ⟨A5, c5, rfl, hr12, hb12⟩; have HR12 := Lib.hid hr12; have hw12 : Below w.heap.size w w12 := hw11.trans (hb12.mono hw11.size); clear hr12)
    | (go_at_call 54; refine (HTD.out _ _ _ _ (hw12.alloc hw12.size _) (HSC.out w11 w12 _ _ hb12 HV.out) (HSG.out w11 w12 _ _ _ HR12.out) (rd_lit (W := w12) (l := [str [104, 116, 116, 112], str [104, 116, 116, 112, 115], str [109, 97, 105, 108, 116, 111]]) rfl (by decide))).mono ?_; rintro e w14 ⟨y, F, rfl, ho, hb14⟩; obtain ⟨B1, d1, B2, d2, B3, d3, B4, d4, rfl, _⟩ := (ho.rd (lo := 0) (hi := w14.heap.size) (Nat.zero_le _) (Nat.le_refl _)).form; have n1 := (((HK9.out.below hb10).below hb11).below hb12).below (((Below.refl _ _).alloc (Nat.le_refl _) _).trans (hb14.mono (by simp))); obtain ⟨s0, s1, s2, s3, s4, s5, s6, s7, s8, s9, s10, s11, s12, s13⟩ := n1.store7 (.slice B1 Q.els.length d1) (.slice B2 Q.glob.length d2) (.slice B3 Q.schemes.length d3) (.bool true) (.slice B4 Q.drop.length d4) (.int .i64 64) (.int .i64 65536)))
  have jz := n1.seven (.slice B1 Q.els.length d1) (.slice B2 Q.glob.length d2) (.slice B3 Q.schemes.length d3) (.bool true) (.slice B4 Q.drop.length d4) (.int .i64 64) (.int .i64 65536)
  have hfz := Fr.set7 w14 w.heap.size (.slice B1 Q.els.length d1) (.slice B2 Q.glob.length d2) (.slice B3 Q.schemes.length d3) (.bool true) (.slice B4 Q.drop.length d4) (.int .i64 64) (.int .i64 65536)
  refine bodyPost_ret (res_cell2 Tryz.results23 rfl jz Tryz.underlying26 rfl (by kernel_rfl)) rfl ?_
  obtain ⟨q1, q2, q3⟩ := hq.out
  have hz12 := hw12.size
  have hb13 := hw12.alloc hw12.size (.cells #[.string ⟨#[104, 116, 116, 112]⟩, .string ⟨#[104, 116, 116, 112, 115]⟩, .string ⟨#[109, 97, 105, 108, 116, 111]⟩] 9)
  have hb15 : Below w.heap.size w w14 := hb13.trans (hb14.mono hb13.size)
  have hl1 : w.heap.size < w12.heap.size := by
    have h1 := k1.lt
    have h2 := hw9q.size
    have h3 := hb10.size
    have h4 := hb11.size
    have h5 := hb12.size
    omega
  refine ⟨_, F, by unfold polV; rw [q1, q2, q3]; rfl, (ho.keep hfz.size fun x hx => hfz.block x (ho.ge x hx).2 (by have := (ho.ge x hx).1; simp at this; simp; omega)).low (by simp; omega), hb15.trans (hfz.below hb15.size (by simp))⟩
end Go.Proofs.YtjhimmljanbjcaaGreatDoor.Pq
