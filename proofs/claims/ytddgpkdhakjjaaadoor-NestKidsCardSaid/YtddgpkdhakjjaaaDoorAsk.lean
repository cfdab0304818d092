/- nest: ask: what a name asks. -/
import Derived.Deep.RegionLaw
import Derived.Deep.Cut
import Derived.Deep.CutRange
import Derived.StillTailTactics
import Derived.Test.YtddgpkdhakjjaaaDoorOc
import Derived.Test.YtddgpkdhakjjaaaDoorPm
set_option linter.unusedVariables false
set_option linter.unusedSimpArgs false
namespace Go.Proofs.YtddgpkdhakjjaaaDoor.Ask
open Go.RowKit Lb Fl Is Tp Np Wk Wp Wi Wo Pt Oc Mp Pm

/-! own, met or not -/
def ownS (pr : ByteArray → Bool) (s p : List ByteArray) : List ByteArray := if 0 ≤ tm pr noB s then s.take ((tm pr noB s).toNat + 1) else inS2 (noS s) p
def ownP (pr : ByteArray → Bool) (f : ByteArray → List ByteArray) (s p : List ByteArray) : List ByteArray := if 0 ≤ tm pr noB s then p ++ f (s.getD (tm pr noB s).toNat ⟨#[]⟩) else inP2 (noS s) p ++ s_table :: f s_table
theorem ownC (w : World) (B g : Nat) (r : Option Nat) (s p : List ByteArray) (k1 k2 : FuncId) (lb1 lb2 : Array Value) (pr : ByteArray → Bool) (f : ByteArray → List ByteArray) (hB : B ≤ w.heap.size) (h : St w B g r s p) (hp : p.length ≤ 1000) (hf : ∀ s, (f s).length ≤ 10) (hP : Pd w k1 lb1 pr) (hU : Pu k2 lb2 f) :
    Calls Tryd.prog 72 #[.pointer (some ⟨g, 0, none⟩), .agg #[.func (.func k1) #[] lb1, .func (.func k2) #[] lb2]] w (Wp.Ends w B g r (ownS pr s p) (ownP pr f s p)) := by
  have h1 := tm_ge pr noB s
  have h2 := tm_le pr noB s
  unfold ownS ownP
  by_cases h0 : 0 ≤ tm pr noB s
  · rw [if_pos h0, if_pos h0]
    obtain ⟨t, ht⟩ : ∃ t : Nat, tm pr noB s = t := ⟨(tm pr noB s).toNat, by omega⟩
    rw [ht] at h2 ⊢
    rw [Int.toNat_natCast]
    have hy : s[t]? = some (s.getD t ⟨#[]⟩) := by
      rw [List.getD_eq_getElem?_getD, List.getElem?_eq_getElem (by omega), Option.getD_some]
    exact ownYes w B g r s p k1 k2 lb1 lb2 pr f hB h hp hf hP hU t ht _ hy
  · rw [if_neg h0, if_neg h0]
    exact ownNo w B g r s p k1 k2 lb1 lb2 pr f hB h hp hf hP hU (by omega)

def wT (t : Int) (s : List ByteArray) : List ByteArray := if 0 ≤ t then s.take t.toNat else s
def is_textarea (s : ByteArray) : Bool := s.toList == [116, 101, 120, 116, 97, 114, 101, 97]
def is_a (s : ByteArray) : Bool := s.toList == [97]
def aS0 (s : List ByteArray) : List ByteArray := if is_textarea (topS s) then s.dropLast else s
def aS1 (y : ByteArray) (s : List ByteArray) : List ByteArray := if is_a y then wT (tm (namedB s_a) cellB s) s else s
def aS2 (y : ByteArray) (s : List ByteArray) : List ByteArray := if headB y then wT (tm headB wallB s) s else s
def aS3 (y : ByteArray) (s : List ByteArray) : List ByteArray := if inS y 6 then wT (tm (namedB s_p) wallB s) s else s
/-- where steps 1 and 2 leave the stack -/
def aS (y : ByteArray) (s : List ByteArray) : List ByteArray := aS3 y (aS2 y (aS1 y (aS0 s)))

/-! what part a name is: 0: none; 1: of a table; 2: a cell; 3: col; 4: tr -/
def kdL (y : ByteArray) : List ByteArray → Bool
  | [] => false
  | x :: r => y = x || kdL y r
def kd (y : ByteArray) : Nat :=
  if kdL y [s_caption, s_colgroup, s_thead, s_tbody, s_tfoot] then 1 else if kdL y [s_td, s_th] then 2 else if kdL y [s_col] then 3 else if kdL y [s_tr] then 4 else 0
def partV (tb : Nat) : Nat → Option Value
  | 1 => some (tPart tb)
  | 2 => some cPart
  | 3 => some colPart
  | 4 => some trPart
  | _ => none
theorem look_kd (y : ByteArray) (tb : Nat) : lookL y (partL tb) = partV tb (kd y) := by
  unfold kd partL
  simp only [lookL, kdL]
  by_cases h1 : y = s_caption <;> by_cases h2 : y = s_colgroup <;> by_cases h3 : y = s_thead <;> by_cases h4 : y = s_tbody <;> by_cases h5 : y = s_tfoot <;> simp [h1, h2, h3, h4, h5, partV]
  all_goals
    by_cases h6 : y = s_td <;> by_cases h7 : y = s_th <;> simp [h6, h7]
    all_goals
      by_cases h8 : y = s_col <;> simp [h8]
      all_goals
        by_cases h9 : y = s_tr <;> simp [h9]
theorem kd_cases (y : ByteArray) : kd y = 1 ∨ kd y = 2 ∨ kd y = 3 ∨ kd y = 4 ∨ kd y = 0 := by
  unfold kd
  repeat' split
  all_goals simp
theorem cellsF_len (s : ByteArray) : (cellsF s).length ≤ 10 := by
  unfold cellsF
  repeat' split
  all_goals simp
def is_dt (s : ByteArray) : Bool := s.toList == [100, 116]
def is_dd (s : ByteArray) : Bool := s.toList == [100, 100]
def is_li (s : ByteArray) : Bool := s.toList == [108, 105]
def askS (y : ByteArray) (s0 : List ByteArray) : List ByteArray :=
  match kd y with
  | 1 => ownS (namedB s_table) (aS y s0) []
  | 2 => ownS cellsB (aS y s0) []
  | 3 => ownS colB (aS y s0) []
  | 4 => ownS trB (aS y s0) []
  | _ => if is_li y then itS listB (aS y s0) [] else if is_dt y || is_dd y then itS (namedB s_dl) (aS y s0) [] else inS2 (aS y s0) []
def askP (y : ByteArray) (s0 : List ByteArray) : List ByteArray :=
  match kd y with
  | 1 => ownP (namedB s_table) noneF (aS y s0) []
  | 2 => ownP cellsB cellsF (aS y s0) []
  | 3 => ownP colB colF (aS y s0) []
  | 4 => ownP trB trF (aS y s0) []
  | _ => if is_li y then itP listB s_ul (aS y s0) [] else if is_dt y || is_dd y then itP (namedB s_dl) s_dl (aS y s0) [] else inP2 (aS y s0) []

/-- what lies ready at a state, for a search and a cut -/
theorem ready {X : World} {B g : Nat} {r : Option Nat} {s p : List ByteArray} (hB : B ≤ X.heap.size) (h : St X B g r s p) :
    ∃ A n c, (∀ w1, Below X.heap.size X w1 → w1.cell? ⟨g, 0, none⟩ = some (.slice A n c)) ∧
      (∀ k lb pr k2 lb2 q w1, Below X.heap.size X w1 → Pd w1 k lb pr → Pd w1 k2 lb2 q → Calls Tryd.prog 52 #[.slice A n c, .func (.func k) #[] lb, .func (.func k2) #[] lb2] w1 fun e w' => e = .returned (.int .i64 (tm pr q s)) ∧ Below w1.heap.size w1 w') ∧
      (∀ (t : Int) w1, Below X.heap.size X w1 → -1 ≤ t → t < s.length → Calls Tryd.prog 69 #[.pointer (some ⟨g, 0, none⟩), .int .i64 t] w1 (Wk.Left w1 B g r (wT t s) p)) := by
  have h' := h
  obtain ⟨A, n, c, pv, hw, hc, hc2, hr, ho, hg, hrow⟩ := h
  exact ⟨A, n, c, fun w1 hb => (hw.below hb).c0, fun k lb pr k2 lb2 q w1 hb h1 h2 => topmost w1 ((hr.rd hB).below hb) (by omega) h1 h2,
    fun t w1 hb h1 h2 => withC w1 B g r t s p (Nat.le_trans hB hb.size) (h'.below hb hB) h1 h2⟩
theorem drw (W : World) : Below W.heap.size W W.drew := ⟨rfl, rfl, rfl, Nat.le_refl _, fun _ _ => rfl⟩
theorem lit_drew (X : World) (x : ByteArray) (b : Nat) (h : X.heap.size = b) : Below X.heap.size X (X.alloc (.cells #[.string x] 9)).drew ∧ b < (X.alloc (.cells #[.string x] 9)).drew.heap.size ∧ (X.alloc (.cells #[.string x] 9)).drew.cell? ⟨b, 0, none⟩ = some (.string x) := by
  subst h
  refine ⟨seq ((Below.refl _ _).alloc (Nat.le_refl _) _) (drw _), ?_, ?_⟩
  · show _ < (X.alloc (.cells #[.string x] 9)).heap.size; simp
  · show (X.alloc (.cells #[.string x] 9)).cell? ⟨X.heap.size, 0, none⟩ = _
    rw [World.cell?_alloc_new]; rfl

set_option maxHeartbeats 16000000 in
set_option maxRecDepth 100000 in
theorem askQ (Q : Ending → World → Prop) (w : World) (ht : Tab w) (A : Option Addr) (n c : Nat) (s : List ByteArray) (y : ByteArray) (hr : Rd w A n s) (hc : n ≤ c) (hc2 : c ≤ 9223372036854775807)
    (FIN : ∀ w' r, Below w.heap.size w w' → St w' w.heap.size w.heap.size r (askS y s) (askP y s) → Q (.returned (.pointer (some ⟨w.heap.size, 0, none⟩))) w') :
    Calls Tryd.prog 43 #[.slice A n c, .string y] w Q := by
  obtain ⟨X0, hX0⟩ : ∃ X, X = w.alloc (.cells #[.slice A n c, .slice none 0 0] 74) := ⟨_, rfl⟩
  have hw0 : Wrk X0 w.heap.size (.slice A n c) (.slice none 0 0) := hX0 ▸ (MapKept.heap_alloc w _).1
  have hb0 : Below w.heap.size w X0 := hX0 ▸ (Below.refl _ _).alloc (Nat.le_refl _) _
  have hs0 : St X0 w.heap.size w.heap.size none s [] := ⟨A, n, c, _, hw0, hc, hc2, (RdB.of hr).below hb0, Fl.Own.nil _ _, Nat.le_refl _, rfl⟩
  have hTa := fun w1 (hb : Below w.heap.size w w1) => ht.below hb
  have hTop := fun w1 (hb : Below w.heap.size w w1) => topC (c := c) w1 (hr.below hb) (by omega)
  have hlen := hr.1
  have hnb : n ≤ 9223372036854775807 := by omega
  have HS0 := Lib.hid hs0
  have HB0 := Lib.hid hb0
  have HTA := Lib.hid hTa
  have HTOP := Lib.hid hTop
  have HX := Lib.hid hX0
  have HLEN := Lib.hid hlen
  have HF := Lib.hid FIN
  clear hw0 hb0 hs0 ht hTa hTop hX0 hr hlen FIN
  go_enter Tryd.func43, Tryd.ntmps43
  go_upto_if 13 with (go_at_call 53; rw [← HX.out]; refine (HTOP.out X0 HB0.out).mono ?_; rintro e w1 ⟨rfl, rfl⟩)
  go_cut [] from 8 (fun wx => St wx w.heap.size w.heap.size none (aS0 s) [] ∧ Below w.heap.size w wx)
  case first =>
    cases htx : ((topS s).toList == [116, 101, 120, 116, 97, 114, 101, 97])
    · go_wp2
      go_meet
      exact ⟨by unfold aS0 is_textarea; rw [htx]; exact HS0.out, HB0.out⟩
    · have hn0 : 0 < n := by
        rcases Nat.eq_zero_or_pos n with h0 | h0
        · have hs : s = [] := List.eq_nil_of_length_eq_zero (by rw [← HLEN.out]; exact h0)
          rw [hs] at htx
          rw [show topS [] = ⟨#[]⟩ from rfl, Lib.toList_data] at htx
          exact absurd htx (by decide)
        · exact h0
      have hto := toC X0 w.heap.size w.heap.size none ((n : Int) - 2) s [] HB0.out.size HS0.out (by omega) (by have := HLEN.out; omega)
      have hds : s.take ((n : Int) - 2 + 1).toNat = s.dropLast := by
        rw [List.dropLast_eq_take]
        have := HLEN.out
        congr 1
        omega
      rw [hds] at hto
      have HTO := Lib.hid hto
      clear hto hds
      go_wp2_with (go_at_call 68; refine HTO.out.mono ?_; rintro e w2 ⟨rfl, hs2, hb2, _, _⟩)
      go_meet
      exact ⟨by unfold aS0 is_textarea; rw [htx]; exact hs2, HB0.out.trans hb2⟩
  case rest =>
  obtain ⟨hsw, hbw⟩ := hcut
  obtain ⟨A1, n1, c1, hq1, hq2, hq3⟩ := ready hbw.size hsw
  go_upto_if 20 with fail
  go_cut [] from 8 (fun wx => St wx w.heap.size w.heap.size none (aS1 y (aS0 s)) [] ∧ Below w.heap.size w wx)
  case first =>
    cases ha : (y.toList == [97])
    · go_wp2
      go_meet
      exact ⟨by unfold aS1 is_a; rw [ha]; exact hsw, hbw⟩
    · 
      have hd0 := hq1 _ (drw wc)
      obtain ⟨hl1, hl2, hl3⟩ := lit_drew wc s_a _ rfl
      have hd1 : (wc.alloc (.cells #[.string ⟨#[97]⟩] 9)).drew.cell? ⟨w.heap.size, 0, none⟩ = some (.slice A1 n1 c1) := hq1 _ hl1
      have HL3 := Lib.hid hl3
      clear hl3
      have e1 := hq1 _ (Below.refl _ _)
      go_wp2_with fail
      go_region_law (first
        | ((go_simp; refine (namedC _ _).mono ?_; rintro e w2 ⟨rfl, rfl⟩))
        | ((go_simp; refine (hq2 _ _ _ _ _ _ _ hl1 (namedP _ _ _ hl2 HL3.out) (cellP _)).mono ?_; rintro e w3 ⟨rfl, hb3⟩; have e4 := hq1 _ (seq hl1 hb3)))
        | ((go_simp; refine (hq3 _ _ (seq hl1 hb3) (tm_ge _ _ _) (tm_le _ _ _)).mono ?_; rintro e w4 ⟨rfl, hs4, hb4, hz4, hk4⟩)))
      all_goals (
        go_wp2_with fail
        go_meet
        exact ⟨by unfold aS1 is_a; rw [ha]; exact hs4, hbw.trans (((seq hl1 hb3).mono hbw.size).trans hb4)⟩)
  case rest =>
  obtain ⟨hsw, hbw⟩ := hcut
  obtain ⟨A1, n1, c1, hq1, hq2, hq3⟩ := ready hbw.size hsw
  go_upto_if 30 with (go_at_call 50; refine (headC y _ (HTA.out _ hbw)).mono ?_; rintro e wh ⟨rfl, hbh⟩)
  go_cut [] from 8 (fun wx => St wx w.heap.size w.heap.size none (aS2 y (aS1 y (aS0 s))) [] ∧ Below w.heap.size w wx)
  case first =>
    have e1 := hq1 _ hbh
    cases ha : headB y
    · go_wp2
      go_meet
      exact ⟨by unfold aS2; rw [ha]; exact hsw.below hbh hbw.size, hbw.trans (hbh.mono hbw.size)⟩
    · go_wp2_with (first
        | (go_at_call 52; refine (hq2 _ _ _ _ _ _ _ hbh (headP _ (HTA.out _ (hbw.trans (hbh.mono hbw.size)))) (wallP _)).mono ?_; rintro e w3 ⟨rfl, hb3⟩)
        | (go_at_call 69; refine (hq3 _ _ (seq hbh hb3) (tm_ge _ _ _) (tm_le _ _ _)).mono ?_; rintro e w4 ⟨rfl, hs4, hb4, hz4, hk4⟩))
      go_meet
      exact ⟨by unfold aS2; rw [ha]; exact hs4, hbw.trans (((seq hbh hb3).mono hbw.size).trans hb4)⟩
  case rest =>
  obtain ⟨hsw, hbw⟩ := hcut
  obtain ⟨A1, n1, c1, hq1, hq2, hq3⟩ := ready hbw.size hsw
  go_upto_if 39 with (go_at_call 17; refine (nIn y 6 _ (HTA.out _ hbw)).mono ?_; rintro e wh ⟨rfl, hbh⟩)
  go_cut [] from 8 (fun wx => St wx w.heap.size w.heap.size none (aS y s) [] ∧ Below w.heap.size w wx)
  case first =>
    cases ha : inS y 6
    · go_wp2
      go_meet
      exact ⟨by unfold aS aS3; rw [ha]; exact hsw.below hbh hbw.size, hbw.trans (hbh.mono hbw.size)⟩
    · 
      have hd0 := hq1 _ (seq hbh (drw wh))
      obtain ⟨hl1, hl2, hl3⟩ := lit_drew wh s_p _ rfl
      have hd1 : (wh.alloc (.cells #[.string ⟨#[112]⟩] 9)).drew.cell? ⟨w.heap.size, 0, none⟩ = some (.slice A1 n1 c1) := hq1 _ (seq hbh hl1)
      have HL3 := Lib.hid hl3
      clear hl3
      have e1 := hq1 _ hbh
      go_wp2_with fail
      go_region_law (first
        | ((go_simp; refine (namedC _ _).mono ?_; rintro e w2 ⟨rfl, rfl⟩))
        | ((go_simp; refine (hq2 _ _ _ _ _ _ _ (seq hbh hl1) (namedP _ _ _ hl2 HL3.out) (wallP _)).mono ?_; rintro e w3 ⟨rfl, hb3⟩; have e4 := hq1 _ (seq hbh (seq hl1 hb3))))
        | ((go_simp; refine (hq3 _ _ (seq hbh (seq hl1 hb3)) (tm_ge _ _ _) (tm_le _ _ _)).mono ?_; rintro e w4 ⟨rfl, hs4, hb4, hz4, hk4⟩)))
      all_goals (
        go_wp2_with fail
        go_meet
        exact ⟨by unfold aS aS3; rw [ha]; exact hs4, hbw.trans (((seq hbh (seq hl1 hb3)).mono hbw.size).trans hb4)⟩)
  case rest =>
  obtain ⟨hsw, hbw⟩ := hcut
  have hzv : ∀ W : World, (zeroValue 88).run Tryd.prog W = .ok (.agg #[.nilFunc, .nilFunc]) W := fun W => by kernel_rfl
  have hst : ∀ (W : World) o, Below wc.heap.size wc W → St (W.alloc o) w.heap.size w.heap.size none (aS y s) [] := fun W o h => hsw.below (h.trans ((Below.refl _ _).alloc h.size o)) hbw.size
  have hst0 : ∀ (W : World), Below wc.heap.size wc W → St W w.heap.size w.heap.size none (aS y s) [] := fun W h => hsw.below h hbw.size
  have hbe : ∀ (W : World) o w2, Below wc.heap.size wc W → Below w.heap.size (W.alloc o) w2 → Below w.heap.size w w2 := fun W o w2 h1 h2 => hbw.trans (((h1.trans ((Below.refl _ _).alloc h1.size o)).mono hbw.size).trans h2)
  have hsz : ∀ (W : World) (o : Obj), Below wc.heap.size wc W → w.heap.size ≤ (W.alloc o).heap.size := fun W o h => by have h1 := hbw.size; have h2 := h.size; simp; omega
  have HST := Lib.hid hst
  have HST0 := Lib.hid hst0
  have HBE := Lib.hid hbe
  have HSZ := Lib.hid hsz
  have HZV := Lib.hid hzv
  clear hst hbe hsz hzv hst0
  rcases kd_cases y with hk | hk | hk | hk | hk
  · rw [show askS y s = ownS (namedB s_table) (aS y s) [] from by unfold askS; rw [hk]; rfl, show askP y s = ownP (namedB s_table) noneF (aS y s) [] from by unfold askP; rw [hk]; rfl] at HF
    go_wp2_with (first
      | (go_at_call 71; refine (partsC _).mono ?_; rintro e w1 ⟨mb, tt, cc, tb, rfl, hu⟩; have hlk := run_look (P := Tryd.prog) Tryd.underlying90 Tryd.underlying9 hu.m y (HZV.out w1) true; rw [look_kd, hk] at hlk; simp only [partV, Option.getD_some, Option.isSome_some, if_true, tPart, cPart, colPart, trPart] at hlk; have hhu := Lib.hid hu; clear hu)
      | (go_at_call 72; refine (ownC _ w.heap.size w.heap.size none (aS y s) [] 76 82 #[.pointer (some ⟨tb, 0, none⟩)] #[] (namedB s_table) noneF (HSZ.out w1 _ hhu.out.z) (HST.out w1 _ hhu.out.z) (by simp) (by simp [noneF]) (namedP s_table tb _ (by have := World.block_lt_of_cell? _ _ hhu.out.n; simp at this ⊢; omega) (by rw [World.cell?_alloc_old _ _ _ (Nat.ne_of_lt (World.block_lt_of_cell? _ _ hhu.out.n))]; exact hhu.out.n)) noneU).mono ?_; rintro e w2 ⟨rfl, ⟨r', hs', _⟩, hb', _, _⟩))
    exact HF.out _ _ (HBE.out w1 _ _ hhu.out.z hb') hs'
  · rw [show askS y s = ownS cellsB (aS y s) [] from by unfold askS; rw [hk]; rfl, show askP y s = ownP cellsB cellsF (aS y s) [] from by unfold askP; rw [hk]; rfl] at HF
    go_wp2_with (first
      | (go_at_call 71; refine (partsC _).mono ?_; rintro e w1 ⟨mb, tt, cc, tb, rfl, hu⟩; have hlk := run_look (P := Tryd.prog) Tryd.underlying90 Tryd.underlying9 hu.m y (HZV.out w1) true; rw [look_kd, hk] at hlk; simp only [partV, Option.getD_some, Option.isSome_some, if_true, tPart, cPart, colPart, trPart] at hlk; have hhu := Lib.hid hu; clear hu)
      | (go_at_call 72; refine (ownC _ w.heap.size w.heap.size none (aS y s) [] 83 84 #[] #[] cellsB cellsF (HSZ.out w1 _ hhu.out.z) (HST.out w1 _ hhu.out.z) (by simp) cellsF_len (cellsP _) cellsU).mono ?_; rintro e w2 ⟨rfl, ⟨r', hs', _⟩, hb', _, _⟩))
    exact HF.out _ _ (HBE.out w1 _ _ hhu.out.z hb') hs'
  · rw [show askS y s = ownS colB (aS y s) [] from by unfold askS; rw [hk]; rfl, show askP y s = ownP colB colF (aS y s) [] from by unfold askP; rw [hk]; rfl] at HF
    go_wp2_with (first
      | (go_at_call 71; refine (partsC _).mono ?_; rintro e w1 ⟨mb, tt, cc, tb, rfl, hu⟩; have hlk := run_look (P := Tryd.prog) Tryd.underlying90 Tryd.underlying9 hu.m y (HZV.out w1) true; rw [look_kd, hk] at hlk; simp only [partV, Option.getD_some, Option.isSome_some, if_true, tPart, cPart, colPart, trPart] at hlk; have hhu := Lib.hid hu; clear hu)
      | (go_at_call 72; refine (ownC _ w.heap.size w.heap.size none (aS y s) [] 85 86 #[] #[] colB colF (HSZ.out w1 _ hhu.out.z) (HST.out w1 _ hhu.out.z) (by simp) (fun s => by unfold colF; split <;> simp) (colP _) colU).mono ?_; rintro e w2 ⟨rfl, ⟨r', hs', _⟩, hb', _, _⟩))
    exact HF.out _ _ (HBE.out w1 _ _ hhu.out.z hb') hs'
  · rw [show askS y s = ownS trB (aS y s) [] from by unfold askS; rw [hk]; rfl, show askP y s = ownP trB trF (aS y s) [] from by unfold askP; rw [hk]; rfl] at HF
    go_wp2_with (first
      | (go_at_call 71; refine (partsC _).mono ?_; rintro e w1 ⟨mb, tt, cc, tb, rfl, hu⟩; have hlk := run_look (P := Tryd.prog) Tryd.underlying90 Tryd.underlying9 hu.m y (HZV.out w1) true; rw [look_kd, hk] at hlk; simp only [partV, Option.getD_some, Option.isSome_some, if_true, tPart, cPart, colPart, trPart] at hlk; have hhu := Lib.hid hu; clear hu)
      | (go_at_call 72; refine (ownC _ w.heap.size w.heap.size none (aS y s) [] 87 88 #[] #[] trB trF (HSZ.out w1 _ hhu.out.z) (HST.out w1 _ hhu.out.z) (by simp) (fun s => by unfold trF; split <;> simp) (trP _) trU).mono ?_; rintro e w2 ⟨rfl, ⟨r', hs', _⟩, hb', _, _⟩))
    exact HF.out _ _ (HBE.out w1 _ _ hhu.out.z hb') hs'
  · cases h1 : (y.toList == [108, 105])
    · cases h2 : (y.toList == [100, 116])
      · cases h3 : (y.toList == [100, 100])
        · rw [show askS y s = inS2 (aS y s) [] from by unfold askS; rw [hk]; show (if is_li y then _ else _) = _; unfold is_li is_dt is_dd; simp [h1, h2, h3], show askP y s = inP2 (aS y s) [] from by unfold askP; rw [hk]; show (if is_li y then _ else _) = _; unfold is_li is_dt is_dd; simp [h1, h2, h3]] at HF
          go_wp2_with (first
            | (go_at_call 71; refine (partsC _).mono ?_; rintro e w1 ⟨mb, tt, cc, tb, rfl, hu⟩; have hlk := run_look (P := Tryd.prog) Tryd.underlying90 Tryd.underlying9 hu.m y (HZV.out w1) true; rw [look_kd, hk] at hlk; simp only [partV, Option.getD_none, Option.isSome_none, if_true] at hlk; have hhu := Lib.hid hu; clear hu)
            | (go_at_call 56; refine (innerC _ w.heap.size w.heap.size none (aS y s) [] (HSZ.out w1 _ hhu.out.z) (HST.out w1 _ hhu.out.z) (by simp)).mono ?_; rintro e w2 ⟨rfl, ⟨r', hs', _⟩, hb', _, _⟩))
          exact HF.out _ _ (HBE.out w1 _ _ hhu.out.z hb') hs'
        · rw [show askS y s = itS (namedB s_dl) (aS y s) [] from by unfold askS; rw [hk]; show (if is_li y then _ else _) = _; unfold is_li is_dt is_dd; simp [h1, h2, h3], show askP y s = itP (namedB s_dl) s_dl (aS y s) [] from by unfold askP; rw [hk]; show (if is_li y then _ else _) = _; unfold is_li is_dt is_dd; simp [h1, h2, h3]] at HF
          go_wp2_with (first
            | (go_at_call 71; refine (partsC _).mono ?_; rintro e w1 ⟨mb, tt, cc, tb, rfl, hu⟩; have hlk := run_look (P := Tryd.prog) Tryd.underlying90 Tryd.underlying9 hu.m y (HZV.out w1) true; rw [look_kd, hk] at hlk; simp only [partV, Option.getD_none, Option.isSome_none, if_true] at hlk; have hhu := Lib.hid hu; clear hu)
            | (go_at_call 48; refine (namedC _ _).mono ?_; rintro e w4 ⟨rfl, rfl⟩)
            | (go_at_call 73; refine (itemC _ w.heap.size w.heap.size none (aS y s) [] _ _ (namedB s_dl) s_dl (by have := HSZ.out w1 (.cells #[.nilFunc, .nilFunc] 88) hhu.out.z; simp at this ⊢; omega) (St.below (HST.out w1 _ hhu.out.z) ((Below.refl _ _).alloc (Nat.le_refl _) _) (HSZ.out w1 _ hhu.out.z)) (by simp) (namedP s_dl _ _ (by simp) (by rw [World.cell?_alloc_at _ _ _ _ (by simp)]; rfl))).mono ?_; rintro e w2 ⟨rfl, ⟨r', hs', _⟩, hb', _, _⟩))
          exact HF.out _ _ (HBE.out w1 _ _ hhu.out.z (((Below.refl _ _).alloc (HSZ.out w1 _ hhu.out.z) _).trans hb')) hs'
      · rw [show askS y s = itS (namedB s_dl) (aS y s) [] from by unfold askS; rw [hk]; show (if is_li y then _ else _) = _; unfold is_li is_dt is_dd; simp [h1, h2], show askP y s = itP (namedB s_dl) s_dl (aS y s) [] from by unfold askP; rw [hk]; show (if is_li y then _ else _) = _; unfold is_li is_dt is_dd; simp [h1, h2]] at HF
        go_wp2_with (first
          | (go_at_call 71; refine (partsC _).mono ?_; rintro e w1 ⟨mb, tt, cc, tb, rfl, hu⟩; have hlk := run_look (P := Tryd.prog) Tryd.underlying90 Tryd.underlying9 hu.m y (HZV.out w1) true; rw [look_kd, hk] at hlk; simp only [partV, Option.getD_none, Option.isSome_none, if_true] at hlk; have hhu := Lib.hid hu; clear hu)
          | (go_at_call 48; refine (namedC _ _).mono ?_; rintro e w4 ⟨rfl, rfl⟩)
            | (go_at_call 73; refine (itemC _ w.heap.size w.heap.size none (aS y s) [] _ _ (namedB s_dl) s_dl (by have := HSZ.out w1 (.cells #[.nilFunc, .nilFunc] 88) hhu.out.z; simp at this ⊢; omega) (St.below (HST.out w1 _ hhu.out.z) ((Below.refl _ _).alloc (Nat.le_refl _) _) (HSZ.out w1 _ hhu.out.z)) (by simp) (namedP s_dl _ _ (by simp) (by rw [World.cell?_alloc_at _ _ _ _ (by simp)]; rfl))).mono ?_; rintro e w2 ⟨rfl, ⟨r', hs', _⟩, hb', _, _⟩))
        exact HF.out _ _ (HBE.out w1 _ _ hhu.out.z (((Below.refl _ _).alloc (HSZ.out w1 _ hhu.out.z) _).trans hb')) hs'
    · rw [show askS y s = itS listB (aS y s) [] from by unfold askS; rw [hk]; show (if is_li y then _ else _) = _; unfold is_li is_dt is_dd; simp [h1], show askP y s = itP listB s_ul (aS y s) [] from by unfold askP; rw [hk]; show (if is_li y then _ else _) = _; unfold is_li is_dt is_dd; simp [h1]] at HF
      go_wp2_with (first
        | (go_at_call 71; refine (partsC _).mono ?_; rintro e w1 ⟨mb, tt, cc, tb, rfl, hu⟩; have hlk := run_look (P := Tryd.prog) Tryd.underlying90 Tryd.underlying9 hu.m y (HZV.out w1) true; rw [look_kd, hk] at hlk; simp only [partV, Option.getD_none, Option.isSome_none, if_true] at hlk; have hhu := Lib.hid hu; clear hu)
        | (go_at_call 73; refine (itemC _ w.heap.size w.heap.size none (aS y s) [] _ _ listB s_ul (HSZ.out w1 _ hhu.out.z) (HST.out w1 _ hhu.out.z) (by simp) (listP _)).mono ?_; rintro e w2 ⟨rfl, ⟨r', hs', _⟩, hb', _, _⟩))
      exact HF.out _ _ (HBE.out w1 _ _ hhu.out.z hb') hs'
theorem askC (w : World) (ht : Tab w) (A : Option Addr) (n c : Nat) (s : List ByteArray) (y : ByteArray) (hr : Rd w A n s) (hc : n ≤ c) (hc2 : c ≤ 9223372036854775807) :
    Calls Tryd.prog 43 #[.slice A n c, .string y] w fun e w' => e = .returned (.pointer (some ⟨w.heap.size, 0, none⟩)) ∧ (∃ r, St w' w.heap.size w.heap.size r (askS y s) (askP y s)) ∧ Below w.heap.size w w' :=
  askQ _ w ht A n c s y hr hc hc2 fun _ r h1 h2 => ⟨rfl, ⟨r, h2⟩, h1⟩
end Go.Proofs.YtddgpkdhakjjaaaDoor.Ask
