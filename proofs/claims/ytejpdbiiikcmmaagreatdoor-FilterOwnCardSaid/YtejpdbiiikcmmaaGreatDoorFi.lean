/- Package filter: rules (a map of the rules of a list, in memory of its own). Where the list's names are different, as they are in a valid policy. -/
import Derived.Test.YtejpdbiiikcmmaaGreatDoorCs
import Derived.Test.YtejpdbiiikcmmaaGreatDoorCk
import Derived.Test.YtejpdbiiikcmmaaGreatDoorCn
import Derived.Test.YtejpdbiiikcmmaaGreatDoorTl
set_option linter.unusedVariables false
set_option linter.unusedSimpArgs false
namespace Go.Proofs.YtejpdbiiikcmmaaGreatDoor.Fi
open Go.RowKit Lb Gr Pd Fl Fpl Kf Mp Go.Proofs.YtejpdbiiikcmmaaGreatDoor.Pm Bk Lc Ck
attribute [local go_sem ↓] Go.wp_at_zero Go.wp_at_succ

/-- block b is a map of the rules l by their names; it and its words lie from lo to hi -/
def RulN (W : World) (lo hi b : Nat) (l : List RuleD) : Prop :=
  lo ≤ b ∧ b < hi ∧ ∃ L : List (RuleD × Value), L.map (·.1) = l ∧ MapS W b (L.map fun x => (x.1.name, ruV x.1 x.2)) ∧ ∀ x ∈ L, kdW.rd W lo hi x.2 x.1.words
theorem MapS.stay {w w' : World} {b : Nat} {L : List (ByteArray × Value)} (h : MapS w b L) (hb : w'.heap[b]? = w.heap[b]?) : MapS w' b L := by
  obtain ⟨es, clock, h1, h2⟩ := h
  exact ⟨es, clock, hb.trans h1, h2⟩
theorem RulN.stay {W W' : World} {lo hi b : Nat} {l : List RuleD} (h : RulN W lo hi b l) (hs : ∀ k, lo ≤ k → k < hi → W'.heap[k]? = W.heap[k]?) : RulN W' lo hi b l := by
  obtain ⟨h1, h2, L, rfl, hm, hr⟩ := h
  exact ⟨h1, h2, L, rfl, MapS.stay hm (hs b h1 h2), fun x hx => kdW.stay (hr x hx) hs⟩
theorem RulN.wide {W : World} {lo hi lo' hi' b : Nat} {l : List RuleD} (h : RulN W lo hi b l) (h1 : lo' ≤ lo) (h2 : hi ≤ hi') : RulN W lo' hi' b l := by
  obtain ⟨a, c, L, rfl, hm, hr⟩ := h
  exact ⟨by omega, by omega, L, rfl, hm, fun x hx => kdW.wide (hr x hx) h1 h2⟩
/-- no name stands twice -/
def Dis (l : List RuleD) : Prop := ∀ k (h : k < l.length), hasR (l.take k) l[k].name = false
theorem dis_from : ∀ (k : Nat) (l : List RuleD), rulesFrom (l.take k) (l.drop k) = true → ∀ j (h : j < l.length), k ≤ j → hasR (l.take j) l[j].name = false := by
  intro k l
  induction hn : l.length - k generalizing k with
  | zero => intro _ j h hk; omega
  | succ n ih =>
    intro h j hj hk
    have hkl : k < l.length := by omega
    cases hb : ruleB (l.take k) l[k] with
    | false => rw [rules_no hkl hb] at h; cases h
    | true =>
      rw [rules_go hkl hb] at h
      rcases Nat.eq_or_lt_of_le hk with rfl | hlt
      · unfold ruleB at hb
        simp only [Bool.and_eq_true, Bool.not_eq_true'] at hb
        exact hb.1.1.1.1.2
      · exact ih (k + 1) (by omega) h j hj hlt
theorem dis_of {l : List RuleD} (h : rulesB l = true) : Dis l := fun k hk => dis_from 0 l h k hk (Nat.zero_le _)
theorem look_none (s : ByteArray) : ∀ L : List (RuleD × Value), hasR (L.map (·.1)) s = false → lookL s (L.map fun x => (x.1.name, ruV x.1 x.2)) = none
  | [], _ => rfl
  | x :: r, h => by
    unfold hasR at h
    rw [List.map_cons, List.any_cons, Bool.or_eq_false_iff] at h
    rw [List.map_cons]
    unfold lookL
    rw [if_neg (fun e => by have := h.1; simp at this; exact this e.symm)]
    exact look_none s r h.2
set_option maxHeartbeats 8000000 in
set_option maxRecDepth 100000 in
theorem rulesC (l : List RuleD) (v : Value) (w : World) (h : kdR.rd w 0 w.heap.size v l) (hd : Dis l) (hz : ∀ k (h : k < l.length), l[k].words.length * 16 ≤ 140737488355328) (hm : l.length ≤ 9223372036854775807) :
    Calls Tryz.prog 56 #[v] w fun e w' => ∃ B, e = .returned (.map (some B)) ∧ RulN w' w.heap.size w'.heap.size B l ∧ Below w.heap.size w w' := by
  obtain ⟨A, c, rfl, q1, q2⟩ := fmR.rd_form h
  obtain ⟨i0, hi0, hz0, hz1, hz2⟩ := info_parts infoStr
  have HRD : Hid (∀ W, Below w.heap.size w W → kdR.rd W 0 w.heap.size (.slice A l.length c) l) := Lib.hid fun W hW => kdR.stay h (stay_below hW (Nat.le_refl _))
  have HD := Lib.hid hd
  have HZ := Lib.hid hz
  have hm0 := MapS.made w
  have hb00 := (Below.refl w.heap.size w).alloc (Nat.le_refl _) (.map #[] 0)
  clear h hd hz
  have hmm := @run_makeMap Tryz.prog
  go_enter Tryz.func56, Tryz.ntmps56
  go_wp2
  go_loopw [11] (fun i wr => ∃ (k : Nat) (L : List (RuleD × Value)), k ≤ l.length ∧ i = .int .i64 k ∧ Hid (L.map (·.1) = l.take k) ∧ MapS wr w.heap.size (L.map fun x => (x.1.name, ruV x.1 x.2)) ∧ Hid (∀ x ∈ L, kdW.rd wr (w.heap.size + 1) wr.heap.size x.2 x.1.words) ∧ Below w.heap.size w wr) (fun i _ => l.length - (intOf i).toNat)
  case atStart => exact ⟨0, [], by omega, rfl, Lib.hid rfl, hm0, Lib.hid (fun x h => by cases h), hb00⟩
  case round =>
    obtain ⟨k, L, hk, rfl, hLk, m4, hws, hnx⟩ := hrel
    by_cases hlt : k < l.length
    · obtain ⟨b, off, u, rfl, hb1, hb2, hu, hcell⟩ := fmR.rd_at (HRD.out _ hnx) hlt
      have hu' : kdW.rd wr 0 w.heap.size u l[k].words := hu
      clear hu
      have e0 := hcell 0 _ rfl
      have e1 := hcell 1 _ rfl
      have e2 := hcell 2 _ rfl
      rw [show off + (k * fmR.size + 0) = off + k * 3 from rfl] at e0
      rw [show off + (k * fmR.size + 1) = off + k * 3 + 1 from by show off + (k * 3 + 1) = _; omega] at e1
      rw [show off + (k * fmR.size + 2) = off + k * 3 + 2 from by show off + (k * 3 + 2) = _; omega] at e2
      obtain ⟨A5, c5, rfl, h51, h52⟩ := rdW_form hu'
      clear hcell
      have hln := HZ.out k hlt
      have hnone := Lib.hid (look_none l[k].name L (by rw [hLk.out]; exact HD.out k hlt))
      have hLk2 : Hid (∀ v : Value, (L ++ [(l[k], v)]).map (fun x : RuleD × Value => x.1) = l.take (k + 1)) := Lib.hid (fun v => by rw [List.take_succ_eq_append_getElem hlt, List.map_append, hLk.out]; rfl)
      have hLM : Hid (∀ v : Value, (L ++ [(l[k], v)]).map (fun x : RuleD × Value => (x.1.name, ruV x.1 x.2)) = (L.map fun x => (x.1.name, ruV x.1 x.2)) ++ [(l[k].name, ruV l[k] v)]) := Lib.hid (fun v => by rw [List.map_append]; rfl)
      obtain ⟨R, hR⟩ : ∃ R, R = l[k] := ⟨_, rfl⟩
      rw [← hR] at e0 e1 e2 hu' hln hnone hLk2 hLM
      rw [← hR] at h51
      have hgl : l[k] = R := hR.symm
      clear hR
      obtain ⟨rn, rk, rw_⟩ := R
      simp only at e0 e1 e2 hu' hln hnone h51
      clear hgl
      obtain ⟨W0, hW0⟩ : ∃ W, W = wr.alloc (.cells #[.string rn, .int .i64 rk, .slice A5 rw_.length c5] 51) := ⟨_, rfl⟩
      have hb0 : Below wr.heap.size wr W0 := hW0 ▸ (Below.refl _ _).alloc (Nat.le_refl _) _
      have k5 : Bl W0 wr.heap.size 51 [.string rn, .int .i64 rk, .slice A5 rw_.length c5] := hW0 ▸ Bl.new wr _ _ rfl
      have hzr : W0.heap.size = wr.heap.size + 1 := by rw [hW0]; simp
      have m5 := m4.below hb0
      have y0 := k5.cell 0 rfl
      have hlk := run_look (P := Tryz.prog) (w := W0) Tryz.underlying73 Tryz.underlying9 m5 rn (z := .agg #[.string ⟨#[]⟩, .int .i64 0, .slice none 0 0]) (Tryz.zeroValue51 W0) true
      rw [hnone.out] at hlk
      simp only [Option.getD_none, Option.isSome_none, if_true] at hlk
      have HX := Lib.hid hW0
      clear hW0
      have hk0 : (0 : Int) ≤ (k : Int) := by omega
      go_upto_region 5 with fail
      rw [← HX.out]
      go_upto_region 6 with fail
      obtain ⟨W5, hW5⟩ : ∃ W, W = W0.alloc (.cells #[.string ⟨#[]⟩, .int .i64 0, .slice none 0 0] 51) := ⟨_, rfl⟩
      have hb5 : Below W0.heap.size W0 W5 := hW5 ▸ (Below.refl _ _).alloc (Nat.le_refl _) _
      have hz5 : W5.heap.size = W0.heap.size + 1 := by rw [hW5]; simp
      have HX5 := Lib.hid hW5
      clear hW5
      rw [← HX5.out]
      have k55 := k5.below hb5
      have m55 := m5.below hb5
      have hb95 : Below w.heap.size w W5 := (hnx.trans (hb0.mono hnx.size)).trans (hb5.mono (by have := hnx.size; omega))
      have hnz := hnx.size
      have hu5 : kdW.rd W5 0 w.heap.size (.slice A5 rw_.length c5) rw_ := kdW.stay hu' fun j _ hj => (hb5.block j (by omega)).trans (hb0.block j (by omega))
      have hws5 : Hid (∀ x ∈ L, kdW.rd W5 (w.heap.size + 1) wr.heap.size x.2 x.1.words) := Lib.hid fun x hx => kdW.stay (hws.out x hx) fun j _ hj => (hb5.block j (by omega)).trans (hb0.block j hj)
      have hfz5 := k55.fz 2
      have x2 := k55.cell 2 rfl
      have h6 : 0 + rw_.length ≤ maxLen := by omega
      go_upto_region 7 with fail
      go_upto_region 8 with (at_builtin; refine wpList_append_src _ rfl (.const (.slice none 0 0)) (.tmp 25) 25 rfl W5.heap.size 9 i0 _ 1 16 Tryz.underlying25 hi0 hz0 hz1 hz2 rfl (by decide) _ 0 [] rfl (World.ownsRow_nil _ _ _ _) A5 rw_.length c5 (rw_.map Value.string) rfl (by simp) (rd_src hu5) (by simp [Value.oneCell']) h6 (by omega) (Nat.le_refl _) ?_; intro v9 w9 hown9 hgrow9 hrow9; obtain ⟨A9, c9, rfl, _⟩ := own_slice hown9; have k59 := k55.of (hgrow9.block _ k55.lt (fun e => by cases e)); have z2 := k59.cell 2 rfl; have hfz9 := k59.fz 2)
      have hgn : W5.grownBy w9 none := hgrow9
      clear hgrow9 hrow9
      rw [Nat.zero_add, List.nil_append] at hown9
      have hb9 : Below W5.heap.size W5 w9 := (Fr.of_grown hgn).below (Nat.le_refl _) (by simp)
      have hw9 : kdW.rd w9 W5.heap.size w9.heap.size (.slice A9 rw_.length c9) rw_ := kdW.read (F := _) ⟨hown9, rfl⟩ (Nat.le_refl _) (Nat.le_refl _)
      obtain ⟨W10, hW10⟩ : ∃ W, W = w9.setCell ⟨wr.heap.size, 2, none⟩ (.slice A9 rw_.length c9) := ⟨_, rfl⟩
      have hml := m4.lt
      have k10 : Bl W10 wr.heap.size 51 [.string rn, .int .i64 rk, .slice A9 rw_.length c9] := hW10 ▸ k59.set 2 _
      have m10 : MapS W10 w.heap.size (L.map fun x => (x.1.name, ruV x.1 x.2)) := hW10 ▸ (m55.below hb9).other (p := ⟨wr.heap.size, 2, none⟩) (by show w.heap.size ≠ wr.heap.size; omega) _
      have hf10 : Fr [wr.heap.size] w9 W10 := hW10 ▸ Fr.setCell w9 ⟨wr.heap.size, 2, none⟩ _ (.inl (by simp))
      have hz9 := hb9.size
      have hz10 := hf10.size
      have g0 := k10.cell 0 rfl
      have g1 := k10.cell 1 rfl
      have g2 := k10.cell 2 rfl
      have HX10 := Lib.hid hW10
      clear hW10
      rw [← HX10.out]
      obtain ⟨w3, hrun, m8, hg8⟩ := run_put (P := Tryz.prog) (w := W10) Tryz.underlying73 Tryz.underlying9 m10 (s := rn) (v := .agg #[.string rn, .int .i64 rk, .slice A9 rw_.length c9]) hnone.out
      have hf8 := Fr.of_grown hg8
      have hz8 := hf8.size
      have hlow : w.heap.size ≤ wr.heap.size := hnx.size
      have hball : Below w.heap.size w w3 := ((hb95.trans (hb9.mono (by omega))).trans (hf10.below (by omega) (by simp; omega))).trans (hf8.below (by omega) (by simp))
      have hsame : ∀ j, w.heap.size + 1 ≤ j → j < wr.heap.size → w3.heap[j]? = W5.heap[j]? := fun j h1 h2 => ((hf8.block j (by omega) (by simp; omega)).trans (hf10.block j (by omega) (by simp; omega))).trans (hb9.block j (by omega))
      have hws3 : Hid (∀ x ∈ L ++ [(⟨rn, rk, rw_⟩, .slice A9 rw_.length c9)], kdW.rd w3 (w.heap.size + 1) w3.heap.size x.2 x.1.words) := Lib.hid fun x hx => by
        rcases List.mem_append.1 hx with hx | hx
        · exact kdW.wide (kdW.stay (hws5.out x hx) hsame) (Nat.le_refl _) (by omega)
        · rw [List.mem_singleton.1 hx]
          exact kdW.wide (kdW.stay hw9 fun j h1 h2 => (hf8.block j (by omega) (by simp; omega)).trans (hf10.block j (by omega) (by simp; omega))) (by omega) (by omega)
      have m8' := (hLM.out (.slice A9 rw_.length c9)).symm ▸ m8
      have hlk9 := Lib.hid (hLk2.out (.slice A9 rw_.length c9))
      clear hsame hz9 hz10 hz8 hz5 hzr
      go_wp2
      go_roundw
      case rel => exact ⟨k + 1, L ++ [(⟨rn, rk, rw_⟩, .slice A9 rw_.length c9)], by omega, by go_num, hlk9, m8', hws3, hball⟩
      case measure => simp [intOf] <;> omega
    · have hr : l.take k = l := List.take_of_length_le (by omega)
      have HR := Lib.hid hr
      clear hr
      go_wp2
      go_ret
      have h9 := hnx.size
      have h8 := m4.lt
      exact ⟨_, rfl, ⟨Nat.le_refl _, h8, L, by rw [hLk.out, HR.out], m4, fun x hx => kdW.wide (hws.out x hx) (by omega) (Nat.le_refl _)⟩, hnx⟩
end Go.Proofs.YtejpdbiiikcmmaaGreatDoor.Fi
