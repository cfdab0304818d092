/- The reference's inner. -/
import Derived.Deep.Cut
import Derived.Test.YtddgpkdhakjjaaaDoorRi
set_option linter.unusedVariables false
set_option linter.unusedSimpArgs false
namespace Go.Proofs.YtddgpkdhakjjaaaDoor.Rj
open Go.RowKit Lb Fl Is Tp Np Wk Wp Wi Wo Pt Oc Pm Go.Proofs.YtddgpkdhakjjaaaDoor.Ask Rt Go.Proofs.YtddgpkdhakjjaaaDoor.Op Aw Lt En El Rn Ri

theorem lit3 (w : World) : Rd (w.alloc (.cells #[.string s_tbody, .string s_tr, .string s_td] 9)) (some ⟨w.heap.size, 0, none⟩) 3 [s_tbody, s_tr, s_td] := rd3 w
theorem lit2 (w : World) (x y : ByteArray) : Rd (w.alloc (.cells #[.string x, .string y] 9)) (some ⟨w.heap.size, 0, none⟩) 2 [x, y] := by
  have h := own_lit (w := w) (Nat.le_refl _) [x, y] (by simp)
  exact h.rd
theorem lit1 (w : World) (x : ByteArray) : Rd (w.alloc (.cells #[.string x] 9)) (some ⟨w.heap.size, 0, none⟩) 1 [x] := by
  have h := own_lit (w := w) (Nat.le_refl _) [x] (by simp)
  exact h.rd

set_option maxHeartbeats 8000000 in
set_option maxRecDepth 100000 in
theorem innerR (B0 : Nat) : ∀ (n : Nat) (A : Option Addr) (c : Nat) (s : List ByteArray) (w : World), Rd w A n s → n ≤ c → c ≤ 9223372036854775807 → B0 ≤ w.heap.size →
    Calls Tryd.prog 57 #[.slice A n c] w (Two B0 A c (innS s) (innP s) w)
  | 0, A, c, s, w, hr, hc, hc2, hB0 => by
    have hs : s = [] := List.eq_nil_of_length_eq_zero hr.1.symm
    subst hs
    have FIN : Two B0 A c (innS []) (innP []) w (.returned (.tuple #[.slice A 0 c, .slice none 0 0])) w := by
      have e : innP [] = [] := by decide +kernel
      rw [e]
      exact ⟨none, 0, rfl, ⟨rd_nil _ _, fr_none _ _⟩, Below.refl _ _⟩
    generalize Two B0 A c (innS []) (innP []) w = Q at *
    have HF := Lib.hid FIN
    clear FIN hr
    go_enter Tryd.func57, Tryd.ntmps57
    go_wp2
    try go_ret2
    exact HF.out
  | n + 1, A, c, s, w, hr, hc, hc2, hB0 => by
    have hn := hr.1
    have hks : n < s.length := by omega
    obtain ⟨b1, o1, rfl, _, hcx⟩ := hr.get hks
    have hx1 := hcx w (Below.refl _ _)
    obtain ⟨x, hx⟩ : ∃ x, x = s[n] := ⟨_, rfl⟩
    obtain ⟨l, hl⟩ : ∃ l, l = s.take n := ⟨_, rfl⟩
    have hsl : s = l ++ [x] := by
      rw [hl, hx, ← List.take_succ_eq_append_getElem hks]
      exact (List.take_of_length_le (by omega)).symm
    rw [← hx] at hx1
    have hrl : Rd w (some ⟨b1, o1, none⟩) n l := hl ▸ rd_take hr (Nat.le_succ n)
    have hll : l.length = n := hrl.1.symm
    have hb1 : ((n + 1 : Nat) : Int) - 1 = (n : Int) := by omega
    have hb2 : (n : Int) < ((n + 1 : Nat) : Int) := by omega
    have hb3 : ¬ ((n + 1 : Nat) : Int) = 0 := by omega
    have hb4 : (((n + 1 : Nat) : Int) == 0) = false := by rw [beq_eq_false_iff_ne]; exact hb3
    have hIg := fun W => isC x c_groups W (by decide)
    have hIl := fun W => isC x c_lists W (by decide)
    rw [groups_B] at hIg
    rw [lists_B] at hIl
    have HIG := Lib.hid hIg
    have HIL := Lib.hid hIl
    clear hcx hIg hIl
    cases hcg : (x.toList == [99, 111, 108, 103, 114, 111, 117, 112])
    · have e1 : innS s = l ++ [x] := by rw [hsl, innS_snoc]; unfold is_colgroup; rw [hcg]; rfl
      have e2 : innP s = addN x := by unfold innP; rw [e1, topS_snoc]
      have FIN : ∀ P A2 c2 w', addN x = P → (Rd w' A2 P.length P ∧ Fr B0 A2 P) → Below w.heap.size w w' → Two B0 (some ⟨b1, o1, none⟩) c (innS s) (innP s) w (.returned (.tuple #[.slice (some ⟨b1, o1, none⟩) (n + 1) c, .slice A2 P.length c2])) w' := by
        intro P A2 c2 w' hP h1 h2
        subst hP
        rw [e1, e2]
        refine ⟨A2, c2, ?_, h1, h2⟩
        rw [List.length_append, hll]; rfl
      generalize Two B0 (some ⟨b1, o1, none⟩) c (innS s) (innP s) w = Q at FIN ⊢
      have HF := Lib.hid FIN
      clear FIN e1 e2 hsl hl hx hr hrl hn hks hll
      cases h1 : (x.toList == [116, 97, 98, 108, 101])
      · cases h2 : groupB x
        · cases h3 : (x.toList == [116, 114])
          · cases h4 : listB x
            · cases h5 : (x.toList == [100, 108])
              · have HP := Lib.hid (addN_O h1 h2 h3 h4 h5)
                go_enter Tryd.func57, Tryd.ntmps57
                go_upto_region 12 with (go_at_call 58; refine (HIG.out _).mono ?_; rintro e w2 ⟨rfl, hb5⟩; rw [h2])
                go_wp2_with (go_at_call 58; refine (HIL.out _).mono ?_; rintro e w3 ⟨rfl, hb6⟩; rw [h4])
                try go_ret2
                exact HF.out _ _ _ _ HP.out ⟨rd_nil _ none, fr_none _ _⟩ (seq hb5 hb6)
              · have HP := Lib.hid (addN_D h1 h2 h3 h4 h5)
                go_enter Tryd.func57, Tryd.ntmps57
                go_upto_region 12 with (go_at_call 58; refine (HIG.out _).mono ?_; rintro e w2 ⟨rfl, hb5⟩; rw [h2])
                go_wp2_with (go_at_call 58; refine (HIL.out _).mono ?_; rintro e w3 ⟨rfl, hb6⟩; rw [h4])
                try go_ret2
                exact HF.out _ _ _ _ HP.out ⟨lit1 _ _, fr_lit _ _ (Nat.le_trans hB0 (seq hb5 hb6).size) _⟩ ((seq hb5 hb6).alloc (seq hb5 hb6).size _)
            · have HP := Lib.hid (addN_L h1 h2 h3 h4)
              go_enter Tryd.func57, Tryd.ntmps57
              go_upto_region 12 with (go_at_call 58; refine (HIG.out _).mono ?_; rintro e w2 ⟨rfl, hb5⟩; rw [h2])
              go_wp2_with (go_at_call 58; refine (HIL.out _).mono ?_; rintro e w3 ⟨rfl, hb6⟩; rw [h4])
              try go_ret2
              exact HF.out _ _ _ _ HP.out ⟨lit1 _ _, fr_lit _ _ (Nat.le_trans hB0 (seq hb5 hb6).size) _⟩ ((seq hb5 hb6).alloc (seq hb5 hb6).size _)
          · have HP := Lib.hid (addN_R h1 h2 h3)
            go_enter Tryd.func57, Tryd.ntmps57
            go_wp2_with (go_at_call 58; refine (HIG.out _).mono ?_; rintro e w2 ⟨rfl, hb5⟩; rw [h2])
            try go_ret2
            exact HF.out _ _ _ _ HP.out ⟨lit1 _ _, fr_lit _ _ (Nat.le_trans hB0 hb5.size) _⟩ (hb5.alloc hb5.size _)
        · have HP := Lib.hid (addN_G h1 h2)
          go_enter Tryd.func57, Tryd.ntmps57
          go_wp2_with (go_at_call 58; refine (HIG.out _).mono ?_; rintro e w2 ⟨rfl, hb5⟩; rw [h2])
          try go_ret2
          exact HF.out _ _ _ _ HP.out ⟨lit2 _ _ _, fr_lit _ _ (Nat.le_trans hB0 hb5.size) _⟩ (hb5.alloc hb5.size _)
      · have HP := Lib.hid (addN_T h1)
        go_enter Tryd.func57, Tryd.ntmps57
        go_wp2
        try go_ret2
        exact HF.out _ _ _ _ HP.out ⟨lit3 _, fr_lit _ _ hB0 _⟩ ((Below.refl _ _).alloc (Nat.le_refl _) _)
    · have e1 : innS s = innS l := by rw [hsl, innS_snoc]; unfold is_colgroup; rw [hcg]; rfl
      have e2 : innP s = innP l := by unfold innP; rw [e1]
      have IH := Lib.hid (innerR B0 n (some ⟨b1, o1, none⟩) c l w hrl (by omega) hc2 hB0)
      have FIN : ∀ e w', Two B0 (some ⟨b1, o1, none⟩) c (innS l) (innP l) w e w' → Two B0 (some ⟨b1, o1, none⟩) c (innS s) (innP s) w e w' := by
        rw [e1, e2]; exact fun _ _ h => h
      generalize Two B0 (some ⟨b1, o1, none⟩) c (innS s) (innP s) w = Q at FIN ⊢
      have HF := Lib.hid FIN
      clear FIN e1 e2 hsl hl hx hr hrl hn hks hll
      have hnc : n ≤ c := by omega
      go_enter Tryd.func57, Tryd.ntmps57
      go_wp2_with (go_at_call 57; refine IH.out.mono ?_; rintro e w2 ⟨A2, c2, rfl, h1, h2⟩)
      try go_ret2
      exact HF.out _ _ ⟨_, _, rfl, h1, h2⟩

end Go.Proofs.YtddgpkdhakjjaaaDoor.Rj
