/- The reference's place. -/
import Derived.Test.YtddgpkdhakjjaaaDoorRj
set_option linter.unusedVariables false
set_option linter.unusedSimpArgs false
namespace Go.Proofs.YtddgpkdhakjjaaaDoor.Rp
open Go.RowKit Lb Fl Is Tp Np Wk Wp Wi Wo Pt Oc Pm Go.Proofs.YtddgpkdhakjjaaaDoor.Ask Rt Go.Proofs.YtddgpkdhakjjaaaDoor.Op Aw Lt En El Rn Ri Rj

def rfF (T G : List ByteArray) (z : ByteArray) : List ByteArray := if is_table z then T else if groupB z then G else []
def plS (pr : ByteArray → Bool) (s : List ByteArray) : List ByteArray := if 0 ≤ tm pr noB s then s.take ((tm pr noB s).toNat + 1) else innS (noS s)
def plP (pr : ByteArray → Bool) (T G s : List ByteArray) : List ByteArray := if 0 ≤ tm pr noB s then rfF T G (s.getD (tm pr noB s).toNat ⟨#[]⟩) else innP (noS s) ++ s_table :: T
theorem rd_pre {w : World} {A : Option Addr} {n : Nat} {s t : List ByteArray} (h : t <+: s) (hr : Rd w A n s) : Rd w A t.length t := by
  have h1 := rd_take hr (k := t.length) (by rw [hr.1]; exact h.length_le)
  rwa [← List.prefix_iff_eq_take.1 h] at h1
theorem wT_pre (t : Int) (s : List ByteArray) : wT t s <+: s := by
  unfold wT
  split
  · exact List.take_prefix _ _
  · exact List.prefix_refl _
theorem noS_prefix (s : List ByteArray) : noS s <+: s := wT_pre _ s
theorem innP_len (s : List ByteArray) : (innP s).length ≤ 3 := addN_len _

set_option maxHeartbeats 8000000 in
set_option maxRecDepth 100000 in
theorem placeC (B0 : Nat) (A AT AG : Option Addr) (n c nT cT nG cG : Nat) (s T G : List ByteArray) (sm : ByteArray) (pr : ByteArray → Bool) (w : World) (hr : Rd w A n s) (hc : n ≤ c) (hc2 : c ≤ 9223372036854775807) (hT : Rd w AT nT T) (hG : Rd w AG nG G) (hfT : Fr B0 AT T) (hfG : Fr B0 AG G) (hB0 : B0 ≤ w.heap.size) (h10 : nT ≤ 10) (hs : sm.size ≤ 2147483647) (hpr : isB sm = pr) :
    Calls Tryd.prog 75 #[.slice A n c,   .string sm, .slice AT nT cT, .slice AG nG cG] w (Two B0 A c (plS pr s) (plP pr T G s) w) := by
  have hTm := topR A n c s sm w hr (by omega) hs
  rw [hpr] at hTm
  have h1 := tm_ge pr noB s
  have h2 := tm_le pr noB s
  have hl := hr.1
  obtain ⟨i0, hi, hz0, hz1, hz2⟩ := info_parts infoStr
  by_cases h0 : 0 ≤ tm pr noB s
  · have eS : plS pr s = s.take ((tm pr noB s).toNat + 1) := by unfold plS; rw [if_pos h0]
    have eP : plP pr T G s = rfF T G (s.getD (tm pr noB s).toNat ⟨#[]⟩) := by unfold plP; rw [if_pos h0]
    obtain ⟨t, ht⟩ : ∃ t : Nat, tm pr noB s = t := ⟨(tm pr noB s).toNat, by omega⟩
    rw [ht] at h2 hTm eS eP
    rw [Int.toNat_natCast] at eS eP
    have hts : t < s.length := by omega
    obtain ⟨b1, o1, rfl, _, hcx⟩ := hr.get hts
    obtain ⟨x, hx⟩ : ∃ x, x = s[t] := ⟨_, rfl⟩
    have hx1 : ∀ W, Below w.heap.size w W → W.cell? ⟨b1, o1 + t, none⟩ = some (.string x) := fun W h => by rw [hx]; exact hcx W h
    have hgx : s.getD t ⟨#[]⟩ = x := by rw [List.getD_eq_getElem?_getD, List.getElem?_eq_getElem hts, Option.getD_some, hx]
    rw [hgx] at eP
    have hlt : (s.take (t + 1)).length = t + 1 := by rw [List.length_take]; omega
    have FIN : ∀ w' P A2 c2, rfF T G x = P → Below w.heap.size w w' → (Rd w' A2 P.length P ∧ Fr B0 A2 P) → Two B0 (some ⟨b1, o1, none⟩) c (plS pr s) (plP pr T G s) w (.returned (.tuple #[.slice (some ⟨b1, o1, none⟩) (t + 1) c, .slice A2 P.length c2])) w' := by
      intro w' P A2 c2 hP h3 h4
      subst hP
      rw [eS, eP]
      exact ⟨A2, c2, by rw [hlt], h4, h3⟩
    generalize Two B0 (some ⟨b1, o1, none⟩) c (plS pr s) (plP pr T G s) w = Q at FIN ⊢
    have HF := Lib.hid FIN
    have HTM := Lib.hid hTm
    have HX := Lib.hid hx1
    have hTl := hT.1
    have hGl := hG.1
    subst hTl hGl
    have HTT := Lib.hid hT
    have HG := Lib.hid hG
    have hIg := fun W => isC x c_groups W (by decide)
    rw [groups_B] at hIg
    have HIG := Lib.hid hIg
    have htc : t + 1 ≤ c := by omega
    have hb3 : (t : Int) < (n : Int) := by omega
    have hb0 : (0 : Int) ≤ (t : Int) := by omega
    have hbt : ((t : Int) + 1).toNat = t + 1 := by omega
    have hb4 : (t : Int) < ((t + 1 : Nat) : Int) := by omega
    have hn2 : n ≤ 9223372036854775807 := by omega
    clear FIN hTm hx1 hT hG hIg hcx hx hgx eS eP hr hl h1 h2 ht hlt
    cases e1 : (x.toList == [116, 97, 98, 108, 101])
    · cases e2 : groupB x
      · have HP := Lib.hid (show rfF T G x = [] from by unfold rfF is_table; rw [e1, e2]; rfl)
        go_enter Tryd.func75, Tryd.ntmps75
        go_wp2_with (first
          | (go_at_call 60; refine HTM.out.mono ?_; rintro e w2 ⟨rfl, hb2⟩; have hxx := HX.out _ hb2)
          | (go_at_call 58; refine (HIG.out _).mono ?_; rintro e w3 ⟨rfl, hb5⟩; rw [e2]))
        try go_ret2
        exact HF.out _ _ none _ HP.out (seq hb2 hb5) ⟨rd_nil _ _, fr_none _ _⟩
      · have HP := Lib.hid (show rfF T G x = G from by unfold rfF is_table; rw [e1, e2]; rfl)
        go_enter Tryd.func75, Tryd.ntmps75
        go_wp2_with (first
          | (go_at_call 60; refine HTM.out.mono ?_; rintro e w2 ⟨rfl, hb2⟩; have hxx := HX.out _ hb2)
          | (go_at_call 58; refine (HIG.out _).mono ?_; rintro e w3 ⟨rfl, hb5⟩; rw [e2]))
        try go_ret2
        exact HF.out _ _ _ _ HP.out (seq hb2 hb5) ⟨HG.out.below (seq hb2 hb5), hfG⟩
    · have HP := Lib.hid (show rfF T G x = T from by unfold rfF is_table; rw [e1]; rfl)
      go_enter Tryd.func75, Tryd.ntmps75
      go_wp2_with (go_at_call 60; refine HTM.out.mono ?_; rintro e w2 ⟨rfl, hb2⟩; have hxx := HX.out _ hb2)
      try go_ret2
      exact HF.out _ _ _ _ HP.out hb2 ⟨HTT.out.below hb2, hfT⟩
  · have eS : plS pr s = innS (noS s) := by unfold plS; rw [if_neg h0]
    have eP : plP pr T G s = innP (noS s) ++ s_table :: T := by unfold plP; rw [if_neg h0]
    have hU := fun W (h : Below w.heap.size w W) => unbC A n c s W (hr.below h) hc hc2
    have hI := fun W (h : Below w.heap.size w W) => innerR B0 (noS s).length A c (noS s) W (rd_pre (noS_prefix s) (hr.below h)) (by have := (noS_prefix s).length_le; omega) hc2 (Nat.le_trans hB0 h.size)
    have h3 := innP_len (noS s)
    have FIN : ∀ w' A2 c2, Below w.heap.size w w' → (Rd w' A2 (innP (noS s) ++ [s_table] ++ T).length (innP (noS s) ++ [s_table] ++ T) ∧ Fr B0 A2 (innP (noS s) ++ [s_table] ++ T)) → Two B0 A c (plS pr s) (plP pr T G s) w (.returned (.tuple #[.slice A (innS (noS s)).length c, .slice A2 (innP (noS s) ++ [s_table] ++ T).length c2])) w' := by
      intro w' A2 c2 h3 h4
      rw [eS, eP]
      rw [List.append_assoc] at h4 ⊢
      exact ⟨A2, c2, rfl, h4, h3⟩
    have ht : tm pr noB s = -1 := by omega
    rw [ht] at hTm
    generalize Two B0 A c (plS pr s) (plP pr T G s) w = Q at FIN ⊢
    generalize innS (noS s) = S5 at *
    generalize innP (noS s) = P5 at *
    generalize (noS s).length = k5 at *
    have HF := Lib.hid FIN
    have HTM := Lib.hid hTm
    have HU := Lib.hid hU
    have HI := Lib.hid hI
    have hTl := hT.1
    subst hTl
    have HTT := Lib.hid (fun W (h : Below w.heap.size w W) => hT.below h)
    clear FIN hTm hU hI hT hG eS eP hr hl h1 h2 ht h0
    go_enter Tryd.func75, Tryd.ntmps75
    go_upto_region 4 with (first
      | (go_at_call 60; refine HTM.out.mono ?_; rintro e w2 ⟨rfl, hb2⟩)
      | (go_at_call 74; refine (HU.out _ hb2).mono ?_; rintro e w3 ⟨rfl, hb3⟩)
      | (go_at_call 57; refine (HI.out _ (seq hb2 hb3)).mono ?_; rintro e w4 ⟨A2, c2, rfl, ⟨hr4, hfr4⟩, hb4⟩))
    have hbw := seq (seq hb2 hb3) hb4
    obtain ⟨B, hB⟩ : ∃ B, B = w4.heap.size := ⟨_, rfl⟩
    have ho5 : Fl.Own (w4.alloc (.cells #[] 9)) B (.slice (some ⟨w4.heap.size, 0, none⟩) 0 0) [] := own_lit (w := w4) (Nat.le_of_eq hB) [] (by simp)
    have hr5 := hr4.below ((Below.refl _ _).alloc (Nat.le_refl _) (.cells #[] 9))
    have hBw : w.heap.size ≤ B := by rw [hB]; exact hbw.size
    have hb5 : Below w.heap.size w (w4.alloc (.cells #[] 9)) := hbw.alloc hbw.size _
    have hz5 : B ≤ (w4.alloc (.cells #[] 9)).heap.size := by rw [hB]; simp
    go_wp2_with (first
      | (at_builtin; refine wpList_append_src _ rfl (.tmp 25) (.tmp 26) 25 rfl B 9 i0 (.string ByteArray.empty) 1 16 Tryd.underlying25 hi hz0 hz1 hz2 rfl (by decide) _ _ _ rfl ho5 A2 P5.length c2 (P5.map Value.string) rfl (by simp) hr5.cells (by simp [Value.oneCell']) (len_max (by simp only [List.length_nil]; omega)) (len_by (by simp only [List.length_nil]; omega)) hz5 ?_; intro v6 w6 hown6 hgrow6 hrow6; obtain ⟨A6, m6, c6, rfl⟩ := slice_of hown6; have hb6 := hb5.grown hgrow6 (Nat.le_trans hBw hz5) (fun k hk => Nat.le_trans hBw (ho5.ge k hk)); have hz6 := Nat.le_trans hz5 hgrow6.size; have ho6 : Fl.Own w6 B (.slice A6 m6 c6) P5 := by { unfold Fl.Own; simpa using hown6 }; have ho7 : Fl.Own (w6.alloc (.cells #[.string s_table] 9)) B (.slice A6 m6 c6) P5 := ho6.alloc _; have hb7 := hb6.alloc hb6.size (.cells #[.string s_table] 9))
      | (at_builtin; refine wpList_append_src _ rfl (.tmp 27) (.tmp 28) 25 rfl B 9 i0 (.string ByteArray.empty) 1 16 Tryd.underlying25 hi hz0 hz1 hz2 rfl (by decide) _ _ _ rfl ho7 (some ⟨_, 0, none⟩) 1 1 [.string s_table] rfl rfl (one_src _ _ _ _ (by simp)) (Lb.one_cell rfl) (len_max (by omega)) (len_by (by omega)) (le_alloc hz6 _) ?_; intro v8 w8 hown8 hgrow8 hrow8; obtain ⟨A8, m8, c8, rfl⟩ := slice_of hown8; have hb8 := hb7.grown hgrow8 hb7.size (fun k hk => Nat.le_trans hBw (ho7.ge k hk)); have hz8 := Nat.le_trans (le_alloc hz6 _) hgrow8.size; have ho8 : Fl.Own w8 B (.slice A8 m8 c8) (P5 ++ [s_table]) := Own.push hown8; have hr8 := HTT.out _ hb8)
      | (at_builtin; refine wpList_append_src _ rfl (.tmp 29) (.tmp 30) 25 rfl B 9 i0 (.string ByteArray.empty) 1 16 Tryd.underlying25 hi hz0 hz1 hz2 rfl (by decide) _ _ _ rfl ho8 AT T.length cT (T.map Value.string) rfl (by simp) hr8.cells (by simp [Value.oneCell']) (len_max (by simp; omega)) (len_by (by simp; omega)) hz8 ?_; intro v9 w9 hown9 hgrow9 hrow9; obtain ⟨A9, m9, c9, rfl⟩ := slice_of hown9; have hb9 := hb8.grown hgrow9 hb8.size (fun k hk => Nat.le_trans hBw (ho8.ge k hk)); have ho9 : Fl.Own w9 B (.slice A9 m9 c9) (P5 ++ [s_table] ++ T) := by { unfold Fl.Own; rw [List.length_append, List.map_append]; exact hown9 }))
    obtain ⟨A10, c10, h10'⟩ := ho9.form
    injection h10' with q1 q2 q3
    subst q1 q2 q3
    try go_ret2
    exact HF.out _ _ _ hb9 ⟨ho9.rd, fr_own ho9 (Nat.le_trans hB0 hBw)⟩
end Go.Proofs.YtddgpkdhakjjaaaDoor.Rp
