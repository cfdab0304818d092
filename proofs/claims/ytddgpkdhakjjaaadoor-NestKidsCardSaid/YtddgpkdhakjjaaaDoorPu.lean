/- The law's push: the stack behind a plan and a name. -/
import Derived.Deep.Cut
import Derived.Test.YtddgpkdhakjjaaaDoorAp
import Derived.Test.YtddgpkdhakjjaaaDoorSm
set_option linter.unusedVariables false
set_option linter.unusedSimpArgs false
namespace Go.Proofs.YtddgpkdhakjjaaaDoor.Pu
open Go.Proofs.YtddgpkdhakjjaaaDoor.Np hiding is_li is_dt is_dd is_textarea is_a
open Go.RowKit Lb Fl Is Tp Wk Wp Wi Wo Pt Oc Pm Go.Proofs.YtddgpkdhakjjaaaDoor.Ask Rt Go.Proofs.YtddgpkdhakjjaaaDoor.Op Aw Lt Lw Sp Ap En El Rn Ri Rj Rp Rq Go.Proofs.YtddgpkdhakjjaaaDoor.Eq Sl Sm

/-- what is laid upon the stack -/
def upL (x : ByteArray) : List ByteArray := if x.size = 0 then [] else if inS x 0 then [] else [x]
theorem upL_len (x : ByteArray) : (upL x).length ≤ 1 := by unfold upL; repeat' split
                                                           all_goals simp
set_option maxHeartbeats 3200000 in
set_option maxRecDepth 100000 in
theorem pushC (w : World) (ht : Tab w) (A A2 : Option Addr) (n c m c2 k : Nat) (s ins : List ByteArray) (d : Bool) (x : ByteArray) (hr : Rd w A n s) (hi2 : Rd w A2 m ins) (hc : n ≤ c) (hc2 : c ≤ 9223372036854775807) (hk : k ≤ n) (hn : n ≤ 10000000) (hm : m ≤ 10000000) :
    Calls Tryd.prog 34 #[.slice A n c, .agg #[.int .i64 ((n : Int) - (k : Int)), .slice A2 m c2, .bool d], .string x] w fun e w' =>
      ∃ A3 c3, e = .returned (.tuple #[.slice A3 (s.take k ++ ins ++ upL x).length c3, .bool true]) ∧ Fl.Own w' w.heap.size (.slice A3 (s.take k ++ ins ++ upL x).length c3) (s.take k ++ ins ++ upL x) ∧ Below w.heap.size w w' := by
  obtain ⟨i0, hi, hz0, hz1, hzb⟩ := info_parts infoStr
  obtain ⟨X, hX⟩ : ∃ X, X = w.alloc (.cells #[.int .i64 ((n : Int) - (k : Int)), .slice A2 m c2, .bool d] 33) := ⟨_, rfl⟩
  have hb0 : Below w.heap.size w X := hX ▸ (Below.refl _ _).alloc (Nat.le_refl _) _
  have hp0 : Pl X w.heap.size (.int .i64 ((n : Int) - (k : Int))) (.slice A2 m c2) (.bool d) := hX ▸ Pl.new w _ _ _ _ rfl
  have e0 := hp0.c0
  have e1 := hp0.c1
  have e2 := hp0.c2
  have hA := applyYes X A A2 n c m c2 k s ins d (hr.below hb0) (hi2.below hb0) hc hc2 hk (by omega) (by omega)
  have hlen : (s.take k ++ ins).length = k + m := by
    have h1 := hr.1
    have h2 := hi2.1
    rw [List.length_append, List.length_take]; omega
  have HA := Lib.hid hA
  have HX := Lib.hid hX
  have HB := Lib.hid hb0
  have HT : Hid (∀ W, Below w.heap.size w W → Tab W) := Lib.hid fun W h => ht.below h
  obtain ⟨q, hq⟩ : ∃ q, k + m = q := ⟨_, rfl⟩
  have hq2 : q ≤ 20000000 := by omega
  rw [hq] at HA hlen
  have HL := Lib.hid hlen
  generalize s.take k ++ ins = l at *
  have hzX := hb0.size
  clear hA hX hb0 hp0 hr hi2 ht hlen hq
  by_cases hx : x.size = 0
  · have eu : upL x = [] := by unfold upL; rw [if_pos hx]
    have h1 := toList_nil hx
    have h2 := isEmpty_nil hx
    rw [eu, List.append_nil]
    have HE := Lib.hid eu
    clear eu hx
    go_enter Tryd.func34, Tryd.ntmps34
    go_wp2_with (first
      | (go_at_call 28; rw [← HX.out]; refine HA.out.mono ?_; rintro e w1 ⟨A3, c3, rfl, ho3, hb3⟩)
      | (go_at_call 12; refine (numC _ _).mono ?_; rintro e wn ⟨rfl, rfl⟩))
    go_ret2
    rw [← HL.out] at ho3 ⊢
    exact ⟨A3, c3, rfl, own_mono ho3 hzX, seq HB.out hb3⟩
  · have h1 := toList_ne (s := x) (by omega)
    have h2 := isEmpty_ne (s := x) (by omega)
    cases hv : inS x 0
    · have eu : upL x = [x] := by unfold upL; rw [if_neg hx, hv]; rfl
      rw [eu]
      have HE := Lib.hid eu
      clear eu hx
      go_enter Tryd.func34, Tryd.ntmps34
      go_upto_region 5 with (first
        | (go_at_call 28; rw [← HX.out]; refine HA.out.mono ?_; rintro e w1 ⟨A3, c3, rfl, ho3, hb3⟩)
        | (go_at_call 12; refine (numC _ _).mono ?_; rintro e wn ⟨rfl, rfl⟩)
        | (go_at_call 17; refine (nIn x 0 _ (HT.out _ (seq HB.out hb3))).mono ?_; rintro e w2 ⟨rfl, hb2⟩; rw [hv]))
      have ho4 : Fl.Own (w2.alloc (.cells #[.string x] 9)) X.heap.size (.slice A3 q c3) l := (ho3.below hb2).alloc (.cells #[.string x] 9)
      have hb24 : Below X.heap.size X w2 := seq hb3 hb2
      have hz2 : X.heap.size ≤ (w2.alloc (.cells #[.string x] 9)).heap.size := (hb24.alloc hb24.size _).size
      have hb5 := (seq HB.out hb24).alloc (seq HB.out hb24).size (.cells #[.string x] 9)
      go_wp2_with (at_builtin; refine wpList_append_src _ rfl (.tmp 26) (.tmp 28) 25 rfl X.heap.size 9 i0 (.string ByteArray.empty) 1 16 Tryd.underlying25 hi hz0 hz1 hzb rfl (by decide) _ _ _ rfl ho4 (some ⟨_, 0, none⟩) 1 1 [.string x] rfl rfl (one_src _ _ _ _ (by first | rfl | simp)) (Lb.one_cell rfl) (by have := HL.out; unfold maxLen; omega) (by have := HL.out; omega) hz2 ?_; intro v9 w9 hown9 hgrow9 hrow9; obtain ⟨A9, m9, c9, hv9⟩ := slice_of hown9; subst hv9)
      have ho9 : Fl.Own w9 X.heap.size (.slice A9 m9 c9) (l ++ [x]) := Own.push hown9
      obtain ⟨A10, c10, h10⟩ := ho9.form
      injection h10 with r1 r2 r3
      subst r2
      go_wp2
      go_ret2
      exact ⟨A9, c9, rfl, own_mono ho9 hzX, hb5.grown hgrow9 hb5.size (fun j hj => Nat.le_trans hzX (ho4.ge j hj))⟩
    · have eu : upL x = [] := by unfold upL; rw [if_neg hx, hv]; rfl
      rw [eu, List.append_nil]
      have HE := Lib.hid eu
      clear eu hx
      go_enter Tryd.func34, Tryd.ntmps34
      go_wp2_with (first
        | (go_at_call 28; rw [← HX.out]; refine HA.out.mono ?_; rintro e w1 ⟨A3, c3, rfl, ho3, hb3⟩)
        | (go_at_call 12; refine (numC _ _).mono ?_; rintro e wn ⟨rfl, rfl⟩)
        | (go_at_call 17; refine (nIn x 0 _ (HT.out _ (seq HB.out hb3))).mono ?_; rintro e w2 ⟨rfl, hb2⟩; rw [hv]))
      go_ret2
      rw [← HL.out] at ho3 ⊢
      exact ⟨A3, c3, rfl, own_mono (ho3.below hb2) hzX, seq HB.out (seq hb3 hb2)⟩

/-! prefixes -/
theorem pre_take {t s : List ByteArray} (h : t <+: s) : s.take t.length = t := (List.prefix_iff_eq_take.1 h).symm
theorem take_pre' (k : Nat) (s : List ByteArray) : s.take k <+: s := List.take_prefix _ _
theorem inS2_pre (s : List ByteArray) : inS2 s [] <+: s := by
  unfold inS2
  split
  · exact List.dropLast_prefix _
  · exact List.prefix_refl _
theorem ownS_pre (pr : ByteArray → Bool) (s : List ByteArray) : ownS pr s [] <+: s := by
  unfold ownS
  split
  · exact take_pre' _ _
  · exact (inS2_pre _).trans (noS_prefix s)
theorem itS_pre (pr : ByteArray → Bool) (s : List ByteArray) : itS pr s [] <+: s := by
  unfold itS
  split
  · exact take_pre' _ _
  · exact inS2_pre _
theorem askS_pre (y : ByteArray) (s : List ByteArray) : askS y s <+: s := by
  refine List.IsPrefix.trans ?_ (aS_pre y s)
  unfold askS
  split
  · exact ownS_pre _ _
  · exact ownS_pre _ _
  · exact ownS_pre _ _
  · exact ownS_pre _ _
  · split
    · exact itS_pre _ _
    · split
      · exact itS_pre _ _
      · exact inS2_pre _
theorem askS_take (y : ByteArray) (s : List ByteArray) : s.take (askS y s).length = askS y s := pre_take (askS_pre y s)
theorem inS2_take (s : List ByteArray) : s.take (inS2 s []).length = inS2 s [] := pre_take (inS2_pre s)
end Go.Proofs.YtddgpkdhakjjaaaDoor.Pu
