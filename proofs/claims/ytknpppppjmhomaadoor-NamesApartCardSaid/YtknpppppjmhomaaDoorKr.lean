/- All names: the reference's Known. -/
import Derived.WalkLawsBesides
import Derived.Test.YtknpppppjmhomaaDoorKn
set_option linter.unusedVariables false
set_option linter.unusedSimpArgs false
namespace Go.Proofs.YtknpppppjmhomaaDoor.Kr
open Go.RowKit Lb St Fl Ls Rt Is Go.Proofs.YtknpppppjmhomaaDoor.So Rs Rl Kn

/-- of the first j, those that differ from the one ahead -/
def ddL (j : Nat) : List ByteArray := (Lib.compactUpTo srtL.toArray j).map str
theorem dd_all : ddL srtL.length = knownL := rfl
theorem dd_len (j : Nat) (h : j ≤ srtL.length) : (ddL j).length ≤ j := by
  unfold ddL Lib.compactUpTo
  rw [List.length_map, List.length_map]
  exact Nat.le_trans (List.length_filter_le _ _) (by simp)
theorem srt_at {j : Nat} (h : j < (srtL.map str).length) : (srtL.map str)[j] = str (srtL.toArray[j]!) := by
  rw [List.length_map] at h
  rw [List.getElem_map, getElem!_pos srtL.toArray j (by simpa using h)]
  simp
theorem dd_keep {j : Nat} (h : Lib.keeps srtL.toArray j = true) : ddL (j + 1) = ddL j ++ [str (srtL.toArray[j]!)] := by
  unfold ddL
  rw [Lib.compactUpTo_succ, h]
  simp
theorem dd_skip {j : Nat} (h : Lib.keeps srtL.toArray j = false) : ddL (j + 1) = ddL j := by
  unfold ddL
  rw [Lib.compactUpTo_succ, h]
  simp

theorem one_lit (w : World) (x : Value) (t : TypeId) (b : Nat) (hb : w.heap.size = b) : 0 < [x].length → ∃ b' off, some (⟨b, 0, none⟩ : Addr) = some ⟨b', off, none⟩ ∧ ∀ j u, [x][j]? = some u → (w.alloc (.cells #[x] t)).cell? ⟨b', off + j, none⟩ = some u := by
  intro _
  subst hb
  refine ⟨_, _, rfl, fun j u hu => ?_⟩
  match j, hu with
  | 0, hu => simp at hu; subst hu; simp
theorem own_low {w : World} {B B' : Nat} {v : Value} {l : List ByteArray} (h : Own w B v l) (hB : B' ≤ B) : Own w B' v l :=
  ⟨h.1, h.2.elim .inl (fun ⟨g, cap, cur, hv, hb, r⟩ => .inr ⟨g, cap, cur, hv, Nat.le_trans hB hb, r⟩)⟩
theorem Own.alloc' {w : World} {B : Nat} {v : Value} {l : List ByteArray} (h : Own w B v l) (o : Obj) : Own (w.alloc o) B v l := h.below ((Below.refl _ _).alloc (Nat.le_refl _) o)
set_option maxHeartbeats 8000000 in
set_option maxRecDepth 100000 in
theorem rKnownC (w : World) : Calls Tryd.prog 56 #[] w fun e w' => RetS w knownL e w' := by
  obtain ⟨i0, hi, hz0, hz1, hz2⟩ := info_parts infoStr
  have hbr := Below.refl w.heap.size w
  go_enter Tryd.func56, Tryd.ntmps56
  go_wp2
  go_loopw [1, 6] (fun v i wr => ∃ (j : Nat) (A : Option Addr) (q c : Nat), j ≤ 16 ∧ i = .int .i64 j ∧ v = .slice A q c ∧ Below w.heap.size w wr ∧ Hid (Own wr w.heap.size (.slice A q c) ((catL j).map str))) (fun _ i _ => 16 - (intOf i).toNat)
  case atStart => exact ⟨0, none, 0, 0, by omega, rfl, rfl, hbr, Lib.hid (Own.nil _ _)⟩
  case round =>
    obtain ⟨j, A, q, c, hj, rfl, rfl, hnx, hown⟩ := hrel
    have hcl := cat_len j hj
    by_cases hlt : j < 16
    · have hb3 : (j : Int) < (16 : Int) := by omega
      have hb0 : (0 : Int) ≤ (j : Int) := by omega
      have hnl := nm_len hlt
      obtain ⟨N, hN⟩ : ∃ N, N = (nm j).map str := ⟨_, rfl⟩
      have hNl : N.length ≤ 2000 := by rw [hN, List.length_map]; exact hnl
      have HS : Hid ((catL (j + 1)).map str = (catL j).map str ++ N) := Lib.hid (by rw [cat_succ, List.map_append, hN])
      have hql : ((catL j).map str).length ≤ 32000 := by rw [List.length_map]; omega
      have hF := Rf.rFieldsR (rtS (j : Int))
      have hsz := rtS_size (j : Int)
      rw [rtS_in hb0 hb3, Int.toNat_natCast, ← hN] at hF
      have HF := Lib.hid (fun W => hF W (by omega))
      have HTX := Lib.hid (rText (j : Int))
      generalize rtS (j : Int) = T at *
      clear hF hsz hN
      generalize (catL j).map str = C at *
      go_wp2_with (first
        | (go_at_call 72; refine (HTX.out _).mono ?_; rintro e w1 ⟨rfl, rfl⟩)
        | (go_at_call 19; refine (HF.out _).mono ?_; rintro e w2 ⟨A2, c2, rfl, ho2, hb2⟩; have ho3 := hown.out.below hb2; have hcells := ho2.rd.cells; have hzz := (seq hnx hb2).size)
        | (at_builtin; refine wpList_append_src _ rfl (.tmp 9) (.tmp 12) 25 rfl w.heap.size 9 i0 (.string ByteArray.empty) 1 16 Tryd.underlying25 hi hz0 hz1 hz2 rfl (by decide) _ _ _ rfl ho3 A2 N.length c2 (N.map Value.string) rfl (by simp) hcells (by simp [Value.oneCell']) (by unfold maxLen; omega) (by omega) hzz ?_; intro v9 w9 hown9 hgrow9 hrow9))
      have ho9 : Own w9 w.heap.size v9 ((catL (j + 1)).map str) := by
        unfold Own
        rw [HS.out]
        simpa using hown9
      obtain ⟨A9, c9, h9⟩ := ho9.form
      subst h9
      go_roundw
      case rel => exact ⟨j + 1, A9, _, c9, by omega, by go_num, rfl, (seq hnx hb2).grown hgrow9 (seq hnx hb2).size (fun k hk => ho3.ge k hk), Lib.hid ho9⟩
      case measure => simp [intOf] <;> omega
    · obtain rfl : j = 16 := by omega
      have hs := srtL_len
      have HO := Lib.hid hown.out
      have hq : q = srtL.length := by
        obtain ⟨A', c', hv⟩ := hown.out.form
        injection hv with _ e2 _
        unfold srtL
        simpa using e2
      have hqc : q ≤ 1048576 := by omega
      have HQ := Lib.hid hq
      clear hown hq
      go_upto_block 1 with (go_at_call 73; refine (rSortC _ _ _ _ _ _ HO.out hqc).mono ?_; rintro e w3 ⟨rfl, ho3, hg3⟩)
      rw [srt_str] at ho3
      have ho4 : Own w3 w.heap.size (.slice A q c) (srtL.map str) := ho3
      have hb3 := hnx.grown hg3 hnx.size (fun k hk => HO.out.ge k hk)
      have HRD := Lib.hid ho4.rd
      clear ho3 ho4 hg3
      go_wp2
      go_loopw [3, 19] (fun v i wr => ∃ (j : Nat) (A2 : Option Addr) (q2 c2 : Nat), j ≤ q ∧ i = .int .i64 j ∧ v = .slice A2 q2 c2 ∧ Below w3.heap.size w3 wr ∧ Hid (Own wr w3.heap.size (.slice A2 q2 c2) (ddL j))) (fun _ i _ => q - (intOf i).toNat)
      case atStart => exact ⟨0, none, 0, 0, by omega, rfl, rfl, Below.refl _ _, Lib.hid (Own.nil _ _)⟩
      case round =>
        clear hnx
        obtain ⟨j, A2, q2, c2, hj, rfl, rfl, hnx, hown⟩ := hrel
        by_cases hlt : j < q
        · have hjl : j < (srtL.map str).length := by rw [List.length_map]; have := HQ.out; omega
          obtain ⟨b4, o4, rfl, _, hcx⟩ := HRD.out.get hjl
          have hx1 := hcx wr hnx
          have hat := srt_at hjl
          have hlen := dd_len j (by have := HQ.out; omega)
          have hj32 : j ≤ 32000 := by have := HQ.out; omega
          rw [hat] at hx1
          obtain ⟨x, hx⟩ : ∃ x, x = str (srtL.toArray[j]!) := ⟨_, rfl⟩
          rw [← hx] at hx1
          have HX := Lib.hid hx
          clear hat hcx hx
          have hb3' : (j : Int) < (q : Int) := by omega
          have hb0' : (0 : Int) ≤ (j : Int) := by omega
          have hq2 : q2 ≤ 40000 := by
            obtain ⟨A', c', hv⟩ := hown.out.form
            injection hv with _ e2 _
            omega
          have hdl : (ddL j).length ≤ 40000 := by omega
          have PUSH : Hid (Lib.keeps srtL.toArray j = true → ddL (j + 1) = ddL j ++ [x]) := Lib.hid fun h => by rw [dd_keep h, HX.out]
          have ho7 : Own (wr.alloc (.cells #[.string x] 9)) w3.heap.size (.slice A2 q2 c2) (ddL j) := Own.alloc' hown.out _
          have hb7 := hnx.alloc hnx.size (.cells #[.string x] 9)
          cases j with
          | zero =>
            have hz9 : (((0 : Nat) : Int) == 0) = true := rfl
            rw [Nat.add_zero] at hx1
            have hkp := Lib.hid (PUSH.out (Lib.keeps_lt_one _ 0 (by decide)))
            go_wp2_with (at_builtin; refine wpList_append_src _ rfl (.tmp 35) (.tmp 37) 25 rfl w3.heap.size 9 i0 (.string ByteArray.empty) 1 16 Tryd.underlying25 hi hz0 hz1 hz2 rfl (by decide) _ _ _ rfl ho7 (some ⟨_, 0, none⟩) 1 1 [.string x] rfl rfl (one_lit _ _ _ _ (by first | rfl | simp)) (Lb.one_cell rfl) (by unfold maxLen; omega) (by omega) hb7.size ?_; intro v9 w9 hown9 hgrow9 hrow9)
            have ho9 : Own w9 w3.heap.size v9 (ddL (0 + 1)) := by rw [hkp.out]; exact Own.push hown9
            obtain ⟨A9, c9, h9⟩ := ho9.form
            subst h9
            go_roundw
            case rel => exact ⟨0 + 1, A9, _, c9, by omega, by go_num, rfl, hb7.grown hgrow9 hb7.size (fun k hk => ho7.ge k hk), Lib.hid ho9⟩
            case measure => simp [intOf] <;> omega
          | succ j =>
            have hjl2 : j < (srtL.map str).length := by omega
            obtain ⟨b5, o5, e5, _, hcy⟩ := HRD.out.get hjl2
            injection e5 with e5
            injection e5 with e6 e7
            subst e6 e7
            have hy1 := hcy wr hnx
            rw [srt_at hjl2] at hy1
            obtain ⟨y, hy⟩ : ∃ y, y = str (srtL.toArray[j]!) := ⟨_, rfl⟩
            rw [← hy] at hy1
            have HY := Lib.hid hy
            clear hcy hy
            have hi1 : ((j + 1 : Nat) : Int) - 1 = (j : Int) := by omega
            have hi2 : (j : Int) < (q : Int) := by omega
            have hi3 : (((j + 1 : Nat) : Int) == 0) = false := by rw [beq_eq_false_iff_ne]; omega
            have hwk : IntKind.i64.wrap (((j + 1 : Nat) : Int) - 1) = (j : Int) := by rw [IntKind.wrap_i64] <;> omega
            by_cases e : x = y
            · have he := toList_eq_of e
              have he2 := toList_beq_of e
              have hkp := Lib.hid (dd_skip (Lib.keeps_neg (d := srtL.toArray) (m := j + 1) (by omega) (str_inj (by rw [← HX.out, e, HY.out]; rfl))))
              clear e
              go_wp2
              go_roundw
              case rel => exact ⟨j + 1 + 1, A2, q2, c2, by omega, by go_num, rfl, hnx, Lib.hid (by rw [hkp.out]; exact hown.out)⟩
              case measure => simp [intOf] <;> omega
            · have he := toList_ne_of e
              have he2 := toList_bne_of e
              have hkp := Lib.hid (PUSH.out (Lib.keeps_pos (d := srtL.toArray) (m := j + 1) (fun h => e (by rw [HX.out, HY.out, h]; rfl))))
              clear e
              go_wp2_with (at_builtin; refine wpList_append_src _ rfl (.tmp 35) (.tmp 37) 25 rfl w3.heap.size 9 i0 (.string ByteArray.empty) 1 16 Tryd.underlying25 hi hz0 hz1 hz2 rfl (by decide) _ _ _ rfl ho7 (some ⟨_, 0, none⟩) 1 1 [.string x] rfl rfl (one_lit _ _ _ _ (by first | rfl | simp)) (Lb.one_cell rfl) (by unfold maxLen; omega) (by omega) hb7.size ?_; intro v9 w9 hown9 hgrow9 hrow9)
              have ho9 : Own w9 w3.heap.size v9 (ddL (j + 1 + 1)) := by rw [hkp.out]; exact Own.push hown9
              obtain ⟨A9, c9, h9⟩ := ho9.form
              subst h9
              go_roundw
              case rel => exact ⟨j + 1 + 1, A9, _, c9, by omega, by go_num, rfl, hb7.grown hgrow9 hb7.size (fun k hk => ho7.ge k hk), Lib.hid ho9⟩
              case measure => simp [intOf] <;> omega
        · have hfin : Hid (Own wr w3.heap.size (.slice A2 q2 c2) knownL) := Lib.hid (by
            have h1 := hown.out
            have : j = srtL.length := by have := HQ.out; omega
            rw [this] at h1
            exact h1)
          have hz3 := hb3.size
          go_wp2
          go_ret
          obtain ⟨A', c', hv⟩ := hfin.out.form
          injection hv with e1 e2 e3
          subst e2
          exact ⟨A2, c2, rfl, own_low hfin.out hz3, seq hb3 hnx⟩
end Go.Proofs.YtknpppppjmhomaaDoor.Kr
