/- NamesKnown: the sets of every name; all names; how many of some are in each set. No condition. (The walk.) -/
import Derived.Deep.Cut
import Derived.Test.YtknpppppjmhomaaDoorCt
import Derived.Test.YtknpppppjmhomaaDoorKr
import Derived.Test.YtknpppppjmhomaaDoorMisc
import Derived.Laws.OwnMore
import Derived.Test.YtknpppppjmhomaaDoorAwake
set_option linter.unusedVariables false
set_option linter.unusedSimpArgs false
namespace Go.Proofs.YtknpppppjmhomaaDoor.namesKnown
open Go.RowKit Lb Fl Is Aw Kn Kr Tb Sh Sy Ct Ms St

theorem same_refl (l : List ByteArray) : sameL l l = true := by unfold sameL; simp
theorem equal_arr (f : Nat → Nat) (w : World) : (Op.equalIn 10000 48 (.agg (arr f)) (.agg (arr f))).run Tryd.prog w = .ok true w := by
    obtain ⟨i0, hi, hz0, hz1, hz2⟩ := info_int
    have hsz : ∀ w, (sizeOf 3).run Tryd.prog w = .ok 1 w := fun w => by simp [sizeOf, typeInfo, hi, hz1]
    show (Op.equalIn (9998 + 2) 48 (.agg (arr f)) (.agg (arr f))).run Tryd.prog w = .ok true w
    rw [Op.equalIn]
    simp only [Sem.run_bind, run_underlying Tryd.underlying48, Result.andThen_ok, hsz, Std.Legacy.Range.forIn_eq_forIn_range', Std.Legacy.Range.size, Nat.sub_zero, Nat.add_sub_cancel, Nat.div_one]
    have hl : ∀ i ∈ List.range' 0 16 1, i < 16 := fun i hi => by simpa using (List.mem_range'_1.1 hi).2
    generalize List.range' 0 16 1 = l at hl ⊢
    induction l with
    | nil => simp
    | cons i l ih =>
      have hi : i < 16 := hl i (by simp)
      have px : (part 3 (arr f) (i * 1)).run Tryd.prog w = .ok (.int .i64 (f i : Int)) w := by
        simp [part, isAgg, run_underlying Tryd.underlying3, arr_at hi]
      have pe : (Op.equalIn (9998 + 1) 3 (.int .i64 (f i : Int)) (.int .i64 (f i : Int))).run Tryd.prog w = .ok true w := by
        rw [run_equalIn_int w 9998 3 .i64 .i64 _ _ Tryd.underlying3]
        simp
      simp only [List.forIn_cons, Sem.run_bind, px, pe, Result.andThen_ok]
      simp only [Bool.not_true, Bool.false_eq_true, if_false, Sem.run_pure, Result.andThen_ok, Bool.true_and]
      exact ih fun j hj => hl j (by simp [hj])
theorem run_eql_arr (f : Nat → Nat) (w : World) : (binOp .eql 48 (.agg (arr f)) (.agg (arr f))).run Tryd.prog w = .ok (.bool true) w := by
  rw [run_eql_struct, equal_arr]
  rfl

set_option maxHeartbeats 4000000 in
set_option maxRecDepth 100000 in
theorem walk (s : ByteArray) (A : Option Addr) (n c : Nat) (l : List ByteArray) (w : World) (ht : Tab w) (hr : Rd w A n l) (hle : n ≤ c) (hcap : c ≤ 8796093021952) : Calls Tryd.prog 10 #[.string s, .slice A n c] w fun e w' => e = .returned (.bool true) ∧ Below w.heap.size w w' := by
  obtain ⟨i0, hi, hz0, hz1, hz2⟩ := info_parts infoStr
  have HT : Hid (∀ W, Below w.heap.size w W → Tab W) := Lib.hid fun W h => ht.below h
  have HR : Hid (∀ W, Below w.heap.size w W → Rd W A n l) := Lib.hid fun W h => hr.below h
  have Hnl := Lib.hid hr.len
  have H1 := Lib.hid (setsC s w ht)
  have H2 := Lib.hid (fun W => rSetsC s W)
  have hsl := sets_len s 16
  obtain ⟨AR, hAR⟩ : ∃ AR, AR = arr (cnt l) := ⟨_, rfl⟩
  have H3 : Hid (∀ W A n c, Rd W A n l → n ≤ 9223372036854775807 → Tab W → Calls Tryd.prog 53 #[.slice A n c] W fun e w' => e = .returned (.agg AR) ∧ Below W.heap.size W w') := Lib.hid fun W A n c h1 h2 h3 => hAR ▸ countC W A n c l h1 h2 h3
  have H4 : Hid (∀ W A n c, Rd W A n l → n ≤ 9223372036854775807 → Calls Tryd.prog 54 #[.slice A n c] W fun e w' => e = .returned (.agg AR) ∧ Below W.heap.size W w') := Lib.hid fun W A n c h1 h2 => hAR ▸ rCountC W A n c l h1 h2
  have HEQ : Hid (∀ W, (binOp .eql 48 (.agg AR) (.agg AR)).run Tryd.prog W = .ok (.bool true) W) := Lib.hid fun W => hAR ▸ run_eql_arr (cnt l) W
  have HEQ2 : Hid (∀ W, (Op.equalIn 10000 48 (.agg AR) (.agg AR)).run Tryd.prog W = .ok true W) := Lib.hid fun W => hAR ▸ equal_arr (cnt l) W
  have H5 := Lib.hid (fun W h => knownC W h)
  have H6 := Lib.hid (fun W => rKnownC W)
  have hkl := known_len
  clear hAR
  generalize knownL = KL at *
  have hn := Nat.le_trans hle hcap
  have HLn := Lib.hid hn
  clear ht hr hle hcap
  generalize setsL s 16 = N at *
  go_enter Tryd.func10, Tryd.ntmps10
  go_upto_region 3 with (first
    | (go_at_call 51; refine H1.out.mono ?_; rintro e w1 ⟨A1, c1, rfl, ho1, hb1⟩)
    | (go_at_call 52; refine (H2.out _).mono ?_; rintro e w2 ⟨A2, c2, rfl, ho2, hb2⟩))
  have HO1 := Lib.hid (ho1.below hb2)
  have HO2 := Lib.hid ho2
  have hbw := seq hb1 hb2
  clear ho1 ho2 hb1 hb2
  go_wp2_with fail
  go_loopw [20] (fun i wr => ∃ j : Nat, j ≤ N.length ∧ i = .int .i64 j ∧ Below w.heap.size w wr ∧ Hid (Below w2.heap.size w2 wr)) (fun i _ => N.length - (intOf i).toNat)
  case atStart => exact ⟨0, Nat.zero_le _, rfl, hbw, Lib.hid (Below.refl _ _)⟩
  case round =>
    clear hbw
    obtain ⟨j, hj, rfl, hnx, hn2⟩ := hrel
    by_cases hlt : j < N.length
    · have hb0 : (0 : Int) ≤ (j : Int) := by omega
      have hb3 : (j : Int) < (N.length : Int) := by omega
      obtain ⟨g1, o1, rfl, _, hg1, hc1⟩ := own_num HO1.out hlt
      obtain ⟨g2, o2, rfl, _, hg2, hc2⟩ := own_num HO2.out hlt
      have hk1 := hc1 wr ((hn2.out.block g1 (Array.getElem?_eq_some_iff.1 hg1).1).trans hg1)
      have hk2 := hc2 wr ((hn2.out.block g2 (Array.getElem?_eq_some_iff.1 hg2).1).trans hg2)
      obtain ⟨x, hx⟩ : ∃ x, x = N[j] := ⟨_, rfl⟩
      rw [← hx] at hk1 hk2
      clear hc1 hc2 hg1 hg2 hx
      go_upto_region 8 with fail
      go_quiet (fail)
      go_wp2
      go_roundw
      case rel => exact ⟨j + 1, by omega, by go_num, below_drewN hnx _, Lib.hid (below_drewN hn2.out _)⟩
      case measure => simp [intOf] <;> omega
    · obtain rfl : j = N.length := by omega
      have hrd := HR.out _ hnx
      have hsz := hnx.size
      have hnl := Hnl.out
      have HA : Below wr.heap.size wr (wr.alloc (.cells #[] 9)) := (Below.refl _ _).alloc (Nat.le_refl _) _
      have hrda := (hrd.below HA).cells
      have hlit : (wr.alloc (.cells #[] 9)).ownsRow w.heap.size 9 1 (.slice (some ⟨wr.heap.size, 0, none⟩) 0 0) 0 [] := World.ownsRow_lit wr #[] 0 hsz (by unfold maxLen; omega) rfl
      have Hlit := Lib.hid hlit
      have Hrda := Lib.hid hrda
      have HNL := Lib.hid hnl
      clear hlit hrda HA hrd hnl
      go_upto_region 12 with (at_builtin; refine wpList_append_src _ rfl (.tmp 33) (.tmp 34) 25 rfl w.heap.size 9 i0 (.string ByteArray.empty) 1 16 Tryd.underlying25 hi hz0 hz1 hz2 rfl (by decide) _ _ _ rfl Hlit.out A n c (l.map Value.string) rfl (by rw [List.length_map, HNL.out]; omega) Hrda.out (by simp [Value.oneCell']) (by unfold maxLen; omega) (by omega) (le_alloc hsz _) ?_; intro v9 w9 hown9 hgrow9 hrow9)
      have ho9 : Fl.Own w9 w.heap.size v9 l := by
        unfold Fl.Own
        rw [← HNL.out]
        simpa using hown9
      have hb9 : Below w.heap.size w w9 := (hnx.alloc hsz _).grown hgrow9 (le_alloc hsz _) (own_ge Hlit.out)
      obtain ⟨A9, c9, h9⟩ := ho9.form
      rw [← HNL.out] at h9
      subst h9
      have HO9 := Lib.hid ho9
      have heq := HEQ.out
      have heq2 := HEQ2.out
      clear hown9 hgrow9 hrow9 ho9
      go_wp2_with (first
        | (go_at_call 53; refine (H3.out _ _ _ _ (by first | exact HO9.out.rd | exact HR.out _ hb9) (by omega) (HT.out _ hb9)).mono ?_; rintro e w10 ⟨rfl, hb10⟩)
        | (go_at_call 54; refine (H4.out _ _ _ _ (by first | exact (HO9.out.below hb10).rd | exact HR.out _ (seq hb9 hb10)) (by omega)).mono ?_; rintro e w11 ⟨rfl, hb11⟩; have hbk := seq (seq hb9 hb10) hb11; have hcl := (HO9.out.below (hb10.trans (hb11.mono hb10.size))).rd; have hro := HR.out _ hbk)
        | (go_at_call 18; have _z := hdone; refine (lSame _ (ok1.below hb14).rd ok2.rd (by omega) (by omega)).mono ?_; rintro e w15 ⟨rfl, hb15⟩; rw [same_refl])
        | (go_at_call 18; refine (lSame (a := l) (b := l) _ (by first | exact hro | exact hcl) (by first | exact hcl | exact hro) (by omega) (by omega)).mono ?_; rintro e w12 ⟨rfl, hb12⟩; rw [same_refl]; have hbl := seq hbk hb12)
        | (go_at_call 55; refine (H5.out _ (HT.out _ hbl)).mono ?_; rintro e w13 ⟨A13, c13, rfl, ok1, hb13⟩)
        | (go_at_call 56; refine (H6.out _).mono ?_; rintro e w14 ⟨A14, c14, rfl, ok2, hb14⟩; have hdone := True.intro)
        | (go_at_call 14; refine (awake _ (HT.out _ (seq (seq (seq hbl hb13) hb14) hb15))).mono ?_; rintro e wa ⟨rfl, hba⟩))
      go_ret
      exact ⟨rfl, seq (seq (seq (seq hbl hb13) hb14) hb15) hba⟩
end Go.Proofs.YtknpppppjmhomaaDoor.namesKnown
