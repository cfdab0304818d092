/- NamesTexts: every text in small letters, compared, trimmed, in its fields: the program's answers are the reference's. Where both texts are of bulk at most 1048576.  (The walk.) -/
import Derived.Test.YtknpppppjmhomaaDoorAwake
import Derived.Test.YtknpppppjmhomaaDoorForms
namespace Go.Proofs.YtknpppppjmhomaaDoor.namesTexts
open Go.RowKit Lb Fl Is Aw

theorem sameL_self (l : List ByteArray) : Ms.sameL l l = true := by simp [Ms.sameL]
theorem rep_step {l : List ByteArray} {k : Nat} (h : k < l.length) (x : ByteArray) : (List.replicate k x ++ l.drop k).set k x = List.replicate (k + 1) x ++ l.drop (k + 1) := by
  rw [List.set_append_right _ _ (by simp), List.length_replicate, Nat.sub_self, List.drop_eq_getElem_cons h, List.set_cons_zero, List.replicate_succ']
  simp
set_option maxHeartbeats 4000000 in
set_option maxRecDepth 100000 in
theorem walk (s t : ByteArray) (w : World) (ht : Tab w) (hs : s.size ≤ 2147483647) (hs2 : t.size ≤ 2147483647) : Calls Tryd.prog 5 #[.string s, .string t] w fun e w' => e = .returned (.bool true) ∧ Below w.heap.size w w' := by
  obtain ⟨i0, hi, hz0, hz1, hz2⟩ := info_parts infoStr
  have hm1 : s.size ≤ maxLen := by unfold maxLen; omega
  have hm2 : t.size ≤ maxLen := by unfold maxLen; omega
  have hFl := Ms.fieldsS_len s
  have hse := sameL_self (fieldsS s)
  obtain ⟨F, hF⟩ : ∃ F, F = fieldsS s := ⟨_, rfl⟩
  have HF := Lib.hid hF
  rw [← hF] at hFl hse
  clear hF
  go_enter Tryd.func5, Tryd.ntmps5
  go_wp2_with fail
  refine (nFieldsR _ _ hs).mono ?_
  rintro e w1 ⟨A1, c1, rfl, o1, b1⟩
  rw [← HF.out] at o1 ⊢
  go_wp2_with fail
  refine (nFieldsR _ _ hs).mono ?_
  rintro e w2 ⟨A2, c2, rfl, o2, b2⟩
  rw [← HF.out] at o2 ⊢
  go_wp2_with fail
  refine (rFieldsR _ _ hs).mono ?_
  rintro e w3 ⟨A3, c3, rfl, o3, b3⟩
  rw [← HF.out] at o3 ⊢
  have s1 := b1.size
  have s2 := b2.size
  have p1 := (o1.below b2).below b3
  have p2 := o2.below b3
  have bb := seq (seq b1 b2) b3
  go_wp2_with fail
  refine (Ms.lSame w3 p1.rd o3.rd (by omega) (by omega)).mono ?_
  rintro e w4 ⟨rfl, b4⟩
  have q1 := p1.below b4
  have q2 := p2.below b4
  have q3 := o3.below b4
  have bc := seq bb b4
  go_wp2_with fail
  refine (Ms.lSame w4 q2.rd q3.rd (by omega) (by omega)).mono ?_
  rintro e w5 ⟨rfl, b5⟩
  have r1 := Lib.hid (q1.below b5)
  have r2 := Lib.hid (q2.below b5)
  have r3 := Lib.hid (q3.below b5)
  have bd := seq bc b5
  clear p1 p2 q1 q2 q3 bb bc b3 b4 b5 b1 b2
  have O1 := Lib.hid o1
  have O2 := Lib.hid o2
  have O3 := Lib.hid o3
  clear o1 o2 o3
  obtain ⟨sp, hsp⟩ : ∃ sp : ByteArray, sp = ⟨#[115, 112, 111, 105, 108, 116]⟩ := ⟨_, rfl⟩
  have HSP := Lib.hid hsp
  clear hsp
  go_wp2_with fail
  go_loopw [27] (fun i wr => ∃ k : Nat, k ≤ F.length ∧ i = .int .i64 k ∧ Below w.heap.size w wr ∧ Hid (Own wr w.heap.size (.slice A1 F.length c1) (List.replicate k sp ++ F.drop k)) ∧ Hid (Own wr w1.heap.size (.slice A2 F.length c2) F) ∧ Hid (Own wr w2.heap.size (.slice A3 F.length c3) F)) (fun i _ => F.length - (intOf i).toNat)
  case atStart => exact ⟨0, by omega, rfl, bd, by simpa using r1, r2, r3⟩
  case round =>
    obtain ⟨k, hk, rfl, hnx, g1, g2, g3⟩ := hrel
    by_cases hlt : k < F.length
    · have hkl : k < (List.replicate k sp ++ F.drop k).length := by simp; omega
      obtain ⟨g, rfl, hg1, hg2, hfz, hcl, hst⟩ := g1.out.store hkl sp
      rw [rep_step hlt] at hst
      have hgb : g < w1.heap.size := (O1.out.lt g rfl).2
      have h2 := g2.out.other (p := ⟨g, k, none⟩) hgb (Nat.le_refl _) (.string sp)
      have h3 := g3.out.other (p := ⟨g, k, none⟩) hgb s2 (.string sp)
      have G := Lib.hid (And.intro hst (And.intro h2 h3))
      have hb2 : Below w.heap.size w (wr.setCell ⟨g, k, none⟩ (.string sp)) := hnx.setCell hg1 _
      rw [HSP.out] at hb2 G
      clear hst h2 h3
      go_wp2
      go_roundw
      case rel => exact ⟨k + 1, by omega, by go_num, hb2, Lib.hid (by rw [HSP.out]; exact G.out.1), Lib.hid G.out.2.1, Lib.hid G.out.2.2⟩
      case measure => simp [intOf] <;> omega
    · obtain rfl : k = F.length := by omega
      have hrep : List.replicate F.length sp ++ F.drop F.length = List.replicate F.length sp := by simp
      have hown := g1.out
      rw [hrep] at hown
      have hsz := hnx.size
      have hln : (List.replicate F.length sp).length = F.length := by simp
      have g1' : F.length + 1 ≤ maxLen := by unfold maxLen; omega
      have g2' : (F.length + 1) * 16 ≤ 140737488355328 := by omega
      have hown2 : wr.ownsRow w.heap.size 9 1 (.slice A1 F.length c1) F.length ((List.replicate F.length sp).map Value.string) := by
        have := hown; unfold Own at this; rw [hln] at this; exact this
      have HO := Lib.hid hown2
      clear hown hown2 hrep hln g1
      go_wp2_with (at_builtin; (refine wpList_append_own _ rfl (.tmp 34) (.tmp 35) 25 rfl w.heap.size 9 i0 (.string ByteArray.empty) 1 16 Tryd.underlying25 hi hz0 hz1 hz2 rfl (by decide) _ _ _ rfl (HO.out.alloc _) ⟨wr.heap.size, 0, none⟩ 1 1 [.string ⟨#[109, 111, 114, 101]⟩] rfl rfl (Lb.one_new _ _ _) (Lb.one_cell rfl) g1' g2' (le_alloc hsz _) ?_))
      intro v' w6 hown' hgrow _
      obtain ⟨hl6, hf6⟩ := hown'
      have hv' : ∃ A6 c6, v' = .slice A6 (F.length + 1) c6 := by
        rcases hf6 with ⟨h, h0⟩ | ⟨g, cap, cur, h, _⟩
        · omega
        · exact ⟨_, _, h⟩
      have b6 : Below w.heap.size w w6 := (hnx.alloc hsz _).grown hgrow (by simp; omega) (own_ge HO.out)
      have k2 : Own w6 w1.heap.size (.slice A2 F.length c2) F := World.ownsRow.kept (World.ownsRow.alloc g2.out _) hgrow (O1.out.apart2 g2.out (Nat.le_refl _))
      have k3 : Own w6 w2.heap.size (.slice A3 F.length c3) F := World.ownsRow.kept (World.ownsRow.alloc g3.out _) hgrow (O1.out.apart2 g3.out s2)
      obtain ⟨A6, c6, hv6⟩ := hv'
      rw [hv6]
      clear hl6 hf6 hgrow hv6 g2 g3
      go_wp2_with fail
      refine (Ms.lSame w6 k2.rd k3.rd (by omega) (by omega)).mono ?_
      rintro e w7 ⟨rfl, b7⟩
      have c7 := b6.trans (b7.mono b6.size)
      clear k2 k3 b7 b6
      have hcol : True := trivial
      go_wp2_with fail
      refine (chain c7 (Lw.nLower _ _ hm1)).mono ?_
      rintro e w8 ⟨rfl, b8⟩
      go_wp2_with fail
      refine (chain b8 (Lw.rLower _ _ hm1)).mono ?_
      rintro e w9 ⟨rfl, b9⟩
      go_wp2_with fail
      refine (chain b9 (Ms.nFold _ _ _ hm1 hm2)).mono ?_
      rintro e wa ⟨rfl, ba⟩
      go_wp2_with fail
      refine (chain ba (Ms.rFold _ _ _ hm1 hm2)).mono ?_
      rintro e wb ⟨rfl, bbb⟩
      go_wp2_with fail
      refine (Tx.nTrim _ _ hm1).mono ?_
      rintro e wc ⟨rfl, rfl⟩
      go_wp2_with fail
      refine (Tx.rTrim _ _ hm1).mono ?_
      rintro e wd ⟨rfl, rfl⟩
      go_wp2_with fail
      refine (chain bbb (Ms.nCollapse _ _ hs)).mono ?_
      rintro e we ⟨rfl, be⟩
      go_wp2_with fail
      refine (chain be (Ms.rCollapse _ _ hs)).mono ?_
      rintro e wf ⟨rfl, bf⟩
      go_wp2_with fail
      refine (chain bf (awake _ (ht.below bf))).mono ?_
      rintro e wg ⟨rfl, bg⟩
      go_wp2_with fail
      go_ret
      exact ⟨rfl, bg⟩
end Go.Proofs.YtknpppppjmhomaaDoor.namesTexts
