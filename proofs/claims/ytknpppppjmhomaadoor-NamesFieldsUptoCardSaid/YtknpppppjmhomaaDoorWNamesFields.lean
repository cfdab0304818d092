/- NamesFields: fields have no blanks, none is empty; those of two texts with a blank between are both's; collapsed stays collapsed. Where the input is of bulk at most 1048576.  (The walk.) -/
import Derived.Test.YtknpppppjmhomaaDoorAwake
import Derived.Test.YtknpppppjmhomaaDoorPFields
import Derived.Test.YtknpppppjmhomaaDoorText
import Derived.Test.YtknpppppjmhomaaDoorRd
namespace Go.Proofs.YtknpppppjmhomaaDoor.namesFields
open Go.RowKit Lb Fl Is Aw

theorem sameL_self (l : List ByteArray) : Ms.sameL l l = true := by simp [Ms.sameL]
theorem strs_one {l : List ByteArray} : ∀ u ∈ l.map Value.string, u.oneCell' = true := by
  intro u hu
  obtain ⟨x, _, rfl⟩ := List.mem_map.1 hu
  rfl
theorem blank_cell (q : Int) (h : q = 0 ∨ q = 1 ∨ q = 2 ∨ q = 3) : ∃ c, blB c = true ∧ ∀ h' : q.toNat < [Value.string ⟨#[32]⟩, .string ⟨#[9]⟩, .string ⟨#[10]⟩, .string ⟨#[12]⟩].length, [Value.string ⟨#[32]⟩, .string ⟨#[9]⟩, .string ⟨#[10]⟩, .string ⟨#[12]⟩][q.toNat]'h' = .string (str [c]) := by
  rcases h with rfl | rfl | rfl | rfl
  · exact ⟨32, by decide, fun _ => rfl⟩
  · exact ⟨9, by decide, fun _ => rfl⟩
  · exact ⟨10, by decide, fun _ => rfl⟩
  · exact ⟨12, by decide, fun _ => rfl⟩
set_option maxHeartbeats 4000000 in
set_option maxRecDepth 100000 in
theorem walk (a b : ByteArray) (k : Int) (w : World) (ht : Tab w) (hs : a.size ≤ 1048576) (hs2 : b.size ≤ 1048576) : Calls Tryd.prog 4 #[.string a, .string b, .int .i64 k] w fun e w' => e = .returned (.bool true) ∧ Below w.heap.size w w' := by
  obtain ⟨i0, hi, hz0, hz1, hz2⟩ := info_parts infoStr
  have hm1 : a.size ≤ maxLen := by unfold maxLen; omega
  have r2 : k.tmod 4 % 4 = 0 ∨ k.tmod 4 % 4 = 1 ∨ k.tmod 4 % 4 = 2 ∨ k.tmod 4 % 4 = 3 := by omega
  obtain ⟨cb, hcb, hcell⟩ := blank_cell _ r2
  have r1 : -4 < k.tmod 4 ∧ k.tmod 4 < 4 := by
    have h1 := Int.tmod_lt_of_pos k (show (0 : Int) < 4 by omega)
    have h2 := Int.tmod_lt_of_pos (-k) (show (0 : Int) < 4 by omega)
    rw [Int.neg_tmod] at h2
    omega
  obtain ⟨r1a, r1b⟩ := r1
  have r3a : 0 ≤ k.tmod 4 % 4 := by omega
  have r3b : k.tmod 4 % 4 < 4 := by omega
  clear r2
  go_enter Tryd.func4, Tryd.ntmps4
  go_wp2_with fail
  have hb0 : Below w.heap.size w (w.alloc (.cells #[.string ⟨#[32]⟩, .string ⟨#[9]⟩, .string ⟨#[10]⟩, .string ⟨#[12]⟩] 9)) := (Below.refl _ _).alloc (Nat.le_refl _) _
  refine (nFieldsR _ _ (by omega)).mono ?_
  rintro e w1 ⟨A1, c1, rfl, o1, b1⟩
  have c1b := seq hb0 b1
  clear b1 hb0
  go_wp2_with fail
  refine (nFieldsR _ _ (by omega)).mono ?_
  rintro e w2 ⟨A2, c2, rfl, o2, b2⟩
  have hF := Ms.fieldsS_len a
  have hG := Ms.fieldsS_len b
  have rf := Lib.hid (o1.rd.below b2)
  have rg := Lib.hid o2.rd
  have c2b := seq c1b b2
  clear b2 c1b o1 o2
  obtain ⟨F, hFe⟩ : ∃ F, F = fieldsS a := ⟨_, rfl⟩
  rw [← hFe] at rf hF ⊢
  have HF := Lib.hid hFe
  clear hFe
  obtain ⟨G, hGe⟩ : ∃ G, G = fieldsS b := ⟨_, rfl⟩
  rw [← hGe] at rg hG ⊢
  have HG := Lib.hid hGe
  clear hGe
  have HC := Lib.hid hcb
  clear hcb
  go_wp2_with fail
  go_loopw [26] (fun i wr => ∃ j : Nat, j ≤ F.length ∧ i = .int .i64 j ∧ Below w2.heap.size w2 wr) (fun i _ => F.length - (intOf i).toNat)
  case atStart => exact ⟨0, by omega, rfl, Below.refl _ _⟩
  case round =>
    obtain ⟨j, hj, rfl, hnx⟩ := hrel
    by_cases hlt : j < F.length
    · obtain ⟨bk, off, rfl, _, hc⟩ := rf.out.get hlt
      have hcx := hc wr hnx
      obtain ⟨y, hy⟩ : ∃ y, y = F[j] := ⟨_, rfl⟩
      rw [← hy] at hcx
      have hmem : y ∈ fieldsS a := by rw [hy, ← HF.out]; exact List.getElem_mem _
      clear hc hy
      have y0 := Pf.field_ne hmem
      have y1 := toList_ne y0
      have y2 := isEmpty_ne y0
      have ysz : y.size ≤ 1048577 := by
        obtain ⟨q, hq, e⟩ := List.getElem_of_mem hmem
        have := Ms.field_size hq
        rw [e] at this; omega
      have ct := Lib.hid (fun wx => Tx.nTrim y wx (by unfold maxLen; omega))
      have ct2 : Hid (∀ wx, Calls Tryd.prog 16 #[.string y] wx fun e w' => e = .returned (.string y) ∧ wx = w') := Lib.hid (fun wx => by have := ct.out wx; rwa [Pf.field_trim hmem] at this)
      have cf : Hid (∀ wx, Calls Tryd.prog 15 #[.string y] wx (RetS wx [y])) := Lib.hid (fun wx => by have := nFieldsR y wx (by omega); rwa [Pf.field_one hmem] at this)
      clear hmem ct
      go_wp2_with fail
      refine (ct2.out _).mono ?_
      rintro e w' ⟨rfl, rfl⟩
      go_wp2_with fail
      refine (cf.out _).mono ?_
      rintro e w4 ⟨A4, c4, rfl, _, b4⟩
      go_wp2_with fail
      go_roundw
      case rel => exact ⟨j + 1, by omega, by go_num, hnx.trans (b4.mono hnx.size)⟩
      case measure => simp [intOf] <;> omega
    · have c3b := seq c2b hnx
      have rf3 := Lib.hid (rf.out.below hnx)
      have rg3 := Lib.hid (rg.out.below hnx)
      clear hnx c2b
      go_wp2_with fail
      refine (Ms.nCollapse _ _ (by omega)).mono ?_
      rintro e w4 ⟨rfl, b4⟩
      have hcs := Ms.collS_size a
      have c4b := seq c3b b4
      have rf4 := Lib.hid (rf3.out.below b4)
      have rg4 := Lib.hid (rg3.out.below b4)
      clear b4 c3b
      have hst : (str [cb]).size = 1 := str_size _
      obtain ⟨sb, hsb⟩ : ∃ sb, sb = str [cb] := ⟨_, rfl⟩
      rw [← hsb] at hst ⊢
      have hst2 : sb.size ≤ 1 := by omega
      have HSB := Lib.hid hsb
      clear hst hsb
      have z1 : (a ++ sb).size ≤ 1048577 := by rw [ByteArray.size_append]; omega
      have z2 : (a ++ sb ++ b).size ≤ 2097153 := by rw [ByteArray.size_append]; omega
      have z3 : a.size + sb.size ≤ 9223372036854775807 := by omega
      have z4 : (a ++ sb).size + b.size ≤ 9223372036854775807 := by omega
      have e5 : fieldsS (a ++ sb ++ b) = F ++ G := by rw [HSB.out, Pf.fields_both a b cb HC.out, ← HF.out, ← HG.out]
      have cfb : Hid (∀ wx, Calls Tryd.prog 15 #[.string (a ++ sb ++ b)] wx (RetS wx (F ++ G))) := Lib.hid (fun wx => by have := nFieldsR (a ++ sb ++ b) wx (by omega); rwa [e5] at this)
      have ccc : Hid (∀ wx, Calls Tryd.prog 17 #[.string (Ms.collS a)] wx fun e w' => e = .returned (.string (Ms.collS a)) ∧ Below wx.heap.size wx w') := Lib.hid (fun wx => by have := Ms.nCollapse (Ms.collS a) wx (by omega); rwa [Pf.coll_coll] at this)
      have cfc : Hid (∀ wx, Calls Tryd.prog 15 #[.string (Ms.collS a)] wx (RetS wx F)) := Lib.hid (fun wx => by have := nFieldsR (Ms.collS a) wx (by omega); rwa [Pf.fields_coll, ← HF.out] at this)
      have ctc : Hid (∀ wx, Calls Tryd.prog 16 #[.string (Ms.collS a)] wx fun e w' => e = .returned (.string (Ms.collS a)) ∧ wx = w') := Lib.hid (fun wx => by have := Tx.nTrim (Ms.collS a) wx (by unfold maxLen; omega); rwa [Pf.trim_coll] at this)
      have e6 := Lib.hid (sameL_self (F ++ G))
      have e7 := sameL_self F
      clear e5
      go_wp2_with fail
      refine (cfb.out _).mono ?_
      rintro e w5 ⟨A5, c5, rfl, o5, b5⟩
      have c5b := seq c4b b5
      have rf5 := Lib.hid (rf4.out.below b5)
      have rg5 := Lib.hid (rg4.out.below b5)
      clear b5 c4b
      have o0 : (w5.alloc (.cells #[] 9)).ownsRow w5.heap.size 9 1 (.slice (some ⟨w5.heap.size, 0, none⟩) 0 0) 0 [] := World.ownsRow_made w5 #[] 0 (Nat.le_refl _) (by decide) rfl
      have b0 : Below w5.heap.size w5 (w5.alloc (.cells #[] 9)) := (Below.refl _ _).alloc (Nat.le_refl _) _
      have hlF : (F.map Value.string).length = F.length * 1 := by simp
      have hlG : (G.map Value.string).length = G.length * 1 := by simp
      have m1 : 0 + F.length ≤ maxLen := by unfold maxLen; omega
      have m2 : (0 + F.length) * 16 ≤ 140737488355328 := by omega
      have m3 : 0 + F.length + G.length ≤ maxLen := by unfold maxLen; omega
      have m4 : (0 + F.length + G.length) * 16 ≤ 140737488355328 := by omega
      have m5 : w5.heap.size ≤ (w5.alloc (.cells #[] 9)).heap.size := b0.size
      have rf5' := (rf5.out.below b0)
      have M := Lib.hid (And.intro m1 (And.intro m2 (And.intro m3 m4)))
      have HLF := Lib.hid hlF
      have HLG := Lib.hid hlG
      clear hlF hlG m1 m2 m3 m4
      go_wp2_with (at_builtin; refine wpList_append_src _ rfl (.tmp 53) (.tmp 54) 25 rfl w5.heap.size 9 i0 (.string ByteArray.empty) 1 16 Tryd.underlying25 hi hz0 hz1 hz2 rfl (by decide) _ _ _ rfl o0 A1 F.length c1 (F.map Value.string) rfl HLF.out rf5'.cells strs_one M.out.1 M.out.2.1 m5 ?_)
      intro v6 w6 o6 g6 _
      have b6 : Below w5.heap.size w5 w6 := b0.grown g6 b0.size (own_ge o0)
      have o6' : w6.ownsRow w5.heap.size 9 1 v6 (0 + F.length) (F.map Value.string) := by simpa using o6
      have rg6 := (rg5.out.below b6)
      have m6 := b6.size
      clear o6 g6 o0 b0 m5 rf5'
      go_wp2_with (at_builtin; refine wpList_append_src _ rfl (.tmp 55) (.tmp 56) 25 rfl w5.heap.size 9 i0 (.string ByteArray.empty) 1 16 Tryd.underlying25 hi hz0 hz1 hz2 rfl (by decide) _ _ _ rfl o6' A2 G.length c2 (G.map Value.string) rfl HLG.out rg6.cells strs_one M.out.2.2.1 M.out.2.2.2 m6 ?_)
      intro v7 w7 o7 g7 _
      have b7 : Below w5.heap.size w5 w7 := b6.grown g7 b6.size (own_ge o6')
      have o7' : Own w7 w5.heap.size v7 (F ++ G) := by unfold Own; simpa using o7
      obtain ⟨A7, c7, hv7⟩ := o7'.form
      rw [hv7] at o7' ⊢
      have c7b := seq c5b b7
      have r57 := o5.rd.below b7
      have rf7 := Lib.hid (rf5.out.below b7)
      have e8 : (F ++ G).length = F.length + G.length := List.length_append
      have q57 := r57
      have q7 := o7'.rd
      rw [e8] at q57 q7
      clear e8
      have hlen : F.length + G.length ≤ 9223372036854775807 := by omega
      clear o7 g7 o6' b6 b7 c5b rg6 rg5 rf5 o5 m6
      go_wp2_with fail
      (with_reducible refine (Ms.lSame w7 q57 q7 hlen hlen).mono ?_)
      rintro e w8 ⟨rfl, b8⟩
      rw [e6.out]
      have c8b := seq c7b b8
      have rf8 := Lib.hid (rf7.out.below b8)
      clear c7b b8 o7' r57 hlen q57 q7
      go_wp2_with fail
      refine (ccc.out _).mono ?_
      rintro e w9 ⟨rfl, b9⟩
      have c9b := seq c8b b9
      have rf9 := Lib.hid (rf8.out.below b9)
      clear c8b b9
      go_wp2_with fail
      refine (cfc.out _).mono ?_
      rintro e wa ⟨Aa, ca, rfl, oa, ba⟩
      have cab := seq c9b ba
      have rfa := rf9.out.below ba
      clear c9b ba
      go_wp2_with fail
      refine (Ms.lSame wa oa.rd rfa (by omega) (by omega)).mono ?_
      rintro e wb ⟨rfl, bb⟩
      have cbb := seq cab bb
      clear cab bb oa rfa
      go_wp2_with fail
      refine (ctc.out _).mono ?_
      rintro e wc ⟨rfl, rfl⟩
      go_wp2_with fail
      refine (chain cbb (awake _ (ht.below cbb))).mono ?_
      rintro e wd ⟨rfl, bd⟩
      go_wp2_with fail
      go_ret
      exact ⟨rfl, bd⟩
end Go.Proofs.YtknpppppjmhomaaDoor.namesFields
