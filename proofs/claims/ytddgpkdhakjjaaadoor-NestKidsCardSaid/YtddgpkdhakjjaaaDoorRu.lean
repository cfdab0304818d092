/- nest.Run: the stack that comes of names. -/
import Derived.Deep.RegionLaw
import Derived.Test.YtddgpkdhakjjaaaDoorPu
set_option linter.unusedVariables false
set_option linter.unusedSimpArgs false
namespace Go.Proofs.YtddgpkdhakjjaaaDoor.Ru
open Go.Proofs.YtddgpkdhakjjaaaDoor.Np hiding is_li is_dt is_dd is_textarea is_a
open Go.RowKit Lb Fl Is Tp Wk Wp Wi Wo Pt Oc Pm Go.Proofs.YtddgpkdhakjjaaaDoor.Ask Rt Go.Proofs.YtddgpkdhakjjaaaDoor.Op Aw Lt Lw Sp Ap En El Rn Ri Rj Rp Rq Go.Proofs.YtddgpkdhakjjaaaDoor.Eq Sl Sm Pu

/-- the stack behind a name -/
def upN (st : List ByteArray) (x : ByteArray) : List ByteArray := askS x st ++ askP x st ++ (if inS x 0 then [] else [x])
def runL (l : List ByteArray) : List ByteArray := l.foldl upN []
theorem up_len (st : List ByteArray) (x : ByteArray) : (upN st x).length ≤ st.length + 5 := by
  unfold upN
  have h1 := askS_len x st
  have h2 := askP_4 x st
  simp only [List.length_append]
  split <;> simp <;> omega
theorem fold_len : ∀ (l st : List ByteArray), (l.foldl upN st).length ≤ st.length + 5 * l.length
  | [], st => by simp
  | x :: r, st => by
    have h1 := fold_len r (upN st x)
    have h2 := up_len st x
    rw [List.foldl_cons, List.length_cons]
    omega
theorem run_len (l : List ByteArray) : (runL l).length ≤ 5 * l.length := by
  have := fold_len l []
  unfold runL
  simp at this
  exact this
theorem run_snoc {l : List ByteArray} {j : Nat} (h : j < l.length) : runL (l.take (j + 1)) = upN (runL (l.take j)) l[j] := by
  unfold runL
  rw [List.take_succ_eq_append_getElem h, List.foldl_append]
  rfl
theorem up_right {st : List ByteArray} {x : ByteArray} (h : rightB st = true) (hx : inS x 15 = true) : rightB (upN st x) = true := by
  unfold upN
  cases hv : inS x 0
  · exact ask_push h hx hv
  · simp only [if_true, List.append_nil]
    exact ask_right h
theorem run_right (l : List ByteArray) (h : ∀ x ∈ l, inS x 15 = true) : rightB (runL l) = true := by
  unfold runL
  suffices ∀ (l st : List ByteArray), rightB st = true → (∀ x ∈ l, inS x 15 = true) → rightB (l.foldl upN st) = true from this l [] (by decide +kernel) h
  intro l
  induction l with
  | nil => intro st hs _; exact hs
  | cons x r ih => intro st hs h; exact ih _ (up_right hs (h x (List.mem_cons_self ..))) (fun y hy => h y (List.mem_cons_of_mem _ hy))
def allB (l : List ByteArray) : Bool := l.all fun x => inS x 15
theorem all_yes {l : List ByteArray} (h : ∀ j (hj : j < l.length), inS l[j] 15 = true) : allB l = true := by
  unfold allB
  rw [List.all_eq_true]
  intro x hx
  obtain ⟨j, hj, rfl⟩ := List.getElem_of_mem hx
  exact h j hj
theorem all_no {l : List ByteArray} {j : Nat} (hj : j < l.length) (h : inS l[j] 15 = false) : allB l = false := by
  unfold allB
  rw [List.all_eq_false]
  exact ⟨_, List.getElem_mem hj, by rw [h]; simp⟩

/-- the post of Run -/
def RunP (w : World) (l : List ByteArray) (e : Ending) (w' : World) : Prop :=
  if allB l then (∃ A2 c2, e = .returned (.tuple #[.slice A2 (runL l).length c2, .int .i64 0]) ∧ Fl.Own w' w.heap.size (.slice A2 (runL l).length c2) (runL l) ∧ Below w.heap.size w w')
  else (e = .returned (.tuple #[.slice none 0 0, .int .i64 160]) ∧ Below w.heap.size w w')
set_option maxHeartbeats 6400000 in
set_option maxRecDepth 100000 in
theorem runC (w : World) (ht : Tab w) (A : Option Addr) (n c : Nat) (l : List ByteArray) (hr : Rd w A n l) (hn : n ≤ 100000) : Calls Tryd.prog 37 #[.slice A n c] w (RunP w l) := by
  obtain ⟨i0, hi, hz0, hz1, hz2⟩ := info_parts infoStr
  have HR := Lib.hid hr
  have HNL := Lib.hid hr.1
  have HT : Hid (∀ W, Below w.heap.size w W → Tab W) := Lib.hid fun W h => ht.below h
  have FNO : allB l = false → ∀ W, Below w.heap.size w W → RunP w l (.returned (.tuple #[.slice none 0 0, .int .i64 160])) W := fun h W hb => by unfold RunP; rw [h]; exact ⟨rfl, hb⟩
  have FYES : allB l = true → ∀ W A2 m c2, Below w.heap.size w W → Fl.Own W w.heap.size (.slice A2 m c2) (runL l) → RunP w l (.returned (.tuple #[.slice A2 m c2, .int .i64 0])) W := fun h W A2 m c2 hb ho => by
    unfold RunP
    rw [h]
    obtain ⟨A3, c3, h3⟩ := ho.form
    injection h3 with e1 e2 e3
    subst e2
    exact ⟨A2, c2, rfl, ho, hb⟩
  have HFN := Lib.hid FNO
  have HFY := Lib.hid FYES
  generalize RunP w l = Q at *
  clear hr ht FNO FYES
  go_enter Tryd.func37, Tryd.ntmps37
  go_wp2
  go_loopw [12] (fun i wr => ∃ j : Nat, j ≤ n ∧ i = .int .i64 j ∧ Below w.heap.size w wr ∧ Hid (∀ x (hx : x < l.length), x < j → inS l[x] 15 = true)) (fun i _ => n - (intOf i).toNat)
  case atStart => exact ⟨0, Nat.zero_le _, rfl, Below.refl _ _, Lib.hid fun x hx h => absurd h (Nat.not_lt_zero _)⟩
  case round =>
    obtain ⟨j, hj, rfl, hnx, hall⟩ := hrel
    by_cases hlt : j < n
    · have hjl : j < l.length := by have := HNL.out; omega
      obtain ⟨b1, o1, rfl, _, hcx⟩ := HR.out.get hjl
      have hx1 := hcx wr hnx
      obtain ⟨x, hx⟩ : ∃ x, x = l[j] := ⟨_, rfl⟩
      rw [← hx] at hx1
      have HX := Lib.hid hx
      clear hx hcx
      have hb3 : (j : Int) < (n : Int) := by omega
      have hb0 : (0 : Int) ≤ (j : Int) := by omega
      cases hin : inS x 15
      · have hno := Lib.hid (all_no hjl (by rw [← HX.out]; exact hin))
        go_wp2_with (go_at_call 17; refine (nIn x 15 _ (HT.out _ hnx)).mono ?_; rintro e w2 ⟨rfl, hb2⟩; rw [hin])
        exact HFN.out hno.out _ (seq hnx hb2)
      · have hall2 : Hid (∀ y (hy : y < l.length), y < j + 1 → inS l[y] 15 = true) := Lib.hid fun y hy h => by
          by_cases e : y = j
          · subst e; rw [← HX.out]; exact hin
          · exact hall.out y hy (by omega)
        go_wp2_with (go_at_call 17; refine (nIn x 15 _ (HT.out _ hnx)).mono ?_; rintro e w2 ⟨rfl, hb2⟩; rw [hin])
        go_roundw
        case rel => exact ⟨j + 1, by omega, by go_num, seq hnx hb2, hall2⟩
        case measure => simp [intOf] <;> omega
    · have hyes := Lib.hid (all_yes (l := l) (fun y hy => hall.out y hy (by have := HNL.out; omega)))
      clear hall
      go_wp2
      go_loopw [6, 22] (fun st i wr => ∃ (j : Nat) (A2 : Option Addr) (m c2 : Nat), j ≤ n ∧ i = .int .i64 j ∧ st = .slice A2 m c2 ∧ Below w.heap.size w wr ∧ Hid (Fl.Own wr w.heap.size (.slice A2 m c2) (runL (l.take j)))) (fun _ i _ => n - (intOf i).toNat)
      case atStart => exact ⟨0, none, 0, 0, Nat.zero_le _, rfl, rfl, hnx, Lib.hid (Fl.Own.nil _ _)⟩
      case round =>
        clear hnx
        obtain ⟨j, A2, m, c2, hj, rfl, rfl, hnx, hown⟩ := hrel
        by_cases hlt : j < n
        · have hjl : j < l.length := by have := HNL.out; omega
          obtain ⟨b1, o1, rfl, _, hcx⟩ := HR.out.get hjl
          have hx1 := hcx wr hnx
          have hstep := run_snoc hjl
          obtain ⟨x, hx⟩ : ∃ x, x = l[j] := ⟨_, rfl⟩
          rw [← hx] at hx1 hstep
          have HST := Lib.hid hstep
          clear hx hcx hstep
          have hb3 : (j : Int) < (n : Int) := by omega
          have hb0 : (0 : Int) ≤ (j : Int) := by omega
          have hlen : (runL (l.take j)).length ≤ 500000 := by
            have h1 := run_len (l.take j)
            rw [List.length_take] at h1
            omega
          obtain ⟨st, hst⟩ : ∃ st, st = runL (l.take j) := ⟨_, rfl⟩
          rw [← hst] at hown HST hlen
          clear hst
          obtain ⟨hcg, hcg2⟩ := own_cap hown.out
          have hsl := askS_len x st
          have hpl := askP_4 x st
          have hz : Hid (w.heap.size ≤ wr.heap.size) := Lib.hid hnx.size
          go_upto_region 12 with (go_at_call 43; refine askQ _ wr (HT.out _ hnx) A2 m c2 st x hown.out.rd hcg hcg2 ?_; rintro w1 r hb1 ⟨A3, n3, c3, pv, hw1, hc3, hc4, hr3, ho3, _, _⟩; obtain ⟨A4, c4, rfl⟩ := ho3.form)
          have hw1d : Wrk w1.drew wr.heap.size (.slice A3 n3 c3) (.slice A4 (askP x st).length c4) := hw1
          have e0 := hw1d.c0
          have e1 := hw1d.c1
          have hr3n := hr3.1
          have hr3d := (hr3.rd hb1.size).below (drw w1)
          have ho3d := ho3.rd.below (drw w1)
          have hCl := cloneC (c := c3) w1.drew hr3d (by omega)
          have HCL := Lib.hid hCl
          have HO3 := Lib.hid ho3d
          have HW := Lib.hid hw1d
          have HB1 : Hid (Below wr.heap.size wr w1.drew) := Lib.hid (seq hb1 (drw w1))
          obtain ⟨m4, hm4⟩ : ∃ m4, m4 = (askP x st).length := ⟨_, rfl⟩
          rw [← hm4] at e1 hw1d ho3d HW HO3 hpl
          have HM4 := Lib.hid hm4
          have HN3 := Lib.hid hr3n
          have hn3 : n3 ≤ 500000 := by omega
          have hup : ∀ z, inS x 0 = z → upN st x = askS x st ++ askP x st ++ (if z then [] else [x]) := fun z hz => by unfold upN; rw [hz]
          have HUP := Lib.hid hup
          clear hm4 hr3n hw1d hr3d ho3d hCl hsl hup hw1 hr3 ho3 hb1
          generalize askS x st = S at *
          generalize askP x st = P at *
          go_region_law (first
            | ((refine step_src (by rfl) (.tmp 33) (.tmp 37) 25 (by rfl) w1.drew.heap.size 9 i0 (.string ByteArray.empty) 1 16 Tryd.underlying25 hi hz0 hz1 hz2 rfl (by decide) _ _ _ (by rfl) hoc A4 m4 c4 (P.map Value.string) (by rfl) (by simp [HM4.out]) (HO3.out.below hbc).cells (by simp [Value.oneCell']) (by unfold maxLen; rw [← HN3.out]; omega) (by rw [← HN3.out]; omega) hbc.size ?_; intro v' w2 hown' hgrow hrow; obtain ⟨A', m', c', rfl⟩ := slice_of hown'; rw [HM4.out] at hown'; have ho2 := own_app hown'; have hbw2 := HB1.out.trans ((hbc.mono HB1.out.size)); have hb2 := hbw2.grown hgrow (Nat.le_trans HB1.out.size hbc.size) (fun j hj => Nat.le_trans HB1.out.size (hoc.ge j hj))))
            | ((go_simp; refine HCL.out.mono ?_; rintro e wc ⟨Ac, cc, rfl, hoc, hbc⟩; have q0 := (HW.out.below hbc).c0; have q1 := (HW.out.below hbc).c1)))
          all_goals (
            have ho2w : Fl.Own w2 w.heap.size (.slice A' m' c') (S ++ P) := own_mono ho2 (Nat.le_trans hz.out HB1.out.size)
            have hbw2' : Below w.heap.size w w2 := seq hnx hb2
            cases hv : inS x 0
            · have hU := HUP.out false hv
              go_upto_region 14 with (go_at_call 17; refine (nIn x 0 _ (HT.out _ hbw2')).mono ?_; rintro e w3 ⟨rfl, hb3⟩; rw [hv])
              have ho4 : Fl.Own (w3.alloc (.cells #[.string x] 9)) w.heap.size (.slice A' m' c') (S ++ P) := (ho2w.below hb3).alloc _
              have hb4 := (seq hbw2' hb3).alloc (seq hbw2' hb3).size (.cells #[.string x] 9)
              have hlen4 : (S ++ P).length ≤ 500004 := by rw [List.length_append, ← HN3.out, ← HM4.out]; omega
              have HL4 := Lib.hid hlen4
              clear hlen4
              go_wp2_with (at_builtin; refine wpList_append_src _ rfl (.tmp 42) (.tmp 44) 25 rfl w.heap.size 9 i0 (.string ByteArray.empty) 1 16 Tryd.underlying25 hi hz0 hz1 hz2 rfl (by decide) _ _ _ rfl ho4 (some ⟨_, 0, none⟩) 1 1 [.string x] rfl rfl (one_src _ _ _ _ (by first | rfl | simp)) (Lb.one_cell rfl) (by have := HL4.out; unfold maxLen; omega) (by have := HL4.out; omega) hb4.size ?_; intro v9 w9 hown9 hgrow9 hrow9; obtain ⟨A9, m9, c9, hv9⟩ := slice_of hown9; subst hv9)
              have ho9 : Fl.Own w9 w.heap.size (.slice A9 m9 c9) (S ++ P ++ [x]) := Own.push hown9
              go_roundw
              case rel => exact ⟨j + 1, A9, m9, c9, by omega, by go_num, rfl, hb4.grown hgrow9 hb4.size (fun k hk => ho4.ge k hk), Lib.hid (by rw [HST.out, hU]; exact ho9)⟩
              case measure => simp [intOf] <;> omega
            · have hU := HUP.out true hv
              go_wp2_with (go_at_call 17; refine (nIn x 0 _ (HT.out _ hbw2')).mono ?_; rintro e w3 ⟨rfl, hb3⟩; rw [hv])
              go_roundw
              case rel => exact ⟨j + 1, A', m', c', by omega, by go_num, rfl, seq hbw2' hb3, Lib.hid (by rw [HST.out, hU]; simp only [if_true, List.append_nil]; exact ho2w.below hb3)⟩
              case measure => simp [intOf] <;> omega)
        · have hfin : Hid (Fl.Own wr w.heap.size (.slice A2 m c2) (runL l)) := Lib.hid (by
            have h1 := hown.out
            rwa [List.take_of_length_le (by have := HNL.out; omega)] at h1)
          go_wp2
          exact HFY.out hyes.out _ _ _ _ hnx hfin.out
end Go.Proofs.YtddgpkdhakjjaaaDoor.Ru
