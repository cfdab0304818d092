/- The reference's Push: the stack behind a name. -/
import Derived.Test.YtddgpkdhakjjaaaDoorRu
import Derived.Test.YtddgpkdhakjjaaaDoorRo
set_option linter.unusedVariables false
set_option linter.unusedSimpArgs false
namespace Go.Proofs.YtddgpkdhakjjaaaDoor.Rv
open Go.Proofs.YtddgpkdhakjjaaaDoor.Np hiding is_li is_dt is_dd is_textarea is_a
open Go.RowKit Lb Fl Is Tp Wk Wp Wi Wo Pt Oc Pm Go.Proofs.YtddgpkdhakjjaaaDoor.Ask Rt Go.Proofs.YtddgpkdhakjjaaaDoor.Op Aw Lt Lw Sp Ap En El Rn Ri Rj Rp Rq Go.Proofs.YtddgpkdhakjjaaaDoor.Eq Ro Sl Sm Pu Ru

set_option maxHeartbeats 3200000 in
set_option maxRecDepth 100000 in
theorem pushR (w : World) (A : Option Addr) (n c : Nat) (s : List ByteArray) (x : ByteArray) (hr : Rd w A n s) (hc : n ≤ c) (hc2 : c ≤ 9223372036854775807) (hcc : noCC s) (hn : n ≤ 10000000) :
    Calls Tryd.prog 38 #[.slice A n c, .string x] w fun e w' => ∃ A3 c3, e = .returned (.slice A3 (upN s x).length c3) ∧ Fl.Own w' w.heap.size (.slice A3 (upN s x).length c3) (upN s x) ∧ Below w.heap.size w w' := by
  obtain ⟨i0, hi, hz0, hz1, hzb⟩ := info_parts infoStr
  have hO := rOpenC w A n c s x hr hc hc2
  rw [rS_eq hcc, rP_eq hcc] at hO
  have hnl := hr.1
  have hk : (askS x s).length ≤ n := by rw [hnl]; exact askS_len x s
  have hm := askP_4 x s
  have hA : ∀ W A2 c2, Below w.heap.size w W → Rd W A2 (askP x s).length (askP x s) → Calls Tryd.prog 29 #[.slice A n c, .agg #[.int .i64 ((n : Int) - ((askS x s).length : Int)), .slice A2 (askP x s).length c2, .bool false]] W fun e w' =>
      ∃ A3 c3, e = .returned (.slice A3 ((askS x s).length + (askP x s).length) c3) ∧ Fl.Own w' W.heap.size (.slice A3 ((askS x s).length + (askP x s).length) c3) (askS x s ++ askP x s) ∧ Below W.heap.size W w' := fun W A2 c2 h h2 => by
    have h1 := rApplyC W A A2 n c (askP x s).length c2 (askS x s).length s (askP x s) false (hr.below h) h2 hc hc2 hk (by omega) (by omega)
    rwa [askS_take] at h1
  have hup : ∀ z, inS x 0 = z → upN s x = askS x s ++ askP x s ++ (if z then [] else [x]) := fun z hz => by unfold upN; rw [hz]
  have hlen : (askS x s ++ askP x s).length = (askS x s).length + (askP x s).length := List.length_append
  have HO := Lib.hid hO
  have HA := Lib.hid hA
  have HUP := Lib.hid hup
  generalize upN s x = U at *
  generalize askS x s = S at *
  generalize askP x s = P at *
  obtain ⟨k, hk1⟩ : ∃ k, S.length = k := ⟨_, rfl⟩
  obtain ⟨m, hm1⟩ : ∃ m, P.length = m := ⟨_, rfl⟩
  rw [hk1, hm1] at HA hlen
  rw [hk1, hm1] at HO
  have hkm : k + m ≤ 10000010 := by omega
  have HL := Lib.hid hlen
  clear hO hA hr hnl hup hcc hlen hk hm hk1 hm1
  cases hv : inS x 0
  · have hU : U = S ++ P ++ [x] := HUP.out false hv
    rw [hU]
    clear HUP hU
    go_enter Tryd.func38, Tryd.ntmps38
    go_upto_region 4 with (first
      | (go_at_call 25; refine HO.out.mono ?_; rintro e w1 ⟨A2, c2, rfl, ⟨hr2, _⟩, hb1⟩)
      | (go_at_call 29; refine (HA.out _ _ _ hb1 hr2).mono ?_; rintro e w2 ⟨A3, c3, rfl, ho3, hb2⟩)
      | (go_at_call 45; refine (rIn x 0 _).mono ?_; rintro e w3 ⟨rfl, hb3⟩; rw [hv]))
    have hbw2 := seq hb1 hb2
    have ho4 : Fl.Own (w3.alloc (.cells #[.string x] 9)) w.heap.size (.slice A3 (k + m) c3) (S ++ P) := (own_mono (ho3.below hb3) hb1.size).alloc _
    have hb4 := (seq hbw2 hb3).alloc (seq hbw2 hb3).size (.cells #[.string x] 9)
    go_wp2_with (at_builtin; refine wpList_append_src _ rfl (.tmp 14) (.tmp 16) 25 rfl w.heap.size 9 i0 (.string ByteArray.empty) 1 16 Tryd.underlying25 hi hz0 hz1 hzb rfl (by decide) _ _ _ rfl ho4 (some ⟨_, 0, none⟩) 1 1 [.string x] rfl rfl (one_src _ _ _ _ (by first | rfl | simp)) (Lb.one_cell rfl) (by have := HL.out; unfold maxLen; omega) (by have := HL.out; omega) hb4.size ?_; intro v9 w9 hown9 hgrow9 hrow9; obtain ⟨A9, m9, c9, hv9⟩ := slice_of hown9; subst hv9)
    have ho9 : Fl.Own w9 w.heap.size (.slice A9 m9 c9) (S ++ P ++ [x]) := Own.push hown9
    obtain ⟨A10, c10, h10⟩ := ho9.form
    injection h10 with r1 r2 r3
    subst r2
    go_wp2
    go_ret
    exact ⟨A9, c9, rfl, ho9, hb4.grown hgrow9 hb4.size (fun j hj => ho4.ge j hj)⟩
  · have hU : U = S ++ P := by have := HUP.out true hv; simpa using this
    rw [hU]
    clear HUP hU
    go_enter Tryd.func38, Tryd.ntmps38
    go_wp2_with (first
      | (go_at_call 25; refine HO.out.mono ?_; rintro e w1 ⟨A2, c2, rfl, ⟨hr2, _⟩, hb1⟩)
      | (go_at_call 29; refine (HA.out _ _ _ hb1 hr2).mono ?_; rintro e w2 ⟨A3, c3, rfl, ho3, hb2⟩)
      | (go_at_call 45; refine (rIn x 0 _).mono ?_; rintro e w3 ⟨rfl, hb3⟩; rw [hv]))
    go_ret
    rw [HL.out]
    exact ⟨A3, c3, rfl, own_mono (ho3.below hb3) hb1.size, seq (seq hb1 hb2) hb3⟩
end Go.Proofs.YtddgpkdhakjjaaaDoor.Rv
