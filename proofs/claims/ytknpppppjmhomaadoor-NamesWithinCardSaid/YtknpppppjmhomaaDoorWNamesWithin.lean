/- NamesWithin: sets within others, and what no set may have. For every name, no condition. (The walk.) -/
import Derived.Deep.Cut
import Derived.Test.YtknpppppjmhomaaDoorWf
import Derived.Test.YtknpppppjmhomaaDoorForms
import Derived.Test.YtknpppppjmhomaaDoorMisc
import Derived.Laws.OwnMore
import Derived.Deep.Cut
import Derived.Deep.RegionHeld3
import Derived.Deep.MidRow
import Derived.Test.YtknpppppjmhomaaDoorAwake
set_option linter.unusedVariables false
set_option linter.unusedSimpArgs false
namespace Go.Proofs.YtknpppppjmhomaaDoor.namesWithin
open Go.RowKit Lb Fl Is Aw Kn Tb Sh Sy Ct Ms St Wf Fm

theorem run_neq_arr (cs : Array Value) (w : World) (h : (Op.equalIn 10000 48 (.agg cs) (.agg cs)).run Tryd.prog w = .ok true w) : (binOp .neq 48 (.agg cs) (.agg cs)).run Tryd.prog w = .ok (.bool false) w := by
  rw [run_neq_struct, h]
  rfl
theorem arr_16 (f : Nat → Nat) : arr f = #[.int .i64 (f 0 : Int), .int .i64 (f 1 : Int), .int .i64 (f 2 : Int), .int .i64 (f 3 : Int), .int .i64 (f 4 : Int), .int .i64 (f 5 : Int), .int .i64 (f 6 : Int), .int .i64 (f 7 : Int), .int .i64 (f 8 : Int), .int .i64 (f 9 : Int), .int .i64 (f 10 : Int), .int .i64 (f 11 : Int), .int .i64 (f 12 : Int), .int .i64 (f 13 : Int), .int .i64 (f 14 : Int), .int .i64 (f 15 : Int)] := rfl

set_option maxHeartbeats 4000000 in
set_option maxRecDepth 100000 in
theorem walk (s : ByteArray) (w : World) (ht : Tab w) : Calls Tryd.prog 12 #[.string s] w fun e w' => e = .returned (.bool true) ∧ Below w.heap.size w w' := by
  have HT : Hid (∀ W, Below w.heap.size w W → Tab W) := Lib.hid fun W h => ht.below h
  have hb0 := Below.refl w.heap.size w
  clear ht
  go_enter Tryd.func12, Tryd.ntmps12
  go_upto_region 1 with fail
  go_cut [39] from 10 (fun s39 wx => s39 = .bool false ∧ Below w.heap.size w wx)
  case first =>
    rcases q01 s with h0 | ⟨h0, h1⟩ <;> rcases q8 s with h8 | ⟨h8, h9, h10⟩ <;> rcases q56 s with h5 | ⟨h5, h6⟩
    all_goals (
      go_wp2_with (go_at_call 47; refine (nIn s _ _ (HT.out _ (by first | exact hbw | exact hb0))).mono ?_; rintro e w3 ⟨rfl, hb3⟩; have hbw := seq (by first | exact hbw | exact hb0) hb3; clear hb3; first | rw [h0] | rw [h8] | rw [h5] | rw [h1] | rw [h9] | rw [h10] | rw [h6])
      go_meet
      case rel => exact ⟨rfl, hbw⟩)
  case rest =>
    clear hb0
    obtain ⟨rfl, hb0⟩ := hcut
    go_upto_region 3 with fail
    go_cut [69] from 10 (fun s69 wx => s69 = .bool false ∧ Below w.heap.size w wx)
    case first =>
      rcases q64 s with h6 | ⟨h6, h4⟩ <;> rcases qf s with hf | ⟨hf, h3, h2, e1, e2⟩ | ⟨hf, h3, h2, e0, e00, e1, e2⟩
      all_goals (
        go_wp2_with (go_at_call 47; refine (nIn s _ _ (HT.out _ (by first | exact hbw | exact hb0))).mono ?_; rintro e w3 ⟨rfl, hb3⟩; have hbw := seq (by first | exact hbw | exact hb0) hb3; clear hb3; first | rw [h6] | rw [hf] | rw [h4] | rw [h3] | rw [h2])
        go_meet
        case rel => exact ⟨rfl, hbw⟩)
    case rest =>
      obtain ⟨rfl, hb1⟩ := hcut
      clear hb0
      obtain ⟨N, hN⟩ : ∃ N, N = setsL s 16 := ⟨_, rfl⟩
      have hsl : N.length ≤ 16 := hN ▸ sets_len s 16
      have HTG : Hid (0 < N.length → wrt false s.data.toList = true) := Lib.hid (hN ▸ sets_tag)
      have hst : ∀ W, Tab W → Calls Tryd.prog 51 #[.string s] W fun e w' => RetN W 22 N e w' := fun W h => hN ▸ setsC s W h
      have HST := Lib.hid hst
      have HN := Lib.hid hN
      clear hst hN
      go_upto_region 6 with (go_at_call 51; refine (HST.out _ (HT.out _ hb1)).mono ?_; rintro e w2 ⟨A2, c2, rfl, ho2, hb2⟩; have hzs := hb1.size)
      have hbw2 := seq hb1 hb2
      clear hb1 hb2
      go_cut [3, 79] from 10 (fun s3 s79 wx => w2 = wx ∧ s3 = .slice A2 N.length c2 ∧ s79 = .bool false)
      case first =>
        by_cases hp : 0 < N.length
        · have hp' : (0 : Int) < (N.length : Int) := by omega
          have htg := HTG.out hp
          go_wp2_with (go_at_call 40; refine (nTagName _ _).mono ?_; rintro e w3 ⟨rfl, rfl⟩; rw [htg])
          go_meet
          case rel => exact ⟨rfl, rfl, rfl⟩
        · have hp' : ¬ (0 : Int) < (N.length : Int) := by omega
          go_wp2_with fail
          go_meet
          case rel => exact ⟨rfl, rfl, rfl⟩
      case rest =>
        obtain ⟨rfl, rfl, rfl⟩ := hcut
        go_upto_region 9 with fail
        obtain ⟨a, ha⟩ : ∃ a, a = w2.heap.size := ⟨_, rfl⟩
        obtain ⟨X, hX⟩ : ∃ X, X = w2.alloc (.cells (arr fun _ => 0) 48) := ⟨_, rfl⟩
        have hX0 : AC X a (fun _ => 0) := by rw [hX, ha]; exact heap_alloc_new w2 _
        have hX1 : AC X a (ons s 0) := hX0.congr (fun k _ => (ons_0 s k).symm)
        have hbX : Below w2.heap.size w2 X := hX ▸ (Below.refl _ _).alloc (Nat.le_refl _) _
        have hXs : w2.heap.size = a := ha.symm
        rw [show (w2.alloc (.cells #[.int .i64 0, .int .i64 0, .int .i64 0, .int .i64 0, .int .i64 0, .int .i64 0, .int .i64 0, .int .i64 0, .int .i64 0, .int .i64 0, .int .i64 0, .int .i64 0, .int .i64 0, .int .i64 0, .int .i64 0, .int .i64 0] 48)) = X from hX.symm, ← ha]
        have hbwX := seq hbw2 hbX
        have hza : w.heap.size ≤ a := by rw [ha]; exact hbw2.size
        have HXA := Lib.hid hX1
        have HO : Hid (∀ W, Below a w2 W → OwnN W w.heap.size 22 (.slice A2 N.length c2) N) := Lib.hid fun W h => ((own_up ho2 hzs).below (ha ▸ h))
        have HbX : Hid (Below a w2 X) := Lib.hid (ha ▸ hbX)
        clear hX hX0 hX1 hbX ha ho2
        go_wp2_with fail
        go_loopw [82] (fun i wr => ∃ j : Nat, j ≤ N.length ∧ i = .int .i64 j ∧ Below w.heap.size w wr ∧ Hid (Below a w2 wr) ∧ Hid (AC wr a (ons s j))) (fun i _ => N.length - (intOf i).toNat)
        case atStart => exact ⟨0, Nat.zero_le _, rfl, hbwX, HbX, HXA⟩
        case round =>
          clear hbwX HbX HXA
          obtain ⟨j, hj, rfl, hnx, hn2, hac⟩ := hrel
          by_cases hlt : j < N.length
          · have hb0 : (0 : Int) ≤ (j : Int) := by omega
            have hb3 : (j : Int) < (N.length : Int) := by omega
            obtain ⟨g, o, rfl, hgB, hgo, hcell5⟩ := own_num (HO.out wr hn2.out) hlt
            have hc5 := hcell5 wr hgo
            obtain ⟨k, hk⟩ : ∃ k, k = N[j] := ⟨_, rfl⟩
            have hks : k ∈ setsL s 16 := by rw [hk, ← HN.out]; exact List.getElem_mem hlt
            have hkm := sets_mem.1 hks
            obtain ⟨hk16, hin⟩ := hkm

            rw [← hk] at hc5
            have hlt2 : j < (setsL s 16).length := by rw [← HN.out]; exact hlt
            have hk2 : k = (setsL s 16)[j] := by rw [hk]; congr 1 <;> exact HN.out
            have hx0 : ons s j k = 0 := by rw [hk2]; exact ons_new hlt2
            have HSET : Hid (∀ W, AC W a (ons s j) → AC (W.setCell ⟨a, k, none⟩ (.int .i64 1)) a (ons s (j + 1))) := Lib.hid fun W h => h.set hk16 (by rw [hk2, ons_at hlt2]; rfl) (fun q _ hq => ons_other hlt2 (by rw [← hk2]; exact hq))
            have hk0 : (0 : Int) ≤ (k : Int) := by omega
            have hk3 : (k : Int) < (16 : Int) := by omega
            have hk4 : ¬ (k : Int) < 0 := by omega
            have hk5 : ¬ (15 : Int) < (k : Int) := by omega
            have hza2 : a ≤ wr.heap.size := by have := hac.out.lt; omega
            have HX0 := Lib.hid hx0
            have HIN := Lib.hid hin
            clear hx0 hk2 hlt2 hks hk hin hcell5 hgo
            go_wp2_with (go_at_call 47; refine (nIn s _ _ (HT.out _ hnx)).mono ?_; rintro e w3 ⟨rfl, hbx⟩; rw [HIN.out]; have hac3 := hac.out.below hbx; have hcc := hac3.c hk16; have hff := hac3.fz k; rw [HX0.out] at hcc)
            have hnx3 := seq hnx hbx
            have hn23 := hn2.out.trans (hbx.mono hza2)
            go_roundw
            case rel => exact ⟨j + 1, by omega, by go_num, hnx3.setCell (p := ⟨a, k, none⟩) hza _, Lib.hid (hn23.setCell (p := ⟨a, k, none⟩) (Nat.le_refl _) _), Lib.hid (HSET.out _ hac3)⟩
            case measure => simp [intOf] <;> omega
          · obtain rfl : j = N.length := by omega
            have hacf : AC wr a (cnt [s]) := hac.out.congr (fun k hk => by rw [HN.out]; exact ons_all s hk)
            have heq := fun W => equal_arr (cnt [s]) W
            have hne := fun W => run_neq_arr _ W (heq W)
            have hcn := fun W A (h : Fl.Rd W A 1 [s]) (h2 : Tab W) => countC W A 1 1 [s] h (by omega) h2
            unfold RetC at hcn
            unfold AC at hacf
            rw [arr_16] at heq hne hcn hacf
            clear heq
            generalize (cnt [s] 0 : Int) = y0 at *
            generalize (cnt [s] 1 : Int) = y1 at *
            generalize (cnt [s] 2 : Int) = y2 at *
            generalize (cnt [s] 3 : Int) = y3 at *
            generalize (cnt [s] 4 : Int) = y4 at *
            generalize (cnt [s] 5 : Int) = y5 at *
            generalize (cnt [s] 6 : Int) = y6 at *
            generalize (cnt [s] 7 : Int) = y7 at *
            generalize (cnt [s] 8 : Int) = y8 at *
            generalize (cnt [s] 9 : Int) = y9 at *
            generalize (cnt [s] 10 : Int) = y10 at *
            generalize (cnt [s] 11 : Int) = y11 at *
            generalize (cnt [s] 12 : Int) = y12 at *
            generalize (cnt [s] 13 : Int) = y13 at *
            generalize (cnt [s] 14 : Int) = y14 at *
            generalize (cnt [s] 15 : Int) = y15 at *
            have HS : Hid (∀ W, Below wr.heap.size wr W → W.rangeAt a 0 [.int .i64 y0, .int .i64 y1, .int .i64 y2, .int .i64 y3, .int .i64 y4, .int .i64 y5, .int .i64 y6, .int .i64 y7, .int .i64 y8, .int .i64 y9, .int .i64 y10, .int .i64 y11, .int .i64 y12, .int .i64 y13, .int .i64 y14, .int .i64 y15]) := Lib.hid fun W hW => by
              have h1 := (hW.block a (Array.getElem?_eq_some_iff.1 hacf).1).trans hacf
              intro q v hq
              rw [Nat.zero_add]
              simpa [World.cell?, h1] using hq
            have HNE := Lib.hid hne
            have HCN := Lib.hid hcn
            obtain ⟨Z, hZ⟩ : ∃ Z, Z = (wr.alloc (.cells #[.string s] 9)).drew := ⟨_, rfl⟩
            have hrz : Fl.Rd Z (some ⟨wr.heap.size, 0, none⟩) 1 [s] := by
              have h0 : Fl.Own (wr.alloc (.cells #[.string s] 9)) wr.heap.size (.slice (some ⟨wr.heap.size, 0, none⟩) 1 1) [s] := by
                unfold Fl.Own
                exact World.ownsRow_lit wr #[.string s] 1 (Nat.le_refl _) (by unfold maxLen; omega) rfl
              rw [hZ]
              exact h0.rd.below (Go.Proofs.YtknpppppjmhomaaDoor.Wf.drw _)
            have hbA : Below wr.heap.size wr (wr.alloc (.cells #[.string s] 9)) := (Below.refl _ _).alloc (Nat.le_refl _) _
            have hbZ : Below wr.heap.size wr Z := hZ ▸ hbA.trans ((Go.Proofs.YtknpppppjmhomaaDoor.Wf.drw _).mono (by simp))
            have HZ := Lib.hid hZ
            have HRD := Lib.hid hrz
            clear hZ hrz
            have hS0 := HS.out _ (Below.refl _ _)
            clear hacf hne hcn hac hn2
            go_upto_region 16 with fail
            go_cut [108] from 10 (fun s108 wx => s108 = .bool false ∧ Below w.heap.size w wx)
            case first =>
              have hz := HNE.out
              have hu := Tryd.underlying48
              have hif : (Tryd.prog.info? 48).map (·.size) = some [Value.int .i64 y0, .int .i64 y1, .int .i64 y2, .int .i64 y3, .int .i64 y4, .int .i64 y5, .int .i64 y6, .int .i64 y7, .int .i64 y8, .int .i64 y9, .int .i64 y10, .int .i64 y11, .int .i64 y12, .int .i64 y13, .int .i64 y14, .int .i64 y15].length := by kernel_rfl
              go_region_held3 (fun W => W.rangeAt a 0 [.int .i64 y0, .int .i64 y1, .int .i64 y2, .int .i64 y3, .int .i64 y4, .int .i64 y5, .int .i64 y6, .int .i64 y7, .int .i64 y8, .int .i64 y9, .int .i64 y10, .int .i64 y11, .int .i64 y12, .int .i64 y13, .int .i64 y14, .int .i64 y15]) (first | exact hS0 | exact HS.out _ hbA | exact HS.out _ (HZ.out ▸ hbZ) | exact HS.out _ hb6)
                (first | (go_at_call 53; rw [show (wr.alloc (.cells #[.string s] 9)).drew = Z from HZ.out.symm]; refine (HCN.out _ _ HRD.out (HT.out _ (seq hnx hbZ))).mono ?_; rintro e w5 ⟨rfl, hb5⟩; have hb6 := seq hbZ hb5))
              all_goals (go_wp2_with fail; go_meet; case rel => exact ⟨rfl, seq hnx hb6⟩)
            case rest =>
              obtain ⟨rfl, hbw⟩ := hcut
              have HK := Lib.hid (fun W h => knownC W h)
              have hkl := known_len
              have HAM := Lib.hid (amg_all s)
              have HA0 := Lib.hid (amg_0 s knownL)
              have HAS := Lib.hid (fun j (h : j < knownL.length) => amg_succ (s := s) h)
              rw [← HN.out] at HAM
              clear HN HTG hsl hS0 HS hbA hbZ HZ HRD HNE HCN HO hnx hj
              generalize knownL = KL at *
              go_upto_region 20 with (go_at_call 55; refine (HK.out _ (HT.out _ hbw)).mono ?_; rintro e w5 ⟨A5, c5, rfl, ho5, hb5⟩)
              have hbw5 := seq hbw hb5
              have hr5 := Lib.hid ho5.rd
              clear ho5 hb5 hbw
              go_loopw [7, 111] (fun b i wr => ∃ j : Nat, j ≤ KL.length ∧ i = .int .i64 j ∧ b = .bool (amg s KL j) ∧ Below w.heap.size w wr ∧ Hid (Below w5.heap.size w5 wr)) (fun _ i _ => KL.length - (intOf i).toNat)
              case atStart => exact ⟨0, Nat.zero_le _, rfl, by rw [HA0.out], hbw5, Lib.hid (Below.refl _ _)⟩
              case round =>
                clear hbw5
                obtain ⟨j, hj, rfl, rfl, hnx, hn5⟩ := hrel
                by_cases hlt : j < KL.length
                · have hb0 : (0 : Int) ≤ (j : Int) := by omega
                  have hb3 : (j : Int) < (KL.length : Int) := by omega
                  obtain ⟨g, o, rfl, hgl, hcx⟩ := hr5.out.get hlt
                  have hcc := hcx wr hn5.out
                  have hs := HAS.out j hlt
                  obtain ⟨x, hx⟩ : ∃ x, x = KL[j] := ⟨_, rfl⟩
                  rw [← hx] at hcc hs
                  obtain ⟨p, hp⟩ : ∃ p, p = amg s KL j := ⟨_, rfl⟩
                  rw [← hp] at hs ⊢
                  have HS2 := Lib.hid hs
                  clear hx hs hp hcx
                  cases p
                  · by_cases e : x = s
                    · have he := toList_eq_of e
                      have HE := Lib.hid e
                      clear e
                      go_wp2
                      go_roundw
                      case rel => exact ⟨j + 1, by omega, by go_num, by rw [HS2.out]; simp [HE.out], hnx, hn5⟩
                      case measure => simp [intOf] <;> omega
                    · have he := toList_ne_of e
                      have HE := Lib.hid e
                      clear e
                      go_wp2
                      go_roundw
                      case rel => exact ⟨j + 1, by omega, by go_num, by rw [HS2.out]; simp [HE.out], hnx, hn5⟩
                      case measure => simp [intOf] <;> omega
                  · go_wp2
                    go_roundw
                    case rel => exact ⟨j + 1, by omega, by go_num, by rw [HS2.out]; simp, hnx, hn5⟩
                    case measure => simp [intOf] <;> omega
                · obtain rfl : j = KL.length := by omega
                  have ham := HAM.out
                  by_cases hp : 0 < N.length
                  · have hp' : (0 : Int) < (N.length : Int) := by omega
                    rw [decide_eq_true hp] at ham
                    rw [ham]
                    have HA := Lib.hid ham
                    clear ham
                    go_wp2_with (go_at_call 14; refine (awake _ (HT.out _ hnx)).mono ?_; rintro e wa ⟨rfl, hba⟩)
                    go_ret
                    exact ⟨rfl, seq hnx hba⟩
                  · have hp' : ¬ (0 : Int) < (N.length : Int) := by omega
                    rw [decide_eq_false hp] at ham
                    rw [ham]
                    have HA := Lib.hid ham
                    clear ham
                    go_wp2_with (go_at_call 14; refine (awake _ (HT.out _ hnx)).mono ?_; rintro e wa ⟨rfl, hba⟩)
                    go_ret
                    exact ⟨rfl, seq hnx hba⟩
end Go.Proofs.YtknpppppjmhomaaDoor.namesWithin
