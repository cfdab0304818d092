/- names.Distance: how far two texts are apart. -/
import Derived.WalkLawsBesides
import Derived.RegionTactic
import Derived.BigRegion
import Derived.BigQuiet
import Derived.Deep.QuietTactic
import Derived.Test.YtknpppppjmhomaaDoorSh
set_option linter.unusedVariables false
set_option linter.unusedSimpArgs false
namespace Go.Proofs.YtknpppppjmhomaaDoor.Ds
open Go.RowKit Lb Lv Sh

def cnt (k j : Nat) : Nat := if j < k then j else 0
def midN (a b : List UInt8) (i k j : Nat) : Nat := if j ≤ k then D a b (i + 1) j else D a b i j
theorem grown_below {w W : World} (h : w.grownBy W none) : Below w.heap.size w W := ⟨h.os, h.tape, h.output, h.size, fun k hk => h.block k hk (by simp)⟩
theorem ir_new {w : World} {g m : Nat} {f : Nat → Nat} (h : IR w g m f) (k : Nat) : IR (w.drewN k) g m f := h

set_option maxHeartbeats 16000000 in
set_option maxRecDepth 100000 in
theorem nDist (s t : ByteArray) (w : World) (hs : s.size ≤ maxLen) (ht : t.size ≤ maxLen) : Calls Tryd.prog 59 #[.string s, .string t] w fun e w' => e = .returned (.int .i64 (dist s t : Int)) ∧ Below w.heap.size w w' := by
  obtain ⟨i0, hi, hz0, hz1, hz2⟩ := info_int
  have hN1 := nShort s w hs
  have hN2 := nShort t w ht
  have ha := sh_len s
  have hb := sh_len t
  have ea := shS_size s
  have eb := shS_size t
  have hd1 := shS_data s
  have hd2 := shS_data t
  unfold dist
  generalize shS s = A at *
  generalize shS t = C at *
  generalize sh s = a at *
  generalize sh t = b at *
  obtain ⟨n, hn⟩ : ∃ n, a.length = n := ⟨_, rfl⟩
  obtain ⟨m, hm⟩ : ∃ m, b.length = m := ⟨_, rfl⟩
  rw [hn] at ha ea
  rw [hm] at hb eb
  rw [hn, hm]
  have HN := Lib.hid hn
  have HM := Lib.hid hm
  have HD1 := Lib.hid hd1
  have HD2 := Lib.hid hd2
  have H1 := Lib.hid hN1
  have H2 := Lib.hid hN2
  have hwm : IntKind.i64.wrap ((m : Int) + 1) = ((m + 1 : Nat) : Int) := by rw [IntKind.wrap_i64] <;> omega
  clear hn hm hd1 hd2 hN1 hN2
  go_enter Tryd.func59, Tryd.ntmps59
  go_wp2_with (first
    | (go_at_call 78; have _z := hdone; refine H2.out.mono ?_; rintro e w2 ⟨rfl, rfl⟩)
    | (go_at_call 78; refine H1.out.mono ?_; rintro e w1 ⟨rfl, rfl⟩; have hdone := True.intro)
    | (at_make; refine wpList_make_full _ rfl (.tmp 17) (.tmp 17) 46 rfl w.heap.size 3 i0 (.int .i64 0) 1 Tryd.underlying46 hi hz0 hz1 .i64 .i64 _ _ (m + 1) rfl rfl (by omega) (by omega) (by rw [hz2]; omega) (by unfold maxLen; omega) (Nat.le_refl _) ?_; intro w3 hown3 hg3))
  have hir := Lib.hid (IR.made hown3)
  have hb3 := grown_below hg3
  have hm1 : (0 : Int) < (m : Int) + 1 := by omega
  clear hown3 hg3
  go_loopw [21] (fun x wr => ∃ k : Nat, k ≤ m + 1 ∧ x = .int .i64 k ∧ Below w.heap.size w wr ∧ Hid (IR wr w.heap.size (m + 1) (cnt k))) (fun x _ => m + 1 - (intOf x).toNat)
  case atStart => exact ⟨0, by omega, rfl, hb3, Lib.hid (hir.out.congr (fun i _ => by simp [cnt]))⟩
  case round =>
    clear hir hb3
    obtain ⟨k, hk, rfl, hnx, hI⟩ := hrel
    by_cases hlt : k < m + 1
    · have c1 := hI.out.c hlt
      have f1 := hI.out.fz k
      have hb5 : (k : Int) < (m : Int) + 1 := by omega
      have hb0 : (0 : Int) ≤ (k : Int) := by omega
      have hI2 : Hid (IR (wr.setCell ⟨w.heap.size, k, none⟩ (.int .i64 (k : Int))) w.heap.size (m + 1) (cnt (k + 1))) := Lib.hid (hI.out.set hlt (by simp [cnt]) (fun i _ hne => by unfold cnt; split <;> split <;> omega))
      go_wp2
      go_roundw
      case rel => exact ⟨k + 1, by omega, by go_num, hnx.setCell (p := ⟨w.heap.size, k, none⟩) (Nat.le_refl _) _, hI2⟩
      case measure => simp [intOf] <;> omega
    · obtain rfl : k = m + 1 := by omega
      have hI0 : Hid (IR wr w.heap.size (m + 1) (D a b 0)) := Lib.hid (hI.out.congr (fun i hi => by rw [D_0 a b (by have := HM.out; omega)]; unfold cnt; rw [if_pos hi]))
      clear hI
      go_wp2
      go_loopw [31] (fun x wr => ∃ i : Nat, i ≤ n ∧ x = .int .i64 i ∧ Below w.heap.size w wr ∧ Hid (IR wr w.heap.size (m + 1) (D a b i))) (fun x _ => n - (intOf x).toNat)
      case atStart => exact ⟨0, by omega, rfl, hnx, hI0⟩
      case round =>
        clear hnx hI0
        obtain ⟨i, hi9, rfl, hnx, hI⟩ := hrel
        by_cases hlt : i < n
        · have c0 := hI.out.c (j := 0) (by omega)
          have f0 := hI.out.fz 0
          have hial : i < a.length := by have := HN.out; omega
          have hb5 : (i : Int) < (n : Int) := by omega
          have hb0 : (0 : Int) ≤ (i : Int) := by omega
          have hwi : IntKind.i64.wrap ((i : Int) + 1) = (i : Int) + 1 := by rw [IntKind.wrap_i64] <;> omega
          have hI2 : Hid (IR (wr.setCell ⟨w.heap.size, 0, none⟩ (.int .i64 ((i : Int) + 1))) w.heap.size (m + 1) (midN a b i 0)) := Lib.hid (hI.out.set (x := i + 1) (by omega) (by unfold midN; rw [if_pos (Nat.le_refl _), D_i0 a b (by omega)]) (fun j _ hne => by unfold midN; rw [if_neg (by omega)]))
          go_wp2
          go_loopw [8, 43] (fun v x wr => ∃ k : Nat, k ≤ m ∧ x = .int .i64 k ∧ v = .int .i64 (D a b i k : Int) ∧ Below w.heap.size w wr ∧ Hid (IR wr w.heap.size (m + 1) (midN a b i k))) (fun _ x _ => m - (intOf x).toNat)
          case atStart => exact ⟨0, by omega, rfl, rfl, hnx.setCell (p := ⟨w.heap.size, 0, none⟩) (Nat.le_refl _) _, hI2⟩
          case round =>
            clear hnx hI hI2 c0 f0
            obtain ⟨k, hk, rfl, rfl, hnx, hI⟩ := hrel
            by_cases hlk : k < m
            · have hkb : k < b.length := by have := HM.out; omega
              have hiA : i < A.size := by omega
              have hkC : k < C.size := by omega
              have hA : A[i] = a[i] := by rw [at_list hiA]; simp only [HD1.out]
              have hC : C[k] = b[k] := by rw [at_list hkC]; simp only [HD2.out]
              have c1 := hI.out.c (j := k) (by omega)
              have c2 := hI.out.c (j := k + 1) (by omega)
              have f2 := hI.out.fz (k + 1)
              have e1 : midN a b i k k = D a b (i + 1) k := by unfold midN; rw [if_pos (Nat.le_refl _)]
              have e2 : midN a b i k (k + 1) = D a b i (k + 1) := by unfold midN; rw [if_neg (by omega)]
              rw [e1] at c1
              rw [e2] at c2
              have d1 := D_le a b (i + 1) k
              have d2 := D_le a b i (k + 1)
              have d3 := D_le a b i k
              have hnm := HN.out
              have hmm := HM.out
              have hb6 : (k : Int) < (m : Int) := by omega
              have hb7 : (0 : Int) ≤ (k : Int) := by omega
              have hb8 : (k : Int) < (m : Int) + 1 := by omega
              have hb9 : (k : Int) + 1 < (m : Int) + 1 := by omega
              have hwk : IntKind.i64.wrap ((k : Int) + 1) = (k : Int) + 1 := by rw [IntKind.wrap_i64] <;> omega
              have HSTEP : Hid (∀ q x, D a b (i + 1) (k + 1) = x → IR ((wr.drewN q).setCell ⟨w.heap.size, k + 1, none⟩ (.int .i64 (x : Int))) w.heap.size (m + 1) (midN a b i (k + 1))) := Lib.hid fun q x hx => Sh.IR.set (ir_new hI.out q) (by omega) (by unfold midN; rw [if_pos (Nat.le_refl _)]; exact hx) (fun j _ hne => by unfold midN; split <;> split <;> first | rfl | omega)
              by_cases e : a[i] = b[k]
              · have hD := D_eq hial hkb e
                have HDQ := Lib.hid hD
                have q1 : ((A[i].toNat : Int) != (C[k].toNat : Int)) = false := by rw [hA, hC, e]; simp
                have q2 : ((A[i].toNat : Int) == (C[k].toNat : Int)) = true := by rw [hA, hC, e]; simp
                clear hI hD e e1 e2 d1 d2 d3 hnm hmm hA hC
                generalize D a b i k = x0 at *
                go_wp2
                go_quiet (fail)
                go_wp2
                go_roundw
                case rel => exact ⟨k + 1, by omega, by go_num, rfl, (below_drewN hnx _).setCell (p := ⟨w.heap.size, k + 1, none⟩) (Nat.le_refl _) _, Lib.hid (HSTEP.out _ _ HDQ.out)⟩
                case measure => simp [intOf] <;> omega
              · have hD := D_ne hial hkb e
                have HDQ := Lib.hid hD
                have hne : A[i].toNat ≠ C[k].toNat := fun h => e (by rw [← hA, ← hC]; exact UInt8.toNat_inj.1 h)
                have q1 : ((A[i].toNat : Int) != (C[k].toNat : Int)) = true := by simp only [bne_iff_ne, ne_eq]; omega
                have q2 : ((A[i].toNat : Int) == (C[k].toNat : Int)) = false := by rw [beq_eq_false_iff_ne]; omega
                have hx9 : D a b i k ≤ 200 ∧ D a b (i + 1) k ≤ 200 ∧ D a b i (k + 1) ≤ 200 := by omega
                clear hI hD e e1 e2 d1 d2 d3 hnm hmm hA hC hne
                generalize D a b i k = x0 at *
                generalize D a b (i + 1) k = x1 at *
                generalize hx2 : D a b i (k + 1) = x2 at *
                have HX2 := Lib.hid hx2
                clear hx2
                go_wp2
                go_quiet (fail)
                go_wp2
                go_quiet (fail)
                go_wp2
                have hv : (1 + if (x2 : Int) < (if x1 < x0 then (x1 : Int) else (x0 : Int)) then (x2 : Int) else if x1 < x0 then (x1 : Int) else (x0 : Int)) = ((1 + min x0 (min x1 x2) : Nat) : Int) := by
                  repeat' split
                  all_goals omega
                rw [hv]
                go_roundw
                case rel => exact ⟨k + 1, by omega, by go_num, by rw [HX2.out], (below_drewN hnx _).setCell (p := ⟨w.heap.size, k + 1, none⟩) (Nat.le_refl _) _, Lib.hid (HSTEP.out _ _ HDQ.out)⟩
                case measure => simp [intOf] <;> omega
            · obtain rfl : k = m := by omega
              have hI4 : Hid (IR wr w.heap.size (k + 1) (D a b (i + 1))) := Lib.hid (hI.out.congr (fun j hj => by unfold midN; rw [if_pos (by omega)]))
              clear hI
              go_wp2
              go_roundw
              case rel => exact ⟨i + 1, by omega, by go_num, hnx, hI4⟩
              case measure => simp [intOf] <;> omega
        · obtain rfl : i = n := by omega
          have cm := hI.out.c (j := m) (by omega)
          have hb5 : (m : Int) < (m : Int) + 1 := by omega
          have hb6 : (0 : Int) ≤ (m : Int) := by omega
          go_wp2
          go_ret
          exact ⟨rfl, hnx⟩
end Go.Proofs.YtknpppppjmhomaaDoor.Ds
