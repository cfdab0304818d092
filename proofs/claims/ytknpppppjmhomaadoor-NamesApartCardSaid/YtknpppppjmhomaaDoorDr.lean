/- The reference's Distance: how far two texts are apart. -/
import Derived.Deep.RegionHeld3
import Derived.Deep.Cut
import Derived.Test.YtknpppppjmhomaaDoorDs
set_option linter.unusedVariables false
set_option linter.unusedSimpArgs false
namespace Go.Proofs.YtknpppppjmhomaaDoor.Dr
open Go.RowKit Lb Lv Sh Ds

theorem keep3 {wr : World} {g g2 k q : Nat} {v0 v2 v1 u : Value} (c0 : wr.cell? ⟨g, k, none⟩ = some v0) (c2 : wr.cell? ⟨g, k + 1, none⟩ = some v2) (c1 : wr.cell? ⟨g2, k, none⟩ = some v1) (h : g ≠ g2) :
    ((wr.drewN q).setCell ⟨g2, k + 1, none⟩ u).cell? ⟨g, k, none⟩ = some v0 ∧ ((wr.drewN q).setCell ⟨g2, k + 1, none⟩ u).cell? ⟨g, k + 1, none⟩ = some v2 ∧ ((wr.drewN q).setCell ⟨g2, k + 1, none⟩ u).cell? ⟨g2, k, none⟩ = some v1 := by
  have e : ∀ j v, wr.cell? ⟨g, j, none⟩ = some v → ((wr.drewN q).setCell ⟨g2, k + 1, none⟩ u).cell? ⟨g, j, none⟩ = some v := fun j v hv => by
    rw [← hv]
    unfold World.cell?
    simp only [Below.heap_setCell (wr.drewN q) ⟨g2, k + 1, none⟩ u g h]
    rfl
  refine ⟨e _ _ c0, e _ _ c2, ?_⟩
  rw [← c1]
  simp [World.cell?, World.setCell, World.drewN, Array.getElem?_modify]
  cases wr.heap[g2]? with
  | none => rfl
  | some o => cases o <;> simp
def nextN (a b : List UInt8) (i k j : Nat) : Nat := if j ≤ k then D a b (i + 1) j else 0
set_option maxHeartbeats 16000000 in
set_option maxRecDepth 100000 in
theorem rDist (s t : ByteArray) (w : World) (hs : s.size ≤ maxLen) (ht : t.size ≤ maxLen) : Calls Tryd.prog 60 #[.string s, .string t] w fun e w' => e = .returned (.int .i64 (dist s t : Int)) ∧ Below w.heap.size w w' := by
  obtain ⟨i0, hi, hz0, hz1, hz2⟩ := info_int
  have hN1 := rFirst s w hs
  have hN2 := rFirst t w ht
  have ha := sh_len s
  have hb := sh_len t
  have ea := shS_size s
  have eb := shS_size t
  have hd1 := shS_data s
  have hd2 := shS_data t
  unfold dist
  generalize shS s = A at *
  generalize shS t = C at *
  generalize sh s = a at *
  generalize sh t = b at *
  obtain ⟨n, hn⟩ : ∃ n, a.length = n := ⟨_, rfl⟩
  obtain ⟨m, hm⟩ : ∃ m, b.length = m := ⟨_, rfl⟩
  rw [hn] at ha ea
  rw [hm] at hb eb
  rw [hn, hm]
  have HN := Lib.hid hn
  have HM := Lib.hid hm
  have HD1 := Lib.hid hd1
  have HD2 := Lib.hid hd2
  have H1 := Lib.hid hN1
  have H2 := Lib.hid hN2
  have hwm : IntKind.i64.wrap ((m : Int) + 1) = ((m + 1 : Nat) : Int) := by rw [IntKind.wrap_i64] <;> omega
  clear hn hm hd1 hd2 hN1 hN2
  go_enter Tryd.func60, Tryd.ntmps60
  go_wp2_with (first
    | (go_at_call 79; have _z := hdone; refine H2.out.mono ?_; rintro e w2 ⟨rfl, rfl⟩)
    | (go_at_call 79; refine H1.out.mono ?_; rintro e w1 ⟨rfl, rfl⟩; have hdone := True.intro)
    | (at_make; refine wpList_make_full _ rfl (.tmp 17) (.tmp 17) 46 rfl w.heap.size 3 i0 (.int .i64 0) 1 Tryd.underlying46 hi hz0 hz1 .i64 .i64 _ _ (m + 1) rfl rfl (by omega) (by omega) (by rw [hz2]; omega) (by unfold maxLen; omega) (Nat.le_refl _) ?_; intro w3 hown3 hg3))
  have hir := Lib.hid (IR.made hown3)
  have hb3 := grown_below hg3
  have hm1 : (0 : Int) < (m : Int) + 1 := by omega
  clear hown3 hg3
  go_loopw [21] (fun x wr => ∃ k : Nat, k ≤ m + 1 ∧ x = .int .i64 k ∧ Below w.heap.size w wr ∧ Hid (IR wr w.heap.size (m + 1) (cnt k))) (fun x _ => m + 1 - (intOf x).toNat)
  case atStart => exact ⟨0, by omega, rfl, hb3, Lib.hid (hir.out.congr (fun i _ => by simp [cnt]))⟩
  case round =>
    clear hir hb3
    obtain ⟨k, hk, rfl, hnx, hI⟩ := hrel
    by_cases hlt : k < m + 1
    · have c1 := hI.out.c hlt
      have f1 := hI.out.fz k
      have hb5 : (k : Int) < (m : Int) + 1 := by omega
      have hb0 : (0 : Int) ≤ (k : Int) := by omega
      have hI2 : Hid (IR (wr.setCell ⟨w.heap.size, k, none⟩ (.int .i64 (k : Int))) w.heap.size (m + 1) (cnt (k + 1))) := Lib.hid (hI.out.set hlt (by simp [cnt]) (fun i _ hne => by unfold cnt; split <;> split <;> omega))
      go_wp2
      go_roundw
      case rel => exact ⟨k + 1, by omega, by go_num, hnx.setCell (p := ⟨w.heap.size, k, none⟩) (Nat.le_refl _) _, hI2⟩
      case measure => simp [intOf] <;> omega
    · obtain rfl : k = m + 1 := by omega
      have hI0 : Hid (IR wr w.heap.size (m + 1) (D a b 0)) := Lib.hid (hI.out.congr (fun i hi => by rw [D_0 a b (by have := HM.out; omega)]; unfold cnt; rw [if_pos hi]))
      clear hI
      go_wp2
      go_loopw [5, 31] (fun rv x wr => ∃ i g : Nat, i ≤ n ∧ x = .int .i64 i ∧ rv = .slice (some ⟨g, 0, none⟩) (m + 1) (m + 1) ∧ w.heap.size ≤ g ∧ Below w.heap.size w wr ∧ Hid (IR wr g (m + 1) (D a b i))) (fun _ x _ => n - (intOf x).toNat)
      case atStart => exact ⟨0, w.heap.size, by omega, rfl, rfl, Nat.le_refl _, hnx, hI0⟩
      case round =>
        clear hnx hI0
        obtain ⟨i, g, hi9, rfl, rfl, hg, hnx, hI⟩ := hrel
        by_cases hlt : i < n
        · have hial : i < a.length := by have := HN.out; omega
          have hb5 : (i : Int) < (n : Int) := by omega
          have hb0 : (0 : Int) ≤ (i : Int) := by omega
          have hwi : IntKind.i64.wrap ((i : Int) + 1) = (i : Int) + 1 := by rw [IntKind.wrap_i64] <;> omega
          have hgl := hI.out.lt
          have hzn := hnx.size
          go_upto_region 12 with (at_make; refine wpList_make_full _ rfl (.tmp 36) (.tmp 36) 46 rfl wr.heap.size 3 i0 (.int .i64 0) 1 Tryd.underlying46 hi hz0 hz1 .i64 .i64 _ _ (m + 1) rfl rfl (by omega) (by omega) (by rw [hz2]; omega) (by unfold maxLen; omega) (Nat.le_refl _) ?_; intro w3 hown3 hg3)
          have hir := IR.made hown3
          have hb3 := grown_below hg3
          have hbw3 := seq hnx hb3
          have c0 := hir.c (j := 0) (by omega)
          have f0 := hir.fz 0
          have hI2 : Hid (IR (w3.setCell ⟨wr.heap.size, 0, none⟩ (.int .i64 ((i : Int) + 1))) wr.heap.size (m + 1) (nextN a b i 0)) := Lib.hid (hir.set (x := i + 1) (by omega) (by unfold nextN; rw [if_pos (Nat.le_refl _), D_i0 a b (by omega)]) (fun j _ hne => by unfold nextN; rw [if_neg (by omega)]))
          have hI1 : Hid (IR (w3.setCell ⟨wr.heap.size, 0, none⟩ (.int .i64 ((i : Int) + 1))) g (m + 1) (D a b i)) := Lib.hid ((hI.out.below hb3).other (by show g ≠ wr.heap.size; omega) _)
          have hbs := hbw3.setCell (p := ⟨wr.heap.size, 0, none⟩) hzn (.int .i64 ((i : Int) + 1))
          obtain ⟨g2, hg2⟩ : ∃ g2, g2 = wr.heap.size := ⟨_, rfl⟩
          rw [← hg2] at hI2 hI1 hbs c0 f0 ⊢
          have hgg : g ≠ g2 := by omega
          have hzg : w.heap.size ≤ g2 := by omega
          clear hown3 hg3 hir hI hb3 hbw3 hgl hzn hnx hg2
          go_wp2
          go_loopw [44] (fun x wr => ∃ k : Nat, k ≤ m ∧ x = .int .i64 k ∧ Below w.heap.size w wr ∧ Hid (IR wr g (m + 1) (D a b i)) ∧ Hid (IR wr g2 (m + 1) (nextN a b i k))) (fun x _ => m - (intOf x).toNat)
          case atStart => exact ⟨0, by omega, rfl, hbs, hI1, hI2⟩
          case round =>
            clear hbs hI1 hI2 c0 f0
            obtain ⟨k, hk, rfl, hnx, hI1, hI2⟩ := hrel
            by_cases hlk : k < m
            · have hkb : k < b.length := by have := HM.out; omega
              have hiA : i < A.size := by omega
              have hkC : k < C.size := by omega
              have hA : A[i] = a[i] := by rw [at_list hiA]; simp only [HD1.out]
              have hC : C[k] = b[k] := by rw [at_list hkC]; simp only [HD2.out]
              have c0 := hI1.out.c (j := k) (by omega)
              have c2 := hI1.out.c (j := k + 1) (by omega)
              have c1 := hI2.out.c (j := k) (by omega)
              have c3 := hI2.out.c (j := k + 1) (by omega)
              have f2 := hI2.out.fz (k + 1)
              have e1 : nextN a b i k k = D a b (i + 1) k := by unfold nextN; rw [if_pos (Nat.le_refl _)]
              rw [e1] at c1
              have d1 := D_le a b (i + 1) k
              have d2 := D_le a b i (k + 1)
              have d3 := D_le a b i k
              have hnm := HN.out
              have hmm := HM.out
              have hb6 : (k : Int) < (m : Int) := by omega
              have hb7 : (0 : Int) ≤ (k : Int) := by omega
              have hb8 : (k : Int) < (m : Int) + 1 := by omega
              have hb9 : (k : Int) + 1 < (m : Int) + 1 := by omega
              have hwk : IntKind.i64.wrap ((k : Int) + 1) = (k : Int) + 1 := by rw [IntKind.wrap_i64] <;> omega
              have hb10 : (0 : Int) ≤ (k : Int) + 1 := by omega
              have hb11 : (k : Int) < ((m + 1 : Nat) : Int) := by omega
              have hb12 : (k : Int) + 1 < ((m + 1 : Nat) : Int) := by omega
              have hb13 : k < m + 1 := by omega
              have hb14 : k + 1 < m + 1 := by omega
              have hD := D_min hial hkb
              have HSTEP : Hid (∀ q x, D a b (i + 1) (k + 1) = x → IR ((wr.drewN q).setCell ⟨g2, k + 1, none⟩ (.int .i64 (x : Int))) g2 (m + 1) (nextN a b i (k + 1)) ∧ IR ((wr.drewN q).setCell ⟨g2, k + 1, none⟩ (.int .i64 (x : Int))) g (m + 1) (D a b i)) := Lib.hid fun q x hx => ⟨Sh.IR.set (ir_new hI2.out q) (by omega) (by unfold nextN; rw [if_pos (Nat.le_refl _)]; exact hx) (fun j _ hne => by unfold nextN; split <;> split <;> first | rfl | omega), Sh.IR.other (ir_new hI1.out q) hgg _⟩
              have hx9 : D a b i k ≤ 200 ∧ D a b (i + 1) k ≤ 200 ∧ D a b i (k + 1) ≤ 200 := by omega
              by_cases e : a[i] = b[k]
              · rw [if_pos e] at hD
                have HDQ := Lib.hid hD
                have q1 : ((A[i].toNat : Int) != (C[k].toNat : Int)) = false := by rw [hA, hC, e]; simp
                have q2 : ((A[i].toNat : Int) == (C[k].toNat : Int)) = true := by rw [hA, hC, e]; simp
                clear hI1 hI2 hD e e1 d1 d2 d3 hnm hmm hA hC
                generalize D a b i k = x0 at *
                generalize D a b (i + 1) k = x1 at *
                generalize D a b i (k + 1) = x2 at *
                go_wp2
                go_quiet (fail)
                go_wp2
                have hw2 : IntKind.i64.wrap ((x2 : Int) + 1) = ((x2 + 1 : Nat) : Int) := by rw [IntKind.wrap_i64] <;> omega
                have hw1 : IntKind.i64.wrap ((x1 : Int) + 1) = ((x1 + 1 : Nat) : Int) := by rw [IntKind.wrap_i64] <;> omega
                have hw0 : IntKind.i64.wrap ((x0 : Int) + 0) = ((x0 + 0 : Nat) : Int) := by rw [IntKind.wrap_i64] <;> omega
                go_region_held3 (fun W' => W'.cell? ⟨g, k, none⟩ = some (.int .i64 (x0 : Int)) ∧ W'.cell? ⟨g, k + 1, none⟩ = some (.int .i64 (x2 : Int)) ∧ W'.cell? ⟨g2, k, none⟩ = some (.int .i64 (x1 : Int))) (first | exact ⟨c0, c2, c1⟩ | exact keep3 c0 c2 c1 hgg)
                  (first | (go_at_call 80; refine (rLeast _ _ _ _).mono ?_; rintro e w9 ⟨rfl, rfl⟩))
                go_wp2
                have hv : (min ((x2 : Int) + 1) (min ((x1 : Int) + 1) (x0 : Int))) = ((min (x2 + 1) (min (x1 + 1) (x0 + 0)) : Nat) : Int) := by omega
                rw [hv]
                go_roundw
                case rel =>
                  have h9 := HSTEP.out (nq + 1) _ HDQ.out
                  exact ⟨k + 1, by omega, by go_num, (below_drewN hnx _).setCell (p := ⟨g2, k + 1, none⟩) hzg _, Lib.hid h9.2, Lib.hid h9.1⟩
                case measure => simp [intOf] <;> omega
              · rw [if_neg e] at hD
                have HDQ := Lib.hid hD
                have hne : A[i].toNat ≠ C[k].toNat := fun h => e (by rw [← hA, ← hC]; exact UInt8.toNat_inj.1 h)
                have q1 : ((A[i].toNat : Int) != (C[k].toNat : Int)) = true := by simp only [bne_iff_ne, ne_eq]; omega
                have q2 : ((A[i].toNat : Int) == (C[k].toNat : Int)) = false := by rw [beq_eq_false_iff_ne]; omega
                clear hI1 hI2 hD e e1 d1 d2 d3 hnm hmm hA hC hne
                generalize D a b i k = x0 at *
                generalize D a b (i + 1) k = x1 at *
                generalize D a b i (k + 1) = x2 at *
                go_wp2
                go_quiet (fail)
                go_wp2
                have hw2 : IntKind.i64.wrap ((x2 : Int) + 1) = ((x2 + 1 : Nat) : Int) := by rw [IntKind.wrap_i64] <;> omega
                have hw1 : IntKind.i64.wrap ((x1 : Int) + 1) = ((x1 + 1 : Nat) : Int) := by rw [IntKind.wrap_i64] <;> omega
                have hw0 : IntKind.i64.wrap ((x0 : Int) + 1) = ((x0 + 1 : Nat) : Int) := by rw [IntKind.wrap_i64] <;> omega
                go_region_held3 (fun W' => W'.cell? ⟨g, k, none⟩ = some (.int .i64 (x0 : Int)) ∧ W'.cell? ⟨g, k + 1, none⟩ = some (.int .i64 (x2 : Int)) ∧ W'.cell? ⟨g2, k, none⟩ = some (.int .i64 (x1 : Int))) (first | exact ⟨c0, c2, c1⟩ | exact keep3 c0 c2 c1 hgg)
                  (first | (go_at_call 80; refine (rLeast _ _ _ _).mono ?_; rintro e w9 ⟨rfl, rfl⟩))
                go_wp2
                have hv : (min (x2 : Int) (min (x1 : Int) (x0 : Int)) + 1) = ((min (x2 + 1) (min (x1 + 1) (x0 + 1)) : Nat) : Int) := by omega
                rw [hv]
                go_roundw
                case rel =>
                  have h9 := HSTEP.out (nq + 1) _ HDQ.out
                  exact ⟨k + 1, by omega, by go_num, (below_drewN hnx _).setCell (p := ⟨g2, k + 1, none⟩) hzg _, Lib.hid h9.2, Lib.hid h9.1⟩
                case measure => simp [intOf] <;> omega
            · obtain rfl : k = m := by omega
              have hI4 : Hid (IR wr g2 (k + 1) (D a b (i + 1))) := Lib.hid (hI2.out.congr (fun j hj => by unfold nextN; rw [if_pos (by omega)]))
              clear hI1 hI2
              go_wp2
              go_roundw
              case rel =>
                (repeat apply Exists.intro)
                exact ⟨⟨i + 1, g2, by omega, by go_num, rfl, hzg, hnx, hI4⟩, rfl⟩
              case measure => simp [intOf] <;> omega
        · obtain rfl : i = n := by omega
          have cm := hI.out.c (j := m) (by omega)
          have hb5 : (m : Int) < (m : Int) + 1 := by omega
          have hb6 : (0 : Int) ≤ (m : Int) := by omega
          go_wp2
          go_ret
          exact ⟨rfl, hnx⟩
end Go.Proofs.YtknpppppjmhomaaDoor.Dr
