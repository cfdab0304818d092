/- nest: the laws' own helpers: num, same, nothing, plan; the two examples of the document. -/
import Derived.Deep.Cut
import Derived.BigQuiet
import Derived.Deep.QuietTactic
import Derived.Test.YtddgpkdhakjjaaaDoorOp
set_option linter.unusedVariables false
set_option linter.unusedSimpArgs false
namespace Go.Proofs.YtddgpkdhakjjaaaDoor.Aw
open Go.RowKit Lb Fl Is Tp Np Wk Wp Wi Wo Pt Oc Go.Proofs.YtddgpkdhakjjaaaDoor.Ask Rt Go.Proofs.YtddgpkdhakjjaaaDoor.Op

/-- the same two lists? -/
def sameL (a b : List ByteArray) : Bool := decide (a = b)
theorem same_len {a b : List ByteArray} (h : a.length ≠ b.length) : sameL a b = false := by
  unfold sameL; rw [decide_eq_false_iff_not]; intro e; exact h (by rw [e])
theorem same_at {a b : List ByteArray} {k : Nat} (h1 : k < a.length) (h2 : k < b.length) (h : a[k] ≠ b[k]) : sameL a b = false := by
  unfold sameL; rw [decide_eq_false_iff_not]; intro e; subst e; exact h rfl
theorem same_all {a b : List ByteArray} (h : a.length = b.length) (hk : ∀ k (h1 : k < a.length) (h2 : k < b.length), a[k] = b[k]) : sameL a b = true := by
  unfold sameL; rw [decide_eq_true_iff]; exact List.ext_getElem h hk

set_option maxHeartbeats 2000000 in
set_option maxRecDepth 100000 in
theorem lSame {A B : Option Addr} {n m c d : Nat} {a b : List ByteArray} (w : World) (ha : Rd w A n a) (hb : Rd w B m b) (hn : n ≤ 9223372036854775807) (hm : m ≤ 9223372036854775807) :
    Calls Tryd.prog 23 #[.slice A n c, .slice B m d] w fun e w' => e = .returned (.bool (sameL a b)) ∧ Below w.heap.size w w' := by
  by_cases hl : n = m
  · subst hl
    have hla := Lib.hid ha.len
    have hlb := Lib.hid hb.len
    have HA := Lib.hid ha
    have HB := Lib.hid hb
    clear ha hb
    have e0 : ((n : Int) != (n : Int)) = false := by simp
    go_enter Tryd.func23, Tryd.ntmps23
    go_wp2
    go_loopw [13] (fun i wr => ∃ k : Nat, k ≤ n ∧ i = .int .i64 k ∧ Below w.heap.size w wr ∧ Hid (∀ j (h1 : j < a.length) (h2 : j < b.length), j < k → a[j] = b[j])) (fun i _ => n - (intOf i).toNat)
    case atStart => exact ⟨0, by omega, rfl, Below.refl _ _, Lib.hid (fun j _ _ hj => by omega)⟩
    case round =>
      obtain ⟨k, hk, rfl, hnx, hall⟩ := hrel
      by_cases hlt : k < n
      · have hka : k < a.length := by rw [← hla.out]; exact hlt
        have hkb : k < b.length := by rw [← hlb.out]; exact hlt
        obtain ⟨b1, o1, rfl, _, hc1⟩ := HA.out.get hka
        obtain ⟨b2, o2, rfl, _, hc2⟩ := HB.out.get hkb
        have hx1 := hc1 wr hnx
        have hx2 := hc2 wr hnx
        obtain ⟨x, hx⟩ : ∃ x, x = a[k] := ⟨_, rfl⟩
        obtain ⟨y, hy⟩ : ∃ y, y = b[k] := ⟨_, rfl⟩
        rw [← hx] at hx1
        rw [← hy] at hx2
        have HX := Lib.hid hx
        have HY := Lib.hid hy
        clear hx hy hc1 hc2
        have hb1 : (k : Int) < (n : Int) := by omega
        have hb0 : (0 : Int) ≤ (k : Int) := by omega
        by_cases e : x = y
        · have he := toList_eq_of e
          have hall2 : Hid (∀ j (h1 : j < a.length) (h2 : j < b.length), j < k + 1 → a[j] = b[j]) := Lib.hid (fun j h1 h2 hj => by
            by_cases ex : j = k
            · subst ex; rw [← HX.out, ← HY.out]; exact e
            · exact hall.out j h1 h2 (by omega))
          clear e
          go_wp2
          go_quiet (fail)
          go_wp2
          go_roundw
          case rel => exact ⟨k + 1, by omega, by go_num, below_drewN hnx _, hall2⟩
          case measure => simp [intOf] <;> omega
        · have he := toList_ne_of e
          have hfin := Lib.hid (same_at hka hkb (by rw [← HX.out, ← HY.out]; exact e))
          clear e
          go_wp2
          go_quiet (fail)
          go_wp2
          go_ret
          exact ⟨rb hfin.out, below_drewN hnx _⟩
      · have hfin := Lib.hid (same_all (by rw [← hla.out, ← hlb.out]) (fun j h1 h2 => hall.out j h1 h2 (by have h3 := hla.out; omega)))
        go_wp2
        go_ret
        exact ⟨rb hfin.out, hnx⟩
  · have hfin := Lib.hid (same_len (a := a) (b := b) (by rw [← ha.len, ← hb.len]; exact hl))
    have e0 : ((n : Int) != (m : Int)) = true := by rw [bne_iff_ne]; omega
    clear ha hb hl
    go_enter Tryd.func23, Tryd.ntmps23
    go_wp2
    go_ret
    exact ⟨rb hfin.out, Below.refl _ _⟩


theorem numC (x : Int) (w : World) : Calls Tryd.prog 12 #[.int .i64 x] w fun e w' => e = .returned (.int .i64 x) ∧ w = w' := by
  go_enter Tryd.func12, Tryd.ntmps12
  go_wp2
  go_ret
  exact ⟨rfl, rfl⟩

def s_b : ByteArray := ⟨#[98]⟩
def s_div : ByteArray := ⟨#[100, 105, 118]⟩
theorem ex1 : opE [s_p, s_b] s_div = 0 ∧ opK [s_p, s_b] s_div = 2 ∧ opP [s_p, s_b] s_div = [] := by decide +kernel
theorem ex2 : opE [s_table] s_b = 0 ∧ opK [s_table] s_b = 0 ∧ opP [s_table] s_b = [s_tbody, s_tr, s_td] := by decide +kernel

theorem rd2 (w : World) : Rd (w.alloc (.cells #[.string s_p, .string s_b] 9)) (some ⟨w.heap.size, 0, none⟩) 2 [s_p, s_b] := by
  have h := own_lit (w := w) (Nat.le_refl _) [s_p, s_b] (by simp)
  exact h.rd
theorem rd1 (w : World) : Rd (w.alloc (.cells #[.string s_table] 9)) (some ⟨w.heap.size, 0, none⟩) 1 [s_table] := by
  have h := own_lit (w := w) (Nat.le_refl _) [s_table] (by simp)
  exact h.rd
theorem rd3 (w : World) : Rd (w.alloc (.cells #[.string s_tbody, .string s_tr, .string s_td] 9)) (some ⟨w.heap.size, 0, none⟩) 3 [s_tbody, s_tr, s_td] := by
  have h := own_lit (w := w) (Nat.le_refl _) [s_tbody, s_tr, s_td] (by simp)
  exact h.rd
theorem open2 (W : World) (ht : Tab (W.alloc (.cells #[.string s_table] 9))) : Calls Tryd.prog 19 #[.slice (some ⟨W.heap.size, 0, none⟩) 1 1, .string s_b] (W.alloc (.cells #[.string s_table] 9)) (Gives (W.alloc (.cells #[.string s_table] 9)) 0 [s_tbody, s_tr, s_td] false 0) := by
  have h := openC (W.alloc (.cells #[.string s_table] 9)) ht (some ⟨W.heap.size, 0, none⟩) 1 1 [s_table] s_b (rd1 W) (Nat.le_refl _) (by omega)
  rw [ex2.1, ex2.2.1, ex2.2.2] at h
  exact h

set_option maxHeartbeats 1600000 in
set_option maxRecDepth 100000 in
theorem awakeC (w : World) (ht : Tab w) : Calls Tryd.prog 13 #[] w fun e w' => e = .returned (.bool true) ∧ Below w.heap.size w w' := by
  have HT : Hid (∀ W, Below w.heap.size w W → Tab W) := Lib.hid fun W h => ht.below h
  have hb0 : Below w.heap.size w (w.alloc (.cells #[.string s_p, .string s_b] 9)) := (Below.refl _ _).alloc (Nat.le_refl _) _
  have hr1 : Rd (w.alloc (.cells #[.string s_p, .string s_b] 9)) (some ⟨w.heap.size, 0, none⟩) 2 [s_p, s_b] := rd2 w
  have hO1 := openC (w.alloc (.cells #[.string s_p, .string s_b] 9)) (ht.below hb0) (some ⟨w.heap.size, 0, none⟩) 2 2 [s_p, s_b] s_div hr1 (Nat.le_refl _) (by omega)
  rw [ex1.1, ex1.2.1, ex1.2.2] at hO1
  have hO2 := fun (W : World) (hW : Below w.heap.size w W) => open2 W (ht.below (seq hW ((Below.refl _ _).alloc (Nat.le_refl _) _)))
  have HO1 := Lib.hid hO1
  have HO2 := Lib.hid hO2
  clear hO1 hO2 hr1
  have HB0 := Lib.hid hb0
  clear ht hb0
  go_enter Tryd.func13, Tryd.ntmps13
  go_upto_region 2 with (go_at_call 19; refine HO1.out.mono ?_; rintro e w1 ⟨A1, c1, rfl, ho1, hb1⟩)
  have hbw1 := seq HB0.out hb1
  have hbp : Below w.heap.size w (w1.alloc (.cells #[.int .i64 2, .slice A1 0 c1, .bool false] 33)) := hbw1.alloc hbw1.size _
  have hp1 : Pl (w1.alloc (.cells #[.int .i64 2, .slice A1 0 c1, .bool false] 33)) w1.heap.size (.int .i64 2) (.slice A1 0 c1) (.bool false) := Pl.new w1 _ _ _ _ rfl
  obtain ⟨W1, hW1⟩ : ∃ W, W = w1.alloc (.cells #[.int .i64 2, .slice A1 0 c1, .bool false] 33) := ⟨_, rfl⟩
  rw [← hW1] at hbp hp1
  have hO3 := HO2.out _ hbp
  rw [show W1.heap.size = w1.heap.size + 1 from by rw [hW1]; simp] at hO3
  have HO3 := Lib.hid hO3
  have HW1 := Lib.hid hW1
  clear hW1 HO2 HO1 HT hO3
  go_upto_region 3 with (go_at_call 19; rw [show (w1.alloc (.cells #[.int .i64 2, .slice A1 0 c1, .bool false] 33)) = W1 from HW1.out.symm]; refine HO3.out.mono ?_; rintro e w2 ⟨A2, c2, rfl, ho2, hb2⟩)
  have hbw2 : Below w.heap.size w w2 := seq (seq hbp ((Below.refl _ _).alloc (Nat.le_refl _) _)) hb2
  have hb12 : Below W1.heap.size W1 w2 := seq ((Below.refl _ _).alloc (Nat.le_refl _) _) hb2
  have hp2 := hp1.below hb12
  obtain ⟨o, ho⟩ : ∃ o, o = Obj.cells #[.int .i64 0, .slice A2 3 c2, .bool false] 33 := ⟨_, rfl⟩
  have hp3 := hp2.below ((Below.refl w2.heap.size w2).alloc (Nat.le_refl _) o)
  have e0 := hp3.c0
  have e1 := hp3.c1
  have hsame := same_all (a := [s_tbody, s_tr, s_td]) (b := [s_tbody, s_tr, s_td]) rfl (fun _ _ _ => rfl)
  have hr3 : Rd ((w2.alloc o).alloc (.cells #[.string s_tbody, .string s_tr, .string s_td] 9)) A2 3 [s_tbody, s_tr, s_td] := ho2.rd.below (((Below.refl _ _).alloc (Nat.le_refl _) _).alloc (by simp) _)
  have hr4 : Rd ((w2.alloc o).alloc (.cells #[.string s_tbody, .string s_tr, .string s_td] 9)) (some ⟨w2.heap.size + 1, 0, none⟩) 3 [s_tbody, s_tr, s_td] := by
    have h := rd3 (w2.alloc o)
    rw [show (w2.alloc o).heap.size = w2.heap.size + 1 from by simp] at h
    exact h
  have hS := lSame (c := c2) (d := 3) _ hr3 hr4 (by omega) (by omega)
  rw [hsame] at hS
  have hfin : Below w.heap.size w ((w2.alloc o).alloc (.cells #[.string s_tbody, .string s_tr, .string s_td] 9)) := (hbw2.alloc hbw2.size _).alloc (by have := hbw2.size; simp; omega) _
  have HFIN := Lib.hid hfin
  have HS := Lib.hid hS
  clear hfin hS hr3 hr4 hp3 hp2 hp1 hbp hb12 hsame hbw1 hbw2 ho1 ho2 HO3
  subst ho
  go_wp2_with (first
    | (go_at_call 12; refine (numC _ _).mono ?_; rintro e w4 ⟨rfl, rfl⟩)
    | (go_at_call 23; refine HS.out.mono ?_; rintro e w5 ⟨rfl, hb5⟩))

  go_ret
  exact ⟨rfl, seq HFIN.out hb5⟩
end Go.Proofs.YtddgpkdhakjjaaaDoor.Aw
