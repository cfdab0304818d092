/- How many of some names are in each set: names.Count, and the reference's. -/
import Derived.Test.YtknpppppjmhomaaDoorSt
set_option linter.unusedVariables false
set_option linter.unusedSimpArgs false
namespace Go.Proofs.YtknpppppjmhomaaDoor.Ct
open Go.RowKit Lb St Fl Ls Rt Is Go.Proofs.YtknpppppjmhomaaDoor.So Mp Tb Sh Sy

def cnt (l : List ByteArray) (k : Nat) : Nat := (l.filter fun x => inS x (k : Int)).length
theorem cnt_take {l : List ByteArray} {i : Nat} (h : i < l.length) (k : Nat) : cnt (l.take (i + 1)) k = cnt (l.take i) k + (if inS l[i] (k : Int) = true then 1 else 0) := by
  unfold cnt
  rw [List.take_succ_eq_append_getElem h, List.filter_append, List.length_append]
  congr 1
  by_cases e : inS l[i] (k : Int) = true
  · rw [if_pos e]; simp [e]
  · rw [if_neg e]; simp [e]
theorem cnt_le (l : List ByteArray) (i k : Nat) : cnt (l.take i) k ≤ i := by
  unfold cnt
  exact Nat.le_trans (List.length_filter_le _ _) (by rw [List.length_take]; omega)
def arr (f : Nat → Nat) : Array Value := ((List.range 16).map fun k => Value.int .i64 (f k : Int)).toArray
theorem arr_size (f : Nat → Nat) : (arr f).size = 16 := by unfold arr; simp
theorem arr_one (f : Nat → Nat) : (arr f).all (·.oneCell') = true := by
  rw [Array.all_eq_true_iff_forall_mem]
  intro x hx
  unfold arr at hx
  simp only [List.mem_toArray, List.mem_map] at hx
  obtain ⟨y, _, rfl⟩ := hx
  rfl
theorem arr_at {f : Nat → Nat} {k : Nat} (h : k < 16) : (arr f)[k]? = some (.int .i64 (f k : Int)) := by
  unfold arr
  simp [h]
theorem arr_congr {f g : Nat → Nat} (h : ∀ k, k < 16 → f k = g k) : arr f = arr g := by
  unfold arr
  congr 1
  refine List.map_congr_left (fun k hk => ?_)
  rw [h k (List.mem_range.1 hk)]
/-- block a holds the sixteen numbers f -/
def AC (w : World) (a : Nat) (f : Nat → Nat) : Prop := w.heap[a]? = some (.cells (arr f) 48 (0, 0))
theorem AC.lt {w : World} {a : Nat} {f : Nat → Nat} (h : AC w a f) : a < w.heap.size := (Array.getElem?_eq_some_iff.1 h).1
theorem AC.c {w : World} {a k : Nat} {f : Nat → Nat} (h : AC w a f) (hk : k < 16) : w.cell? ⟨a, k, none⟩ = some (.int .i64 (f k : Int)) := by
  simp [World.cell?, show w.heap[a]? = _ from h, arr_at hk]
theorem AC.fz {w : World} {a : Nat} {f : Nat → Nat} (h : AC w a f) (k : Nat) : w.frozen? ⟨a, k, none⟩ = false := by simp [World.frozen?, show w.heap[a]? = _ from h]
theorem AC.below {w w' : World} {a : Nat} {f : Nat → Nat} (h : AC w a f) (hb : Below w.heap.size w w') : AC w' a f := (hb.block a h.lt).trans h
theorem AC.other {w : World} {a : Nat} {f : Nat → Nat} (h : AC w a f) {p : Addr} (hp : a ≠ p.block) (u : Value) : AC (w.setCell p u) a f := (Below.heap_setCell w p u a hp).trans h
theorem AC.congr {w : World} {a : Nat} {f g : Nat → Nat} (h : AC w a f) (hfg : ∀ k, k < 16 → f k = g k) : AC w a g := by
  unfold AC at *
  rw [← arr_congr hfg]
  exact h
theorem AC.set {w : World} {a k : Nat} {f g : Nat → Nat} {v : Int} (h : AC w a f) (hk : k < 16) (hv : v = ((g k : Nat) : Int)) (hg : ∀ q, q < 16 → q ≠ k → g q = f q) : AC (w.setCell ⟨a, k, none⟩ (.int .i64 v)) a g := by
  unfold AC at *
  have e : (arr f).setIfInBounds k (.int .i64 v) = arr g := by
    apply Array.ext
    · simp [arr_size]
    · intro q h1 h2
      have hq : q < 16 := by rw [arr_size] at h2; exact h2
      have e1 := arr_at (f := g) hq
      have e2 := arr_at (f := f) hq
      rw [Array.getElem?_eq_getElem (by rw [arr_size]; exact hq)] at e1 e2
      injection e1 with e1
      injection e2 with e2
      rw [e1, Array.getElem_setIfInBounds]
      by_cases hqk : k = q
      · subst hqk; rw [if_pos rfl, hv]
      · rw [if_neg hqk, e2, hg q hq (fun e => hqk e.symm)]
      rw [arr_size]; exact hq
  rw [← e]
  simp [World.setCell, h, Array.getElem?_modify]
theorem AC.ne {w : World} {a b : Nat} {f : Nat → Nat} {L : List (ByteArray × Value)} (h : AC w a f) (hm : MapS w b L) : b ≠ a := by
  rintro rfl
  obtain ⟨es, clock, h1, _⟩ := hm
  unfold AC at h
  rw [h] at h1
  cases h1
theorem AM.ne {w : World} {a b : Nat} {f : Nat → Nat} {l : List Value} (h : AC w a f) (hm : AM w b l) : b ≠ a := by
  rintro rfl
  unfold AC at h
  unfold AM at hm
  rw [h] at hm
  injection hm with e
  injection e with _ e
  exact absurd e (by decide)
theorem maps_store {bs : List Nat} (h : bs.length = 16) : (bs.map fun b => Value.map (some b)).toArray.size = 16 ∧ (bs.map fun b => Value.map (some b)).toArray.all (·.oneCell') = true ∧ (Tryd.prog.info? 68).map (·.size) = some (bs.map fun b => Value.map (some b)).toArray.size := by
  have hz : (bs.map fun b => Value.map (some b)).toArray.size = 16 := by simp [h]
  refine ⟨hz, ?_, by rw [hz]; kernel_rfl⟩
  rw [Array.all_eq_true_iff_forall_mem]
  intro x hx
  simp only [List.mem_toArray, List.mem_map] at hx
  obtain ⟨y, _, rfl⟩ := hx
  rfl
def mix (l : List ByteArray) (i k q : Nat) : Nat := if q < k then cnt (l.take (i + 1)) q else cnt (l.take i) q
def RetC (w : World) (l : List ByteArray) (e : Ending) (w' : World) : Prop := e = .returned (.agg (arr (cnt l))) ∧ Below w.heap.size w w'

set_option maxHeartbeats 4000000 in
set_option maxRecDepth 100000 in
theorem countC (w : World) (A : Option Addr) (n c : Nat) (l : List ByteArray) (hr : Rd w A n l) (hn : n ≤ 9223372036854775807) (ht : Tab w) : Calls Tryd.prog 53 #[.slice A n c] w fun e w' => RetC w l e w' := by
  have HT : Hid (∀ W, Below w.heap.size w W → Tab W) := Lib.hid fun W h => ht.below h
  have HR := Lib.hid hr
  have Hnl := Lib.hid hr.len
  clear ht hr
  go_enter Tryd.func53, Tryd.ntmps53
  go_upto_region 2 with fail
  obtain ⟨X, hX⟩ : ∃ X, X = (w.alloc (.cells (arr fun _ => 0) 48)).alloc (.cells (arr fun _ => 0) 48) := ⟨_, rfl⟩
  have hX0 : AC X w.heap.size (fun _ => 0) := by
    rw [hX]
    have h0 : AC (w.alloc (.cells (arr fun _ => 0) 48)) w.heap.size (fun _ => 0) := heap_alloc_new w _
    exact h0.below ((Below.refl _ _).alloc (Nat.le_refl _) _)
  have hX1 : AC X (w.heap.size + 1) (fun _ => 0) := by
    rw [hX]
    have h1 := heap_alloc_new (w.alloc (.cells (arr fun _ => 0) 48)) (.cells (arr fun _ => 0) 48)
    have h2 : (w.alloc (.cells (arr fun _ => 0) 48)).heap.size = w.heap.size + 1 := by simp
    rw [h2] at h1
    exact h1
  have hbX : Below w.heap.size w X := hX ▸ ((Below.refl _ _).alloc (Nat.le_refl _) _).alloc (by simp) _
  have HX := Lib.hid hX
  clear hX
  go_upto_region 3 with (first
    | (go_at_call 75; rw [show ((w.alloc (.cells #[.int .i64 0, .int .i64 0, .int .i64 0, .int .i64 0, .int .i64 0, .int .i64 0, .int .i64 0, .int .i64 0, .int .i64 0, .int .i64 0, .int .i64 0, .int .i64 0, .int .i64 0, .int .i64 0, .int .i64 0, .int .i64 0] 48)).alloc (.cells #[.int .i64 0, .int .i64 0, .int .i64 0, .int .i64 0, .int .i64 0, .int .i64 0, .int .i64 0, .int .i64 0, .int .i64 0, .int .i64 0, .int .i64 0, .int .i64 0, .int .i64 0, .int .i64 0, .int .i64 0, .int .i64 0] 48)) = X from HX.out.symm]; refine (tableC _ (HT.out _ hbX)).mono ?_; rintro e w1 ⟨bs, hbs, rfl, hms, hb1⟩; have hst := maps_store hbs)
    | (refine wpList_store_row rfl 68 _ _ rfl w1.heap.size _ rfl rfl _ _ (heap_alloc_new w1 _) hst.2.2 (by rw [hst.1]; rfl) hst.2.1 ?_))
  have hX0' := hX0.below hb1
  have hX1' := hX1.below hb1
  have hb1w := seq hbX hb1
  obtain ⟨W2, hW2⟩ : ∃ W2, W2 = (w1.alloc (.cells (mv [] 16).toArray 68)).setRow w1.heap.size (bs.map fun b => Value.map (some b)).toArray := ⟨_, rfl⟩
  have hbW : Below w1.heap.size w1 W2 := hW2 ▸ below_setRow ((Below.refl _ _).alloc (Nat.le_refl _) _) (Nat.le_refl _) _
  have hAM : Hid (AM W2 w1.heap.size (bs.map fun b => Value.map (some b))) := Lib.hid (by
    rw [hW2]
    exact setRow_heap _ w1.heap.size _ _ _ _ (heap_alloc_new w1 _))
  have HW2 := Lib.hid hW2
  clear hW2
  rw [show (w1.alloc (.cells #[.map none, .map none, .map none, .map none, .map none, .map none, .map none, .map none, .map none, .map none, .map none, .map none, .map none, .map none, .map none, .map none] 68)).setRow w1.heap.size (bs.map fun b => Value.map (some b)).toArray = W2 from HW2.out.symm]
  have hc0 := Lib.hid (hX0'.below hbW)
  have hc1 := Lib.hid (hX1'.below hbW)
  have hbw2 := seq hb1w hbW
  have hm2 : Hid (∀ i (h : i < bs.length), MapS W2 bs[i] (tab (nm i))) := Lib.hid fun i h => (hms i h).below hbW
  have Hbs := Lib.hid hbs
  obtain ⟨g4, hg4⟩ : ∃ g4, g4 = w1.heap.size := ⟨_, rfl⟩
  have hg4w : w.heap.size + 2 ≤ g4 := by
    have h1 := hX1.lt
    have h2 := hb1.size
    omega
  rw [← hg4] at hAM ⊢
  clear hX0 hX1 hX0' hX1' hbW hb1 hb1w hms hbs hst hg4 hbX
  go_wp2
  go_loopw [11] (fun i wr => ∃ j : Nat, j ≤ l.length ∧ i = .int .i64 j ∧ Below w.heap.size w wr ∧ Hid (AC wr w.heap.size (fun _ => 0)) ∧ Hid (AC wr (w.heap.size + 1) (cnt (l.take j))) ∧ Hid (AM wr g4 (bs.map fun b => Value.map (some b))) ∧ Hid (∀ i (h : i < bs.length), MapS wr bs[i] (tab (nm i)))) (fun i _ => l.length - (intOf i).toNat)
  case atStart => exact ⟨0, Nat.zero_le _, rfl, hbw2, hc0, hc1, hAM, hm2⟩
  case round =>
    clear hbw2 hc0 hc1 hAM hm2
    obtain ⟨j, hj, rfl, hnx, hc0, hc1, hAM, hm2⟩ := hrel
    by_cases hlt : j < l.length
    · have hb0 : (0 : Int) ≤ (j : Int) := by omega
      have hnl := Hnl.out
      have hb3 : (j : Int) < (n : Int) := by omega
      obtain ⟨b, off, rfl, hbl, hcell⟩ := HR.out.get hlt
      have hcx := hcell wr hnx
      clear hnl
      go_wp2
      go_loopw [15] (fun i wr => ∃ k : Nat, k ≤ 16 ∧ i = .int .i64 k ∧ Below w.heap.size w wr ∧ Hid (AC wr w.heap.size (fun _ => 0)) ∧ Hid (AC wr (w.heap.size + 1) (mix l j k)) ∧ Hid (AM wr g4 (bs.map fun b => Value.map (some b))) ∧ Hid (∀ i (h : i < bs.length), MapS wr bs[i] (tab (nm i)))) (fun i _ => 16 - (intOf i).toNat)
      case atStart => exact ⟨0, Nat.zero_le _, rfl, hnx, hc0, Lib.hid (hc1.out.congr (fun k _ => by unfold mix; rw [if_neg (by omega)])), hAM, hm2⟩
      case round =>
        clear hc0 hc1 hAM hm2 hnx hcx
        obtain ⟨k, hk, rfl, hnx, hc0, hc1, hAM, hm2⟩ := hrel
        by_cases hk16 : k < 16
        · have hk0 : (0 : Int) ≤ (k : Int) := by omega
          have hk3 : (k : Int) < (16 : Int) := by omega
          have hkb : k < bs.length := by rw [Hbs.out]; exact hk16
          have hmc := hAM.out.c (j := k) (v := .map (some bs[k])) (by simp [hkb])
          have hlk := look_in hk16 (hm2.out k hkb) l[j]
          have hct := Lib.hid (cnt_take hlt k)
          by_cases hin : inS l[j] (k : Int) = true
          · rw [hin] at hlk
            rw [hin] at hct
            obtain ⟨x, hx⟩ : ∃ x, x = cnt (l.take j) k := ⟨_, rfl⟩
            have hxb : x ≤ j := hx ▸ cnt_le l j k
            have hnl := Hnl.out
            have hx0 : (0 : Int) ≤ (x : Int) := by omega
            have hx1 : (x : Int) + 1 ≤ 9223372036854775807 := by omega
            clear hnl
            have hcc := hc1.out.c hk16
            have hff := hc1.out.fz k
            rw [show mix l j k k = x from by unfold mix; rw [if_neg (by omega), hx]] at hcc
            have hnew : AC (wr.setCell ⟨w.heap.size + 1, k, none⟩ (.int .i64 ((x : Int) + 1))) (w.heap.size + 1) (mix l j (k + 1)) := hc1.out.set hk16 (by
              unfold mix
              rw [if_pos (by omega), hct.out, if_pos rfl, ← hx]
              push_cast
              rfl) (fun q _ hq => by unfold mix; split <;> split <;> first | rfl | omega)
            have HN := Lib.hid hnew
            have HX' := Lib.hid hx
            have hc1o := hc1.out
            have HB := Lib.hid (hnx.setCell (p := ⟨w.heap.size + 1, k, none⟩) (Nat.le_succ _) (.int .i64 ((x : Int) + 1)))
            clear hx hnew
            go_wp2
            go_roundw
            case rel => exact ⟨k + 1, by omega, by go_num, HB.out, Lib.hid (hc0.out.other (by show w.heap.size ≠ w.heap.size + 1; omega) _), HN, Lib.hid (hAM.out.other (AM.ne hc1o hAM.out) _), Lib.hid (fun i h => (hm2.out i h).other (hc1o.ne (hm2.out i h)) _)⟩
            case measure => simp [intOf] <;> omega
          · rw [Bool.not_eq_true] at hin
            rw [hin] at hlk
            rw [hin] at hct
            go_wp2
            go_roundw
            case rel => exact ⟨k + 1, by omega, by go_num, hnx, hc0, Lib.hid (hc1.out.congr (fun q _ => by
              unfold mix
              by_cases hqk : q = k
              · subst hqk
                rw [if_neg (by omega), if_pos (by omega), hct.out]
                simp
              · split <;> split <;> first | rfl | omega)), hAM, hm2⟩
            case measure => simp [intOf] <;> omega
        · obtain rfl : k = 16 := by omega
          go_wp2
          go_roundw
          case rel => exact ⟨j + 1, by omega, by go_num, hnx, hc0, Lib.hid (hc1.out.congr (fun q hq => by unfold mix; rw [if_pos hq])), hAM, hm2⟩
          case measure => simp [intOf] <;> omega
    · obtain rfl : j = l.length := by omega
      have hc1f := hc1.out
      have hc0f := hc0.out
      rw [List.take_length] at hc1f
      have hnl := Hnl.out
      have hb3 : ¬ ((l.length : Int) < (n : Int)) := by omega
      unfold AC at hc1f hc0f
      have hif : (Tryd.prog.info? 48).map (·.size) = some (arr (cnt l)).size := by rw [arr_size]; kernel_rfl
      have Hif := Lib.hid hif
      have hone := arr_one (cnt l)
      have hz : (arr fun _ => 0).size = (arr (cnt l)).size := by rw [arr_size, arr_size]
      clear hnl hif
      go_wp2_with (first
        | (refine wpList_load_row rfl 48 _ rfl (w.heap.size + 1) rfl _ _ _ _ hc1f Tryd.underlying48 rfl Hif.out ?_)
        | (refine wpList_store_row rfl 48 _ _ rfl w.heap.size _ rfl rfl _ _ hc0f Hif.out hz hone ?_))
      have hrow := setRow_heap wr w.heap.size _ (arr (cnt l)) _ _ hc0f
      refine bodyPost_ret (results_cell_row rfl _ _ w.heap.size _ _ _ _ rfl hrow Tryd.underlying48 rfl Hif.out) rfl ?_
      exact ⟨rfl, below_setRow hnx (Nat.le_refl _) _⟩

theorem own_num {w : World} {B n c : Nat} {A : Option Addr} {l : List Nat} {t : TypeId} (h : OwnN w B t (.slice A n c) l) {j : Nat} (hj : j < l.length) :
    ∃ g o, A = some ⟨g, 0, none⟩ ∧ B ≤ g ∧ w.heap[g]? = some o ∧ ∀ W' : World, W'.heap[g]? = some o → W'.cell? ⟨g, j, none⟩ = some (.int .i64 (l[j] : Int)) := by
  rcases h.2 with ⟨_, h0⟩ | ⟨g, cap, cur, hv, hb, hg, hnc, hcm, hcs, htake⟩
  · omega
  · injection hv with e1 e2 e3
    refine ⟨g, _, e1, hb, hg, fun W' hW' => ?_⟩
    have h1 : (cur.toList.take (l.length * 1))[j]? = (numV l)[j]? := by rw [htake]
    rw [List.getElem?_take, if_pos (by omega)] at h1
    have h2 : (numV l)[j]? = some (.int .i64 (l[j] : Int)) := by unfold numV; rw [List.getElem?_map, List.getElem?_eq_getElem hj]; rfl
    rw [h2] at h1
    simp [World.cell?, hW']
    simpa using h1
theorem OwnN.other {w : World} {B : Nat} {t : TypeId} {v : Value} {l : List Nat} (h : OwnN w B t v l) {p : Addr} (hp : p.block < B) (u : Value) : OwnN (w.setCell p u) B t v l :=
  ownsRow_setCell_below h hp u
theorem sets_mem {s : ByteArray} {n k : Nat} : k ∈ setsL s n ↔ k < n ∧ inS s (k : Int) = true := by
  unfold setsL
  rw [List.mem_filter, List.mem_range]
theorem sets_nodup (s : ByteArray) (n : Nat) : (setsL s n).Nodup := List.Pairwise.filter _ List.nodup_range
def mixR (l : List ByteArray) (j : Nat) (r : List Nat) (k : Nat) : Nat := cnt (l.take j) k + (if k ∈ r then 1 else 0)
theorem mixR_all {l : List ByteArray} {j : Nat} (h : j < l.length) {k : Nat} (hk : k < 16) : mixR l j (setsL l[j] 16) k = cnt (l.take (j + 1)) k := by
  unfold mixR
  rw [cnt_take h]
  congr 1
  by_cases e : inS l[j] (k : Int) = true
  · rw [if_pos (sets_mem.2 ⟨hk, e⟩), if_pos e]
  · rw [if_neg (fun hm => e (sets_mem.1 hm).2), if_neg e]

set_option maxHeartbeats 4000000 in
set_option maxRecDepth 100000 in
theorem rCountC (w : World) (A : Option Addr) (n c : Nat) (l : List ByteArray) (hr : Rd w A n l) (hn : n ≤ 9223372036854775807) : Calls Tryd.prog 54 #[.slice A n c] w fun e w' => RetC w l e w' := by
  have HR := Lib.hid hr
  have Hnl := Lib.hid hr.len
  clear hr
  go_enter Tryd.func54, Tryd.ntmps54
  go_upto_region 2 with fail
  obtain ⟨X, hX⟩ : ∃ X, X = (w.alloc (.cells (arr fun _ => 0) 48)).alloc (.cells (arr fun _ => 0) 48) := ⟨_, rfl⟩
  have hX0 : AC X w.heap.size (fun _ => 0) := by
    rw [hX]
    have h0 : AC (w.alloc (.cells (arr fun _ => 0) 48)) w.heap.size (fun _ => 0) := heap_alloc_new w _
    exact h0.below ((Below.refl _ _).alloc (Nat.le_refl _) _)
  have hX1 : AC X (w.heap.size + 1) (fun _ => 0) := by
    rw [hX]
    have h1 := heap_alloc_new (w.alloc (.cells (arr fun _ => 0) 48)) (.cells (arr fun _ => 0) 48)
    have h2 : (w.alloc (.cells (arr fun _ => 0) 48)).heap.size = w.heap.size + 1 := by simp
    rw [h2] at h1
    exact h1
  have hbX : Below w.heap.size w X := hX ▸ ((Below.refl _ _).alloc (Nat.le_refl _) _).alloc (by simp) _
  have HX := Lib.hid hX
  clear hX
  rw [show ((w.alloc (.cells #[.int .i64 0, .int .i64 0, .int .i64 0, .int .i64 0, .int .i64 0, .int .i64 0, .int .i64 0, .int .i64 0, .int .i64 0, .int .i64 0, .int .i64 0, .int .i64 0, .int .i64 0, .int .i64 0, .int .i64 0, .int .i64 0] 48)).alloc (.cells #[.int .i64 0, .int .i64 0, .int .i64 0, .int .i64 0, .int .i64 0, .int .i64 0, .int .i64 0, .int .i64 0, .int .i64 0, .int .i64 0, .int .i64 0, .int .i64 0, .int .i64 0, .int .i64 0, .int .i64 0, .int .i64 0] 48)) = X from HX.out.symm]
  have hc0 := Lib.hid hX0
  have hc1 := Lib.hid hX1
  clear hX0 hX1
  go_wp2
  go_loopw [10] (fun i wr => ∃ j : Nat, j ≤ l.length ∧ i = .int .i64 j ∧ Below w.heap.size w wr ∧ Hid (AC wr w.heap.size (fun _ => 0)) ∧ Hid (AC wr (w.heap.size + 1) (cnt (l.take j)))) (fun i _ => l.length - (intOf i).toNat)
  case atStart => exact ⟨0, Nat.zero_le _, rfl, hbX, hc0, hc1⟩
  case round =>
    clear hbX hc0 hc1
    obtain ⟨j, hj, rfl, hnx, hc0, hc1⟩ := hrel
    by_cases hlt : j < l.length
    · have hb0 : (0 : Int) ≤ (j : Int) := by omega
      have hnl := Hnl.out
      have hb3 : (j : Int) < (n : Int) := by omega
      obtain ⟨b, off, rfl, hbl, hcell⟩ := HR.out.get hlt
      have hcx := hcell wr hnx
      clear hnl
      go_wp2_with (go_at_call 52; refine (rSetsC _ _).mono ?_; rintro e w2 ⟨A5, c5, rfl, ho5, hb5⟩)
      have HO5 := Lib.hid ho5
      have hBg : Hid (w.heap.size + 2 ≤ wr.heap.size) := Lib.hid (by have := hc1.out.lt; omega)
      obtain ⟨wB, hwB⟩ : ∃ wB, wB = wr.heap.size := ⟨_, rfl⟩
      rw [← hwB] at HO5 hBg
      have hc0 := Lib.hid (hc0.out.below hb5)
      have hc1 := Lib.hid (hc1.out.below hb5)
      have hnx := seq hnx hb5
      have hsl := sets_len l[j] 16
      clear ho5 hb5 hcx hwB
      go_loopw [17] (fun i wr => ∃ q : Nat, q ≤ (setsL l[j] 16).length ∧ i = .int .i64 q ∧ Below w.heap.size w wr ∧ Hid (AC wr w.heap.size (fun _ => 0)) ∧ Hid (AC wr (w.heap.size + 1) (mixR l j ((setsL l[j] 16).take q))) ∧ Hid (OwnN wr wB 3 (.slice A5 (setsL l[j] 16).length c5) (setsL l[j] 16))) (fun i _ => (setsL l[j] 16).length - (intOf i).toNat)
      case atStart => exact ⟨0, Nat.zero_le _, rfl, hnx, hc0, Lib.hid (hc1.out.congr (fun k _ => by unfold mixR; simp)), HO5⟩
      case round =>
        clear hc0 hc1 hnx HO5
        obtain ⟨q, hq, rfl, hnx, hc0, hc1, HO5⟩ := hrel
        by_cases hqs : q < (setsL l[j] 16).length
        · have hq0 : (0 : Int) ≤ (q : Int) := by omega
          have hq3 : (q : Int) < ((setsL l[j] 16).length : Int) := by omega
          obtain ⟨g, o, rfl, hgB, hgo, hcell5⟩ := own_num HO5.out hqs
          have hc5 := hcell5 wr hgo
          obtain ⟨k, hk⟩ : ∃ k, k = (setsL l[j] 16)[q] := ⟨_, rfl⟩
          have hkm := sets_mem.1 (hk ▸ List.getElem_mem hqs : k ∈ setsL l[j] 16)
          have hk16 := hkm.1
          have hkn : k ∉ (setsL l[j] 16).take q := by
            intro hm
            obtain ⟨i, hi, e⟩ := List.getElem_of_mem hm
            rw [List.getElem_take] at e
            rw [List.length_take] at hi
            exact (List.pairwise_iff_getElem.1 (sets_nodup l[j] 16)) i q (by omega) hqs (by omega) (e.trans hk)
          have htk : (setsL l[j] 16).take (q + 1) = (setsL l[j] 16).take q ++ [k] := by rw [List.take_succ_eq_append_getElem hqs, ← hk]
          rw [← hk] at hc5
          have hk0 : (0 : Int) ≤ (k : Int) := by omega
          have hk3 : (k : Int) < (16 : Int) := by omega
          obtain ⟨x, hx⟩ : ∃ x, x = cnt (l.take j) k := ⟨_, rfl⟩
          have hxb : x ≤ j := hx ▸ cnt_le l j k
          have hnl := Hnl.out
          have hx0 : (0 : Int) ≤ (x : Int) := by omega
          have hx1 : (x : Int) + 1 ≤ 9223372036854775807 := by omega
          clear hnl
          have hcc := hc1.out.c hk16
          have hff := hc1.out.fz k
          rw [show mixR l j ((setsL l[j] 16).take q) k = x from by unfold mixR; rw [if_neg hkn, hx]; rfl] at hcc
          have hnew : AC (wr.setCell ⟨w.heap.size + 1, k, none⟩ (.int .i64 ((x : Int) + 1))) (w.heap.size + 1) (mixR l j ((setsL l[j] 16).take (q + 1))) := hc1.out.set hk16 (by
            unfold mixR
            rw [htk, if_pos (by simp), ← hx]
            push_cast
            rfl) (fun p _ hp => by
              unfold mixR
              rw [htk]
              congr 1
              by_cases hm : p ∈ (setsL l[j] 16).take q
              · rw [if_pos hm, if_pos (List.mem_append_left _ hm)]
              · rw [if_neg hm, if_neg (by rw [List.mem_append, List.mem_singleton]; exact fun h => h.elim hm hp)])
          have HN := Lib.hid hnew
          have HB := Lib.hid (hnx.setCell (p := ⟨w.heap.size + 1, k, none⟩) (Nat.le_succ _) (.int .i64 ((x : Int) + 1)))
          have HO6 := Lib.hid (OwnN.other HO5.out (p := ⟨w.heap.size + 1, k, none⟩) (by show w.heap.size + 1 < wB; have := hBg.out; omega) (.int .i64 ((x : Int) + 1)))
          clear hx hnew hk htk hkn hgo hcell5 hkm hgB hcell
          go_wp2
          go_roundw
          case rel => exact ⟨q + 1, by omega, by go_num, HB.out, Lib.hid (hc0.out.other (by show w.heap.size ≠ w.heap.size + 1; omega) _), HN, HO6⟩
          case measure => simp [intOf] <;> omega
        · obtain rfl : q = (setsL l[j] 16).length := by omega
          go_wp2
          go_roundw
          case rel => exact ⟨j + 1, by omega, by go_num, hnx, hc0, Lib.hid (hc1.out.congr (fun k hk => by rw [List.take_length]; exact mixR_all hlt hk))⟩
          case measure => simp [intOf] <;> omega
    · obtain rfl : j = l.length := by omega
      have hc1f := hc1.out
      have hc0f := hc0.out
      rw [List.take_length] at hc1f
      have hnl := Hnl.out
      have hb3 : ¬ ((l.length : Int) < (n : Int)) := by omega
      unfold AC at hc1f hc0f
      have hif : (Tryd.prog.info? 48).map (·.size) = some (arr (cnt l)).size := by rw [arr_size]; kernel_rfl
      have Hif := Lib.hid hif
      have hone := arr_one (cnt l)
      have hz : (arr fun _ => 0).size = (arr (cnt l)).size := by rw [arr_size, arr_size]
      clear hnl hif
      go_wp2_with (first
        | (refine wpList_load_row rfl 48 _ rfl (w.heap.size + 1) rfl _ _ _ _ hc1f Tryd.underlying48 rfl Hif.out ?_)
        | (refine wpList_store_row rfl 48 _ _ rfl w.heap.size _ rfl rfl _ _ hc0f Hif.out hz hone ?_))
      have hrow := setRow_heap wr w.heap.size _ (arr (cnt l)) _ _ hc0f
      refine bodyPost_ret (results_cell_row rfl _ _ w.heap.size _ _ _ _ rfl hrow Tryd.underlying48 rfl Hif.out) rfl ?_
      exact ⟨rfl, below_setRow hnx (Nat.le_refl _) _⟩
end Go.Proofs.YtknpppppjmhomaaDoor.Ct
