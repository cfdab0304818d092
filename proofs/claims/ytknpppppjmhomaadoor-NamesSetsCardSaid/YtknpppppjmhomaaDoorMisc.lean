/- Texts compared in small letters; joined; collapsed; two lists of texts compared. -/
import Derived.Test.YtknpppppjmhomaaDoorProg
import Derived.Test.YtknpppppjmhomaaDoorLib
import Derived.Test.YtknpppppjmhomaaDoorShelf
import Derived.Test.YtknpppppjmhomaaDoorLower
import Derived.Test.YtknpppppjmhomaaDoorFields
import Derived.BigQuiet
import Derived.Deep.QuietTactic
namespace Go.Proofs.YtknpppppjmhomaaDoor.Ms
open Go.RowKit Lb Lw Fl

def foldS (a b : ByteArray) : Bool := (lowS a).toList == (lowS b).toList
set_option maxHeartbeats 400000 in
theorem nFold (a b : ByteArray) (w : World) (ha : a.size ≤ maxLen) (hb : b.size ≤ maxLen) : Calls Tryd.prog 22 #[.string a, .string b] w fun e w' => e = .returned (.bool (foldS a b)) ∧ Below w.heap.size w w' := by
  go_enter Tryd.func22, Tryd.ntmps22
  go_wp2_with fail
  refine (nLower _ _ ha).mono ?_
  rintro e w1 ⟨rfl, hb1⟩
  go_wp2_with fail
  refine (nLower _ _ hb).mono ?_
  rintro e w2 ⟨rfl, hb2⟩
  go_wp2_with fail
  go_ret
  exact ⟨rfl, hb1.trans (hb2.mono hb1.size)⟩
set_option maxHeartbeats 400000 in
theorem rFold (a b : ByteArray) (w : World) (ha : a.size ≤ maxLen) (hb : b.size ≤ maxLen) : Calls Tryd.prog 23 #[.string a, .string b] w fun e w' => e = .returned (.bool (foldS a b)) ∧ Below w.heap.size w w' := by
  go_enter Tryd.func23, Tryd.ntmps23
  go_wp2_with fail
  refine (rLower _ _ ha).mono ?_
  rintro e w1 ⟨rfl, hb1⟩
  go_wp2_with fail
  refine (rLower _ _ hb).mono ?_
  rintro e w2 ⟨rfl, hb2⟩
  go_wp2_with fail
  go_ret
  exact ⟨rfl, hb1.trans (hb2.mono hb1.size)⟩

def joinS (l : List ByteArray) (sep : ByteArray) : ByteArray := str (Lib.join (l.map (·.data.toList)) sep.data.toList)
/-- strings.Join of a row of the call's own -/
theorem joinOwn {B n c : Nat} {A : Option Addr} (l : List ByteArray) (sep : ByteArray) (w : World) (h : Own w B (.slice A n c) l) (hn : n = l.length) (hN : l.length ≤ 140737488355328) (hlen : (joinS l sep).size ≤ 140737488355328) :
    Calls Tryd.prog 62 #[.slice A n c, .string sep] w fun e w' => e = .returned (.string (joinS l sep)) ∧ Below w.heap.size w w' := by
  subst hn
  by_cases hz : l.length = 0
  · have hl : l = [] := List.eq_nil_of_length_eq_zero hz
    subst hl
    refine (Tryd.strings_Join_none A c sep w).mono ?_
    rintro e w' ⟨rfl, rfl⟩
    exact ⟨rfl, Below.refl _ _⟩
  · obtain ⟨A', c', hv, hc1, _, hcells⟩ := Sl.of_own h
    injection hv with hA hn hcc
    subst hA hcc
    obtain ⟨b, off, rfl, hb, hcell⟩ := hcells (by simp; omega)
    unfold joinS at hlen
    rw [str_size] at hlen
    exact Tryd.strings_Join b off c l sep w (fun j x hx => hcell j _ (by rw [List.getElem?_map, hx]; rfl)) hb hN hc1 hlen

def collS (s : ByteArray) : ByteArray := joinS (fieldsS s) (str [32])
theorem joinTail_len (sep : List UInt8) (r : List (List UInt8)) : (Lib.joinTail sep r).length = (r.map fun x => sep.length + x.length).sum := by
  unfold Lib.joinTail
  rw [List.length_flatten, List.map_map]
  congr 1
  simp
theorem flds_total : ∀ (r cur : List UInt8), ((flds cur r).map fun x => 1 + x.length).sum ≤ cur.length + r.length + 1
  | [], cur => by simp only [flds]; split <;> simp <;> omega
  | c :: r, cur => by
    simp only [flds]
    have h1 := flds_total r []
    have h2 := flds_total r (cur ++ [c])
    simp only [List.length_append, List.length_cons, List.length_nil] at h1 h2 ⊢
    split
    · split
      · omega
      · simp only [List.map_cons, List.sum_cons]; omega
    · omega
theorem join_len (l : List (List UInt8)) (c : UInt8) : (Lib.join l [c]).length ≤ (l.map fun x => 1 + x.length).sum := by
  cases l with
  | nil => simp [Lib.join]
  | cons x r =>
    rw [Lib.join_cons, List.length_append, joinTail_len]
    simp only [List.map_cons, List.sum_cons, List.length_singleton]
    omega
theorem fieldsS_lists (s : ByteArray) : (fieldsS s).map (·.data.toList) = fieldsL s.data.toList := by
  unfold fieldsS; rw [List.map_map]
  have : (fun x : ByteArray => x.data.toList) ∘ str = id := by funext x; exact str_toList x
  rw [this, List.map_id]
theorem collS_size (s : ByteArray) : (collS s).size ≤ s.size + 1 := by
  unfold collS joinS
  rw [str_size, fieldsS_lists, str_toList]
  have h1 := join_len (fieldsL s.data.toList) 32
  have h2 := flds_total s.data.toList []
  rw [size_len] at h2
  unfold fieldsL at h1 ⊢
  simp at h2
  omega
theorem fieldsS_len (s : ByteArray) : (fieldsS s).length ≤ s.size + 1 := by
  have h1 := flds_length s.data.toList []
  rw [size_len] at h1
  unfold fieldsS fieldsL; simpa using h1

set_option maxHeartbeats 400000 in
theorem nCollapse (s : ByteArray) (w : World) (hs : s.size ≤ 2147483647) : Calls Tryd.prog 17 #[.string s] w fun e w' => e = .returned (.string (collS s)) ∧ Below w.heap.size w w' := by
  have h1 := fieldsS_len s
  have h2 := collS_size s
  go_enter Tryd.func17, Tryd.ntmps17
  go_wp2_with fail
  refine (nFieldsR _ _ hs).mono ?_
  rintro e w1 ⟨A, c, rfl, hown, hb1⟩
  go_wp2_with fail
  refine (joinOwn (fieldsS s) (str [32]) w1 hown rfl (by omega) (show (collS s).size ≤ _ by omega)).mono ?_
  rintro e w2 ⟨rfl, hb2⟩
  go_wp2_with fail
  go_ret
  exact ⟨rfl, hb1.trans (hb2.mono hb1.size)⟩

/-- the same two lists? -/
def sameL (a b : List ByteArray) : Bool := decide (a = b)
theorem same_len {a b : List ByteArray} (h : a.length ≠ b.length) : sameL a b = false := by
  unfold sameL; rw [decide_eq_false_iff_not]; intro e; exact h (by rw [e])
theorem same_at {a b : List ByteArray} {k : Nat} (h1 : k < a.length) (h2 : k < b.length) (h : a[k] ≠ b[k]) : sameL a b = false := by
  unfold sameL; rw [decide_eq_false_iff_not]; intro e; subst e; exact h rfl
theorem same_all {a b : List ByteArray} (h : a.length = b.length) (hk : ∀ k (h1 : k < a.length) (h2 : k < b.length), a[k] = b[k]) : sameL a b = true := by
  unfold sameL; rw [decide_eq_true_iff]; exact List.ext_getElem h hk

set_option maxHeartbeats 2000000 in
set_option maxRecDepth 100000 in
theorem lSame {A B : Option Addr} {n m c d : Nat} {a b : List ByteArray} (w : World) (ha : Rd w A n a) (hb : Rd w B m b) (hn : n ≤ 9223372036854775807) (hm : m ≤ 9223372036854775807) :
    Calls Tryd.prog 18 #[.slice A n c, .slice B m d] w fun e w' => e = .returned (.bool (sameL a b)) ∧ Below w.heap.size w w' := by
  by_cases hl : n = m
  · subst hl
    have hla := Lib.hid ha.len
    have hlb := Lib.hid hb.len
    have HA := Lib.hid ha
    have HB := Lib.hid hb
    clear ha hb
    have e0 : ((n : Int) != (n : Int)) = false := by simp
    go_enter Tryd.func18, Tryd.ntmps18
    go_wp2
    go_loopw [13] (fun i wr => ∃ k : Nat, k ≤ n ∧ i = .int .i64 k ∧ Below w.heap.size w wr ∧ Hid (∀ j (h1 : j < a.length) (h2 : j < b.length), j < k → a[j] = b[j])) (fun i _ => n - (intOf i).toNat)
    case atStart => exact ⟨0, by omega, rfl, Below.refl _ _, Lib.hid (fun j _ _ hj => by omega)⟩
    case round =>
      obtain ⟨k, hk, rfl, hnx, hall⟩ := hrel
      by_cases hlt : k < n
      · have hka : k < a.length := by rw [← hla.out]; exact hlt
        have hkb : k < b.length := by rw [← hlb.out]; exact hlt
        obtain ⟨b1, o1, rfl, _, hc1⟩ := HA.out.get hka
        obtain ⟨b2, o2, rfl, _, hc2⟩ := HB.out.get hkb
        have hx1 := hc1 wr hnx
        have hx2 := hc2 wr hnx
        obtain ⟨x, hx⟩ : ∃ x, x = a[k] := ⟨_, rfl⟩
        obtain ⟨y, hy⟩ : ∃ y, y = b[k] := ⟨_, rfl⟩
        rw [← hx] at hx1
        rw [← hy] at hx2
        have HX := Lib.hid hx
        have HY := Lib.hid hy
        clear hx hy hc1 hc2
        have hb1 : (k : Int) < (n : Int) := by omega
        have hb0 : (0 : Int) ≤ (k : Int) := by omega
        by_cases e : x = y
        · have he := toList_eq_of e
          have hall2 : Hid (∀ j (h1 : j < a.length) (h2 : j < b.length), j < k + 1 → a[j] = b[j]) := Lib.hid (fun j h1 h2 hj => by
            by_cases ex : j = k
            · subst ex; rw [← HX.out, ← HY.out]; exact e
            · exact hall.out j h1 h2 (by omega))
          clear e
          go_wp2
          go_quiet (fail)
          go_wp2
          go_roundw
          case rel => exact ⟨k + 1, by omega, by go_num, below_drewN hnx _, hall2⟩
          case measure => simp [intOf] <;> omega
        · have he := toList_ne_of e
          have hfin := Lib.hid (same_at hka hkb (by rw [← HX.out, ← HY.out]; exact e))
          clear e
          go_wp2
          go_quiet (fail)
          go_wp2
          go_ret
          exact ⟨rb hfin.out, below_drewN hnx _⟩
      · have hfin := Lib.hid (same_all (by rw [← hla.out, ← hlb.out]) (fun j h1 h2 => hall.out j h1 h2 (by have h3 := hla.out; omega)))
        go_wp2
        go_ret
        exact ⟨rb hfin.out, hnx⟩
  · have hfin := Lib.hid (same_len (a := a) (b := b) (by rw [← ha.len, ← hb.len]; exact hl))
    have e0 : ((n : Int) != (m : Int)) = true := by rw [bne_iff_ne]; omega
    clear ha hb hl
    go_enter Tryd.func18, Tryd.ntmps18
    go_wp2
    go_ret
    exact ⟨rb hfin.out, Below.refl _ _⟩

/-- what the reference's Collapse has when it has gone over so many -/
def upto (l : List ByteArray) (k : Nat) : ByteArray := joinS (l.take k) (str [32])
theorem upto_all (s : ByteArray) : upto (fieldsS s) (fieldsS s).length = collS s := by unfold upto collS; rw [List.take_length]
theorem upto_one {l : List ByteArray} (h : 0 < l.length) : upto l 1 = l[0] := by
  unfold upto joinS
  rw [List.take_succ_eq_append_getElem h, List.take_zero]
  simp [Lib.join_one, str_of]
theorem upto_succ {l : List ByteArray} {k : Nat} (h : k < l.length) (h0 : 0 < k) : upto l (k + 1) = upto l k ++ str [32] ++ l[k] := by
  unfold upto joinS
  rw [List.take_succ_eq_append_getElem h, List.map_append]
  have hne : (l.take k).map (·.data.toList) ≠ [] := by
    intro e
    have h3 := congrArg List.length e
    rw [List.length_map, List.length_take, List.length_nil] at h3
    omega
  obtain ⟨x, r, hx⟩ : ∃ x r, (l.take k).map (·.data.toList) = x :: r := by
    cases hq : (l.take k).map (·.data.toList) with
    | nil => exact absurd hq hne
    | cons x r => exact ⟨x, r, rfl⟩
  rw [hx]
  simp only [List.cons_append, List.map_cons, List.map_nil, Lib.join_cons, Lib.joinTail, List.map_append, List.flatten_append, List.flatten_cons, List.flatten_nil, List.append_nil]
  apply ByteArray.ext
  apply Array.toList_inj.1
  simp [str]

theorem upto_zero (l : List ByteArray) : upto l 0 = ⟨#[]⟩ := rfl
theorem upto_size {s : ByteArray} {k : Nat} : (upto (fieldsS s) k).size ≤ s.size + 1 := by
  unfold upto joinS
  rw [str_size, List.map_take, fieldsS_lists, str_toList]
  have h1 := join_len ((fieldsL s.data.toList).take k) 32
  have h2 := flds_total s.data.toList []
  rw [size_len] at h2
  simp at h2
  have h3 : (((fieldsL s.data.toList).take k).map fun x => 1 + x.length).sum ≤ ((fieldsL s.data.toList).map fun x => 1 + x.length).sum := by
    rw [← List.take_append_drop k (fieldsL s.data.toList)]
    simp only [List.map_append, List.sum_append]
    rw [List.take_append_drop]
    omega
  unfold fieldsL at h1 h3 ⊢
  omega
theorem le_sum : ∀ {l : List Nat} {x : Nat}, x ∈ l → x ≤ l.sum
  | [], _, h => by cases h
  | y :: r, x, h => by
    rw [List.sum_cons]
    rcases List.mem_cons.1 h with rfl | h
    · omega
    · have := le_sum h; omega
theorem field_size {s : ByteArray} {k : Nat} (h : k < (fieldsS s).length) : ((fieldsS s)[k]).size ≤ s.size + 1 := by
  have h2 := flds_total s.data.toList []
  rw [size_len] at h2
  simp at h2
  have h4 : k < (fieldsL s.data.toList).length := by unfold fieldsS at h; simpa using h
  have h3 : 1 + ((fieldsL s.data.toList)[k]).length ≤ ((fieldsL s.data.toList).map fun x => 1 + x.length).sum := by
    exact le_sum (List.mem_map.2 ⟨_, List.getElem_mem h4, rfl⟩)
  have h5 : (fieldsS s)[k] = str ((fieldsL s.data.toList)[k]) := by simp [fieldsS]
  rw [h5, str_size]
  unfold fieldsL at h3 ⊢
  omega

theorem nil_append (y : ByteArray) : (⟨#[]⟩ : ByteArray) ++ y = y := by
  apply ByteArray.ext
  apply Array.toList_inj.1
  simp
set_option maxHeartbeats 2000000 in
set_option maxRecDepth 100000 in
theorem rCollapse (s : ByteArray) (w : World) (hs : s.size ≤ 2147483647) : Calls Tryd.prog 25 #[.string s] w fun e w' => e = .returned (.string (collS s)) ∧ Below w.heap.size w w' := by
  have hfl := fieldsS_len s
  have hcs := Lib.hid (upto_all s)
  have hsz := fun k => upto_size (s := s) (k := k)
  have hfz := Lib.hid (fun k (h : k < (fieldsS s).length) => field_size h)
  have HZ := Lib.hid hsz
  clear hsz
  go_enter Tryd.func25, Tryd.ntmps25
  go_wp2_with (go_at_call 19; refine (rFieldsR _ _ hs).mono ?_; rintro e w1 ⟨A, c, rfl, hown, hb1⟩)
  have hrd := Lib.hid hown.rd
  clear hown
  generalize fieldsS s = F at *
  go_loopw [3, 9] (fun o i wr => ∃ k : Nat, k ≤ F.length ∧ i = .int .i64 k ∧ o = .string (upto F k) ∧ Below w1.heap.size w1 wr) (fun _ i _ => F.length - (intOf i).toNat)
  case atStart => exact ⟨0, by omega, rfl, rfl, Below.refl _ _⟩
  case round =>
    obtain ⟨k, hk, rfl, rfl, hnx⟩ := hrel
    by_cases hlt : k < F.length
    · obtain ⟨b, off, rfl, _, hc⟩ := hrd.out.get hlt
      have hcx := hc wr hnx
      obtain ⟨y, hy⟩ : ∃ y, y = F[k] := ⟨_, rfl⟩
      rw [← hy] at hcx
      have hys : y.size ≤ s.size + 1 := by rw [hy]; exact hfz.out k hlt
      have hus := HZ.out k
      have HY := Lib.hid hy
      clear hy hc
      by_cases h0 : 0 < k
      · have hu := Lib.hid (upto_succ hlt h0)
        go_wp2
        go_roundw
        case rel => exact ⟨k + 1, by omega, by go_num, by rw [hu.out, HY.out]; rfl, hnx⟩
        case measure => simp [intOf] <;> omega
      · obtain rfl : k = 0 := by omega
        have hu := Lib.hid (upto_one hlt)
        have hz := Lib.hid (upto_zero F)
        have hcx0 : wr.cell? ⟨b, off, none⟩ = some (.string y) := hcx
        clear hcx
        rw [hz.out]
        go_wp2
        go_roundw
        case rel => exact ⟨1, by omega, by go_num, by rw [hu.out, ← HY.out, nil_append], hnx⟩
        case measure => simp [intOf] <;> omega
    · obtain rfl : k = F.length := by omega
      go_wp2
      go_ret
      exact ⟨rs hcs.out.symm, hb1.trans (hnx.mono hb1.size)⟩
end Go.Proofs.YtknpppppjmhomaaDoor.Ms
