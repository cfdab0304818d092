/- The small predicates of package nest, as functions and as function values. -/
import Derived.Test.YtddgpkdhakjjaaaDoorProg
import Derived.Test.YtddgpkdhakjjaaaDoorStr
import Derived.Test.YtddgpkdhakjjaaaDoorIn
import Derived.Test.YtddgpkdhakjjaaaDoorTop
set_option linter.unusedVariables false
set_option linter.unusedSimpArgs false
namespace Go.Proofs.YtddgpkdhakjjaaaDoor.Np
open Go.RowKit Lb Fl Is Tp


/-- is it td? -/
def is_td (s : ByteArray) : Bool := s.toList == [116, 100]

/-- is it th? -/
def is_th (s : ByteArray) : Bool := s.toList == [116, 104]

/-- is it caption? -/
def is_caption (s : ByteArray) : Bool := s.toList == [99, 97, 112, 116, 105, 111, 110]

/-- is it table? -/
def is_table (s : ByteArray) : Bool := s.toList == [116, 97, 98, 108, 101]

/-- is it thead? -/
def is_thead (s : ByteArray) : Bool := s.toList == [116, 104, 101, 97, 100]

/-- is it tbody? -/
def is_tbody (s : ByteArray) : Bool := s.toList == [116, 98, 111, 100, 121]

/-- is it tfoot? -/
def is_tfoot (s : ByteArray) : Bool := s.toList == [116, 102, 111, 111, 116]

/-- is it tr? -/
def is_tr (s : ByteArray) : Bool := s.toList == [116, 114]

/-- is it ul? -/
def is_ul (s : ByteArray) : Bool := s.toList == [117, 108]

/-- is it ol? -/
def is_ol (s : ByteArray) : Bool := s.toList == [111, 108]

/-- is it menu? -/
def is_menu (s : ByteArray) : Bool := s.toList == [109, 101, 110, 117]

/-- is it li? -/
def is_li (s : ByteArray) : Bool := s.toList == [108, 105]

/-- is it dl? -/
def is_dl (s : ByteArray) : Bool := s.toList == [100, 108]

/-- is it dd? -/
def is_dd (s : ByteArray) : Bool := s.toList == [100, 100]

/-- is it dt? -/
def is_dt (s : ByteArray) : Bool := s.toList == [100, 116]

/-- is it p? -/
def is_p (s : ByteArray) : Bool := s.toList == [112]

/-- is it a? -/
def is_a (s : ByteArray) : Bool := s.toList == [97]

/-- is it colgroup? -/
def is_colgroup (s : ByteArray) : Bool := s.toList == [99, 111, 108, 103, 114, 111, 117, 112]

/-- is it col? -/
def is_col (s : ByteArray) : Bool := s.toList == [99, 111, 108]

/-- is it textarea? -/
def is_textarea (s : ByteArray) : Bool := s.toList == [116, 101, 120, 116, 97, 114, 101, 97]

def cellB (s : ByteArray) : Bool := is_td s || is_th s || is_caption s
def wallB (s : ByteArray) : Bool := cellB s || is_table s
def groupB (s : ByteArray) : Bool := is_thead s || is_tbody s || is_tfoot s
def listB (s : ByteArray) : Bool := is_ul s || is_ol s || is_menu s
def headB (s : ByteArray) : Bool := inS s 5
def namedB (x s : ByteArray) : Bool := s.toList == x.toList

set_option maxHeartbeats 800000 in
theorem cellC (s : ByteArray) (w : World) : Calls Tryd.prog 70 #[.string s] w fun e w' => e = .returned (.bool (cellB s)) ∧ w = w' := by
  cases h1 : (s.toList == [116, 100]) <;> cases h2 : (s.toList == [116, 104]) <;> cases h3 : (s.toList == [99, 97, 112, 116, 105, 111, 110])
  all_goals
    go_enter Tryd.func70, Tryd.ntmps70
    go_wp2
    all_goals (go_ret; exact ⟨rb (by simp [cellB, is_td, is_th, is_caption, h1, h2, h3]), rfl⟩)

set_option maxHeartbeats 800000 in
theorem groupC (s : ByteArray) (w : World) : Calls Tryd.prog 54 #[.string s] w fun e w' => e = .returned (.bool (groupB s)) ∧ w = w' := by
  cases h1 : (s.toList == [116, 104, 101, 97, 100]) <;> cases h2 : (s.toList == [116, 98, 111, 100, 121]) <;> cases h3 : (s.toList == [116, 102, 111, 111, 116])
  all_goals
    go_enter Tryd.func54, Tryd.ntmps54
    go_wp2
    all_goals (go_ret; exact ⟨rb (by simp [groupB, is_thead, is_tbody, is_tfoot, h1, h2, h3]), rfl⟩)

set_option maxHeartbeats 800000 in
theorem listC (s : ByteArray) (w : World) : Calls Tryd.prog 55 #[.string s] w fun e w' => e = .returned (.bool (listB s)) ∧ w = w' := by
  cases h1 : (s.toList == [117, 108]) <;> cases h2 : (s.toList == [111, 108]) <;> cases h3 : (s.toList == [109, 101, 110, 117])
  all_goals
    go_enter Tryd.func55, Tryd.ntmps55
    go_wp2
    all_goals (go_ret; exact ⟨rb (by simp [listB, is_ul, is_ol, is_menu, h1, h2, h3]), rfl⟩)

set_option maxHeartbeats 800000 in
theorem wallC (s : ByteArray) (w : World) : Calls Tryd.prog 49 #[.string s] w fun e w' => e = .returned (.bool (wallB s)) ∧ w = w' := by
  cases h1 : cellB s <;> cases h2 : (s.toList == [116, 97, 98, 108, 101])
  all_goals
    go_enter Tryd.func49, Tryd.ntmps49
    go_wp2_with (go_at_call 70; refine (cellC _ _).mono ?_; rintro e w' ⟨rfl, rfl⟩)
    all_goals (go_ret; exact ⟨rb (by simp [wallB, is_table, h1, h2]), rfl⟩)

set_option maxHeartbeats 400000 in
theorem headC (s : ByteArray) (w : World) (ht : Tab w) : Calls Tryd.prog 50 #[.string s] w fun e w' => e = .returned (.bool (headB s)) ∧ Below w.heap.size w w' := by
  go_enter Tryd.func50, Tryd.ntmps50
  go_wp2_with (go_at_call 17; refine (nIn _ _ _ ht).mono ?_; rintro e w' ⟨rfl, hb⟩)
  go_ret
  exact ⟨rfl, hb⟩

set_option maxHeartbeats 400000 in
theorem neverC (s : ByteArray) (w : World) : Calls Tryd.prog 51 #[.string s] w fun e w' => e = .returned (.bool false) ∧ w = w' := by
  go_enter Tryd.func51, Tryd.ntmps51
  go_wp2
  go_ret
  exact ⟨rfl, rfl⟩

set_option maxHeartbeats 400000 in
theorem namedC (s : ByteArray) (w : World) : Calls Tryd.prog 48 #[.string s] w fun e w' => e = .returned (.func (.func 76) #[] #[.pointer (some ⟨w.heap.size, 0, none⟩)]) ∧ w' = w.alloc (.cells #[.string s] 9) := by
  go_enter Tryd.func48, Tryd.ntmps48
  go_wp2
  go_ret
  exact ⟨rfl, rfl⟩

set_option maxHeartbeats 400000 in
theorem named1C (x s : ByteArray) (b : Nat) (w : World) (hc : w.cell? ⟨b, 0, none⟩ = some (.string x)) : Calls Tryd.prog 76 #[.string s, .pointer (some ⟨b, 0, none⟩)] w fun e w' => e = .returned (.bool (namedB x s)) ∧ w = w' := by
  go_enter Tryd.func76, Tryd.ntmps76
  go_wp2
  go_ret
  exact ⟨rfl, rfl⟩

theorem cellP (w : World) : Pd w 70 #[] cellB :=
  ⟨enters_of Tryd.func70 (by kernel_rfl) rfl, fun W _ s => (cellC s W).mono fun _ _ ⟨h1, h2⟩ => ⟨h1, h2 ▸ Below.refl _ _⟩⟩

theorem wallP (w : World) : Pd w 49 #[] wallB :=
  ⟨enters_of Tryd.func49 (by kernel_rfl) rfl, fun W _ s => (wallC s W).mono fun _ _ ⟨h1, h2⟩ => ⟨h1, h2 ▸ Below.refl _ _⟩⟩

theorem groupP (w : World) : Pd w 54 #[] groupB :=
  ⟨enters_of Tryd.func54 (by kernel_rfl) rfl, fun W _ s => (groupC s W).mono fun _ _ ⟨h1, h2⟩ => ⟨h1, h2 ▸ Below.refl _ _⟩⟩

theorem listP (w : World) : Pd w 55 #[] listB :=
  ⟨enters_of Tryd.func55 (by kernel_rfl) rfl, fun W _ s => (listC s W).mono fun _ _ ⟨h1, h2⟩ => ⟨h1, h2 ▸ Below.refl _ _⟩⟩

theorem neverP (w : World) : Pd w 51 #[] (fun _ => false) :=
  ⟨enters_of Tryd.func51 (by kernel_rfl) rfl, fun W _ s => (neverC s W).mono fun _ _ ⟨h1, h2⟩ => ⟨h1, h2 ▸ Below.refl _ _⟩⟩
theorem headP (w : World) (ht : Tab w) : Pd w 50 #[] headB :=
  ⟨enters_of Tryd.func50 (by kernel_rfl) rfl, fun W hW s => headC s W (ht.below hW)⟩
theorem namedP (x : ByteArray) (b : Nat) (w : World) (hb : b < w.heap.size) (hc : w.cell? ⟨b, 0, none⟩ = some (.string x)) : Pd w 76 #[.pointer (some ⟨b, 0, none⟩)] (namedB x) :=
  ⟨enters_of Tryd.func76 (by kernel_rfl) rfl, fun W hW s => (named1C x s b W ((hW.cell (p := ⟨b, 0, none⟩) hb).trans hc)).mono fun _ _ ⟨h1, h2⟩ => ⟨h1, h2 ▸ Below.refl _ _⟩⟩

/-- the top of a stack -/
def topS (l : List ByteArray) : ByteArray := l.getLastD ⟨#[]⟩
theorem topS_at {l : List ByteArray} (h : 0 < l.length) : topS l = l[l.length - 1] := by
  have hne : l ≠ [] := by intro e; subst e; simp at h
  unfold topS
  rw [List.getLastD_eq_getLast?, List.getLast?_eq_some_getLast hne, Option.getD_some, List.getLast_eq_getElem]
/-- the slice at A, of n elements, reads as the texts l, below block B, while below B nothing turns -/
def RdB (w : World) (B : Nat) (A : Option Addr) (n : Nat) (l : List ByteArray) : Prop :=
  n = l.length ∧ ∀ j (h : j < l.length), ∃ b off, A = some ⟨b, off, none⟩ ∧ b < B ∧ ∀ w', Below B w w' → w'.cell? ⟨b, off + j, none⟩ = some (.string l[j])
theorem RdB.of {w : World} {A : Option Addr} {n : Nat} {l : List ByteArray} (h : Rd w A n l) : RdB w w.heap.size A n l := h
theorem RdB.below {w w' : World} {B : Nat} {A : Option Addr} {n : Nat} {l : List ByteArray} (h : RdB w B A n l) (hb : Below B w w') : RdB w' B A n l :=
  ⟨h.1, fun j hj => by
    obtain ⟨b, off, e, hlt, hc⟩ := h.2 j hj
    exact ⟨b, off, e, hlt, fun w2 h2 => hc w2 (hb.trans h2)⟩⟩
theorem RdB.rd {w : World} {B : Nat} {A : Option Addr} {n : Nat} {l : List ByteArray} (h : RdB w B A n l) (hB : B ≤ w.heap.size) : Rd w A n l :=
  ⟨h.1, fun j hj => by
    obtain ⟨b, off, e, hlt, hc⟩ := h.2 j hj
    exact ⟨b, off, e, by omega, fun w2 h2 => hc w2 (h2.mono hB)⟩⟩
theorem RdB.take {w : World} {B : Nat} {A : Option Addr} {n : Nat} {l : List ByteArray} (h : RdB w B A n l) {k : Nat} (hk : k ≤ n) : RdB w B A k (l.take k) := by
  have hn := h.1
  refine ⟨by rw [List.length_take]; omega, fun j hj => ?_⟩
  have hj2 : j < l.length := by rw [List.length_take] at hj; omega
  obtain ⟨b, off, e, hlt, hc⟩ := h.2 j hj2
  exact ⟨b, off, e, hlt, fun w2 h2 => by rw [hc w2 h2, List.getElem_take]⟩
theorem RdB.nil (w : World) (B : Nat) (A : Option Addr) : RdB w B A 0 [] := ⟨rfl, fun j hj => by simp at hj⟩

set_option maxHeartbeats 800000 in
theorem topC {A : Option Addr} {n c : Nat} {l : List ByteArray} (w : World) (hr : Rd w A n l) (hn : n ≤ 9223372036854775807) : Calls Tryd.prog 53 #[.slice A n c] w fun e w' => e = .returned (.string (topS l)) ∧ w = w' := by
  by_cases h0 : n = 0
  · have hl : l = [] := List.eq_nil_of_length_eq_zero (by rw [← hr.len]; exact h0)
    have hv : Hid (topS l = ⟨#[]⟩) := Lib.hid (by rw [hl]; rfl)
    subst h0
    clear hr hl
    go_enter Tryd.func53, Tryd.ntmps53
    go_wp2
    go_ret
    exact ⟨rs hv.out, rfl⟩
  · have hn1 : ((n : Int) == 0) = false := by rw [beq_eq_false_iff_ne]; omega
    have hl0 : 0 < l.length := by rw [← hr.len]; omega
    obtain ⟨b, off, rfl, _, hc⟩ := hr.get (j := l.length - 1) (by omega)
    have hcx := hc w (Below.refl _ _)
    have hv : Hid (topS l = l[l.length - 1]) := Lib.hid (topS_at hl0)
    obtain ⟨y, hy⟩ : ∃ y, y = l[l.length - 1] := ⟨_, rfl⟩
    rw [← hy] at hcx hv
    have e : l.length = n := hr.len.symm
    have hcx2 : w.cell? ⟨b, off + (n - 1), none⟩ = some (.string y) := by rw [← e]; exact hcx
    have hp : 0 < n := by omega
    obtain ⟨m, rfl⟩ : ∃ m, n = m + 1 := ⟨n - 1, by omega⟩
    rw [Nat.add_sub_cancel] at hcx2
    clear hr hy hc hcx e hl0 h0
    go_enter Tryd.func53, Tryd.ntmps53
    go_wp2
    go_ret
    exact ⟨rs hv.out, rfl⟩

end Go.Proofs.YtddgpkdhakjjaaaDoor.Np
