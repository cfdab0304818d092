/- The fields of a text: what Fields returns, the program's and the reference's: a row of the call's own that holds them. For texts of at most 2^31 - 1 bytes. -/
import Derived.Test.YtknpppppjmhomaaDoorProg
import Derived.Test.YtknpppppjmhomaaDoorLib
import Derived.Test.YtknpppppjmhomaaDoorCls
import Derived.Test.YtknpppppjmhomaaDoorText
namespace Go.Proofs.YtknpppppjmhomaaDoor.Fl
open Go.RowKit Lb Cls Tx

theorem infoStr : (Tryd.prog.info? 9).map (fun i => (i.zero, i.size, i.bytes)) = some (some (.string ByteArray.empty), 1, 16) := by kernel_rfl

/-- v is a row of texts of the call's own, from block B on -/
def Own (w : World) (B : Nat) (v : Value) (l : List ByteArray) : Prop := w.ownsRow B 9 1 v l.length (l.map Value.string)

theorem Own.nil (w : World) (B : Nat) : Own w B (.slice none 0 0) [] := World.ownsRow_nil _ _ _ _

theorem Own.push {w1 : World} {B : Nat} {v' : Value} {l : List ByteArray} {x : ByteArray} (h : w1.ownsRow B 9 1 v' (l.length + 1) (l.map Value.string ++ [.string x])) : Own w1 B v' (l ++ [x]) := by
  unfold Own
  simpa using h
theorem le_alloc {w : World} {B : Nat} (h : B ≤ w.heap.size) (o : Obj) : B ≤ (w.alloc o).heap.size := by simp; omega
theorem Own.ge {w : World} {B : Nat} {v : Value} {l : List ByteArray} (h : Own w B v l) : ∀ k, v.ownBlock = some k → B ≤ k := own_ge h
theorem push_below {w w1 wr : World} {B : Nat} {o : Obj} {v : Value} {l : List ByteArray} (h : Own wr B v l) (hnx : Below B w wr) (hB : B ≤ wr.heap.size) (hg : (wr.alloc o).grownBy w1 v.ownBlock) : Below B w w1 :=
  (hnx.alloc hB o).grown hg (by simp; omega) h.ge

set_option maxHeartbeats 2000000 in
set_option maxRecDepth 100000 in
theorem nFields (s : ByteArray) (w : World) (hs : s.size ≤ 2147483647) : Calls Tryd.prog 15 #[.string s] w fun e w' => ∃ v, e = .returned v ∧ Own w' w.heap.size v (fieldsS s) ∧ Below w.heap.size w w' := by
  obtain ⟨i0, hi, hz0, hz1, hz2⟩ := info_parts infoStr
  obtain ⟨L, hL⟩ : ∃ L, L = s.data.toList := ⟨_, rfl⟩
  have hLs : L.length = s.size := by rw [hL, size_len]
  have HLs := Lib.hid hLs; clear hLs
  have HL := Lib.hid hL; clear hL
  go_enter Tryd.func15, Tryd.ntmps15
  go_wp2
  go_loopw [3, 4, 5] (fun v f i wr => ∃ (k : Nat) (fr : Int) (done : List ByteArray), k ≤ s.size + 1 ∧ i = .int .i64 k ∧ f = .int .i64 fr ∧ Own wr w.heap.size v done ∧ Below w.heap.size w wr ∧ done.length ≤ k ∧
      ((fr = -1 ∧ Hid (done ++ (flds [] (L.drop k)).map str = fieldsS s)) ∨ (∃ a : Nat, fr = a ∧ a < k ∧ k ≤ s.size ∧ Hid (done ++ (flds ((L.drop a).take (k - a)) (L.drop k)).map str = fieldsS s)))) (fun _ _ i _ => s.size + 1 - (intOf i).toNat)
  case atStart => exact ⟨0, -1, [], by omega, rfl, rfl, Own.nil _ _, Below.refl _ _, by simp, .inl ⟨rfl, Lib.hid (by simp [fieldsS, fieldsL, HL.out])⟩⟩
  case round =>
    obtain ⟨k, fr, done, hk, rfl, rfl, hown, hnx, hdl, hst⟩ := hrel
    have hsz := hnx.size
    have g1 : done.length + 1 ≤ maxLen := by unfold maxLen; omega
    have g2 : (done.length + 1) * 16 ≤ 140737488355328 := by omega
    by_cases hlt : k < s.size
    · have hlL : k < L.length := by rw [HLs.out]; exact hlt
      have hck : s[k] = L[k] := by rw [at_list]; congr 1; exact HL.out.symm
      cases hb : blB s[k]
      · have hb' : blB L[k] = false := by rw [← hck]; exact hb
        rcases hst with ⟨rfl, hst⟩ | ⟨a, rfl, hak, _, hst⟩
        · have HC := Lib.hid hck; clear hck
          go_wp2_with (go_at_call 61; refine (nBlank8 _ _).mono ?_; rintro e w' ⟨rfl, rfl⟩)
          go_roundw
          case rel => exact ⟨k + 1, k, done, by omega, by go_num, rfl, hown, hnx, by omega, .inr ⟨k, rfl, by omega, by omega, Lib.hid (by
            have h1 := hst.out
            rw [flds_go hlL hb'] at h1
            have h2 := seg_step (l := L) (a := k) (k := k) hlL (Nat.le_refl _)
            rw [Nat.sub_self, List.take_zero] at h2
            rw [h2] at h1
            exact h1)⟩⟩
          case measure => simp [intOf] <;> omega
        · have HC := Lib.hid hck; clear hck
          have ha0 : 0 ≤ (a : Int) := by omega
          go_wp2_with (go_at_call 61; refine (nBlank8 _ _).mono ?_; rintro e w' ⟨rfl, rfl⟩)
          go_roundw
          case rel => exact ⟨k + 1, a, done, by omega, by go_num, rfl, hown, hnx, by omega, .inr ⟨a, rfl, by omega, by omega, Lib.hid (by
            have h1 := hst.out
            rw [flds_go hlL hb', seg_step hlL (by omega)] at h1
            exact h1)⟩⟩
          case measure => simp [intOf] <;> omega
      · have hb' : blB L[k] = true := by rw [← hck]; exact hb
        rcases hst with ⟨rfl, hst⟩ | ⟨a, rfl, hak, _, hst⟩
        · have HC := Lib.hid hck; clear hck
          go_wp2_with (go_at_call 61; refine (nBlank8 _ _).mono ?_; rintro e w' ⟨rfl, rfl⟩)
          go_roundw
          case rel => exact ⟨k + 1, -1, done, by omega, by go_num, rfl, hown, hnx, by omega, .inl ⟨rfl, Lib.hid (by rw [← flds_blank_none hlL hb']; exact hst.out)⟩⟩
          case measure => simp [intOf] <;> omega
        · have HC := Lib.hid hck; clear hck
          have hst2 : Hid ((done ++ [s.extract a k]) ++ (flds [] (L.drop (k + 1))).map str = fieldsS s) := Lib.hid (by
            have h1 := hst.out
            rw [flds_blank_some hlL hb' (seg_ne (by omega) hak)] at h1
            rw [← h1, extract_str, ← HL.out]; simp)
          clear hst
          go_wp2_with (first | (go_at_call 61; refine (nBlank8 _ _).mono ?_; rintro e w' ⟨rfl, rfl⟩) | (at_builtin; refine wpList_append_own _ rfl (.tmp 38) (.tmp 43) 25 rfl w.heap.size 9 i0 (.string ByteArray.empty) 1 16 Tryd.underlying25 hi hz0 hz1 hz2 rfl (by decide) _ _ _ rfl (hown.alloc _) ⟨wr.heap.size, 0, none⟩ 1 1 [.string (s.extract a k)] rfl rfl (one_new _ _ _) (one_cell rfl) g1 g2 (le_alloc hsz _) ?_))
          intro v' w1 hown' hgrow _
          have hown2 := Own.push hown'
          have hb2 := push_below hown hnx hsz hgrow
          clear hown' hgrow hown hnx
          go_wp2
          go_roundw
          case rel => exact ⟨k + 1, -1, _, by omega, by go_num, rfl, hown2, hb2, by simp; omega, .inl ⟨rfl, hst2⟩⟩
          case measure => simp [intOf] <;> omega
    · by_cases hke : k = s.size
      · have hlL : L.length ≤ k := by have hq := HLs.out; omega
        rcases hst with ⟨rfl, hst⟩ | ⟨a, rfl, hak, _, hst⟩
        · subst hke
          go_wp2
          go_roundw
          case rel => exact ⟨s.size + 1, -1, done, by omega, by go_num, rfl, hown, hnx, by omega, .inl ⟨rfl, Lib.hid (by
            have h1 := hst.out
            rw [flds_end_none hlL] at h1
            rw [flds_end_none (by omega)]; exact h1)⟩⟩
          case measure => simp [intOf] <;> omega
        · have hst2 : Hid ((done ++ [s.extract a k]) ++ (flds [] (L.drop (k + 1))).map str = fieldsS s) := Lib.hid (by
            have h1 := hst.out
            rw [flds_end_some hlL (seg_ne (by have hq := HLs.out; omega) hak)] at h1
            rw [← h1, extract_str, ← HL.out]; simp)
          clear hst
          subst hke
          go_wp2_with (at_builtin; refine wpList_append_own _ rfl (.tmp 38) (.tmp 43) 25 rfl w.heap.size 9 i0 (.string ByteArray.empty) 1 16 Tryd.underlying25 hi hz0 hz1 hz2 rfl (by decide) _ _ _ rfl (hown.alloc _) ⟨wr.heap.size, 0, none⟩ 1 1 [.string (s.extract a s.size)] rfl rfl (one_new _ _ _) (one_cell rfl) g1 g2 (le_alloc hsz _) ?_)
          intro v' w1 hown' hgrow _
          have hown2 := Own.push hown'
          have hb2 := push_below hown hnx hsz hgrow
          clear hown' hgrow hown hnx
          go_wp2
          go_roundw
          case rel => exact ⟨s.size + 1, -1, _, by omega, by go_num, rfl, hown2, hb2, by simp; omega, .inl ⟨rfl, hst2⟩⟩
          case measure => simp [intOf] <;> omega
      · rcases hst with ⟨rfl, hst⟩ | ⟨a, rfl, hak, hk2, hst⟩
        · have hfin : Hid (done = fieldsS s) := Lib.hid (by
            have h1 := hst.out
            rw [flds_end_none (by have hq := HLs.out; omega)] at h1
            simpa using h1)
          have hk3 : s.size < k := by omega
          clear hke hlt hst
          go_wp2
          go_ret
          exact ⟨_, rfl, by rw [← hfin.out]; exact hown, hnx⟩
        · exfalso; omega

set_option maxHeartbeats 2000000 in
set_option maxRecDepth 100000 in
theorem rFields (s : ByteArray) (w : World) (hs : s.size ≤ 2147483647) : Calls Tryd.prog 19 #[.string s] w fun e w' => ∃ v, e = .returned v ∧ Own w' w.heap.size v (fieldsS s) ∧ Below w.heap.size w w' := by
  obtain ⟨i0, hi, hz0, hz1, hz2⟩ := info_parts infoStr
  obtain ⟨L, hL⟩ : ∃ L, L = s.data.toList := ⟨_, rfl⟩
  have hLs : L.length = s.size := by rw [hL, size_len]
  have HLs := Lib.hid hLs; clear hLs
  have HL := Lib.hid hL; clear hL
  go_enter Tryd.func19, Tryd.ntmps19
  go_wp2
  go_loopw [3, 4, 5] (fun v f i wr => ∃ (k a : Nat) (done : List ByteArray), k ≤ s.size + 1 ∧ a ≤ k ∧ i = .int .i64 k ∧ f = .int .i64 a ∧ Own wr w.heap.size v done ∧ Below w.heap.size w wr ∧ done.length ≤ k ∧
      Hid (done ++ (flds ((L.drop a).take (k - a)) (L.drop k)).map str = fieldsS s) ∧ (k = s.size + 1 → a = k)) (fun _ _ i _ => s.size + 1 - (intOf i).toNat)
  case atStart => exact ⟨0, 0, [], by omega, by omega, rfl, rfl, Own.nil _ _, Below.refl _ _, by simp, Lib.hid (by simp [fieldsS, fieldsL, HL.out]), by omega⟩
  case round =>
    obtain ⟨k, a, done, hk, hak, rfl, rfl, hown, hnx, hdl, hst, hend⟩ := hrel
    have hsz := hnx.size
    have g1 : done.length + 1 ≤ maxLen := by unfold maxLen; omega
    have g2 : (done.length + 1) * 16 ≤ 140737488355328 := by omega
    by_cases hlt : k < s.size
    · have hlL : k < L.length := by rw [HLs.out]; exact hlt
      have hck : s[k] = L[k] := by rw [at_list]; congr 1; exact HL.out.symm
      cases hb : blB s[k]
      · have hb' : blB L[k] = false := by rw [← hck]; exact hb
        have HC := Lib.hid hck; clear hck hend
        go_wp2_with (go_at_call 63; refine (rBlank8 _ _).mono ?_; rintro e w' ⟨rfl, rfl⟩)
        go_roundw
        case rel => exact ⟨k + 1, a, done, by omega, by omega, by go_num, rfl, hown, hnx, by omega, Lib.hid (by
            have h1 := hst.out
            rw [flds_go hlL hb', seg_step hlL (by omega)] at h1
            exact h1), by omega⟩
        case measure => simp [intOf] <;> omega
      · have hb' : blB L[k] = true := by rw [← hck]; exact hb
        have HC := Lib.hid hck; clear hck hend
        by_cases hak2 : a < k
        · have hst2 : Hid ((done ++ [s.extract a k]) ++ (flds [] (L.drop (k + 1))).map str = fieldsS s) := Lib.hid (by
            have h1 := hst.out
            rw [flds_blank_some hlL hb' (seg_ne (by omega) hak2)] at h1
            rw [← h1, extract_str, ← HL.out]; simp)
          clear hst
          go_wp2_with (first | (go_at_call 63; refine (rBlank8 _ _).mono ?_; rintro e w' ⟨rfl, rfl⟩) | (at_builtin; refine wpList_append_own _ rfl (.tmp 26) (.tmp 31) 25 rfl w.heap.size 9 i0 (.string ByteArray.empty) 1 16 Tryd.underlying25 hi hz0 hz1 hz2 rfl (by decide) _ _ _ rfl (hown.alloc _) ⟨wr.heap.size, 0, none⟩ 1 1 [.string (s.extract a k)] rfl rfl (one_new _ _ _) (one_cell rfl) g1 g2 (le_alloc hsz _) ?_))
          intro v' w1 hown' hgrow _
          have hown2 := Own.push hown'
          have hb2 := push_below hown hnx hsz hgrow
          clear hown' hgrow hown hnx
          go_wp2
          go_roundw
          case rel => exact ⟨k + 1, k + 1, _, by omega, by omega, by go_num, by go_num, hown2, hb2, by simp; omega, by simpa using hst2, by omega⟩
          case measure => simp [intOf] <;> omega
        · have hst2 : Hid (done ++ (flds [] (L.drop (k + 1))).map str = fieldsS s) := Lib.hid (by
            have h1 := hst.out
            obtain rfl : a = k := by omega
            rw [Nat.sub_self, List.take_zero, flds_blank_none hlL hb'] at h1
            exact h1)
          clear hst
          go_wp2_with (go_at_call 63; refine (rBlank8 _ _).mono ?_; rintro e w' ⟨rfl, rfl⟩)
          go_roundw
          case rel => exact ⟨k + 1, k + 1, done, by omega, by omega, by go_num, by go_num, hown, hnx, by omega, by simpa using hst2, by omega⟩
          case measure => simp [intOf] <;> omega
    · by_cases hke : k = s.size
      · have hlL : L.length ≤ k := by have hq := HLs.out; omega
        clear hend
        by_cases hak2 : a < k
        · have hst2 : Hid ((done ++ [s.extract a k]) ++ (flds [] (L.drop (k + 1))).map str = fieldsS s) := Lib.hid (by
            have h1 := hst.out
            rw [flds_end_some hlL (seg_ne (by have hq := HLs.out; omega) hak2)] at h1
            rw [← h1, extract_str, ← HL.out]; simp)
          clear hst
          subst hke
          go_wp2_with (at_builtin; refine wpList_append_own _ rfl (.tmp 26) (.tmp 31) 25 rfl w.heap.size 9 i0 (.string ByteArray.empty) 1 16 Tryd.underlying25 hi hz0 hz1 hz2 rfl (by decide) _ _ _ rfl (hown.alloc _) ⟨wr.heap.size, 0, none⟩ 1 1 [.string (s.extract a s.size)] rfl rfl (one_new _ _ _) (one_cell rfl) g1 g2 (le_alloc hsz _) ?_)
          intro v' w1 hown' hgrow _
          have hown2 := Own.push hown'
          have hb2 := push_below hown hnx hsz hgrow
          clear hown' hgrow hown hnx
          go_wp2
          go_roundw
          case rel => exact ⟨s.size + 1, s.size + 1, _, by omega, by omega, by go_num, by go_num, hown2, hb2, by simp; omega, by simpa using hst2, by omega⟩
          case measure => simp [intOf] <;> omega
        · have hst2 : Hid (done ++ (flds [] (L.drop (k + 1))).map str = fieldsS s) := Lib.hid (by
            have h1 := hst.out
            obtain rfl : a = k := by omega
            rw [Nat.sub_self, List.take_zero, flds_end_none hlL] at h1
            rw [flds_end_none (by omega)]; exact h1)
          clear hst
          subst hke
          go_wp2
          go_roundw
          case rel => exact ⟨s.size + 1, s.size + 1, done, by omega, by omega, by go_num, by go_num, hown, hnx, by omega, by simpa using hst2, by omega⟩
          case measure => simp [intOf] <;> omega
      · have hk3 : s.size < k := by omega
        have hfin : Hid (done = fieldsS s) := Lib.hid (by
            have h1 := hst.out
            obtain rfl : a = k := hend (by omega)
            rw [Nat.sub_self, List.take_zero, flds_end_none (by have hq := HLs.out; omega)] at h1
            simpa using h1)
        clear hke hlt hst hend
        go_wp2
        go_ret
        exact ⟨_, rfl, by rw [← hfin.out]; exact hown, hnx⟩

/-- the j-th text of a row, in any later world -/
theorem Own.get {w : World} {B n c : Nat} {A : Option Addr} {l : List ByteArray} (h : Own w B (.slice A n c) l) {j : Nat} (hj : j < l.length) :
    ∃ b off, A = some ⟨b, off, none⟩ ∧ b < w.heap.size ∧ ∀ w', Below w.heap.size w w' → w'.cell? ⟨b, off + j, none⟩ = some (.string l[j]) := by
  obtain ⟨A', c', hv, _, _, hc⟩ := Sl.of_own h
  injection hv with hA hn hcc
  subst hA
  obtain ⟨b, off, rfl, hb, hcell⟩ := hc (by simp; omega)
  exact ⟨b, off, rfl, hb, fun w' hw => (hw.cell (p := ⟨b, off + j, none⟩) hb).trans (hcell j _ (by simp [List.getElem?_eq_getElem hj]))⟩
theorem Own.form {w : World} {B : Nat} {v : Value} {l : List ByteArray} (h : Own w B v l) : ∃ A c, v = .slice A l.length c := by
  obtain ⟨A, c, rfl, _⟩ := Sl.of_own h
  exact ⟨A, c, rfl⟩
/-- what a call that gives a new list of texts ends in -/
def RetS (w : World) (l : List ByteArray) (e : Ending) (w' : World) : Prop :=
  ∃ A c, e = .returned (.slice A l.length c) ∧ Own w' w.heap.size (.slice A l.length c) l ∧ Below w.heap.size w w'
theorem RetS.mk {w w' : World} {l : List ByteArray} {v : Value} (h : Own w' w.heap.size v l) (hb : Below w.heap.size w w') : RetS w l (.returned v) w' := by
  obtain ⟨A, c, rfl⟩ := h.form
  exact ⟨A, c, rfl, h, hb⟩
theorem nFieldsR (s : ByteArray) (w : World) (hs : s.size ≤ 2147483647) : Calls Tryd.prog 15 #[.string s] w (RetS w (fieldsS s)) :=
  (nFields s w hs).mono fun _ _ ⟨_, he, h, hb⟩ => he ▸ RetS.mk h hb
theorem rFieldsR (s : ByteArray) (w : World) (hs : s.size ≤ 2147483647) : Calls Tryd.prog 19 #[.string s] w (RetS w (fieldsS s)) :=
  (rFields s w hs).mono fun _ _ ⟨_, he, h, hb⟩ => he ▸ RetS.mk h hb

/-- the slice at A, of n elements, reads as the texts l, now and in any later world -/
def Rd (w : World) (A : Option Addr) (n : Nat) (l : List ByteArray) : Prop :=
  n = l.length ∧ ∀ j (h : j < l.length), ∃ b off, A = some ⟨b, off, none⟩ ∧ b < w.heap.size ∧ ∀ w', Below w.heap.size w w' → w'.cell? ⟨b, off + j, none⟩ = some (.string l[j])
theorem Own.rd {w : World} {B n c : Nat} {A : Option Addr} {l : List ByteArray} (h : Own w B (.slice A n c) l) : Rd w A n l := by
  refine ⟨?_, fun j hj => h.get hj⟩
  obtain ⟨A', c', hv⟩ := h.form
  injection hv
theorem Rd.below {w w' : World} {A : Option Addr} {n : Nat} {l : List ByteArray} (h : Rd w A n l) (hb : Below w.heap.size w w') : Rd w' A n l :=
  ⟨h.1, fun j hj => by
    obtain ⟨b, off, e, hlt, hc⟩ := h.2 j hj
    have := hb.size
    exact ⟨b, off, e, by omega, fun w2 h2 => hc w2 (hb.trans (h2.mono hb.size))⟩⟩
theorem Rd.len {w : World} {A : Option Addr} {n : Nat} {l : List ByteArray} (h : Rd w A n l) : n = l.length := h.1
theorem Rd.get {w : World} {A : Option Addr} {n : Nat} {l : List ByteArray} (h : Rd w A n l) {j : Nat} (hj : j < l.length) :
    ∃ b off, A = some ⟨b, off, none⟩ ∧ b < w.heap.size ∧ ∀ w', Below w.heap.size w w' → w'.cell? ⟨b, off + j, none⟩ = some (.string l[j]) := h.2 j hj
theorem Rd.nil (w : World) (A : Option Addr) : Rd w A 0 [] := ⟨rfl, fun j hj => by simp at hj⟩

theorem Own.below {w w' : World} {B : Nat} {v : Value} {l : List ByteArray} (h : Own w B v l) (hb : Below w.heap.size w w') : Own w' B v l := by
  obtain ⟨h1, h2⟩ := h
  refine ⟨h1, ?_⟩
  rcases h2 with h2 | ⟨g, cap, cur, hv, hg, hh, r⟩
  · exact Or.inl h2
  · exact Or.inr ⟨g, cap, cur, hv, hg, by rw [hb.block g (Array.getElem?_eq_some_iff.1 hh).1]; exact hh, r⟩
/-- the j-th place of a row of the call's own may be written -/
theorem Own.store {w : World} {B n c : Nat} {A : Option Addr} {l : List ByteArray} (h : Own w B (.slice A n c) l) {j : Nat} (hj : j < l.length) (x : ByteArray) :
    ∃ g, A = some ⟨g, 0, none⟩ ∧ B ≤ g ∧ g < w.heap.size ∧ w.frozen? ⟨g, j, none⟩ = false ∧ w.cell? ⟨g, j, none⟩ = some (.string l[j]) ∧ Own (w.setCell ⟨g, j, none⟩ (.string x)) B (.slice A n c) (l.set j x) := by
  have hl : n = l.length := by obtain ⟨A', c', hv⟩ := h.form; injection hv
  subst hl
  rcases h.2 with ⟨hn, h0⟩ | ⟨g, cap, cur, hv, hg, hh, _⟩
  · omega
  · injection hv with hA _ hc
    subst hA
    have hown : w.ownsRow B 9 1 (.slice (some ⟨g, 0, none⟩) l.length c) l.length (l.map Value.string) := h
    refine ⟨g, rfl, hg, (Array.getElem?_eq_some_iff.1 hh).1, hown.frozenAt j, ?_, ?_⟩
    · rw [hown.cellAt j (by omega)]; simp [List.getElem?_eq_getElem hj]
    · have h2 := (hown.stored j (.string x)).1
      unfold Own
      rw [List.length_set, List.map_set]
      exact h2
theorem Own.other {w : World} {B B' : Nat} {v : Value} {l : List ByteArray} (h : Own w B v l) {p : Addr} (hp : p.block < B') (hB : B' ≤ B) (u : Value) : Own (w.setCell p u) B v l :=
  ownsRow_setCell_below h (by omega) u
theorem Own.apart {wa wb : World} {Ba : Nat} {vf vg : Value} {lf lg : List ByteArray} (hf : Own wa Ba vf lf) (hg : Own wb wa.heap.size vg lg) : vg.ownBlock = none ∨ vg.ownBlock ≠ vf.ownBlock := by
  cases hgb : vg.ownBlock with
  | none => exact .inl rfl
  | some k =>
    refine .inr (fun e => ?_)
    have h1 := (hg.lt k hgb).1
    have h2 := (hf.lt k (by rw [← e])).2
    omega
theorem Own.apart2 {wa wb : World} {Ba Bg : Nat} {vf vg : Value} {lf lg : List ByteArray} (hf : Own wa Ba vf lf) (hg : Own wb Bg vg lg) (hB : wa.heap.size ≤ Bg) : vg.ownBlock = none ∨ vg.ownBlock ≠ vf.ownBlock := by
  cases hgb : vg.ownBlock with
  | none => exact .inl rfl
  | some k =>
    refine .inr (fun e => ?_)
    have h1 := (hg.lt k hgb).1
    have h2 := (hf.lt k (by rw [← e])).2
    omega
end Go.Proofs.YtknpppppjmhomaaDoor.Fl
