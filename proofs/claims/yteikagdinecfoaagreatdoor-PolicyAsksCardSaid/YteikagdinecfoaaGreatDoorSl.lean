/- The library's Contains and Fields at texts; the program's among, kinds, word. -/
import Derived.Test.YteikagdinecfoaaGreatDoorPm
import Derived.Test.YteikagdinecfoaaGreatDoorBk
import Derived.Test.YteikagdinecfoaaGreatDoorIn
set_option linter.unusedVariables false
set_option linter.unusedSimpArgs false
namespace Go.Proofs.YteikagdinecfoaaGreatDoor.Sl
open Go.RowKit Lb Gr Pd Fl Go.Proofs.YteikagdinecfoaaGreatDoor.Pm Bk Is

theorem rd0 {w : World} {lo hi n c : Nat} {A : Option Addr} {l : List ByteArray} (h : kdW.rd w lo hi (.slice A n c) l) : n = l.length := by
  obtain ⟨_, _, hv, _⟩ := h; injection hv
theorem containsS_hasT (l : List ByteArray) (s : ByteArray) : Lib.containsS l s = hasT l s := by
  rw [Bool.eq_iff_iff, Lib.containsS_iff, hasT_iff]
/-- slices.Contains at texts -/
theorem libContains {w : World} {lo hi n c : Nat} {A : Option Addr} {l : List ByteArray} (h : kdW.rd w lo hi (.slice A n c) l) (hn : n ≤ 9223372036854775807) (s : ByteArray) : Calls Tryz.prog 87 #[.slice A n c, .string s] w fun e w' => e = .returned (.bool (hasT l s)) ∧ w = w' := by
  have h0 := rd0 h
  subst h0
  rcases Nat.eq_zero_or_pos l.length with h1 | h1
  · have hl0 := List.eq_nil_of_length_eq_zero h1
    subst hl0
    refine (Tryz.slices_Contains_string_empty A c s w).mono ?_
    rintro e w' ⟨rfl, rfl⟩
    exact ⟨rfl, rfl⟩
  · obtain ⟨b, off, rfl, _, _, hc⟩ := rdW_cells h h1
    refine (Tryz.slices_Contains_string b off l.length c l s w (Nat.le_refl _) hn hc).mono ?_
    rintro e w' ⟨rfl, rfl⟩
    exact ⟨by rw [List.take_length, containsS_hasT], rfl⟩
/-- strings.Fields of a plain text -/
theorem libFieldsC (t : ByteArray) (w : World) (ht : Tab w) (hs : t.size < 4294967281) (ha : t.data.toList.all (fun b => decide (b.toNat < 128)) = true) (hf : Lib.fields t.data.toList = fieldsL t.data.toList) : Calls Tryz.prog 80 #[.string t] w fun e w' =>
    ∃ A c G, e = .returned (.slice A (fieldsS t).length c) ∧ kdW.own w' w.heap.size (.slice A (fieldsS t).length c) (fieldsS t) G ∧ Below w.heap.size w w' := by
  refine (Tryz.strings_Fields t w hs ?_ ht).mono ?_
  · intro j b hb
    rw [List.all_eq_true] at ha
    simpa using ha b (List.mem_of_getElem? hb)
  · rintro e w' ⟨rfl, rfl⟩
    rw [hf]
    have hle : (fieldsL t.data.toList).length ≤ maxLen := by
      have h1 := flds_length t.data.toList []
      have h3 : (fieldsL t.data.toList).length = (flds [] t.data.toList).length := rfl
      rw [size_len] at h1
      unfold maxLen; omega
    have hl : (fieldsS t).length = (fieldsL t.data.toList).length := by unfold fieldsS; rw [List.length_map]
    rw [hl]
    refine ⟨_, _, _, rfl, ⟨?_, rfl⟩, (Below.refl _ _).alloc (Nat.le_refl _) _⟩
    have := World.ownsRow_lit (base := w.heap.size) (e := 9) (size := 1) w ((fieldsL t.data.toList).map fun l => Value.string ⟨l.toArray⟩).toArray (fieldsL t.data.toList).length (Nat.le_refl _) hle (by simp)
    simp at this
    rw [hl]
    unfold fieldsS
    rw [List.map_map]
    exact this

set_option maxHeartbeats 1000000 in
set_option maxRecDepth 100000 in
theorem amongC (s t : ByteArray) (w : World) (ht : Tab w) (hs : t.size < 4294967281) (ha : t.data.toList.all (fun b => decide (b.toNat < 128)) = true) (hf : Lib.fields t.data.toList = fieldsL t.data.toList) :
    Calls Tryz.prog 218 #[.string s, .string t] w fun e w' => e = .returned (.bool (hasT (fieldsS t) s)) ∧ Below w.heap.size w w' := by
  have hlen : (fieldsS t).length ≤ 9223372036854775807 := by
    have h1 := flds_length t.data.toList []
    rw [size_len] at h1
    unfold fieldsS fieldsL
    rw [List.length_map]
    omega
  have HF := Lib.hid (libFieldsC t w ht hs ha hf)
  clear ha hf ht
  generalize fieldsS t = l at *
  go_enter Tryz.func218, Tryz.ntmps218
  go_wp2_with (first
    | (go_at_call 80; refine HF.out.mono ?_; rintro e w1 ⟨A, c, G, rfl, ho, hb⟩)
    | (go_at_call 87; refine (libContains (kdW.read ho (Nat.le_refl _) (Nat.le_refl _)) hlen s).mono ?_; rintro e w2 ⟨rfl, rfl⟩))
  go_ret
  exact ⟨rfl, hb⟩

/-- the kinds' names -/
def kindsL : List ByteArray := [str [97, 110, 121], str [116, 111, 107, 101, 110, 115], str [110, 97, 109, 101], str [110, 117, 109, 98, 101, 114], str [108, 101, 110, 103, 116, 104], str [108, 105, 110, 107], str [108, 97, 110, 103], str [111, 110, 101, 111, 102], str [102, 108, 97, 103]]
set_option maxHeartbeats 1000000 in
set_option maxRecDepth 100000 in
theorem kindsC (w : World) : Calls Tryz.prog 66 #[] w fun e w' =>
    ∃ A G, e = .returned (.slice A 9 9) ∧ kdW.own w' w.heap.size (.slice A 9 9) kindsL G ∧ Below w.heap.size w w' := by
  go_enter Tryz.func66, Tryz.ntmps66
  go_wp2
  go_ret
  refine ⟨_, _, rfl, ⟨?_, rfl⟩, (Below.refl _ _).alloc (Nat.le_refl _) _⟩
  exact World.ownsRow_lit (base := w.heap.size) (e := 9) (size := 1) w _ 9 (Nat.le_refl _) (by simp [maxLen]) rfl

theorem okW_no {c : UInt8} (h : (c.toNat : Int) < 33 ∨ (126 : Int) < c.toNat) : okW c = false := by
  unfold okW; rcases h with h | h
  · have : ¬ 33 ≤ c.toNat := by omega
    simp [this]
  · have : ¬ c.toNat ≤ 126 := by omega
    simp [this]
theorem okW_yes {c : UInt8} (h1 : ¬ (c.toNat : Int) < 33) (h2 : ¬ (126 : Int) < c.toNat) : okW c = true := by
  unfold okW
  have h3 : 33 ≤ c.toNat := by omega
  have h4 : c.toNat ≤ 126 := by omega
  simp [h3, h4]
set_option maxHeartbeats 1000000 in
set_option maxRecDepth 100000 in
theorem wordC (s : ByteArray) (w : World) : Calls Tryz.prog 221 #[.string s] w fun e w' => e = .returned (.bool (wordB s)) ∧ w = w' := by
  have hsl := size_len s
  by_cases h0 : s.size = 0
  · have hw : Hid (wordB s = false) := Lib.hid (by unfold wordB; rw [h0]; rfl)
    have e0 := toList_nil h0
    go_enter Tryz.func221, Tryz.ntmps221
    go_wp2
    go_ret
    exact ⟨rb hw.out, rfl⟩
  · by_cases h1 : 100 < s.size
    · have hw : Hid (wordB s = false) := Lib.hid (by unfold wordB; have : ¬ s.size ≤ 100 := by omega
                                                     simp [this])
      have e0 := toList_ne (s := s) (by omega)
      have e1 := isEmpty_ne (s := s) (by omega)
      go_enter Tryz.func221, Tryz.ntmps221
      go_wp2
      go_ret
      exact ⟨rb hw.out, rfl⟩
    · have HW : Hid (wordB s = s.data.toList.all okW) := Lib.hid (by
        unfold wordB
        have h2 : 1 ≤ s.size := by omega
        have h3 : s.size ≤ 100 := by omega
        simp [h2, h3])
      have e0 := toList_ne (s := s) (by omega)
      have e1 := isEmpty_ne (s := s) (by omega)
      go_enter Tryz.func221, Tryz.ntmps221
      go_wp2
      go_loopw [13] (fun i wr => ∃ k : Nat, k ≤ s.size ∧ i = .int .i64 k ∧ wr = w ∧ Hid (∀ j (hj : j < k) (h : j < s.size), okW s[j] = true)) (fun i _ => s.size - (intOf i).toNat)
      case atStart => exact ⟨0, by omega, rfl, rfl, Lib.hid (fun j hj => by omega)⟩
      case round =>
        obtain ⟨k, hk, rfl, rfl, hall⟩ := hrel
        by_cases hlt : k < s.size
        · by_cases hb : okW s[k] = true
          · have HB := Lib.hid hb
            have b1 : ¬ ((s[k].toNat : Int) < 33) := fun h => by rw [okW_no (.inl h)] at hb; cases hb
            have b2 : ¬ ((126 : Int) < s[k].toNat) := fun h => by rw [okW_no (.inr h)] at hb; cases hb
            clear hb
            go_wp2
            go_roundw
            case rel => exact ⟨k + 1, by omega, by go_num, (by first | rfl | trivial), Lib.hid (fun j hj h => by
              by_cases e : j = k
              · subst e; exact HB.out
              · exact hall.out j (by omega) h)⟩
            case measure => simp [intOf] <;> omega
          · have hf : Hid (wordB s = false) := Lib.hid (by
              rw [HW.out, List.all_eq_false]
              exact ⟨s[k], by rw [at_list]; exact List.getElem_mem _, hb⟩)
            by_cases b1 : (s[k].toNat : Int) < 33
            · go_wp2
              go_ret
              exact ⟨rb hf.out, rfl⟩
            · by_cases b2 : (126 : Int) < s[k].toNat
              · go_wp2
                go_ret
                exact ⟨rb hf.out, rfl⟩
              · exact absurd (okW_yes b1 b2) hb
        · have ht : Hid (wordB s = true) := Lib.hid (by
            rw [HW.out, List.all_eq_true]
            intro c hc
            obtain ⟨j, hj, rfl⟩ := List.getElem_of_mem hc
            have hj' : j < s.size := by rw [← size_len]; exact hj
            have := hall.out j (by omega) hj'
            rw [at_list] at this
            exact this)
          go_wp2
          go_ret
          exact ⟨rb ht.out, rfl⟩
end Go.Proofs.YteikagdinecfoaaGreatDoor.Sl
