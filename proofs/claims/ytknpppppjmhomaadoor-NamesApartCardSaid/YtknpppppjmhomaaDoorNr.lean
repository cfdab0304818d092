/- Near: the nearest name that is known, of the program and of the reference. -/
import Derived.Test.YtknpppppjmhomaaDoorKm
import Derived.Test.YtknpppppjmhomaaDoorKr
import Derived.Test.YtknpppppjmhomaaDoorDr
import Derived.Test.YtknpppppjmhomaaDoorLower
set_option linter.unusedVariables false
set_option linter.unusedSimpArgs false
namespace Go.Proofs.YtknpppppjmhomaaDoor.Nr
open Go.RowKit Lb St Fl Is Go.Proofs.YtknpppppjmhomaaDoor.So Kn Kr Km Lv Ds Dr

/-- one name more -/
def nearer (low : ByteArray) (p : ByteArray × Int) (x : ByteArray) : ByteArray × Int := if p.2 < 0 ∨ (dist low x : Int) < p.2 then (x, (dist low x : Int)) else p
def nearG (low : ByteArray) (l : List ByteArray) : ByteArray × Int := l.foldl (nearer low) (⟨#[]⟩, -1)
def near (s : ByteArray) : ByteArray × Int := nearG (lowS s) knownL
theorem near_snoc {low : ByteArray} {l : List ByteArray} {j : Nat} (h : j < l.length) : nearG low (l.take (j + 1)) = nearer low (nearG low (l.take j)) l[j] := by
  unfold nearG
  rw [List.take_succ_eq_append_getElem h, List.foldl_append]
  rfl
theorem nearer_yes {low : ByteArray} {p : ByteArray × Int} {x : ByteArray} (h : p.2 < 0 ∨ (dist low x : Int) < p.2) : nearer low p x = (x, (dist low x : Int)) := by unfold nearer; rw [if_pos h]
theorem nearer_no {low : ByteArray} {p : ByteArray × Int} {x : ByteArray} (h : ¬ (p.2 < 0 ∨ (dist low x : Int) < p.2)) : nearer low p x = p := by unfold nearer; rw [if_neg h]

set_option maxHeartbeats 4000000 in
set_option maxRecDepth 100000 in
theorem nNear (s : ByteArray) (w : World) (ht : Tab w) (hs : s.size ≤ maxLen) : Calls Tryd.prog 57 #[.string s] w fun e w' => e = .returned (.tuple #[.string (near s).1, .int .i64 (near s).2]) ∧ Below w.heap.size w w' := by
  have hlow : (lowS s).size ≤ maxLen := by rw [lowS_size]; exact hs
  have HL := Lib.hid (Lw.nLower s w hs)
  have HD := Lib.hid (fun W x (hx : x ∈ knownL) => nDist (lowS s) x W hlow (by have := known_size hx; unfold maxLen; omega))
  have HK := Lib.hid (fun W (h : Below w.heap.size w W) => knownC W (ht.below h))
  have hkl := known_len
  unfold near
  generalize lowS s = low at *
  have HM := Lib.hid (fun j (hj : j < knownL.length) => List.getElem_mem hj)
  generalize knownL = K at *
  clear hlow ht
  go_enter Tryd.func57, Tryd.ntmps57
  go_wp2_with (first
    | (go_at_call 20; refine HL.out.mono ?_; rintro e w1 ⟨rfl, hb1⟩)
    | (go_at_call 55; refine (HK.out _ hb1).mono ?_; rintro e w2 ⟨A, c, rfl, ho, hb2⟩))
  have hbw := seq hb1 hb2
  have HR := Lib.hid ho.rd
  clear ho HL HK
  go_loopw [4, 5, 14] (fun b m i wr => ∃ j : Nat, j ≤ K.length ∧ i = .int .i64 j ∧ b = .string (nearG low (K.take j)).1 ∧ m = .int .i64 (nearG low (K.take j)).2 ∧ Below w2.heap.size w2 wr) (fun _ _ i _ => K.length - (intOf i).toNat)
  case atStart => exact ⟨0, by omega, rfl, rfl, rfl, Below.refl _ _⟩
  case round =>
    obtain ⟨j, hj, rfl, rfl, rfl, hnx⟩ := hrel
    by_cases hlt : j < K.length
    · obtain ⟨b1, o1, rfl, _, hcx⟩ := HR.out.get hlt
      have hx1 := hcx wr hnx
      have hmem := HM.out j hlt
      have hsn := near_snoc (low := low) hlt
      obtain ⟨x, hx⟩ : ∃ x, x = K[j] := ⟨_, rfl⟩
      rw [← hx] at hx1 hsn hmem
      have HDX := Lib.hid (fun W => HD.out W x hmem)
      have hb3 : (j : Int) < (K.length : Int) := by omega
      have hb0 : (0 : Int) ≤ (j : Int) := by omega
      clear hcx hx hmem
      generalize nearG low (K.take j) = p at *
      obtain ⟨p1, p2⟩ := p
      dsimp only
      obtain ⟨d, hd⟩ : ∃ d : Int, (dist low x : Int) = d := ⟨_, rfl⟩
      rw [hd] at HDX
      by_cases h1 : p2 < 0
      · have hstep := Lib.hid (hsn.trans (nearer_yes (.inl h1)))
        rw [hd] at hstep
        clear hsn
        go_wp2_with (go_at_call 59; refine (HDX.out _).mono ?_; rintro e w3 ⟨rfl, hb3⟩)
        go_roundw
        case rel => exact ⟨j + 1, by omega, by go_num, by rw [hstep.out], by rw [hstep.out], seq hnx hb3⟩
        case measure => simp [intOf] <;> omega
      · by_cases h2 : d < p2
        · have hstep := Lib.hid (hsn.trans (nearer_yes (.inr (by rw [hd]; exact h2))))
          rw [hd] at hstep
          clear hsn
          go_wp2_with (go_at_call 59; refine (HDX.out _).mono ?_; rintro e w3 ⟨rfl, hb3⟩)
          go_roundw
          case rel => exact ⟨j + 1, by omega, by go_num, by rw [hstep.out], by rw [hstep.out], seq hnx hb3⟩
          case measure => simp [intOf] <;> omega
        · have hstep := Lib.hid (hsn.trans (nearer_no (by rintro (h | h); exact h1 h; rw [hd] at h; exact h2 h)))
          clear hsn
          go_wp2_with (go_at_call 59; refine (HDX.out _).mono ?_; rintro e w3 ⟨rfl, hb3⟩)
          go_roundw
          case rel => exact ⟨j + 1, by omega, by go_num, by rw [hstep.out], by rw [hstep.out], seq hnx hb3⟩
          case measure => simp [intOf] <;> omega
    · have hfin : Hid (K.take j = K) := Lib.hid (List.take_of_length_le (by omega))
      rw [hfin.out]
      go_wp2
      go_ret2
      exact ⟨rfl, seq hbw hnx⟩

set_option maxHeartbeats 4000000 in
set_option maxRecDepth 100000 in
theorem rNear (s : ByteArray) (w : World) (hs : s.size ≤ maxLen) : Calls Tryd.prog 58 #[.string s] w fun e w' => e = .returned (.tuple #[.string (near s).1, .int .i64 (near s).2]) ∧ Below w.heap.size w w' := by
  have hlow : (lowS s).size ≤ maxLen := by rw [lowS_size]; exact hs
  have HL := Lib.hid (Lw.rLower s w hs)
  have HD := Lib.hid (fun W x (hx : x ∈ knownL) => rDist (lowS s) x W hlow (by have := known_size hx; unfold maxLen; omega))
  have HK := Lib.hid (fun W (h : Below w.heap.size w W) => rKnownC W)
  have hkl := known_len
  unfold near
  generalize lowS s = low at *
  have HM := Lib.hid (fun j (hj : j < knownL.length) => List.getElem_mem hj)
  generalize knownL = K at *
  clear hlow
  go_enter Tryd.func58, Tryd.ntmps58
  go_wp2_with (first
    | (go_at_call 21; refine HL.out.mono ?_; rintro e w1 ⟨rfl, hb1⟩)
    | (go_at_call 56; refine (HK.out _ hb1).mono ?_; rintro e w2 ⟨A, c, rfl, ho, hb2⟩))
  have hbw := seq hb1 hb2
  have HR := Lib.hid ho.rd
  clear ho HL HK
  go_loopw [5, 6, 14] (fun b m i wr => ∃ j : Nat, j ≤ K.length ∧ i = .int .i64 j ∧ b = .string (nearG low (K.take j)).1 ∧ m = .int .i64 (nearG low (K.take j)).2 ∧ Below w2.heap.size w2 wr) (fun _ _ i _ => K.length - (intOf i).toNat)
  case atStart => exact ⟨0, by omega, rfl, rfl, rfl, Below.refl _ _⟩
  case round =>
    obtain ⟨j, hj, rfl, rfl, rfl, hnx⟩ := hrel
    by_cases hlt : j < K.length
    · obtain ⟨b1, o1, rfl, _, hcx⟩ := HR.out.get hlt
      have hx1 := hcx wr hnx
      have hmem := HM.out j hlt
      have hsn := near_snoc (low := low) hlt
      obtain ⟨x, hx⟩ : ∃ x, x = K[j] := ⟨_, rfl⟩
      rw [← hx] at hx1 hsn hmem
      have HDX := Lib.hid (fun W => HD.out W x hmem)
      have hb3 : (j : Int) < (K.length : Int) := by omega
      have hb0 : (0 : Int) ≤ (j : Int) := by omega
      clear hcx hx hmem
      generalize nearG low (K.take j) = p at *
      obtain ⟨p1, p2⟩ := p
      dsimp only
      obtain ⟨d, hd⟩ : ∃ d : Int, (dist low x : Int) = d := ⟨_, rfl⟩
      rw [hd] at HDX
      by_cases h1 : p2 < 0
      · have hstep := Lib.hid (hsn.trans (nearer_yes (.inl h1)))
        rw [hd] at hstep
        clear hsn
        go_wp2_with (go_at_call 60; refine (HDX.out _).mono ?_; rintro e w3 ⟨rfl, hb3⟩)
        go_roundw
        case rel => exact ⟨j + 1, by omega, by go_num, by rw [hstep.out], by rw [hstep.out], seq hnx hb3⟩
        case measure => simp [intOf] <;> omega
      · by_cases h2 : d < p2
        · have hstep := Lib.hid (hsn.trans (nearer_yes (.inr (by rw [hd]; exact h2))))
          rw [hd] at hstep
          clear hsn
          go_wp2_with (go_at_call 60; refine (HDX.out _).mono ?_; rintro e w3 ⟨rfl, hb3⟩)
          go_roundw
          case rel => exact ⟨j + 1, by omega, by go_num, by rw [hstep.out], by rw [hstep.out], seq hnx hb3⟩
          case measure => simp [intOf] <;> omega
        · have hstep := Lib.hid (hsn.trans (nearer_no (by rintro (h | h); exact h1 h; rw [hd] at h; exact h2 h)))
          clear hsn
          go_wp2_with (go_at_call 60; refine (HDX.out _).mono ?_; rintro e w3 ⟨rfl, hb3⟩)
          go_roundw
          case rel => exact ⟨j + 1, by omega, by go_num, by rw [hstep.out], by rw [hstep.out], seq hnx hb3⟩
          case measure => simp [intOf] <;> omega
    · have hfin : Hid (K.take j = K) := Lib.hid (List.take_of_length_le (by omega))
      rw [hfin.out]
      go_wp2
      go_ret2
      exact ⟨rfl, seq hbw hnx⟩

end Go.Proofs.YtknpppppjmhomaaDoor.Nr
