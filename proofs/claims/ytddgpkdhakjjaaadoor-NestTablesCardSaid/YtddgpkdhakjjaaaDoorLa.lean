/- The law's last: where the last of some names stands ahead of a place; -1: nowhere. -/
import Derived.Test.YtddgpkdhakjjaaaDoorRn
set_option linter.unusedVariables false
set_option linter.unusedSimpArgs false
namespace Go.Proofs.YtddgpkdhakjjaaaDoor.La
open Go.RowKit Lb Fl Is Tp Np Wk Wp Wi Wo Pt Oc Go.Proofs.YtddgpkdhakjjaaaDoor.Ask Rt Go.Proofs.YtddgpkdhakjjaaaDoor.Op Aw Lt En El Rn

def memB (l : List ByteArray) (x : ByteArray) : Bool := l.any fun z => decide (z = x)
theorem mem_hit {l : List ByteArray} {x : ByteArray} {j : Nat} (h : j < l.length) (e : x = l[j]) : memB l x = true := by
  unfold memB
  rw [List.any_eq_true]
  exact ⟨_, List.getElem_mem h, by simpa using e.symm⟩
theorem mem_miss {l : List ByteArray} {x : ByteArray} (h : ∀ j (hj : j < l.length), x ≠ l[j]) : memB l x = false := by
  unfold memB
  rw [List.any_eq_false]
  intro z hz
  obtain ⟨j, hj, rfl⟩ := List.getElem_of_mem hz
  simpa using fun e : l[j] = x => h j hj e.symm

set_option maxHeartbeats 2000000 in
set_option maxRecDepth 100000 in
theorem lastC (A A2 : Option Addr) (n c m c2 k : Nat) (s l : List ByteArray) (w : World) (hr : Rd w A n s) (hr2 : Rd w A2 m l) (hn : n ≤ 9223372036854775807) (hm : m ≤ 9223372036854775807) (hk : k ≤ n) :
    Calls Tryd.prog 16 #[.slice A n c, .int .i64 k, .slice A2 m c2] w fun e w' => e = .returned (.int .i64 (tm (memB l) noB (s.take k))) ∧ w = w' := by
  have HR := Lib.hid hr
  have HR2 := Lib.hid hr2
  have HN := Lib.hid hr.1
  have HM := Lib.hid hr2.1
  have hH : Hid (∀ i (hi : i < s.length), i < k → memB l s[i] = true → (∀ j (hj : j < s.length), j < k → i < j → memB l s[j] = false) → tm (memB l) noB (s.take k) = i) := Lib.hid (fun i hi hik hp h => tm_hit (p := memB l) (q := noB) (l := s.take k) i (by rw [List.length_take]; omega) (by rw [List.getElem_take]; exact hp) rfl (fun j hj hij => ⟨rfl, by
    rw [List.getElem_take]; rw [List.length_take] at hj; exact h j (by omega) (by omega) hij⟩))
  have hMi : Hid ((∀ j (hj : j < s.length), j < k → memB l s[j] = false) → tm (memB l) noB (s.take k) = -1) := Lib.hid (fun h => tm_miss (p := memB l) (q := noB) (l := s.take k) (fun x hx => by
    obtain ⟨j, hj, rfl⟩ := List.getElem_of_mem hx
    rw [List.getElem_take]; rw [List.length_take] at hj; exact h j (by omega) (by omega)))
  clear hr hr2
  generalize tm (memB l) noB (s.take k) = r at *
  go_enter Tryd.func16, Tryd.ntmps16
  go_wp2
  go_loopw [7] (fun i wr => ∃ q : Nat, q ≤ k ∧ i = .int .i64 ((q : Int) - 1) ∧ w = wr ∧ Hid (∀ j (hj : j < s.length), j < k → q ≤ j → memB l s[j] = false)) (fun i _ => (intOf i + 1).toNat)
  case atStart => exact ⟨k, Nat.le_refl _, rfl, rfl, Lib.hid (fun j hj h1 h2 => absurd h1 (by omega))⟩
  case round =>
    obtain ⟨q, hq, rfl, rfl, hall⟩ := hrel
    cases q with
    | zero =>
      have e : (((0 : Nat) : Int) - 1) = -1 := rfl
      rw [e]
      have hfin := Lib.hid (hMi.out (fun j hj h1 => hall.out j hj h1 (Nat.zero_le _)))
      go_wp2
      go_ret
      exact ⟨ri hfin.out, rfl⟩
    | succ q =>
      have e : (((q + 1 : Nat) : Int) - 1) = (q : Int) := by omega
      rw [e]
      have hqs : q < s.length := by have := HN.out; omega
      obtain ⟨b1, o1, rfl, _, hcx⟩ := HR.out.get hqs
      have hx1 := hcx w (Below.refl _ _)
      obtain ⟨x, hx⟩ : ∃ x, x = s[q] := ⟨_, rfl⟩
      rw [← hx] at hx1
      have HX := Lib.hid hx
      clear hx hcx
      have hb3 : (q : Int) < (n : Int) := by omega
      have hb0 : (0 : Int) ≤ (q : Int) := by omega
      go_wp2
      go_loopw [18] (fun i wr => ∃ j : Nat, j ≤ m ∧ i = .int .i64 j ∧ w = wr ∧ Hid (∀ t (ht : t < l.length), t < j → x ≠ l[t])) (fun i _ => m - (intOf i).toNat)
      case atStart => exact ⟨0, Nat.zero_le _, rfl, rfl, Lib.hid (fun t ht h => absurd h (Nat.not_lt_zero _))⟩
      case round =>
        obtain ⟨j, hj, rfl, rfl, hne⟩ := hrel
        by_cases hlt : j < m
        · have hjl : j < l.length := by have := HM.out; omega
          obtain ⟨b2, o2, rfl, _, hcz⟩ := HR2.out.get hjl
          have hz1 := hcz w (Below.refl _ _)
          obtain ⟨z, hz⟩ : ∃ z, z = l[j] := ⟨_, rfl⟩
          rw [← hz] at hz1
          have HZ := Lib.hid hz
          clear hz hcz
          have hb5 : (j : Int) < (m : Int) := by omega
          have hb6 : (0 : Int) ≤ (j : Int) := by omega
          by_cases ex : x = z
          · have he := toList_eq_of ex
            have hfin := Lib.hid (hH.out q hqs (by omega) (mem_hit hjl (by rw [← HX.out, ← HZ.out]; exact ex)) (fun t ht h1 h2 => hall.out t ht h1 (by omega)))
            clear ex
            go_wp2
            go_ret
            exact ⟨ri hfin.out, rfl⟩
          · have he := toList_ne_of ex
            have hne2 : Hid (∀ t (ht : t < l.length), t < j + 1 → x ≠ l[t]) := Lib.hid (fun t ht h => by
              by_cases et : t = j
              · subst et; rw [← HZ.out]; exact ex
              · exact hne.out t ht (by omega))
            clear ex
            go_wp2
            go_roundw
            case rel => exact ⟨j + 1, by omega, by go_num, by first | rfl | trivial, hne2⟩
            case measure => simp [intOf] <;> omega
        · have hall2 : Hid (∀ j (hj : j < s.length), j < k → q ≤ j → memB l s[j] = false) := Lib.hid (fun t ht h1 h2 => by
            by_cases et : t = q
            · subst et
              exact mem_miss (fun i hi => by rw [← HX.out]; exact hne.out i hi (by have := HM.out; omega))
            · exact hall.out t ht h1 (by omega))
          go_wp2
          go_roundw
          case rel => exact ⟨q, by omega, rfl, by first | rfl | trivial, hall2⟩
          case measure => simp [intOf] <;> omega
end Go.Proofs.YtddgpkdhakjjaaaDoor.La
