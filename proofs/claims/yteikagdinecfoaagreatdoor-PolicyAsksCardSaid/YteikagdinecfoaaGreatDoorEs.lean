/- The program's elements: elements by their names, with the rules of some. -/
import Derived.Deep.AppendLies
import Derived.Test.YteikagdinecfoaaGreatDoorRu
import Derived.Test.YteikagdinecfoaaGreatDoorMp
set_option linter.unusedVariables false
set_option linter.unusedSimpArgs false
namespace Go.Proofs.YteikagdinecfoaaGreatDoor.Es
open Go.RowKit Lb Gr Pd Fl Go.Proofs.YteikagdinecfoaaGreatDoor.Pm Bk Ru Go.Proofs.YteikagdinecfoaaGreatDoor.Mp
attribute [local go_sem ↓] Go.wp_at_zero Go.wp_at_succ

theorem lookNil (w : World) (s : ByteArray) : (Instr.lookup 99 (.map none) (.string s) false).run Tryz.prog w = .ok (.slice none 0 0) w := by
  have h := Tryz.underlying99
  have hk : Tryz.prog.underlying 9 = some .string := Tryz.underlying9
  have hc := MapKept.run_checkKey (P := Tryz.prog) (w := w) (k := .string s) hk (by trivial) true 9999
  have hf : (Instr.findKey 9 (.string s) []).run Tryz.prog w = .ok none w := MapKept.run_findKey hk rfl
  simp [Instr.lookup, run_underlying h, hc, hf, Tryz.zeroValue26, Result.andThen]

/-- what the elements of a list of names are -/
def elsOf (rl : ByteArray → List RuleD) (l : List ByteArray) : List ElD := l.map fun n => ⟨n, rl n⟩
theorem mapE_len {T : List (It ElD)} {l : List ElD} {k : Nat} (h : T.map (·.a) = l.take k) (hk : k ≤ l.length) : T.length = k := by
  have := congrArg List.length h; simp at this; omega
set_option maxHeartbeats 4000000 in
set_option maxRecDepth 100000 in
theorem elementsC (l : List ByteArray) (A : Option Addr) (n c : Nat) (mp : Value) (rl : ByteArray → List RuleD) (vl : ByteArray → Value) (w : World) (h : kdW.rd w 0 w.heap.size (.slice A n c) l) (hb : l.length * 40 ≤ 140737488355328)
    (hlk : ∀ W, Below w.heap.size w W → ∀ s, (Instr.lookup 99 mp (.string s) false).run Tryz.prog W = .ok (vl s) W) (hrl : ∀ s, kdR.rd w 0 w.heap.size (vl s) (rl s)) :
    Calls Tryz.prog 79 #[.slice A n c, mp] w fun e w' => ∃ v, e = .returned v ∧ kdE.rd w' 0 w'.heap.size v (elsOf rl l) ∧ Below w.heap.size w w' := by
  obtain ⟨i0, hi, hz0, hz1, hz2⟩ := info_parts infoEl
  have hn : n = l.length := by obtain ⟨_, _, hv, _⟩ := h; injection hv
  subst hn
  have HRD : Hid (∀ W, Below w.heap.size w W → kdW.rd W 0 w.heap.size (.slice A l.length c) l) := Lib.hid fun W hW => rd_below h hW (Nat.le_refl _)
  have HLK := Lib.hid hlk
  have HRL := Lib.hid hrl
  have hlen : (l.length : Int) ≤ 9223372036854775807 := by omega
  have hel : Hid ((elsOf rl l).length = l.length) := Lib.hid (by simp [elsOf])
  clear h hlk hrl
  go_enter Tryz.func79, Tryz.ntmps79
  go_wp2
  go_loopw [5, 10] (fun v5 i wr => ∃ (k : Nat) (T : List (It ElD)), k ≤ l.length ∧ i = .int .i64 k ∧ Hid (T.map (·.a) = (elsOf rl l).take k ∧ wr.ownsRow w.heap.size 45 2 v5 T.length (fmE.cells T) ∧ (∀ t ∈ T, t.v = vl t.a.name ∧ t.a.rules = rl t.a.name)) ∧ Below w.heap.size w wr) (fun _ i _ => l.length - (intOf i).toNat)
  case atStart => exact ⟨0, [], by omega, rfl, Lib.hid ⟨rfl, World.ownsRow_nil _ _ _ _, by simp⟩, Below.refl _ _⟩
  case round =>
    obtain ⟨k, T, hk, rfl, hown, hnx⟩ := hrel
    by_cases hlt : k < l.length
    · obtain ⟨b, off, rfl, hb1, hb2, hcell⟩ := rdW_at (HRD.out _ hnx) hlt
      have hzz := hnx.size
      have hTl := mapE_len hown.out.1 (by rw [hel.out]; exact hk)
      have g1 : T.length + 1 ≤ maxLen := by unfold maxLen; omega
      have g2 : (T.length + 1) * 40 ≤ 140737488355328 := by omega
      have HTL := Lib.hid hTl
      have hlk := HLK.out wr hnx l[k]
      have hvr := HRL.out l[k]
      obtain ⟨A1, c1, hv1, _⟩ := fmR.rd_form hvr
      obtain ⟨s, hs⟩ : ∃ s, s = l[k] := ⟨_, rfl⟩
      rw [← hs] at hcell hlk hv1
      rw [hv1] at hlk
      have HS := Lib.hid hs
      have HV1 := Lib.hid hv1
      have how := hown.out.2.1
      clear hTl hv1 hvr hs
      generalize (rl s).length = m at *
      go_wp2_with (first
        | (at_builtin; refine wpList_append_src _ rfl (.tmp 14) (.tmp 20) 25 rfl w.heap.size 45 i0 _ 2 40 Tryz.underlying25 hi hz0 hz1 hz2 rfl (by decide) _ _ _ rfl (how.alloc _) (some ⟨wr.heap.size, 0, none⟩) 1 1 [.string s, .slice A1 m c1] rfl rfl (news_src wr _ _) (by simp [Value.oneCell']) g1 g2 (by simp; omega) ?_; intro v9 w9 hown9 hgrow9 hrow9))
      have hb9 : Below w.heap.size w w9 := (hnx.alloc hzz _).grown hgrow9 (by simp; omega) (fun j hj => (how.lt j hj).1)
      obtain ⟨T2, hT2⟩ : ∃ T2 : List (It ElD), T2 = T ++ [⟨⟨s, rl s⟩, .slice A1 m c1, []⟩] := ⟨_, rfl⟩
      have hrel2 : Hid (T2.map (·.a) = (elsOf rl l).take (k + 1) ∧ w9.ownsRow w.heap.size 45 2 v9 T2.length (fmE.cells T2) ∧ (∀ t ∈ T2, t.v = vl t.a.name ∧ t.a.rules = rl t.a.name)) := Lib.hid (by
        subst hT2
        refine ⟨?_, ?_, ?_⟩
        · rw [List.map_append, hown.out.1, List.take_succ_eq_append_getElem (by rw [hel.out]; exact hlt)]
          simp [elsOf, HS.out]
        · rw [List.length_append, fmE.cells_app, fmE.cells_one]
          exact hown9
        · intro t ht
          rcases List.mem_append.1 ht with ht | ht
          · exact hown.out.2.2 t ht
          · simp at ht
            subst ht
            exact ⟨HV1.out.symm, rfl⟩)
      clear hT2
      clear hlk how hown9 hgrow9 hrow9
      go_roundw
      case rel => exact ⟨k + 1, T2, by omega, by go_num, hrel2, hb9⟩
      case measure => simp [intOf] <;> omega
    · obtain rfl : k = l.length := by omega
      go_wp2
      go_ret
      obtain ⟨h1, h2, h3⟩ := hown.out
      rw [← hel.out, List.take_length] at h1
      refine ⟨_, rfl, ⟨T, h1, Sl2.of_own h2 (Nat.zero_le _) (Nat.le_refl _), fun t ht => ?_⟩, hnx⟩
      have h5 := kdR.wide (rd_below (HRL.out t.a.name) hnx (Nat.le_refl _)) (Nat.le_refl 0) hnx.size
      rw [← (h3 t ht).1] at h5
      show kdR.rd wr 0 wr.heap.size t.v t.a.rules
      rw [(h3 t ht).2]
      exact h5
end Go.Proofs.YteikagdinecfoaaGreatDoor.Es
