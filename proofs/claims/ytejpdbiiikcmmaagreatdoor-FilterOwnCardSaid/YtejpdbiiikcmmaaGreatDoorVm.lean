/- Texts of plain bytes (below 128): utf.Mend leaves them; input.Plain, input.Clean, link.Strip at a slash. -/
import Derived.Test.YtejpdbiiikcmmaaGreatDoorFr
import Derived.Laws.Cover4
import Derived.Laws.IdiomStrings
set_option linter.unusedVariables false
set_option linter.unusedSimpArgs false
namespace Go.Proofs.YtejpdbiiikcmmaaGreatDoor.Vm
open Go.RowKit Lb Gr Pd Fl Fpl Kf Mp Go.Proofs.YtejpdbiiikcmmaaGreatDoor.Pm Bk Lc Ck Fi
attribute [local go_sem ↓] Go.wp_at_zero Go.wp_at_succ
set_option maxHeartbeats 4000000 in
set_option maxRecDepth 100000 in
theorem mendA (s : ByteArray) (ha : ∀ i (h : i < s.size), (s[i]).toNat < 128) (w : World) : Calls Tryz.prog 177 #[.string s] w fun e w' => e = .returned (.string s) ∧ Below w.heap.size w w' := by
  have HA := Lib.hid ha
  clear ha
  go_enter Tryz.func177, Tryz.ntmps177
  go_wp2
  go_loopw [3] (fun b w' => ∃ pos : Nat, w' = w.iter s pos ∧ b = .bool true ∧ pos ≤ s.size) (fun _ w' => s.size - w'.iterPos w.heap.size)
  case atStart => exact ⟨0, rfl, rfl, Nat.zero_le _⟩
  case round =>
    obtain ⟨pos, rfl, rfl, hp⟩ := hrel
    by_cases hlt : pos < s.size
    · have hnx : ∀ ty, (Instr.next (.pointer (some ⟨w.heap.size, 0, none⟩)) true ty).run Tryz.prog (w.iter s pos) = _ := fun ty => run_next_ascii w s pos ty hlt (HA.out pos hlt)
      have hc := HA.out pos hlt
      have hne : (((s[pos]).toNat : Int) == 65533) = false := by simp; omega
      go_wp2
      go_roundw
      case rel => exact ⟨pos + 1, rfl, rfl, by omega⟩
      case measure => simp; omega
    · have hnx : ∀ ty, (Instr.next (.pointer (some ⟨w.heap.size, 0, none⟩)) true ty).run Tryz.prog (w.iter s pos) = _ := fun ty => run_next_end w s pos ty hlt
      go_wp2
      go_ret
      exact ⟨rfl, below_iter w s pos⟩
set_option maxHeartbeats 4000000 in
set_option maxRecDepth 100000 in
theorem plain47 (w : World) : Calls Tryz.prog 178 #[.int .i32 47] w fun e w' => e = .returned (.int .i32 47) ∧ w = w' := by
  go_enter Tryz.func178, Tryz.ntmps178
  go_wp2
  go_ret
  exact ⟨rfl, rfl⟩

/-- a range over a text, its block anywhere -/
theorem next_at {P : Program} {W : World} {b : Nat} {s : ByteArray} {pos : Nat} (ty : TypeId) (hb : W.heap[b]? = some (.stringIter s pos)) (h : pos < s.size) (ha : (s[pos]'h).toNat < 128) :
    (Instr.next (.pointer (some ⟨b, 0, none⟩)) true ty).run P W = .ok (.tuple #[.bool true, .int .i64 pos, .int .i32 (s[pos]'h).toNat]) (ChangeMaps.setBlock W b (.stringIter s (pos + 1))) := by
  simp only [Instr.next, getObj, setObj, Sem.run_bind, Sem.run, hb, Result.andThen, h, if_true, decode_ascii s pos h ha]
  simp [goInt, Sem.run, hb, ChangeMaps.setBlock]
theorem next_end {P : Program} {W : World} {b : Nat} {s : ByteArray} {pos : Nat} (ty : TypeId) (hb : W.heap[b]? = some (.stringIter s pos)) (h : ¬ pos < s.size) :
    (Instr.next (.pointer (some ⟨b, 0, none⟩)) true ty).run P W = .ok (.tuple #[.bool false]) W := by
  simp [Instr.next, getObj, Sem.run, hb, h]
theorem own_srcV {w : World} {B : Nat} {e : TypeId} {size n c : Nat} {A : Option Addr} {xs : List Value} (h : w.ownsRow B e size (.slice A n c) n xs) : 0 < xs.length → ∃ b off, A = some ⟨b, off, none⟩ ∧ ∀ j u, xs[j]? = some u → w.cell? ⟨b, off + j, none⟩ = some u := fun hp => by
  obtain ⟨A', c', hv, _, _, h3⟩ := Sl2.of_own h (lo := 0) (hi := w.heap.size) (Nat.zero_le _) (Nat.le_refl _)
  injection hv with e1 e2 e3
  subst e1
  obtain ⟨b, off, rfl, _, _, hc⟩ := h3 hp
  exact ⟨b, off, rfl, hc⟩
def slT : ByteArray := str [47]
theorem sl_asc : ∀ i (h : i < slT.size), (slT[i]).toNat < 128 := fun i h => by
  match i, h with
  | 0, _ => show (47 : Nat) < 128; decide
theorem infoI32 : (Tryz.prog.info? 21).map (fun i => (i.zero, i.size, i.bytes)) = some (some (.int .i32 0), 1, 4) := by kernel_rfl

set_option maxHeartbeats 8000000 in
set_option maxRecDepth 100000 in
theorem cleanS (w : World) : Calls Tryz.prog 115 #[.string slT] w fun e w' => e = .returned (.string slT) ∧ Below w.heap.size w w' := by
  obtain ⟨i1, hi1, hz1, hz2, hz3⟩ := info_parts infoI32
  have HM := Lib.hid (fun W => mendA slT sl_asc W)
  have HC : Hid (∀ (W : World) (b off cap : Nat), W.cell? ⟨b, off, none⟩ = some (.int .i32 47) → (convert 145 9 (.slice (some ⟨b, off, none⟩) 1 cap)).run Tryz.prog W = .ok (.string slT) W) := Lib.hid fun W b off cap hc => by
    have h := run_convert_runes (P := Tryz.prog) W 145 9 21 ⟨b, off, none⟩ 1 cap [47] (Nat.le_refl _) Tryz.underlying145 Tryz.underlying21 Tryz.underlying9 (fun j hj => by
      obtain rfl : j = 0 := by simpa using hj
      have hp : (⟨b, off, none⟩ : Addr).add 0 = ⟨b, off, none⟩ := by unfold Addr.add; simp
      rw [hp]; exact hc)
    rw [h]
    have : runesBytes (List.take 1 [47]) = slT := by decide +kernel
    rw [this]
  have hsz : slT.size = 1 := rfl
  have h47 : ((slT[0]'(by decide)).toNat : Int) = 47 := by decide
  go_enter Tryz.func115, Tryz.ntmps115
  go_wp2_with (go_at_call 177; refine (HM.out _).mono ?_; rintro e w1 ⟨rfl, hb1⟩)
  go_loopw [3] (fun o wr => (wr = w1.iter slT 0 ∧ o = .slice none 0 0) ∨ (∃ A c, o = .slice A 1 c ∧ wr.ownsRow w1.heap.size 21 1 (.slice A 1 c) 1 [.int .i32 47] ∧ wr.heap[w1.heap.size]? = some (.stringIter slT 1) ∧ Below w.heap.size w wr)) (fun _ wr => 1 - wr.iterPos w1.heap.size)
  case atStart => exact .inl ⟨rfl, rfl⟩
  case round =>
    rcases hrel with ⟨rfl, rfl⟩ | ⟨A, c, rfl, ho, hit, hbw⟩
    · have hnx : ∀ ty, (Instr.next (.pointer (some ⟨w1.heap.size, 0, none⟩)) true ty).run Tryz.prog (w1.iter slT 0) = .ok (.tuple #[.bool true, .int .i64 0, .int .i32 47]) (w1.iter slT 1) := fun ty => run_next_ascii (P := Tryz.prog) w1 slT 0 ty (by decide) (by decide)
      obtain ⟨W1, hW1⟩ : ∃ Y, Y = w1.iter slT 1 := ⟨_, rfl⟩
      have hit1 : W1.heap[w1.heap.size]? = some (.stringIter slT 1) := by rw [hW1]; exact World.iter_heap w1 slT 1
      have hbi : Below w1.heap.size w1 W1 := hW1 ▸ below_iter w1 slT 1
      have Hzi : Hid (W1.heap.size = w1.heap.size + 1) := Lib.hid (by rw [hW1]; show (w1.heap.push _).size = _; simp)
      rw [← hW1] at hnx
      clear hW1
      have HP := Lib.hid (fun W => plain47 W)
      go_wp2_with (first
        | (go_at_call 178; refine (HP.out _).mono ?_; rintro e w3 ⟨rfl, rfl⟩)
        | (at_builtin; go_loud (refine wpList_append_src _ rfl (.tmp 12) (.tmp 15) 145 rfl W1.heap.size 21 i1 _ 1 4 Tryz.underlying145 hi1 hz1 hz2 hz3 rfl (by decide) _ 0 [] rfl (World.ownsRow_nil _ _ _ _) (some ⟨W1.heap.size, 0, none⟩) 1 1 [.int .i32 47] rfl rfl (news_src W1 _ _) (by simp [Value.oneCell']) (by decide) (by decide) (by simp) ?_; intro v9 w9 hown9 hgrow9 hrow9; obtain ⟨A9, c9, rfl, hcl9⟩ := own_slice hown9)))
      have hzi := Hzi.out
      have hgn : (W1.alloc (.cells #[.int .i32 47] 21)).grownBy w9 none := hgrow9
      have hb19 : Below W1.heap.size W1 w9 := (((Below.refl _ _).alloc (Nat.le_refl _) _).trans ((Fr.of_grown hgn).below (by simp) (by simp)))
      have hit9 : w9.heap[w1.heap.size]? = some (.stringIter slT 1) := (hb19.block _ (by omega)).trans hit1
      have hs1 := hb1.size
      have hfin : Below w.heap.size w w9 := (hb1.trans (hbi.mono hs1)).trans (hb19.mono (by omega))
      clear hzi
      go_roundw
      case rel => exact .inr ⟨A9, c9, rfl, own_low hown9 (by have := Hzi.out; omega), hit9, hfin⟩
      case measure =>
        have e1 : (w1.iter slT 0).iterPos w1.heap.size = 0 := World.iterPos_iter w1 slT 0
        have e2 : w9.iterPos w1.heap.size = 1 := by simp [World.iterPos, hit9]
        rw [e1, e2]; decide
    · have hnx : ∀ ty, (Instr.next (.pointer (some ⟨w1.heap.size, 0, none⟩)) true ty).run Tryz.prog wr = .ok (.tuple #[.bool false]) wr := fun ty => next_end ty hit (by decide)
      obtain ⟨b, off, rfl, hx⟩ := own_srcV ho (by decide)
      have hcv := HC.out wr b off c (hx 0 _ rfl)
      go_wp2
      go_ret
      exact ⟨rfl, hbw⟩
end Go.Proofs.YtejpdbiiikcmmaaGreatDoor.Vm
