/- May a rule be, may a list of rules be: the program's ruleMay and rulesMay. -/
import Derived.Deep.RegionHeld3
import Derived.Deep.DrawnRows
import Derived.Shelf.SlicesE.IndexFunc
import Derived.Test.YteikagdinecfoaaGreatDoorHa
import Derived.Test.YteikagdinecfoaaGreatDoorSl
import Derived.Test.YteikagdinecfoaaGreatDoorForms
set_option linter.unusedVariables false
set_option linter.unusedSimpArgs false
namespace Go.Proofs.YteikagdinecfoaaGreatDoor.Rm
open Go.RowKit Lb Gr Pd Fl Go.Proofs.YteikagdinecfoaaGreatDoor.Pm Bk Is Sl Ha
attribute [local go_sem ↓] Go.wp_at_zero Go.wp_at_succ

theorem bar_lib : Lib.fields barT.data.toList = fieldsL barT.data.toList := by decide +kernel
theorem link_lib : Lib.fields linkT.data.toList = fieldsL linkT.data.toList := by decide +kernel
theorem bar_asc : barT.data.toList.all (fun b => decide (b.toNat < 128)) = true := by decide +kernel
theorem link_asc : linkT.data.toList.all (fun b => decide (b.toNat < 128)) = true := by decide +kernel

/-! ### is there a rule of that name already -/
set_option maxRecDepth 100000 in
theorem rulePred (s : ByteArray) (B : Nat) (w : World) (hB : B < w.heap.size) (hcell : w.cell? ⟨B, 0, none⟩ = some (.string s)) :
    PredBelow Tryz.prog 219 #[.pointer (some ⟨B, 0, none⟩)] (fun x => .agg (encR x).toArray) (fun x => decide (x.n = s)) w := fun W x hb => by
  have hc : W.cell? ⟨B, 0, none⟩ = some (.string s) := (hb.cell (p := ⟨B, 0, none⟩) hB).trans hcell
  have hBW : B < W.heap.size := Nat.lt_of_lt_of_le hB hb.size
  have hne : B ≠ W.heap.size := by omega
  have hq : ∀ W', Below W.heap.size W W' → W'.cell? ⟨B, 0, none⟩ = some (.string s) := fun W' h => (h.cell (p := ⟨B, 0, none⟩) hBW).trans hc
  have hc2 := hq _ ((Below.refl _ W).alloc (Nat.le_refl _) (.cells #[.string x.n, .int .i64 x.k, .slice x.a x.l x.c] 50))
  have HQ := Lib.hid hq
  clear hq
  show Calls Tryz.prog 219 #[.agg #[.string x.n, .int .i64 x.k, .slice x.a x.l x.c], .pointer (some ⟨B, 0, none⟩)] W _
  go_enter Tryz.func219, Tryz.ntmps219
  go_wp2
  go_ret
  exact ⟨(by rw [eq_str]; rfl), hb.alloc hb.size _⟩
/-- the library's ContainsFunc at rules, for a closure that asks for a name -/
theorem containsRuC {g : Nat} (eg : ∀ args w, (callFunc g args).run Tryz.prog w = .ok (.enter g args) w) (hg : ∀ (s : ByteArray) (B : Nat) (w : World), B < w.heap.size → w.cell? ⟨B, 0, none⟩ = some (.string s) → PredBelow Tryz.prog g #[.pointer (some ⟨B, 0, none⟩)] (fun x => .agg (encR x).toArray) (fun x => decide (x.n = s)) w)
    {A : Option Addr} {n c lo : Nat} {l : List RuleD} {w : World} (h : kdR.rd w lo w.heap.size (.slice A n c) l) (hl : n ≤ 9223372036854775807) (s : ByteArray) (B : Nat) (hB : B < w.heap.size) (hcell : w.cell? ⟨B, 0, none⟩ = some (.string s)) :
    Calls Tryz.prog 91 #[.slice A n c, .func (.func g) #[] #[.pointer (some ⟨B, 0, none⟩)]] w fun e w' => e = .returned (.bool (hasR l s)) ∧ Below w.heap.size w w' := by
  have hn : n = l.length := by obtain ⟨_, _, hv, _⟩ := fmR.rd_form h; injection hv
  subst hn
  rcases Nat.eq_zero_or_pos l.length with h0 | h0
  · have hl0 := List.eq_nil_of_length_eq_zero h0
    subst hl0
    refine (containsRu0 A c _ w).mono ?_
    rintro e w' ⟨rfl, rfl⟩
    exact ⟨rfl, Below.refl _ _⟩
  · obtain ⟨b, off, zs, rfl, _, hbw, hz, hzn, hc⟩ := rdR_cells h h0
    have hcon := AnyQ.slices_ContainsFunc Tryz.containsRu 3 Tryz.isAgg50 Tryz.sizeOf50 encR (fun _ => rfl) (fun x => decide (x.n = s)) g #[.pointer (some ⟨B, 0, none⟩)] eg b off l.length c zs w (hg s B w hB hcell) (by omega) hl hbw hc
    refine hcon.mono ?_
    rintro e w' ⟨rfl, hb⟩
    refine ⟨?_, hb⟩
    rw [List.take_of_length_le (by omega)]
    have e1 : zs.any (fun x => decide (x.n = s)) = (zs.map RC.n).any (fun x => decide (x = s)) := by rw [List.any_map]; rfl
    rw [e1, hzn, List.any_map]
    rfl

/-! ### a word that may not be -/
set_option maxRecDepth 100000 in
theorem wordGives (x : ByteArray) (W : World) : FnGives Tryz.prog 220 #[] #[.string x] (.bool (!wordB x)) W := by
  show Calls Tryz.prog 220 #[.string x] W _
  have HW : Hid (∀ W, Calls Tryz.prog 221 #[.string x] W fun e w' => e = .returned (.bool (wordB x)) ∧ W = w') := Lib.hid fun W => wordC x W
  generalize wordB x = y at *
  cases y
  all_goals
    go_enter Tryz.func220, Tryz.ntmps220
    go_wp2_with (go_at_call 221; refine (HW.out _).mono ?_; rintro e w' ⟨rfl, rfl⟩)
    go_ret
    exact ⟨rfl, 0, rfl⟩
theorem badWord {A : Option Addr} {n c lo : Nat} {l : List ByteArray} {w : World} (h : kdW.rd w lo w.heap.size (.slice A n c) l) (hl : n ≤ 9223372036854775807) :
    Calls Tryz.prog 153 #[.slice A n c, .func (.func 220) #[] #[]] w fun e w' => e = .returned (.bool (!l.all wordB)) ∧ Below w.heap.size w w' := by
  have h0 := rd0 h
  subst h0
  rcases Nat.eq_zero_or_pos l.length with h1 | h1
  · have hl0 := List.eq_nil_of_length_eq_zero h1
    subst hl0
    refine (Tryz.slices_ContainsFunc_empty (α := ByteArray) A c _ w).mono ?_
    rintro e w' ⟨rfl, rfl⟩
    exact ⟨rfl, Below.refl _ _⟩
  · obtain ⟨b, off, rfl, _, _, hc⟩ := rdW_cells h h1
    have hcon := Tryz.slices_ContainsFunc (α := ByteArray) Value.string (fun x => !wordB x) 220 #[] (enters_of Tryz.func220 (by kernel_rfl) rfl) b off l.length c l w (fun W x _ => wordGives x W) (Nat.le_refl _) hl (fun j hj => by
      have := hc j hj
      rw [getElem!_pos l j hj]
      rw [this]
      simp [List.getD, List.getElem?_eq_getElem hj])
    refine hcon.mono ?_
    rintro e w' ⟨rfl, q, rfl⟩
    refine ⟨?_, drw w q⟩
    rw [List.take_length]
    have e1 : l.any (fun x => !wordB x) = !l.all wordB := by rw [List.not_all_eq_any_not]
    rw [e1]
end Go.Proofs.YteikagdinecfoaaGreatDoor.Rm
