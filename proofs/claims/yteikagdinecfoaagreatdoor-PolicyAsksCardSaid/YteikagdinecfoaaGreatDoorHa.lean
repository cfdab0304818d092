/- The program's has, of elements and of rules: slices.ContainsFunc at structs, with the closures. -/
import Derived.Shelf.SlicesQ.IndexFunc
import Derived.Test.YteikagdinecfoaaGreatDoorPm
import Derived.Test.YteikagdinecfoaaGreatDoorBk
import Derived.Test.YteikagdinecfoaaGreatDoorShelfB
set_option linter.unusedVariables false
set_option linter.unusedSimpArgs false
namespace Go.Proofs.YteikagdinecfoaaGreatDoor.Ha
open Go.RowKit Lb Gr Pd Fl Go.Proofs.YteikagdinecfoaaGreatDoor.Pm Bk

/-! ### at no element -/
set_option maxRecDepth 100000 in
theorem indexEl0 (a : Option Addr) (c : Nat) (fv : Value) (w : World) : Calls Tryz.prog 184 #[.slice a 0 c, fv] w fun e w' => e = .returned (.int .i64 (-1)) ∧ w' = w := by
  go_enter Tryz.func184, Tryz.ntmps184
  go_wp2
  go_loopg [5, 8] 0 (fun _ _ s8 wr => s8 = .int .i64 0 ∧ wr = w)
  case atStart => exact ⟨rfl, rfl⟩
  case round =>
    obtain ⟨rfl, rfl⟩ := hrel
    go_wp2
    go_ret
    exact ⟨rfl, rfl⟩
set_option maxRecDepth 100000 in
theorem containsEl0 (a : Option Addr) (c : Nat) (fv : Value) (w : World) : Calls Tryz.prog 145 #[.slice a 0 c, fv] w fun e w' => e = .returned (.bool false) ∧ w' = w := by
  go_enter Tryz.func145, Tryz.ntmps145
  go_wp2_with (go_at_call 184; refine (indexEl0 a c fv _).mono ?_; rintro e w' ⟨rfl, rfl⟩)
  go_ret
  exact ⟨rfl, rfl⟩
set_option maxRecDepth 100000 in
theorem indexRu0 (a : Option Addr) (c : Nat) (fv : Value) (w : World) : Calls Tryz.prog 144 #[.slice a 0 c, fv] w fun e w' => e = .returned (.int .i64 (-1)) ∧ w' = w := by
  go_enter Tryz.func144, Tryz.ntmps144
  go_wp2
  go_loopg [5, 8] 0 (fun _ _ s8 wr => s8 = .int .i64 0 ∧ wr = w)
  case atStart => exact ⟨rfl, rfl⟩
  case round =>
    obtain ⟨rfl, rfl⟩ := hrel
    go_wp2
    go_ret
    exact ⟨rfl, rfl⟩
set_option maxRecDepth 100000 in
theorem containsRu0 (a : Option Addr) (c : Nat) (fv : Value) (w : World) : Calls Tryz.prog 91 #[.slice a 0 c, fv] w fun e w' => e = .returned (.bool false) ∧ w' = w := by
  go_enter Tryz.func91, Tryz.ntmps91
  go_wp2_with (go_at_call 144; refine (indexRu0 a c fv _).mono ?_; rintro e w' ⟨rfl, rfl⟩)
  go_ret
  exact ⟨rfl, rfl⟩

/-! ### the structs' cells, as they lie -/
/-- an element's name, a slice's form -/
structure EC where
  n : ByteArray
  a : Option Addr
  l : Nat
  c : Nat
structure RC where
  n : ByteArray
  k : Int
  a : Option Addr
  l : Nat
  c : Nat
instance : Inhabited EC := ⟨⟨ByteArray.empty, none, 0, 0⟩⟩
instance : Inhabited RC := ⟨⟨ByteArray.empty, 0, none, 0, 0⟩⟩
def encE (x : EC) : List Value := [.string x.n, .slice x.a x.l x.c]
def encR (x : RC) : List Value := [.string x.n, .int .i64 x.k, .slice x.a x.l x.c]
def ecOf (e : ElD) : Value → EC
  | .slice a l c => ⟨e.name, a, l, c⟩
  | _ => ⟨e.name, none, 0, 0⟩
def rcOf (e : RuleD) : Value → RC
  | .slice a l c => ⟨e.name, e.kind, a, l, c⟩
  | _ => ⟨e.name, e.kind, none, 0, 0⟩
theorem ecN (e : ElD) (v : Value) : (ecOf e v).n = e.name := by unfold ecOf; split <;> rfl
theorem rcN (e : RuleD) (v : Value) : (rcOf e v).n = e.name := by unfold rcOf; split <;> rfl

/-- the cells of a row of elements that is read -/
theorem rdE_cells {w : World} {lo hi n c : Nat} {A : Option Addr} {l : List ElD} (h : kdE.rd w lo hi (.slice A n c) l) (hp : 0 < l.length) :
    ∃ (b off : Nat) (zs : List EC), A = some ⟨b, off, none⟩ ∧ lo ≤ b ∧ b < hi ∧ zs.length = l.length ∧ zs.map EC.n = l.map (·.name) ∧ ∀ j, j < zs.length → ∀ i v, (encE zs[j]!)[i]? = some v → w.cell? ⟨b, off + j * 2 + i, none⟩ = some v := by
  obtain ⟨T, rfl, ⟨A', c', hv, _, _, h3⟩, hs⟩ := h
  injection hv with e1 e2 e3
  subst e1
  have hT : 0 < T.length := by simpa using hp
  obtain ⟨b, off, rfl, hl, hh, hc⟩ := h3 (by rw [fmE.cells_len]; exact Nat.mul_pos hT fmE.pos)
  refine ⟨b, off, T.map fun t => ecOf t.a t.v, rfl, hl, hh, by simp, by rw [List.map_map, List.map_map]; exact List.map_congr_left fun t _ => ecN _ _, ?_⟩
  intro j hj i v hi
  have hj' : j < T.length := by simpa using hj
  obtain ⟨A9, n9, c9, hv9⟩ := fmE.kd.slice (hs T[j] (List.getElem_mem _))
  have e : (T.map fun t => ecOf t.a t.v)[j]! = ecOf T[j].a T[j].v := by rw [getElem!_pos _ j hj, List.getElem_map]
  rw [e] at hi
  have e2 : encE (ecOf T[j].a T[j].v) = fmE.enc T[j].a T[j].v := by rw [hv9]; rfl
  rw [e2] at hi
  have hq : i < fmE.size := by
    have := (List.getElem?_eq_some_iff.1 hi).1
    rw [fmE.len] at this; exact this
  have := hc (j * fmE.size + i) v (by rw [fmE.cells_at (List.getElem?_eq_getElem hj') hq]; exact hi)
  rw [show off + j * 2 + i = off + (j * fmE.size + i) from by show _ = off + (j * 2 + i); omega]
  exact this
theorem rdR_cells {w : World} {lo hi n c : Nat} {A : Option Addr} {l : List RuleD} (h : kdR.rd w lo hi (.slice A n c) l) (hp : 0 < l.length) :
    ∃ (b off : Nat) (zs : List RC), A = some ⟨b, off, none⟩ ∧ lo ≤ b ∧ b < hi ∧ zs.length = l.length ∧ zs.map RC.n = l.map (·.name) ∧ ∀ j, j < zs.length → ∀ i v, (encR zs[j]!)[i]? = some v → w.cell? ⟨b, off + j * 3 + i, none⟩ = some v := by
  obtain ⟨T, rfl, ⟨A', c', hv, _, _, h3⟩, hs⟩ := h
  injection hv with e1 e2 e3
  subst e1
  have hT : 0 < T.length := by simpa using hp
  obtain ⟨b, off, rfl, hl, hh, hc⟩ := h3 (by rw [fmR.cells_len]; exact Nat.mul_pos hT fmR.pos)
  refine ⟨b, off, T.map fun t => rcOf t.a t.v, rfl, hl, hh, by simp, by rw [List.map_map, List.map_map]; exact List.map_congr_left fun t _ => rcN _ _, ?_⟩
  intro j hj i v hi
  have hj' : j < T.length := by simpa using hj
  obtain ⟨A9, n9, c9, hv9⟩ := fmR.kd.slice (hs T[j] (List.getElem_mem _))
  have e : (T.map fun t => rcOf t.a t.v)[j]! = rcOf T[j].a T[j].v := by rw [getElem!_pos _ j hj, List.getElem_map]
  rw [e] at hi
  have e2 : encR (rcOf T[j].a T[j].v) = fmR.enc T[j].a T[j].v := by rw [hv9]; rfl
  rw [e2] at hi
  have hq : i < fmR.size := by
    have := (List.getElem?_eq_some_iff.1 hi).1
    rw [fmR.len] at this; exact this
  have := hc (j * fmR.size + i) v (by rw [fmR.cells_at (List.getElem?_eq_getElem hj') hq]; exact hi)
  rw [show off + j * 3 + i = off + (j * fmR.size + i) from by show _ = off + (j * 3 + i); omega]
  exact this

/-! ### has -/
set_option maxRecDepth 100000 in
/-- its closure, the name in the cell ⟨B, 0⟩ of the caller's -/
theorem hasPred (s : ByteArray) (B : Nat) (w : World) (hB : B < w.heap.size) (hcell : w.cell? ⟨B, 0, none⟩ = some (.string s)) :
    PredBelow Tryz.prog 146 #[.pointer (some ⟨B, 0, none⟩)] (fun x => .agg (encE x).toArray) (fun x => decide (x.n = s)) w := fun W x hb => by
  have hc : W.cell? ⟨B, 0, none⟩ = some (.string s) := (hb.cell (p := ⟨B, 0, none⟩) hB).trans hcell
  have hBW : B < W.heap.size := Nat.lt_of_lt_of_le hB hb.size
  have hne : B ≠ W.heap.size := by omega
  have hq : ∀ W', Below W.heap.size W W' → W'.cell? ⟨B, 0, none⟩ = some (.string s) := fun W' h => (h.cell (p := ⟨B, 0, none⟩) hBW).trans hc
  have hc2 := hq _ ((Below.refl _ W).alloc (Nat.le_refl _) (.cells #[.string x.n, .slice x.a x.l x.c] 45))
  have HQ := Lib.hid hq
  clear hq
  show Calls Tryz.prog 146 #[.agg #[.string x.n, .slice x.a x.l x.c], .pointer (some ⟨B, 0, none⟩)] W _
  go_enter Tryz.func146, Tryz.ntmps146
  go_wp2
  go_ret
  exact ⟨(by rw [eq_str]; rfl), hb.alloc hb.size _⟩
set_option maxHeartbeats 1000000 in
set_option maxRecDepth 100000 in
theorem hasC (A1 A2 A3 A4 : Option Addr) (n1 c1 n2 c2 n3 c3 n4 c4 : Nat) (r : Bool) (d q : Int) (s : ByteArray) (l : List ElD) (w : World) (h : kdE.rd w 0 w.heap.size (.slice A1 n1 c1) l) (hl : n1 ≤ 9223372036854775807) :
    Calls Tryz.prog 93 #[.agg #[.slice A1 n1 c1, .slice A2 n2 c2, .slice A3 n3 c3, .bool r, .slice A4 n4 c4, .int .i64 d, .int .i64 q], .string s] w fun e w' => e = .returned (.bool (hasE l s)) ∧ Below w.heap.size w w' := by
  have hn : n1 = l.length := by obtain ⟨_, _, hv, _⟩ := fmE.rd_form h; injection hv
  subst hn
  obtain ⟨W0, hW0⟩ : ∃ W, W = (w.alloc (.cells #[.slice A1 l.length c1, .slice A2 n2 c2, .slice A3 n3 c3, .bool r, .slice A4 n4 c4, .int .i64 d, .int .i64 q] 29)).alloc (.cells #[.string s] 9) := ⟨_, rfl⟩
  have hb0 : Below w.heap.size w W0 := hW0 ▸ ((Below.refl _ _).alloc (Nat.le_refl _) _).alloc (by simp) _
  have k2 : W0.cell? ⟨w.heap.size + 1, 0, none⟩ = some (.string s) := by rw [hW0]; exact (Bl.new _ 9 [.string s] (by simp)).cell 0 rfl
  have hsz : w.heap.size + 1 < W0.heap.size := by rw [hW0]; simp
  have hcon : Hid (Calls Tryz.prog 145 #[.slice A1 l.length c1, .func (.func 146) #[] #[.pointer (some ⟨w.heap.size + 1, 0, none⟩)]] W0 fun e w' => e = .returned (.bool (hasE l s)) ∧ Below W0.heap.size W0 w') := Lib.hid (by
    rcases Nat.eq_zero_or_pos l.length with h0 | h0
    · have hl0 := List.eq_nil_of_length_eq_zero h0
      subst hl0
      refine (containsEl0 A1 c1 _ W0).mono ?_
      rintro e w' ⟨rfl, rfl⟩
      exact ⟨rfl, Below.refl _ _⟩
    · obtain ⟨b, off, zs, rfl, _, hbw, hz, hzn, hc⟩ := rdE_cells h h0
      have hcon := AnyQ.slices_ContainsFunc Tryz.containsEl 2 Tryz.isAgg45 Tryz.sizeOf45 encE (fun _ => rfl) (fun x => decide (x.n = s)) 146 #[.pointer (some ⟨w.heap.size + 1, 0, none⟩)] (enters_of Tryz.func146 (by kernel_rfl) rfl) b off l.length c1 zs W0
        (hasPred s (w.heap.size + 1) W0 hsz k2) (by omega) hl (by omega) (fun j hj i v hi => (hb0.cell (p := ⟨b, off + j * 2 + i, none⟩) hbw).trans (hc j hj i v hi))
      refine hcon.mono ?_
      rintro e w' ⟨rfl, hb⟩
      refine ⟨?_, hb⟩
      rw [List.take_of_length_le (by omega)]
      have e1 : zs.any (fun x => decide (x.n = s)) = (zs.map EC.n).any (fun x => decide (x = s)) := by rw [List.any_map]; rfl
      rw [e1, hzn, List.any_map]
      rfl)
  have HX := Lib.hid hW0
  clear h hW0 k2
  go_enter Tryz.func93, Tryz.ntmps93
  go_wp2_with (go_at_call 145; rw [← HX.out]; refine hcon.out.mono ?_; rintro e w' ⟨rfl, hb'⟩)
  go_ret
  exact ⟨rfl, hb0.trans (hb'.mono hb0.size)⟩
end Go.Proofs.YteikagdinecfoaaGreatDoor.Ha
