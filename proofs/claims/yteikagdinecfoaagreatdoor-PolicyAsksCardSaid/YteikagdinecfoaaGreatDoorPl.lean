/- What Print writes, as plain lists of bytes; the builder's methods; the program's line and say (closures of Print). -/
import Derived.Deep.RegionHeld3
import Derived.Deep.DrawnRows
import Derived.Deep.MidRow
import Derived.Shelf.Strings.BuilderK
import Derived.Test.YteikagdinecfoaaGreatDoorSl
import Derived.Deep.AppendLies
set_option linter.unusedVariables false
set_option linter.unusedSimpArgs false
namespace Go.Proofs.YteikagdinecfoaaGreatDoor.Pl
open Go.RowKit Lb Gr Pd Fl Go.Proofs.YteikagdinecfoaaGreatDoor.Pm Bk Is Sl
attribute [local go_sem ↓] Go.wp_at_zero Go.wp_at_succ

def lineL (l : List ByteArray) : List UInt8 := Lib.join (l.map fun s => s.data.toList) [32] ++ [10]
def kindN (k : Nat) : ByteArray := kindsL.getD k ByteArray.empty
def sayL (word : ByteArray) (r : RuleD) : List UInt8 := lineL (word :: r.name :: kindN r.kind.toNat :: r.words)

/-- the builder in block bb holds l -/
def Bd (w : World) (bb : Nat) (l : List UInt8) : Prop := Lib.IsBuilderF 83 5 bb bb (Lib.byteCells l) w
/-- what a call that writes on it leaves -/
structure Kp (bb : Nat) (w w' : World) : Prop where
  below : Below bb w w'
  others : Lib.OthersKept 5 (some bb) w w'
theorem Kp.size {bb : Nat} {w w' : World} (h : Kp bb w w') : w.heap.size ≤ w'.heap.size := h.below.size
theorem Kp.refl (bb : Nat) (w : World) : Kp bb w w := ⟨Below.refl _ _, Lib.OthersKept.refl _ _ _⟩
theorem Kp.trans {bb : Nat} {a b c : World} (h : Kp bb a b) (k : Kp bb b c) : Kp bb a c := ⟨h.below.trans k.below, h.others.trans k.others⟩
theorem Kp.of {bb : Nat} {w w' : World} (h : Below w.heap.size w w') (hb : bb ≤ w.heap.size) : Kp bb w w' :=
  ⟨h.mono hb, fun k o hk _ _ => (h.block k (Array.getElem?_eq_some_iff.1 hk).1).trans hk⟩
theorem Bl.kp {bb g : Nat} {w w' : World} {t : TypeId} {xs : List Value} (h : Bl w g t xs) (hk : Kp bb w w') (hg : g ≠ bb) (ht : t ≠ 5) : Bl w' g t xs :=
  hk.others g _ h (fun e => hg (Option.some.inj e)) (fun c fz e => by injection e with e1 e2 e3; exact ht e2)
theorem Bd.lt {w : World} {bb : Nat} {l : List UInt8} (h : Bd w bb l) : bb < w.heap.size := h.elim (fun x => x.lt) (fun x => x.lt)
theorem Bd.below {w w' : World} {bb : Nat} {l : List UInt8} (h : Bd w bb l) (hb : Below w.heap.size w w') : Bd w' bb l := by
  have key : ∀ p, Lib.BuilderAtF 83 5 bb bb p (Lib.byteCells l) w → Lib.BuilderAtF 83 5 bb bb p (Lib.byteCells l) w' := by
    rintro p ⟨h1, v, h2, h3, h4⟩
    have hlt := (Array.getElem?_eq_some_iff.1 h2).1
    refine ⟨h1, v, (hb.block bb hlt).trans h2, ⟨h3.1, ?_⟩, h4⟩
    rcases h3.2 with hn | ⟨g, cap, cur, fz, hv, hbg, hg, rest⟩
    · exact .inl hn
    · exact .inr ⟨g, cap, cur, fz, hv, hbg, (hb.block g (Array.getElem?_eq_some_iff.1 hg).1).trans hg, rest⟩
  exact h.elim (fun x => .inl (key _ x)) (fun x => .inr (key _ x))
theorem Bd.new (w : World) : Bd (w.alloc (.cells #[.pointer none, .slice none 0 0] 83)) w.heap.size [] := Lib.IsBuilderF.of (Lib.fresh_isBuilder 83 5 w)

theorem bytes_str (s : ByteArray) : Lib.strCells s = Lib.byteCells s.data.toList := rfl
theorem bytes_app (a b : List UInt8) : Lib.byteCells a ++ Lib.byteCells b = Lib.byteCells (a ++ b) := by simp [Lib.byteCells]
theorem bytes_len (l : List UInt8) : (Lib.byteCells l).length = l.length := by simp [Lib.byteCells]
/-- (*strings.Builder).WriteString -/
theorem writeC {w : World} {bb : Nat} {l : List UInt8} (h : Bd w bb l) (s : ByteArray) (hlen : l.length + s.size ≤ 140737488355328) : Calls Tryz.prog 63 #[.pointer (some ⟨bb, 0, none⟩), .string s] w fun e w' =>
    e = .returned (.tuple #[.int .i64 s.size, .nilIface]) ∧ Bd w' bb (l ++ s.data.toList) ∧ Kp bb w w' := by
  refine (Any.Builder_WriteString_k (P := Tryz.prog) (ρ := Tryz.lays156_ren) { Tryz.lays156 with } Tryz.Builder_Extra_156 bb bb (Lib.byteCells l) s w h (by rw [bytes_len]; exact hlen) (Nat.le_of_lt h.lt)).mono ?_
  rintro e w' ⟨rfl, h1, h2, h3⟩
  rw [bytes_str, bytes_app] at h1
  exact ⟨rfl, .inr h1, h2, h3⟩
/-- (*strings.Builder).String -/
theorem stringC {w : World} {bb : Nat} {l : List UInt8} (h : Bd w bb l) : Calls Tryz.prog 68 #[.pointer (some ⟨bb, 0, none⟩)] w fun e w' =>
    e = .returned (.string (str l)) ∧ Bd w' bb l ∧ Kp bb w w' := by
  refine (Any.Builder_String_any_k (P := Tryz.prog) (ρ := Tryz.lays169_ren) Tryz.lays169 Tryz.Builder_Extra_169 bb bb l w h (Nat.le_of_lt h.lt)).mono ?_
  rintro e w' ⟨rfl, h1, h2, h3⟩
  exact ⟨rfl, h1, h2, h3⟩

theorem lib_join {w : World} {lo hi n c : Nat} {A : Option Addr} {l : List ByteArray} (h : kdW.rd w lo hi (.slice A n c) l) (hh : hi ≤ w.heap.size) (hl : 0 < l.length) (hlen : (lineL l).length ≤ 140737488355328) (hN : l.length ≤ 140737488355328) :
    Calls Tryz.prog 64 #[.slice A n c, .string (str [32])] w fun e w' => e = .returned (.string (str (Lib.join (l.map fun s => s.data.toList) [32]))) ∧ Below w.heap.size w w' := by
  have hn := rd0 h
  subst hn
  obtain ⟨A', c', hv, h1, h2, h3⟩ := h
  injection hv with e1 e2 e3
  subst e1 e3
  obtain ⟨b, off, rfl, hb1, hb2, hc⟩ := h3 (by simpa using hl)
  refine (Tryz.strings_Join b off c l (str [32]) w (fun j x hj => hc j _ (by rw [List.getElem?_map, hj]; rfl)) (by omega) hN h1 (by
    unfold lineL at hlen
    rw [List.length_append] at hlen
    have e : (str [32]).data.toList = [32] := rfl
    rw [e]
    simp only [List.length_cons, List.length_nil] at hlen
    omega)).mono ?_
  rintro e w' ⟨rfl, hb⟩
  exact ⟨rfl, hb⟩

set_option maxHeartbeats 1000000 in
set_option maxRecDepth 100000 in
/-- the closure that writes a line -/
theorem lineC {w : World} {lo hi n c bb : Nat} {A : Option Addr} {l : List ByteArray} {txt : List UInt8} (h : kdW.rd w lo hi (.slice A n c) l) (hh : hi ≤ w.heap.size) (hl : 0 < l.length) (hB : Bd w bb txt) (hlen : txt.length + (lineL l).length ≤ 140737488355328) (hN : l.length ≤ 140737488355328) :
    Calls Tryz.prog 62 #[.slice A n c, .pointer (some ⟨bb, 0, none⟩)] w fun e w' => e = .returned (.tuple #[]) ∧ Bd w' bb (txt ++ lineL l) ∧ Kp bb w w' := by
  have HJ := Lib.hid (lib_join h hh hl (by omega) hN)
  obtain ⟨J, hJ⟩ : ∃ J, J = Lib.join (l.map fun s => s.data.toList) [32] := ⟨_, rfl⟩
  have hL : Hid (lineL l = J ++ [10]) := Lib.hid (by rw [hJ]; rfl)
  rw [← hJ] at HJ
  have hJl : txt.length + (J.length + 1) ≤ 140737488355328 := by rw [hL.out, List.length_append] at hlen; exact hlen
  have hbb := hB.lt
  have HB := Lib.hid hB
  have hsz : ¬ 9223372036854775807 < (str J).size + 1 := by rw [str_size]; omega
  have hw : txt.length + (str J ++ ⟨#[10]⟩).size ≤ 140737488355328 := by rw [ByteArray.size_append, str_size]; exact hJl
  have HD : Hid ((str J ++ ⟨#[10]⟩ : ByteArray).data.toList = J ++ [10]) := Lib.hid (by rw [ByteArray.data_append]; simp [str])
  have HW : Hid (∀ w1, Below w.heap.size w w1 → Calls Tryz.prog 63 #[.pointer (some ⟨bb, 0, none⟩), .string (str J ++ ⟨#[10]⟩)] w1 fun e w' => (∃ k : Nat, e = .returned (.tuple #[.int .i64 k, .nilIface])) ∧ Bd w' bb (txt ++ lineL l) ∧ Kp bb w1 w') :=
    Lib.hid fun w1 hb1 => (writeC (HB.out.below hb1) _ hw).mono (by
      rintro e w' ⟨rfl, h1, h2⟩
      rw [HD.out, ← hL.out] at h1
      exact ⟨⟨_, rfl⟩, h1, h2⟩)
  clear h hJ hlen hB hw
  go_enter Tryz.func62, Tryz.ntmps62
  go_wp2_with (first
    | (go_at_call 64; refine HJ.out.mono ?_; rintro e w1 ⟨rfl, hb1⟩)
    | (go_at_call 63; refine (HW.out _ hb1).mono ?_; rintro e w2 ⟨⟨k2, rfl⟩, hB2, hk2⟩))
  go_end0
  exact ⟨rfl, hB2, (Kp.of hb1 (Nat.le_of_lt hbb)).trans hk2⟩
end Go.Proofs.YteikagdinecfoaaGreatDoor.Pl
