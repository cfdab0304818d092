/- What Print writes, as plain lists of bytes; the builder's methods; the program's line and say (closures of Print). -/
import Derived.Deep.RegionHeld3
import Derived.Deep.DrawnRows
import Derived.Deep.MidRow
import Derived.Shelf.Strings.BuilderK
import Derived.Test.YtejpdbiiikcmmaaGreatDoorCk
import Derived.Deep.AppendLies
import Derived.Laws.EntriesVeiled
import Derived.Test.YtejpdbiiikcmmaaGreatDoorVd
set_option linter.unusedVariables false
set_option linter.unusedSimpArgs false
namespace Go.Proofs.YtejpdbiiikcmmaaGreatDoor.Pl
open Go.RowKit Lb Gr Pd Fl Go.Proofs.YtejpdbiiikcmmaaGreatDoor.Pm Bk Is Sl
attribute [local go_sem ↓] Go.wp_at_zero Go.wp_at_succ

def lineL (l : List ByteArray) : List UInt8 := Lib.join (l.map fun s => s.data.toList) [32] ++ [10]
def kindN (k : Nat) : ByteArray := kindsL.getD k ByteArray.empty
def sayL (word : ByteArray) (r : RuleD) : List UInt8 := lineL (word :: r.name :: kindN r.kind.toNat :: r.words)

/-- the builder in block bb holds l -/
def Bd (w : World) (bb : Nat) (l : List UInt8) : Prop := Lib.IsBuilderF 171 5 bb bb (Lib.byteCells l) w
/-- what a call that writes on it leaves -/
structure Kp (bb : Nat) (w w' : World) : Prop where
  below : Below bb w w'
  others : Lib.OthersKept 5 (some bb) w w'
theorem Kp.size {bb : Nat} {w w' : World} (h : Kp bb w w') : w.heap.size ≤ w'.heap.size := h.below.size
theorem Kp.refl (bb : Nat) (w : World) : Kp bb w w := ⟨Below.refl _ _, Lib.OthersKept.refl _ _ _⟩
theorem Kp.trans {bb : Nat} {a b c : World} (h : Kp bb a b) (k : Kp bb b c) : Kp bb a c := ⟨h.below.trans k.below, h.others.trans k.others⟩
theorem Kp.of {bb : Nat} {w w' : World} (h : Below w.heap.size w w') (hb : bb ≤ w.heap.size) : Kp bb w w' :=
  ⟨h.mono hb, fun k o hk _ _ => (h.block k (Array.getElem?_eq_some_iff.1 hk).1).trans hk⟩
theorem Bl.kp {bb g : Nat} {w w' : World} {t : TypeId} {xs : List Value} (h : Bl w g t xs) (hk : Kp bb w w') (hg : g ≠ bb) (ht : t ≠ 5) : Bl w' g t xs :=
  hk.others g _ h (fun e => hg (Option.some.inj e)) (fun c fz e => by injection e with e1 e2 e3; exact ht e2)
theorem Bd.lt {w : World} {bb : Nat} {l : List UInt8} (h : Bd w bb l) : bb < w.heap.size := h.elim (fun x => x.lt) (fun x => x.lt)
theorem Bd.below {w w' : World} {bb : Nat} {l : List UInt8} (h : Bd w bb l) (hb : Below w.heap.size w w') : Bd w' bb l := by
  have key : ∀ p, Lib.BuilderAtF 171 5 bb bb p (Lib.byteCells l) w → Lib.BuilderAtF 171 5 bb bb p (Lib.byteCells l) w' := by
    rintro p ⟨h1, v, h2, h3, h4⟩
    have hlt := (Array.getElem?_eq_some_iff.1 h2).1
    refine ⟨h1, v, (hb.block bb hlt).trans h2, ⟨h3.1, ?_⟩, h4⟩
    rcases h3.2 with hn | ⟨g, cap, cur, fz, hv, hbg, hg, rest⟩
    · exact .inl hn
    · exact .inr ⟨g, cap, cur, fz, hv, hbg, (hb.block g (Array.getElem?_eq_some_iff.1 hg).1).trans hg, rest⟩
  exact h.elim (fun x => .inl (key _ x)) (fun x => .inr (key _ x))
theorem Bd.new (w : World) : Bd (w.alloc (.cells #[.pointer none, .slice none 0 0] 171)) w.heap.size [] := Lib.IsBuilderF.of (Lib.fresh_isBuilder 171 5 w)

theorem bytes_str (s : ByteArray) : Lib.strCells s = Lib.byteCells s.data.toList := rfl
theorem bytes_app (a b : List UInt8) : Lib.byteCells a ++ Lib.byteCells b = Lib.byteCells (a ++ b) := by simp [Lib.byteCells]
theorem bytes_len (l : List UInt8) : (Lib.byteCells l).length = l.length := by simp [Lib.byteCells]
/-- (*strings.Builder).WriteString -/
theorem writeC {w : World} {bb : Nat} {l : List UInt8} (h : Bd w bb l) (s : ByteArray) (hlen : l.length + s.size ≤ 140737488355328) : Calls Tryz.prog 152 #[.pointer (some ⟨bb, 0, none⟩), .string s] w fun e w' =>
    e = .returned (.tuple #[.int .i64 s.size, .nilIface]) ∧ Bd w' bb (l ++ s.data.toList) ∧ Kp bb w w' := by
  refine (Any.Builder_WriteString_k (P := Tryz.prog) (ρ := Tryz.lays156_ren) { Tryz.lays156 with } Tryz.Builder_Extra_156 bb bb (Lib.byteCells l) s w h (by rw [bytes_len]; exact hlen) (Nat.le_of_lt h.lt)).mono ?_
  rintro e w' ⟨rfl, h1, h2, h3⟩
  rw [bytes_str, bytes_app] at h1
  exact ⟨rfl, .inr h1, h2, h3⟩
/-- (*strings.Builder).String -/
theorem stringC {w : World} {bb : Nat} {l : List UInt8} (h : Bd w bb l) : Calls Tryz.prog 157 #[.pointer (some ⟨bb, 0, none⟩)] w fun e w' =>
    e = .returned (.string (str l)) ∧ Bd w' bb l ∧ Kp bb w w' := by
  refine (Any.Builder_String_any_k (P := Tryz.prog) (ρ := Tryz.lays169_ren) Tryz.lays169 Tryz.Builder_Extra_169 bb bb l w h (Nat.le_of_lt h.lt)).mono ?_
  rintro e w' ⟨rfl, h1, h2, h3⟩
  exact ⟨rfl, h1, h2, h3⟩

theorem lib_join {w : World} {lo hi n c : Nat} {A : Option Addr} {l : List ByteArray} (h : kdW.rd w lo hi (.slice A n c) l) (hh : hi ≤ w.heap.size) (hl : 0 < l.length) (hlen : (lineL l).length ≤ 140737488355328) (hN : l.length ≤ 140737488355328) :
    Calls Tryz.prog 153 #[.slice A n c, .string (str [32])] w fun e w' => e = .returned (.string (str (Lib.join (l.map fun s => s.data.toList) [32]))) ∧ Below w.heap.size w w' := by
  have hn := rd0 h
  subst hn
  obtain ⟨A', c', hv, h1, h2, h3⟩ := h
  injection hv with e1 e2 e3
  subst e1 e3
  obtain ⟨b, off, rfl, hb1, hb2, hc⟩ := h3 (by simpa using hl)
  refine (Tryz.strings_Join b off c l (str [32]) w (fun j x hj => hc j _ (by rw [List.getElem?_map, hj]; rfl)) (by omega) hN h1 (by
    unfold lineL at hlen
    rw [List.length_append] at hlen
    have e : (str [32]).data.toList = [32] := rfl
    rw [e]
    simp only [List.length_cons, List.length_nil] at hlen
    omega)).mono ?_
  rintro e w' ⟨rfl, hb⟩
  exact ⟨rfl, hb⟩

set_option maxHeartbeats 1000000 in
set_option maxRecDepth 100000 in
/-- the closure that writes a line -/
theorem lineC {w : World} {lo hi n c bb : Nat} {A : Option Addr} {l : List ByteArray} {txt : List UInt8} (h : kdW.rd w lo hi (.slice A n c) l) (hh : hi ≤ w.heap.size) (hl : 0 < l.length) (hB : Bd w bb txt) (hlen : txt.length + (lineL l).length ≤ 140737488355328) (hN : l.length ≤ 140737488355328) :
    Calls Tryz.prog 151 #[.slice A n c, .pointer (some ⟨bb, 0, none⟩)] w fun e w' => e = .returned (.tuple #[]) ∧ Bd w' bb (txt ++ lineL l) ∧ Kp bb w w' := by
  have HJ := Lib.hid (lib_join h hh hl (by omega) hN)
  obtain ⟨J, hJ⟩ : ∃ J, J = Lib.join (l.map fun s => s.data.toList) [32] := ⟨_, rfl⟩
  have hL : Hid (lineL l = J ++ [10]) := Lib.hid (by rw [hJ]; rfl)
  rw [← hJ] at HJ
  have hJl : txt.length + (J.length + 1) ≤ 140737488355328 := by rw [hL.out, List.length_append] at hlen; exact hlen
  have hbb := hB.lt
  have HB := Lib.hid hB
  have hsz : ¬ 9223372036854775807 < (str J).size + 1 := by rw [str_size]; omega
  have hw : txt.length + (str J ++ ⟨#[10]⟩).size ≤ 140737488355328 := by rw [ByteArray.size_append, str_size]; exact hJl
  have HD : Hid ((str J ++ ⟨#[10]⟩ : ByteArray).data.toList = J ++ [10]) := Lib.hid (by rw [ByteArray.data_append]; simp [str])
  have HW : Hid (∀ w1, Below w.heap.size w w1 → Calls Tryz.prog 152 #[.pointer (some ⟨bb, 0, none⟩), .string (str J ++ ⟨#[10]⟩)] w1 fun e w' => (∃ k : Nat, e = .returned (.tuple #[.int .i64 k, .nilIface])) ∧ Bd w' bb (txt ++ lineL l) ∧ Kp bb w1 w') :=
    Lib.hid fun w1 hb1 => (writeC (HB.out.below hb1) _ hw).mono (by
      rintro e w' ⟨rfl, h1, h2⟩
      rw [HD.out, ← hL.out] at h1
      exact ⟨⟨_, rfl⟩, h1, h2⟩)
  clear h hJ hlen hB hw
  go_enter Tryz.func151, Tryz.ntmps151
  go_wp2_with (first
    | (go_at_call 153; refine HJ.out.mono ?_; rintro e w1 ⟨rfl, hb1⟩)
    | (go_at_call 152; refine (HW.out _ hb1).mono ?_; rintro e w2 ⟨⟨k2, rfl⟩, hB2, hk2⟩))
  go_end0
  exact ⟨rfl, hB2, (Kp.of hb1 (Nat.le_of_lt hbb)).trans hk2⟩
end Go.Proofs.YtejpdbiiikcmmaaGreatDoor.Pl

/- The closure of Print that writes a rule. -/
set_option linter.unusedVariables false
set_option linter.unusedSimpArgs false
namespace Go.Proofs.YtejpdbiiikcmmaaGreatDoor.Py
open Go.RowKit Lb Gr Pd Fl Go.Proofs.YtejpdbiiikcmmaaGreatDoor.Pm Bk Is Sl Go.Proofs.YtejpdbiiikcmmaaGreatDoor.Pl
attribute [local go_sem ↓] Go.wp_at_zero Go.wp_at_succ

section
variable {P : Program} (w : World)
/-- an append, the source nil, empty or not, at a step of a region that draws its order -/
theorem step_append_src {ops : Array Oper} {o : Oper} {a : Act} {K : Act → World → Prop} {Q : Exit → Act → World → Prop} {E : Prop} (hgd : o.guard = none) (s x : Operand) (t : TypeId)
    (ho : o.op = .call { callee := .builtin .append, args := #[s, x], argTypes := #[t, t] })
    (base : Nat) (e : TypeId) (i : TypeInfo) (z : Value) (size bytes : Nat) (ht : P.underlying t = some (.slice e)) (hi : P.info? e = some i) (hz : i.zero = some z)
    (hsize : i.size = size) (hby : i.bytes = bytes) (hzs : z.cells.size = size) (hsz : 0 < size) (v : Value) (n : Nat) (xs : List Value) (hs : a.eval s = v) (hown : w.ownsRow base e size v n xs)
    (A : Option Addr) (m c : Nat) (news : List Value) (hx : a.eval x = .slice A m c) (hl : news.length = m * size) (hcell : 0 < news.length → ∃ b off, A = some ⟨b, off, none⟩ ∧ ∀ j u, news[j]? = some u → w.cell? ⟨b, off + j, none⟩ = some u)
    (h1 : ∀ u ∈ news, u.oneCell' = true) (h63 : n + m ≤ maxLen) (hbytes : (n + m) * bytes ≤ 140737488355328) (hbase : base ≤ w.heap.size)
    (h : ∀ v' w', w'.ownsRow base e size v' (n + m) (xs ++ news) → w.grownBy w' v.ownBlock → (v'.ownBlock = v.ownBlock ∨ v'.ownBlock = some w.heap.size) → K (a.put o.dst v') w') :
    if Region.wanted o (yielded ops a.tmps) = true then Oper.wp P o a w K Q else E := by
  have hw : Region.wanted o (yielded ops a.tmps) = true := by simp [Region.wanted, hgd]
  rw [if_pos hw]
  obtain ⟨v', w', hr, h2, h3, h4⟩ := run_append_src (P := P) w base t o.type e i z size bytes ht hi hz hsize hby hzs hsz v n xs hown A m c news hl hcell h1 h63 hbytes hbase
  unfold Oper.wp execOp
  simp only [ho, resolve, invoke, builtin, Sem.run_bind, Sem.run_pure, Result.andThen_ok, List.map_toArray, List.map_cons, List.map_nil, hs, hx, hr]
  exact h v' w' h2 h3 h4
end

/-- the closure that writes a line, in its variable -/
def lineV (bb : Nat) : Value := .func (.func 151) #[] #[.pointer (some ⟨bb, 0, none⟩)]
theorem strs_one (l : List ByteArray) : ∀ u ∈ l.map Value.string, u.oneCell' = true := by
  intro u hu
  obtain ⟨s, _, rfl⟩ := List.mem_map.1 hu
  rfl
theorem rd_src {w : World} {lo hi m c : Nat} {A : Option Addr} {ws : List ByteArray} (h : kdW.rd w lo hi (.slice A m c) ws) : 0 < (ws.map Value.string).length → ∃ b off, A = some ⟨b, off, none⟩ ∧ ∀ j u, (ws.map Value.string)[j]? = some u → w.cell? ⟨b, off + j, none⟩ = some u := by
  intro hp
  obtain ⟨A', c', hv, _, _, h3⟩ := h
  injection hv with e1 e2 e3
  subst e1
  obtain ⟨b, off, rfl, _, _, hc⟩ := h3 hp
  exact ⟨b, off, rfl, hc⟩
theorem rd_three {w9 : World} {B m c : Nat} {A : Option Addr} {a b d : ByteArray} {ws : List ByteArray} (h : w9.ownsRow B 9 1 (.slice A (3 + m) c) (3 + m) ([Value.string a, .string b, .string d] ++ ws.map Value.string)) (hm : m = ws.length) : kdW.rd w9 0 w9.heap.size (.slice A (3 + m) c) (a :: b :: d :: ws) := by
  have h2 := Sl2.of_own (lo := 0) (hi := w9.heap.size) h (Nat.zero_le _) (Nat.le_refl _)
  have e : (a :: b :: d :: ws).length = 3 + m := by simp only [List.length_cons]; omega
  show Sl2 w9 0 w9.heap.size _ (a :: b :: d :: ws).length ((a :: b :: d :: ws).map Value.string)
  rw [e]
  exact h2
theorem below_row {w2 w9 : World} {cs : Array Value} {t : TypeId} {n c : Nat} (hg : (w2.alloc (.cells cs t)).grownBy w9 (Value.slice (some ⟨w2.heap.size, 0, none⟩) n c).ownBlock) : Below w2.heap.size w2 w9 :=
  ((Below.refl _ _).alloc (Nat.le_refl _) _).grown hg (by simp) (fun j hj => by simp [Value.ownBlock] at hj; omega)
/-- the kinds' names, with the block in which they lie -/
theorem kindsR (kn : Nat) (hk : kn < 9) (kd : ByteArray) (hkd : kd = kindN kn) (w : World) : Calls Tryz.prog 155 #[] w fun e w' => ∃ g cur, e = .returned (.slice (some ⟨g, 0, none⟩) 9 9) ∧ w.heap.size ≤ g ∧ w'.heap[g]? = some (.cells cur 9 (0, 0)) ∧ w'.cell? ⟨g, kn, none⟩ = some (.string kd) ∧ Below w.heap.size w w' :=
  (kindsC w).mono (by
    rintro e w' ⟨A, G, rfl, ho, hb⟩
    have hkl : kn < kindsL.length := hk
    have e : kindsL[kn] = kd := by rw [hkd]; unfold kindN; rw [List.getD_eq_getElem?_getD, List.getElem?_eq_getElem hkl]; rfl
    rcases ho.1.2 with ⟨hv, h0⟩ | ⟨g, cap, cur, hv, hbg, hg, _⟩
    · cases hv
    · injection hv with e1 e2 e3
      subst e1
      obtain ⟨b9, o9, he, _, _, q9⟩ := rdW_at (kdW.read (lo := 0) (hi := w'.heap.size) ho (Nat.zero_le _) (Nat.le_refl _)) (i := kn) hkl
      injection he with he
      injection he with he1 he2
      subst he1 he2
      rw [Nat.zero_add, e] at q9
      exact ⟨g, cur, rfl, hbg, hg, q9, hb⟩)
section
open Go
/-- in the middle of a region: more is held from here on -/
theorem anyH_mono {P : Program} {md : Region.Mode} {ops : Array Oper} {Q : Exit → Act → World → Prop} {S S2 : World → Prop} (hs : ∀ w, S2 w → S w) : ∀ (fuel : Nat) (listed : Array Bool) (a : Act) (w : World), wpAnyH P md ops Q S2 fuel listed a w → wpAnyH P md ops Q S fuel listed a w
  | 0, _, _, _, h => h
  | fuel + 1, _, _, _, h => ⟨h.1, fun i hi => wpOp_mono (fun a' w' h' => ⟨hs _ h'.1, anyH_mono hs fuel _ a' w' h'.2⟩) (h.2 i hi)⟩
theorem held_up {P : Program} {md : Region.Mode} {ops : Array Oper} {Q : Exit → Act → World → Prop} {S : World → Prop} (S2 : World → Prop) {fuel : Nat} {listed : Array Bool} {a : Act} {w : World} (hs : ∀ w, S2 w → S w) (h : S2 w ∧ wpAnyH P md ops Q S2 fuel listed a w) : S w ∧ wpAnyH P md ops Q S fuel listed a w :=
  ⟨hs _ h.1, anyH_mono hs _ _ _ _ h.2⟩
end
set_option maxHeartbeats 8000000 in
set_option maxRecDepth 100000 in
theorem sayC {w : World} {lo hi m c bb fb kn : Nat} {A : Option Addr} {nm word : ByteArray} {ws : List ByteArray} {txt : List UInt8} (h : kdW.rd w lo hi (.slice A m c) ws) (hh : hi ≤ w.heap.size) (hk9 : kn < 9) (hB : Bd w bb txt) (hf : Bl w fb 177 [lineV bb]) (hfb : fb ≠ bb)
    (hlen : txt.length + (lineL (word :: nm :: kindN kn :: ws)).length ≤ 140737488355328) (hN : (3 + m) * 16 ≤ 140737488355328) :
    Calls Tryz.prog 154 #[.string word, .agg #[.string nm, .int .i64 (kn : Int), .slice A m c], .pointer (some ⟨fb, 0, none⟩)] w fun e w' => e = .returned (.tuple #[]) ∧ Bd w' bb (txt ++ lineL (word :: nm :: kindN kn :: ws)) ∧ Kp bb w w' := by
  obtain ⟨i0, hi0, hz0, hz1, hz2⟩ := info_parts infoStr
  have hm := rd0 h
  obtain ⟨W0, hW0⟩ : ∃ W, W = w.alloc (.cells #[.string nm, .int .i64 (kn : Int), .slice A m c] 51) := ⟨_, rfl⟩
  have hb0 : Below w.heap.size w W0 := hW0 ▸ (Below.refl _ _).alloc (Nat.le_refl _) _
  have k5 : Bl W0 w.heap.size 51 [.string nm, .int .i64 (kn : Int), .slice A m c] := hW0 ▸ Bl.new w _ _ rfl
  have hbx := k5.lt
  have hfl := hf.lt
  have hbb := hB.lt
  have f5 := hf.below hb0
  have y0 := k5.cell 0 rfl
  have y1 := k5.cell 1 rfl
  have y2 := k5.cell 2 rfl
  have y3 := f5.cell 0 rfl
  have HRD : Hid (∀ W, Below w.heap.size w W → kdW.rd W lo hi (.slice A m c) ws) := Lib.hid fun W hW => rd_below h hW hh
  have HB : Hid (∀ W, Below w.heap.size w W → Bd W bb txt) := Lib.hid fun W hW => hB.below hW
  obtain ⟨kd, hkd⟩ : ∃ kd, kd = kindN kn := ⟨_, rfl⟩
  rw [← hkd] at hlen
  have hkl : kn < kindsL.length := hk9
  have HK : Hid (∀ W, Calls Tryz.prog 155 #[] W fun e w' => ∃ g cur, e = .returned (.slice (some ⟨g, 0, none⟩) 9 9) ∧ W.heap.size ≤ g ∧ w'.heap[g]? = some (.cells cur 9 (0, 0)) ∧ w'.cell? ⟨g, kn, none⟩ = some (.string kd) ∧ Below W.heap.size W w') := Lib.hid fun W => kindsR kn hk9 kd hkd W
  rw [← hkd]
  have HM := Lib.hid hm
  have HLEN := Lib.hid hlen
  have HX := Lib.hid hW0
  have hmm : m ≤ 8796093022208 := by omega
  have hki : (kn : Int) < 9 := by omega
  have hki0 : (0 : Int) ≤ (kn : Int) := by omega
  have hki9 : kn < 9 := hk9
  have HLN : Hid (∀ W A8 c8, Below w.heap.size w W → kdW.rd W 0 W.heap.size (.slice A8 (3 + m) c8) (word :: nm :: kd :: ws) → Calls Tryz.prog 151 #[.slice A8 (3 + m) c8, .pointer (some ⟨bb, 0, none⟩)] W fun e w' => e = .returned (.tuple #[]) ∧ Bd w' bb (txt ++ lineL (word :: nm :: kd :: ws)) ∧ Kp bb W w') := Lib.hid fun W A8 c8 hW hr => lineC hr (Nat.le_refl _) (by simp) (hB.below hW) hlen (by simp only [List.length_cons]; omega)
  clear h hB hf hkd hm hlen hW0 hkl
  unfold lineV at *
  go_enter Tryz.func154, Tryz.ntmps154
  go_upto_region 1 with fail
  rw [← HX.out]
  -- region
  refine wp_region_noPanic ?_
  refine wp_region_held_drew (S := fun W' => W'.cell? ⟨w.heap.size, 0, none⟩ = some (.string nm) ∧ W'.cell? ⟨w.heap.size, 1, none⟩ = some (.int .i64 (kn : Int)) ∧ W'.cell? ⟨w.heap.size, 2, none⟩ = some (.slice A m c) ∧ W'.cell? ⟨fb, 0, none⟩ = some (.func (.func 151) #[] #[.pointer (some ⟨bb, 0, none⟩)])) (by kernel_rfl) ⟨y0, y1, y2, y3⟩ (fun hH => ?_)
  refine wpAnyH_take (i := 0) (oi := _) (v := ?_) rfl (by kernel_rfl) (by kernel_rfl) (by kernel_rfl) (fun _ _ _ h => h) (Or.inl ⟨by rfl, ?_⟩) hH ?_
  rotate_left
  focus ((intro wz hSw; (try dsimp only at hSw); go_simp); (try with_reducible rfl))
  try simp only [Act.put, List.setIfInBounds_toArray, List.set_cons_zero, List.set_cons_succ]
  refine wpAnyH_take (i := 1) (oi := _) (v := ?_) rfl (by kernel_rfl) (by kernel_rfl) (by kernel_rfl) (fun _ _ _ h => h) (Or.inl ⟨by rfl, ?_⟩) hH ?_
  rotate_left
  focus ((intro wz hSw; (try dsimp only at hSw); go_simp); (try with_reducible rfl))
  try simp only [Act.put, List.setIfInBounds_toArray, List.set_cons_zero, List.set_cons_succ]
  refine wpAnyH_take (i := 2) (oi := _) (v := ?_) rfl (by kernel_rfl) (by kernel_rfl) (by kernel_rfl) (fun _ _ _ h => h) (Or.inl ⟨by rfl, ?_⟩) hH ?_
  rotate_left
  focus ((intro wz hSw; (try dsimp only at hSw); go_simp); (try with_reducible rfl))
  try simp only [Act.put, List.setIfInBounds_toArray, List.set_cons_zero, List.set_cons_succ]
  refine wpAnyH_take (i := 3) (oi := _) (v := ?_) rfl (by kernel_rfl) (by kernel_rfl) (by kernel_rfl) (fun _ _ _ h => h) (Or.inl ⟨by rfl, ?_⟩) hH ?_
  rotate_left
  focus ((intro wz hSw; (try dsimp only at hSw); go_simp); (try with_reducible rfl))
  try simp only [Act.put, List.setIfInBounds_toArray, List.set_cons_zero, List.set_cons_succ]
  refine wpAnyH_take (i := 5) (oi := _) (v := ?_) rfl (by kernel_rfl) (by kernel_rfl) (by kernel_rfl) (fun _ _ _ h => h) (Or.inl ⟨by rfl, ?_⟩) hH ?_
  rotate_left
  focus ((intro wz hSw; (try dsimp only at hSw); go_simp); (try with_reducible rfl))
  try simp only [Act.put, List.setIfInBounds_toArray, List.set_cons_zero, List.set_cons_succ]
  refine wpAnyH_take (i := 6) (oi := _) (v := ?_) rfl (by kernel_rfl) (by kernel_rfl) (by kernel_rfl) (fun _ _ _ h => h) (Or.inl ⟨by rfl, ?_⟩) hH ?_
  rotate_left
  focus ((intro wz hSw; (try dsimp only at hSw); go_simp); (try with_reducible rfl))
  try simp only [Act.put, List.setIfInBounds_toArray, List.set_cons_zero, List.set_cons_succ]
  refine wpAnyH_take (i := 10) (oi := _) (v := ?_) rfl (by kernel_rfl) (by kernel_rfl) (by kernel_rfl) (fun _ _ _ h => h) (Or.inl ⟨by rfl, ?_⟩) hH ?_
  rotate_left
  focus ((intro wz hSw; (try dsimp only at hSw); go_simp); (try with_reducible rfl))
  try simp only [Act.put, List.setIfInBounds_toArray, List.set_cons_zero, List.set_cons_succ]
  refine wpAnyH_take (i := 11) (oi := _) (v := ?_) rfl (by kernel_rfl) (by kernel_rfl) (by kernel_rfl) (fun _ _ _ h => h) (Or.inl ⟨by rfl, ?_⟩) hH ?_
  rotate_left
  focus ((intro wz hSw; (try dsimp only at hSw); go_simp); (try with_reducible rfl))
  try simp only [Act.put, List.setIfInBounds_toArray, List.set_cons_zero, List.set_cons_succ]
  refine wpAnyH_ready (rs := [4]) (by kernel_rfl) (by simp) (AllReadyH.cons rfl (fun K hK => ?_) AllReadyH.nil)
  go_simp
  go_at_call 155
  refine (HK.out _).mono ?_
  rintro e w2 ⟨g9, cur, rfl, hg9, hr9, z4, hb9⟩
  have hb3 : Below W0.heap.size W0 w2 := (drw W0 1).trans hb9
  have hg8 : W0.heap.size ≤ g9 := hg9
  have hlt9 := (Array.getElem?_eq_some_iff.1 hr9).1
  have k6 := k5.below hb3
  have f6 := f5.below hb3
  have z0 := k6.cell 0 rfl
  have z1 := k6.cell 1 rfl
  have z2 := k6.cell 2 rfl
  have z3 := f6.cell 0 rfl
  have k7 := k6.alloc (.cells #[.string word, .string nm, .string kd] 9)
  have f7 := f6.alloc (.cells #[.string word, .string nm, .string kd] 9)
  have v0 := k7.cell 0 rfl
  have v1 := k7.cell 1 rfl
  have v2 := k7.cell 2 rfl
  have v3 := f7.cell 0 rfl
  have v4 := (World.cell?_of_block (a := ⟨g9, kn, none⟩) (Below.heap_alloc w2 (.cells #[.string word, .string nm, .string kd] 9) g9 hlt9)).trans z4
  refine hK.out _ _ ⟨z0, z1, z2, z3⟩ (fun hH2 => ?_)
  clear hK K
  try simp only [Act.put, List.setIfInBounds_toArray, List.set_cons_zero, List.set_cons_succ]
  refine anyH_mono (S2 := fun W' => W'.cell? ⟨w.heap.size, 0, none⟩ = some (.string nm) ∧ W'.cell? ⟨w.heap.size, 1, none⟩ = some (.int .i64 (kn : Int)) ∧ W'.cell? ⟨w.heap.size, 2, none⟩ = some (.slice A m c) ∧ W'.cell? ⟨fb, 0, none⟩ = some (.func (.func 151) #[] #[.pointer (some ⟨bb, 0, none⟩)]) ∧ W'.cell? ⟨g9, kn, none⟩ = some (.string kd)) (fun _ h => ⟨h.1, h.2.1, h.2.2.1, h.2.2.2.1⟩) _ _ _ _ ?_
  have hH3 : w2.cell? ⟨w.heap.size, 0, none⟩ = some (.string nm) ∧ w2.cell? ⟨w.heap.size, 1, none⟩ = some (.int .i64 (kn : Int)) ∧ w2.cell? ⟨w.heap.size, 2, none⟩ = some (.slice A m c) ∧ w2.cell? ⟨fb, 0, none⟩ = some (.func (.func 151) #[] #[.pointer (some ⟨bb, 0, none⟩)]) ∧ w2.cell? ⟨g9, kn, none⟩ = some (.string kd) := ⟨z0, z1, z2, z3, z4⟩
  refine wpAnyH_take (i := 7) (oi := _) (v := ?_) rfl (by kernel_rfl) (by kernel_rfl) (by kernel_rfl) (fun _ _ _ h => h) (Or.inl ⟨by rfl, ?_⟩) hH3 ?_
  rotate_left
  focus ((intro wz hSw; (try dsimp only at hSw); go_simp); (try with_reducible rfl))
  try simp only [Act.put, List.setIfInBounds_toArray, List.set_cons_zero, List.set_cons_succ]
  refine wpAnyH_take (i := 8) (oi := _) (v := ?_) rfl (by kernel_rfl) (by kernel_rfl) (by kernel_rfl) (fun _ _ _ h => h) (Or.inl ⟨by rfl, ?_⟩) hH3 ?_
  rotate_left
  focus ((intro wz hSw; (try dsimp only at hSw); go_simp); (try with_reducible rfl))
  try simp only [Act.put, List.setIfInBounds_toArray, List.set_cons_zero, List.set_cons_succ]
  refine wpAnyH_ready (rs := [9]) (by kernel_rfl) (by simp) (AllReadyH.cons rfl (fun K hK => ?_) AllReadyH.nil)
  go_simp
  refine hK.out _ _ ⟨v0, v1, v2, v3, v4⟩ (fun hH4 => ?_)
  clear hK K
  try simp only [Act.put, List.setIfInBounds_toArray, List.set_cons_zero, List.set_cons_succ]
  refine wpAnyH_ready (rs := [12]) (by kernel_rfl) (by simp) (AllReadyH.cons rfl (fun K hK => ?_) AllReadyH.nil)
  refine step_append_src _ (by rfl) (.tmp 14) (.tmp 16) 25 (by rfl) w2.heap.size 9 i0 _ 1 16 Tryz.underlying25 hi0 hz0 hz1 hz2 rfl (by decide) (.slice (some ⟨w2.heap.size, 0, none⟩) 3 3) 3 [.string word, .string nm, .string kd] (by rfl) (World.ownsRow_lit (base := w2.heap.size) (e := 9) (size := 1) w2 #[.string word, .string nm, .string kd] 3 (Nat.le_refl _) (by simp [maxLen]) rfl) A m c (ws.map Value.string) (by rfl) (by rw [List.length_map, Nat.mul_one]; exact HM.out.symm) (rd_src (HRD.out _ ((hb0.trans (hb3.mono hb0.size)).alloc (Nat.le_trans hb0.size hb3.size) _))) (strs_one ws) (by unfold maxLen; omega) hN (by simp) ?_
  intro v9 w9 hown9 hgrow9 hrow9
  obtain ⟨A8, c8, rfl, _⟩ := own_slice hown9
  have hb4 : Below w2.heap.size w2 w9 := below_row hgrow9
  have hb5 : Below w.heap.size w w9 := (hb0.trans (hb3.mono hb0.size)).trans (hb4.mono (Nat.le_trans hb0.size hb3.size))
  have k9 := k6.below hb4
  have f9 := f6.below hb4
  have x0 := k9.cell 0 rfl
  have x1 := k9.cell 1 rfl
  have x2 := k9.cell 2 rfl
  have x3 := f9.cell 0 rfl
  have hr8 := (hb4.block g9 hlt9).trans hr9
  have x4 := (World.cell?_of_block (a := ⟨g9, kn, none⟩) (hb4.block g9 hlt9)).trans z4
  refine hK.out _ _ ⟨x0, x1, x2, x3, x4⟩ (fun hH5 => ?_)
  clear hK K
  try simp only [Act.put, List.setIfInBounds_toArray, List.set_cons_zero, List.set_cons_succ]
  refine wpAnyH_ready (rs := [13]) (by kernel_rfl) (by simp) (AllReadyH.cons rfl (fun K hK => ?_) AllReadyH.nil)
  go_simp
  go_at_call 151
  refine (HLN.out _ _ _ hb5 (rd_three hown9 HM.out)).mono ?_
  rintro e w10 ⟨rfl, hB10, hk10⟩
  have s0 := (Bl.kp k9 hk10 (by omega) (by decide)).cell 0 rfl
  have s1 := (Bl.kp k9 hk10 (by omega) (by decide)).cell 1 rfl
  have s2 := (Bl.kp k9 hk10 (by omega) (by decide)).cell 2 rfl
  have s3 := (Bl.kp f9 hk10 hfb (by decide)).cell 0 rfl
  have s4 := (World.cell?_of_block (a := ⟨g9, kn, none⟩) ((hk10.others g9 _ hr8 (fun e => by injection e with e; omega) (fun c fz e => by injection e with _ e2 _; exact absurd e2 (by decide))).trans hr8.symm)).trans x4
  refine hK.out _ _ ⟨s0, s1, s2, s3, s4⟩ (fun hH6 => ?_)
  clear hK K
  try simp only [Act.put, List.setIfInBounds_toArray, List.set_cons_zero, List.set_cons_succ]
  refine wpAnyH_done (by kernel_rfl) ?_ _
  refine NoPanic.normal ?_
  go_end0
  exact ⟨rfl, hB10, (Kp.of hb5 (Nat.le_of_lt hbb)).trans hk10⟩
end Go.Proofs.YtejpdbiiikcmmaaGreatDoor.Py

/- The program's Print. -/
set_option linter.unusedVariables false
set_option linter.unusedSimpArgs false
namespace Go.Proofs.YtejpdbiiikcmmaaGreatDoor.Pp
open Go.RowKit Lb Gr Pd Fl Go.Proofs.YtejpdbiiikcmmaaGreatDoor.Pm Bk Is Sl Ru Go.Proofs.YtejpdbiiikcmmaaGreatDoor.Co Ro Go.Proofs.YtejpdbiiikcmmaaGreatDoor.Ck Go.Proofs.YtejpdbiiikcmmaaGreatDoor.Lk Go.Proofs.YtejpdbiiikcmmaaGreatDoor.Or Go.Proofs.YtejpdbiiikcmmaaGreatDoor.Sr Go.Proofs.YtejpdbiiikcmmaaGreatDoor.Ty Go.Proofs.YtejpdbiiikcmmaaGreatDoor.Vd Go.Proofs.YtejpdbiiikcmmaaGreatDoor.Pl Go.Proofs.YtejpdbiiikcmmaaGreatDoor.Py
attribute [local go_sem ↓] Go.wp_at_zero Go.wp_at_succ

def itoaS (n : Int) : ByteArray := str (Lib.itoa n)
def fS (s : ByteArray) : List UInt8 := lineL [(str [115, 99, 104, 101, 109, 101]), s]
def fD (s : ByteArray) : List UInt8 := lineL [(str [100, 114, 111, 112]), s]
def fG (r : RuleD) : List UInt8 := sayL (str [103, 108, 111, 98, 97, 108]) r
def fA (r : RuleD) : List UInt8 := sayL (str [97, 116, 116, 114]) r
def fE (e : ElD) : List UInt8 := lineL [(str [101, 108, 101, 109, 101, 110, 116]), e.name] ++ e.rules.flatMap fA
def t0 (q : PolD) : List UInt8 := lineL [(str [100, 101, 112, 116, 104]), itoaS q.depth]
def t1 (q : PolD) : List UInt8 := lineL [(str [119, 105, 110, 100, 111, 119]), itoaS q.window]
def t2 (b : Bool) : List UInt8 := if b then lineL [(str [114, 101, 108, 97, 116, 105, 118, 101])] else []
/-- the text of a policy in order -/
def printL (q : PolD) : List UInt8 := t0 q ++ t1 q ++ t2 q.rel ++ q.schemes.flatMap fS ++ q.drop.flatMap fD ++ q.glob.flatMap fG ++ q.els.flatMap fE

theorem flat_succ {α : Type} {f : α → List UInt8} {l : List α} {k : Nat} (h : k < l.length) : (l.take (k + 1)).flatMap f = (l.take k).flatMap f ++ f l[k] := by
  rw [List.take_succ_eq_append_getElem h, List.flatMap_append]; simp
theorem flat_le {α : Type} (f : α → List UInt8) (l : List α) (k : Nat) : ((l.take k).flatMap f).length ≤ (l.flatMap f).length := by
  have : l.flatMap f = (l.take k).flatMap f ++ (l.drop k).flatMap f := by rw [← List.flatMap_append, List.take_append_drop]
  rw [this, List.length_append]; omega
theorem flat_fit {α : Type} {f : α → List UInt8} {l : List α} {k n m : Nat} (h : k < l.length) (hn : n + (l.flatMap f).length ≤ m) : n + ((l.take k).flatMap f).length + (f l[k]).length ≤ m := by
  have h1 := flat_le f l (k + 1)
  rw [flat_succ h, List.length_append] at h1
  omega

/-- a rule that may be written -/
def KOk (r : RuleD) : Prop := 0 ≤ r.kind ∧ r.kind < 9 ∧ (3 + r.words.length) * 16 ≤ 140737488355328
structure PrOk (q : PolD) : Prop where
  glob : ∀ i (h : i < q.glob.length), KOk q.glob[i]
  els : ∀ i (h : i < q.els.length) j (hj : j < q.els[i].rules.length), KOk q.els[i].rules[j]
  depth : -9223372036854775808 ≤ q.depth ∧ q.depth ≤ 9223372036854775807
  window : -9223372036854775808 ≤ q.window ∧ q.window ≤ 9223372036854775807
  len : (printL q).length ≤ 140737488355328
  ints : q.els.length ≤ 9223372036854775807 ∧ q.glob.length ≤ 9223372036854775807 ∧ q.schemes.length ≤ 9223372036854775807 ∧ q.drop.length ≤ 9223372036854775807
  int2 : ∀ i (h : i < q.els.length), q.els[i].rules.length ≤ 9223372036854775807

theorem rd_lit {W : World} {l : List ByteArray} {n : Nat} (hn : n = l.length) (hm : n ≤ maxLen) : kdW.rd (W.alloc (.cells (l.map Value.string).toArray 9)) 0 (W.alloc (.cells (l.map Value.string).toArray 9)).heap.size (.slice (some ⟨W.heap.size, 0, none⟩) n n) l := by
  subst hn
  have h := World.ownsRow_lit (base := W.heap.size) (e := 9) (size := 1) W (l.map Value.string).toArray l.length (Nat.le_refl _) hm (by simp)
  exact Sl2.of_own h (Nat.zero_le _) (Nat.le_refl _)
theorem line2 {W : World} {bb : Nat} {txt : List UInt8} (a b : ByteArray) (hB : Bd W bb txt) (hlen : txt.length + (lineL [a, b]).length ≤ 140737488355328) :
    Calls Tryz.prog 151 #[.slice (some ⟨W.heap.size, 0, none⟩) 2 2, .pointer (some ⟨bb, 0, none⟩)] (W.alloc (.cells #[.string a, .string b] 9)) fun e w' => e = .returned (.tuple #[]) ∧ Bd w' bb (txt ++ lineL [a, b]) ∧ Kp bb W w' :=
  (lineC (l := [a, b]) (rd_lit (l := [a, b]) rfl (by simp [maxLen])) (Nat.le_refl _) (by simp) (hB.below ((Below.refl _ _).alloc (Nat.le_refl _) _)) hlen (by simp)).mono (by
    rintro e w' ⟨rfl, h1, h2⟩
    exact ⟨rfl, h1, (Kp.of ((Below.refl _ _).alloc (Nat.le_refl _) _) (Nat.le_of_lt hB.lt)).trans h2⟩)
theorem line1 {W : World} {bb : Nat} {txt : List UInt8} (a : ByteArray) (hB : Bd W bb txt) (hlen : txt.length + (lineL [a]).length ≤ 140737488355328) :
    Calls Tryz.prog 151 #[.slice (some ⟨W.heap.size, 0, none⟩) 1 1, .pointer (some ⟨bb, 0, none⟩)] (W.alloc (.cells #[.string a] 9)) fun e w' => e = .returned (.tuple #[]) ∧ Bd w' bb (txt ++ lineL [a]) ∧ Kp bb W w' :=
  (lineC (l := [a]) (rd_lit (l := [a]) rfl (by simp [maxLen])) (Nat.le_refl _) (by simp) (hB.below ((Below.refl _ _).alloc (Nat.le_refl _) _)) hlen (by simp)).mono (by
    rintro e w' ⟨rfl, h1, h2⟩
    exact ⟨rfl, h1, (Kp.of ((Below.refl _ _).alloc (Nat.le_refl _) _) (Nat.le_of_lt hB.lt)).trans h2⟩)
/-- a rule, boxed, handed to say -/
theorem say1 {W : World} {hi m c bb fb kn : Nat} {A : Option Addr} {nm word : ByteArray} {ws : List ByteArray} {txt : List UInt8} (o : Obj) (h : kdW.rd W 0 hi (.slice A m c) ws) (hh : hi ≤ W.heap.size) (hk9 : kn < 9) (hB : Bd W bb txt) (hf : Bl W fb 177 [lineV bb]) (hfb : fb ≠ bb)
    (hlen : txt.length + (lineL (word :: nm :: kindN kn :: ws)).length ≤ 140737488355328) (hN : (3 + m) * 16 ≤ 140737488355328) :
    Calls Tryz.prog 154 #[.string word, .agg #[.string nm, .int .i64 (kn : Int), .slice A m c], .pointer (some ⟨fb, 0, none⟩)] (W.alloc o) fun e w' => e = .returned (.tuple #[]) ∧ Bd w' bb (txt ++ lineL (word :: nm :: kindN kn :: ws)) ∧ Kp bb W w' :=
  (sayC (rd_below h ((Below.refl _ _).alloc (Nat.le_refl _) _) hh) (Nat.le_trans hh (by simp)) hk9 (hB.below ((Below.refl _ _).alloc (Nat.le_refl _) _)) (hf.alloc o) hfb hlen hN).mono (by
    rintro e w' ⟨rfl, h1, h2⟩
    exact ⟨rfl, h1, (Kp.of ((Below.refl _ _).alloc (Nat.le_refl _) _) (Nat.le_of_lt hB.lt)).trans h2⟩)
def Pow (w : World) : Prop := Lib.TabIs Tryz.prog w "internal/strconv.uint64pow10" .u64 Lib.pow10Tab
theorem gPow : Tryz.prog.globalNamed "internal/strconv.uint64pow10" = some 4 := by kernel_rfl
theorem Pow.below {w w' : World} (h : Pow w) (hb : Below w.heap.size w w') : Pow w' := Go.Joins.tab_stays gPow h hb (Nat.le_refl _)
theorem itoaC (n : Int) (w : World) (hp : Pow w) (h : -9223372036854775808 ≤ n ∧ n ≤ 9223372036854775807) : Calls Tryz.prog 156 #[.int .i64 n] w fun e w' => e = .returned (.string (itoaS n)) ∧ Below w.heap.size w w' :=
  (Tryz.strconv_Itoa n h.1 h.2 w hp).mono (by
    rintro e w' ⟨rfl, k, os, rfl⟩
    refine ⟨rfl, ⟨rfl, rfl, rfl, by simp [Sort.grow, World.drewN], fun j hj => ?_⟩⟩
    exact Sort.heap_grow_old _ _ (by simpa using hj))

def printQ (p : PolD) : ByteArray := if checkI p = 0 then str (printL (tidyP p)) else str []
set_option maxHeartbeats 8000000 in
set_option maxRecDepth 100000 in
theorem PrintC (x : Vs) (p : PolD) (w : World) (ht : Tab w) (hn : NevT w) (hp : Pow w) (h : RdP w 0 w.heap.size x p) (hs : Sized p) (hpr : checkI p = 0 → PrOk (tidyP p)) : Calls Tryz.prog 84 #[polV x p] w fun e w' =>
    e = .returned (.tuple #[.string (printQ p), .int .i64 (checkI p)]) ∧ Below w.heap.size w w' := by
  obtain ⟨A1, c1, A2, c2, A3, c3, A4, c4, rfl, q1, q2, q3, q4, q5, q6, q7, q8⟩ := h.form
  obtain ⟨W0, hW0⟩ : ∃ W, W = w.alloc (.cells #[.slice A1 p.els.length c1, .slice A2 p.glob.length c2, .slice A3 p.schemes.length c3, .bool p.rel, .slice A4 p.drop.length c4, .int .i64 p.depth, .int .i64 p.window] 27) := ⟨_, rfl⟩
  have hb0 : Below w.heap.size w W0 := hW0 ▸ (Below.refl _ _).alloc (Nat.le_refl _) _
  have k0 : Bl W0 w.heap.size 27 [.slice A1 p.els.length c1, .slice A2 p.glob.length c2, .slice A3 p.schemes.length c3, .bool p.rel, .slice A4 p.drop.length c4, .int .i64 p.depth, .int .i64 p.window] := hW0 ▸ Bl.new w _ _ rfl
  have HTD := Lib.hid (TidyC ⟨.slice A1 p.els.length c1, .slice A2 p.glob.length c2, .slice A3 p.schemes.length c3, .slice A4 p.drop.length c4⟩ p W0 (ht.below hb0) (hn.below hb0) ((h.stay (stay_below hb0 (Nat.le_refl _))).wide (Nat.le_refl _) hb0.size) hs)
  have HPW : Hid (∀ W, Below w.heap.size w W → Pow W) := Lib.hid fun W hW => hp.below hW
  have HX := Lib.hid hW0
  have a0 := k0.cell 0 rfl
  have a1 := k0.cell 1 rfl
  have a2 := k0.cell 2 rfl
  have a3 := k0.cell 3 rfl
  have a4 := k0.cell 4 rfl
  have a5 := k0.cell 5 rfl
  have a6 := k0.cell 6 rfl
  have HQ : Hid (tidyQ p = if checkI p = 0 then tidyP p else zeroP) := Lib.hid rfl
  have HPQ : Hid (printQ p = if checkI p = 0 then str (printL (tidyP p)) else str []) := Lib.hid rfl
  have HPR := Lib.hid hpr
  have hka := k0.lt
  clear h hs ht hn hp hpr hW0
  unfold polV at HTD ⊢
  generalize checkI p = cc at *
  generalize tidyQ p = q at *
  generalize printQ p = res at *
  by_cases hc : cc = 0
  · have HQ2 : Hid (q = tidyP p) := Lib.hid (by rw [HQ.out, if_pos hc])
    have HR2 : Hid (res = str (printL q)) := Lib.hid (by rw [HPQ.out, if_pos hc, HQ2.out])
    have HO : Hid (PrOk q) := Lib.hid (by rw [HQ2.out]; exact HPR.out hc)
    subst hc
    clear HQ HPQ HPR
    go_enter Tryz.func84, Tryz.ntmps84
    go_upto_region 1 with fail
    rw [← HX.out]
    go_upto_region 2 with (go_at_call 150; refine HTD.out.mono ?_; rintro e w1 ⟨y, F, rfl, ho, hb1⟩; obtain ⟨B1, d1, B2, d2, B3, d3, B4, d4, rfl, _⟩ := (ho.rd (lo := 0) (hi := w1.heap.size) (Nat.zero_le _) (Nat.le_refl _)).form; have m1 := k0.below hb1; obtain ⟨s0, s1, s2, s3, s4, s5, s6, s7, s8, s9, s10, s11, s12, s13⟩ := m1.store7 (.slice B1 q.els.length d1) (.slice B2 q.glob.length d2) (.slice B3 q.schemes.length d3) (.bool q.rel) (.slice B4 q.drop.length d4) (.int .i64 q.depth) (.int .i64 q.window))
    have jz := m1.seven (.slice B1 q.els.length d1) (.slice B2 q.glob.length d2) (.slice B3 q.schemes.length d3) (.bool q.rel) (.slice B4 q.drop.length d4) (.int .i64 q.depth) (.int .i64 q.window)
    have hfz := Fr.set7 w1 w.heap.size (.slice B1 q.els.length d1) (.slice B2 q.glob.length d2) (.slice B3 q.schemes.length d3) (.bool q.rel) (.slice B4 q.drop.length d4) (.int .i64 q.depth) (.int .i64 q.window)
    generalize ((((((w1.setCell ⟨w.heap.size, 0, none⟩ (.slice B1 q.els.length d1)).setCell ⟨w.heap.size, 1, none⟩ (.slice B2 q.glob.length d2)).setCell ⟨w.heap.size, 2, none⟩ (.slice B3 q.schemes.length d3)).setCell ⟨w.heap.size, 3, none⟩ (.bool q.rel)).setCell ⟨w.heap.size, 4, none⟩ (.slice B4 q.drop.length d4)).setCell ⟨w.heap.size, 5, none⟩ (.int .i64 q.depth)).setCell ⟨w.heap.size, 6, none⟩ (.int .i64 q.window) = w2 at *
    have hb2 : Below w.heap.size w w1 := hb0.trans (hb1.mono hb0.size)
    have hz1 : w1.heap.size ≤ w2.heap.size := hfz.size
    have hz2 : w.heap.size < w2.heap.size := Nat.lt_of_lt_of_le (Nat.lt_of_lt_of_le hka hb1.size) hfz.size
    have hbw2 : Below w.heap.size w w2 := hb2.trans (hfz.below hb2.size (by simp))
    have hrd2 := (ho.keep hfz.size fun x hx => hfz.block x (ho.ge x hx).2 (by have := (ho.ge x hx).1; simp; omega)).rd (lo := 0) (hi := w2.heap.size) (Nat.zero_le _) (Nat.le_refl _)
    clear s0 s1 s2 s3 s4 s5 s6 s7 s8 s9 s10 s11 s12 s13 m1 hfz ho hb1 hb2 k0 a0 a1 a2 a3 a4 a5 a6
    go_upto_region 7 with fail
    obtain ⟨W3, hW3⟩ : ∃ W, W = (w2.alloc (.cells #[.pointer none, .slice none 0 0] 171)).alloc (.cells #[(.func (.func 151) #[] #[.pointer (some ⟨w2.heap.size, 0, none⟩)])] 177) := ⟨_, rfl⟩
    have hb23 : Below w2.heap.size w2 W3 := hW3 ▸ ((Below.refl _ _).alloc (Nat.le_refl _) _).alloc (by simp) _
    have hB0 : Bd W3 w2.heap.size [] := hW3 ▸ (Bd.new w2).below ((Below.refl _ _).alloc (Nat.le_refl _) _)
    have kf : Bl W3 (w2.heap.size + 1) 177 [lineV w2.heap.size] := hW3 ▸ Bl.new _ _ _ (by simp)
    have kp : Bl W3 w.heap.size 27 [.slice B1 q.els.length d1, .slice B2 q.glob.length d2, .slice B3 q.schemes.length d3, .bool q.rel, .slice B4 q.drop.length d4, .int .i64 q.depth, .int .i64 q.window] := jz.of (hb23.block _ hz2)
    have hrd3 : RdP W3 0 w2.heap.size ⟨.slice B1 q.els.length d1, .slice B2 q.glob.length d2, .slice B3 q.schemes.length d3, .slice B4 q.drop.length d4⟩ q := hrd2.stay (stay_below hb23 (Nat.le_refl _))
    have hz3 : w2.heap.size ≤ W3.heap.size := hb23.size
    have hbw3 : Below w.heap.size w W3 := hbw2.trans (hb23.mono (Nat.le_of_lt hz2))
    have HRD : Hid (∀ W, Kp w2.heap.size W3 W → RdP W 0 w2.heap.size ⟨.slice B1 q.els.length d1, .slice B2 q.glob.length d2, .slice B3 q.schemes.length d3, .slice B4 q.drop.length d4⟩ q) := Lib.hid fun W hW => hrd3.stay fun j _ hj => hW.below.block j hj
    have HKP : Hid (∀ W, Kp w2.heap.size W3 W → Bl W w.heap.size 27 [.slice B1 q.els.length d1, .slice B2 q.glob.length d2, .slice B3 q.schemes.length d3, .bool q.rel, .slice B4 q.drop.length d4, .int .i64 q.depth, .int .i64 q.window]) := Lib.hid fun W hW => kp.of (hW.below.block _ hz2)
    have HKF : Hid (∀ W, Kp w2.heap.size W3 W → Bl W (w2.heap.size + 1) 177 [lineV w2.heap.size]) := Lib.hid fun W hW => Bl.kp kf hW (by omega) (by decide)
    have HPW3 : Hid (∀ W, Kp w2.heap.size W3 W → Pow W) := Lib.hid fun W hW => HPW.out _ (hbw3.trans (hW.below.mono (Nat.le_of_lt hz2)))
    have HBW : Hid (∀ W, Kp w2.heap.size W3 W → Below w.heap.size w W) := Lib.hid fun W hW => hbw3.trans (hW.below.mono (Nat.le_of_lt hz2))
    have hk0 := Kp.refl w2.heap.size W3
    obtain ⟨T2, hT2⟩ : ∃ T2, T2 = t0 q ++ t1 q ++ t2 q.rel := ⟨_, rfl⟩
    have HL : Hid (T2.length + (q.schemes.flatMap fS).length + (q.drop.flatMap fD).length + (q.glob.flatMap fG).length + (q.els.flatMap fE).length ≤ 140737488355328) := Lib.hid (by
      have h1 := HO.out.len
      unfold printL at h1
      simp only [List.length_append] at h1
      rw [hT2]
      simp only [List.length_append]
      omega)
    have HL2 : Hid ((t0 q).length + (t1 q).length + (t2 q.rel).length ≤ 140737488355328) := Lib.hid (by
      have h1 := HL.out
      rw [hT2] at h1
      simp only [List.length_append] at h1
      omega)
    have HT2 := Lib.hid hT2
    have HRES : Hid (res = str (T2 ++ q.schemes.flatMap fS ++ q.drop.flatMap fD ++ q.glob.flatMap fG ++ q.els.flatMap fE)) := Lib.hid (by rw [HR2.out, hT2]; rfl)
    rw [← hW3]
    clear hW3 kf kp hrd2 hrd3 hT2 jz hb23
    have f0 := (HKF.out _ hk0).cell 0 rfl
    have g0 := (HKP.out _ hk0).cell 5 rfl
    unfold lineV at f0
    go_region_held3 (fun W' => W'.cell? ⟨w2.heap.size + 1, 0, none⟩ = some (.func (.func 151) #[] #[.pointer (some ⟨w2.heap.size, 0, none⟩)]) ∧ W'.cell? ⟨w.heap.size, 5, none⟩ = some (.int .i64 q.depth))
      (first | exact ⟨f0, g0⟩ | exact ⟨f1, g1⟩ | exact ⟨f2, g2⟩ | exact ⟨f3, g3⟩)
      (first
        | (go_at_call 156; refine (itoaC q.depth _ (HPW3.out _ (hk0.trans (Kp.of (drw W3 1) hz3))) HO.out.depth).mono ?_; rintro e w4 ⟨rfl, hbi⟩; have hbj : Below W3.heap.size W3 w4 := (drw W3 1).trans hbi; have hki : Kp w2.heap.size W3 w4 := hk0.trans (Kp.of hbj hz3); have hBi := hB0.below hbj; have f1 := (HKF.out _ hki).cell 0 rfl; have g1 := (HKP.out _ hki).cell 5 rfl; have f2 := ((HKF.out _ hki).alloc (.cells #[.string (str [100, 101, 112, 116, 104]), .string (itoaS q.depth)] 9)).cell 0 rfl; have g2 := ((HKP.out _ hki).alloc (.cells #[.string (str [100, 101, 112, 116, 104]), .string (itoaS q.depth)] 9)).cell 5 rfl; unfold lineV at f1 f2)
        | (go_at_call 151; refine (line2 (str [100, 101, 112, 116, 104]) (itoaS q.depth) hBi (by show 0 + (t0 q).length ≤ _; have := HL2.out; omega)).mono ?_; rintro e w5 ⟨rfl, hB5, hkl⟩; have hk5 := hki.trans hkl; have f3 := (HKF.out _ hk5).cell 0 rfl; have g3 := (HKP.out _ hk5).cell 5 rfl; unfold lineV at f3))
    clear f0 g0 f1 g1 f2 g2 f3 g3 hbi hbj hki hkl hBi
    have hz5 := hk5.size
    have hz5' : w2.heap.size ≤ w5.heap.size := by omega
    have hB5' : Bd w5 w2.heap.size (t0 q) := hB5
    clear hB5
    go_upto_region 8 with fail
    have f0 := (HKF.out _ hk5).cell 0 rfl
    have g0 := (HKP.out _ hk5).cell 6 rfl
    unfold lineV at f0
    go_region_held3 (fun W' => W'.cell? ⟨w2.heap.size + 1, 0, none⟩ = some (.func (.func 151) #[] #[.pointer (some ⟨w2.heap.size, 0, none⟩)]) ∧ W'.cell? ⟨w.heap.size, 6, none⟩ = some (.int .i64 q.window))
      (first | exact ⟨f0, g0⟩ | exact ⟨f1, g1⟩ | exact ⟨f2, g2⟩ | exact ⟨f3, g3⟩)
      (first
        | (go_at_call 156; refine (itoaC q.window _ (HPW3.out _ (hk5.trans (Kp.of (drw w5 1) hz5'))) HO.out.window).mono ?_; rintro e w6a ⟨rfl, hbi⟩; have hbj : Below w5.heap.size w5 w6a := (drw w5 1).trans hbi; have hki : Kp w2.heap.size W3 w6a := hk5.trans (Kp.of hbj hz5'); have hBi := hB5'.below hbj; have f1 := (HKF.out _ hki).cell 0 rfl; have g1 := (HKP.out _ hki).cell 6 rfl; have f2 := ((HKF.out _ hki).alloc (.cells #[.string (str [119, 105, 110, 100, 111, 119]), .string (itoaS q.window)] 9)).cell 0 rfl; have g2 := ((HKP.out _ hki).alloc (.cells #[.string (str [119, 105, 110, 100, 111, 119]), .string (itoaS q.window)] 9)).cell 6 rfl; unfold lineV at f1 f2)
        | (go_at_call 151; refine (line2 (str [119, 105, 110, 100, 111, 119]) (itoaS q.window) hBi (by show (t0 q).length + (t1 q).length ≤ _; have := HL2.out; omega)).mono ?_; rintro e w6 ⟨rfl, hB6, hkl⟩; have hk6 := hki.trans hkl; have f3 := (HKF.out _ hk6).cell 0 rfl; have g3 := (HKP.out _ hk6).cell 6 rfl; unfold lineV at f3))
    clear f0 g0 f1 g1 f2 g2 f3 g3 hbi hbj hki hkl hBi
    have hB6' : Bd w6 w2.heap.size (t0 q ++ t1 q) := hB6
    have g3 := (HKP.out _ hk6).cell 3 rfl
    have f3 := (HKF.out _ hk6).cell 0 rfl
    unfold lineV at f3
    obtain ⟨i1, i2, i3, i4⟩ := HO.out.ints
    have HL3 : Hid ((t0 q ++ t1 q).length + (t2 q.rel).length ≤ 140737488355328) := Lib.hid (by have := HL2.out; rw [List.length_append]; exact this)
    generalize hrl : q.rel = rl at *
    clear hrl HR2 HL2
    have HB6 := Lib.hid hB6'
    clear hB6' hB6 hB5'
    cases rl
    · have hC : Hid (Bd w6 w2.heap.size T2 ∧ Kp w2.heap.size W3 w6) := Lib.hid ⟨by rw [HT2.out]; simpa [t2] using HB6.out, hk6⟩
      go_upto_region 11 with fail
      obtain ⟨w7, hw7⟩ : ∃ w7, w7 = w6 := ⟨_, rfl⟩
      rw [← hw7] at hC ⊢
      clear hw7 f3 g3 hk6 hk5 HB6 hB0 hk0
      have z2 := (HKP.out _ hC.out.2).cell 2 rfl
      go_wp2
      go_loopw [48] (fun i wr => ∃ k : Nat, k ≤ q.schemes.length ∧ i = .int .i64 k ∧ Hid (Bd wr w2.heap.size (T2 ++ (q.schemes.take k).flatMap fS) ∧ Kp w2.heap.size W3 wr)) (fun i _ => q.schemes.length - (intOf i).toNat)
      case atStart => exact ⟨0, by omega, rfl, Lib.hid ⟨by simpa using hC.out.1, hC.out.2⟩⟩
      case round =>
        clear z2 hC
        obtain ⟨k, hk, rfl, hst⟩ := hrel
        by_cases hlt : k < q.schemes.length
        · obtain ⟨b, off, rfl, _, _, hcl⟩ := rdW_at (HRD.out _ hst.out.2).2.2.1 hlt
          have f1 := (HKF.out _ hst.out.2).cell 0 rfl
          unfold lineV at f1
          have hL := Lib.hid (line2 (str [115, 99, 104, 101, 109, 101]) q.schemes[k] hst.out.1 (by rw [List.length_append]; exact flat_fit (f := fS) hlt (by have := HL.out; omega)))
          go_wp2_with (go_at_call 151; refine hL.out.mono ?_; rintro e w8 ⟨rfl, hB8, hk8⟩)
          have hN : Hid (Bd w8 w2.heap.size (T2 ++ (q.schemes.take (k + 1)).flatMap fS) ∧ Kp w2.heap.size W3 w8) := Lib.hid ⟨by rw [flat_succ hlt, ← List.append_assoc]; exact hB8, hst.out.2.trans hk8⟩
          go_roundw
          case rel => exact ⟨k + 1, by omega, by go_num, hN⟩
          case measure => simp [intOf] <;> omega
        · obtain rfl : k = q.schemes.length := by omega
          obtain ⟨wS, rfl⟩ : ∃ wS, wS = wr := ⟨_, rfl⟩
          have hCS : Hid (Bd wS w2.heap.size (T2 ++ q.schemes.flatMap fS) ∧ Kp w2.heap.size W3 wS) := Lib.hid (by have := hst.out; rw [List.take_length] at this; exact this)
          clear hst
          have z2 := (HKP.out _ hCS.out.2).cell 4 rfl
          go_wp2
          go_loopw [60] (fun i wr => ∃ k : Nat, k ≤ q.drop.length ∧ i = .int .i64 k ∧ Hid (Bd wr w2.heap.size ((T2 ++ q.schemes.flatMap fS) ++ (q.drop.take k).flatMap fD) ∧ Kp w2.heap.size W3 wr)) (fun i _ => q.drop.length - (intOf i).toNat)
          case atStart => exact ⟨0, by omega, rfl, Lib.hid ⟨by simpa using hCS.out.1, hCS.out.2⟩⟩
          case round =>
            clear z2 hCS
            obtain ⟨k, hk, rfl, hst⟩ := hrel
            by_cases hlt : k < q.drop.length
            · obtain ⟨b, off, rfl, _, _, hcl⟩ := rdW_at (HRD.out _ hst.out.2).2.2.2 hlt
              have f1 := (HKF.out _ hst.out.2).cell 0 rfl
              unfold lineV at f1
              have hL := Lib.hid (line2 (str [100, 114, 111, 112]) q.drop[k] hst.out.1 (by rw [List.length_append]; exact flat_fit (f := fD) hlt (by have := HL.out; rw [List.length_append]; omega)))
              go_wp2_with (go_at_call 151; refine hL.out.mono ?_; rintro e w8 ⟨rfl, hB8, hk8⟩)
              have hN : Hid (Bd w8 w2.heap.size ((T2 ++ q.schemes.flatMap fS) ++ (q.drop.take (k + 1)).flatMap fD) ∧ Kp w2.heap.size W3 w8) := Lib.hid ⟨by rw [flat_succ hlt, ← List.append_assoc]; exact hB8, hst.out.2.trans hk8⟩
              go_roundw
              case rel => exact ⟨k + 1, by omega, by go_num, hN⟩
              case measure => simp [intOf] <;> omega
            · obtain rfl : k = q.drop.length := by omega
              obtain ⟨wD, rfl⟩ : ∃ wD, wD = wr := ⟨_, rfl⟩
              have hCD : Hid (Bd wD w2.heap.size (T2 ++ q.schemes.flatMap fS ++ q.drop.flatMap fD) ∧ Kp w2.heap.size W3 wD) := Lib.hid (by have := hst.out; rw [List.take_length] at this; exact this)
              clear hst
              have z2 := (HKP.out _ hCD.out.2).cell 1 rfl
              go_wp2
              go_loopw [72] (fun i wr => ∃ k : Nat, k ≤ q.glob.length ∧ i = .int .i64 k ∧ Hid (Bd wr w2.heap.size ((T2 ++ q.schemes.flatMap fS ++ q.drop.flatMap fD) ++ (q.glob.take k).flatMap fG) ∧ Kp w2.heap.size W3 wr)) (fun i _ => q.glob.length - (intOf i).toNat)
              case atStart => exact ⟨0, by omega, rfl, Lib.hid ⟨by simpa using hCD.out.1, hCD.out.2⟩⟩
              case round =>
                clear z2 hCD
                obtain ⟨k, hk, rfl, hst⟩ := hrel
                by_cases hlt : k < q.glob.length
                · obtain ⟨b, off, u, rfl, _, _, hu, hcell⟩ := fmR.rd_at (HRD.out _ hst.out.2).2.1 hlt
                  have c0 := hcell 0 _ rfl
                  have c1 := hcell 1 _ rfl
                  have c2 := hcell 2 _ rfl
                  rw [show off + (k * fmR.size + 0) = off + k * 3 from rfl] at c0
                  rw [show off + (k * fmR.size + 1) = off + k * 3 + 1 from by show off + (k * 3 + 1) = _; omega] at c1
                  rw [show off + (k * fmR.size + 2) = off + k * 3 + 2 from by show off + (k * 3 + 2) = _; omega] at c2
                  obtain ⟨o1, o2, o3⟩ := HO.out.glob k hlt
                  obtain ⟨kn, hkn⟩ : ∃ kn : Nat, q.glob[k].kind = kn := ⟨_, (Int.toNat_of_nonneg o1).symm⟩
                  have hkn9 : kn < 9 := by omega
                  have HKN := Lib.hid hkn
                  have hu' : kdW.rd wr 0 w2.heap.size u q.glob[k].words := hu
                  obtain ⟨A9, c9, rfl, _⟩ := rdW_form hu'
                  have hfg : Hid (fG q.glob[k] = lineL ((str [103, 108, 111, 98, 97, 108]) :: q.glob[k].name :: kindN kn :: q.glob[k].words)) := Lib.hid (by unfold fG sayL; rw [hkn]; rfl)
                  rw [hkn] at c1
                  have hsy := Lib.hid (say1 (word := (str [103, 108, 111, 98, 97, 108])) (nm := q.glob[k].name) (fb := w2.heap.size + 1) (.cells #[.string q.glob[k].name, .int .i64 (kn : Int), .slice A9 q.glob[k].words.length c9] 51) hu' (by have := hst.out.2.size; omega) hkn9 hst.out.1 (HKF.out _ hst.out.2) (by omega) (by rw [← hfg.out, List.length_append]; exact flat_fit (f := fG) hlt (by have := HL.out; simp only [List.length_append]; omega)) o3)
                  have k5 : Bl (wr.alloc (.cells #[.string q.glob[k].name, .int .i64 (kn : Int), .slice A9 q.glob[k].words.length c9] 51)) wr.heap.size 51 [.string q.glob[k].name, .int .i64 (kn : Int), .slice A9 q.glob[k].words.length c9] := Bl.new wr _ _ rfl
                  have y0 := k5.cell 0 rfl
                  have y1 := k5.cell 1 rfl
                  have y2 := k5.cell 2 rfl
                  clear hkn hu hu' hcell o1 o2 o3
                  go_wp2_with (go_at_call 154; refine hsy.out.mono ?_; rintro e w8 ⟨rfl, hB8, hk8⟩)
                  have hN : Hid (Bd w8 w2.heap.size ((T2 ++ q.schemes.flatMap fS ++ q.drop.flatMap fD) ++ (q.glob.take (k + 1)).flatMap fG) ∧ Kp w2.heap.size W3 w8) := Lib.hid ⟨by rw [flat_succ hlt, ← List.append_assoc, hfg.out]; exact hB8, hst.out.2.trans hk8⟩
                  go_roundw
                  case rel => exact ⟨k + 1, by omega, by go_num, hN⟩
                  case measure => simp [intOf] <;> omega
                · obtain rfl : k = q.glob.length := by omega
                  obtain ⟨wG, rfl⟩ : ∃ wG, wG = wr := ⟨_, rfl⟩
                  have hCG : Hid (Bd wG w2.heap.size (T2 ++ q.schemes.flatMap fS ++ q.drop.flatMap fD ++ q.glob.flatMap fG) ∧ Kp w2.heap.size W3 wG) := Lib.hid (by have := hst.out; rw [List.take_length] at this; exact this)
                  clear hst
                  have z2 := (HKP.out _ hCG.out.2).cell 0 rfl
                  go_wp2
                  go_loopw [83] (fun i wr => ∃ k : Nat, k ≤ q.els.length ∧ i = .int .i64 k ∧ Hid (Bd wr w2.heap.size ((T2 ++ q.schemes.flatMap fS ++ q.drop.flatMap fD ++ q.glob.flatMap fG) ++ (q.els.take k).flatMap fE) ∧ Kp w2.heap.size W3 wr)) (fun i _ => q.els.length - (intOf i).toNat)
                  case atStart => exact ⟨0, by omega, rfl, Lib.hid ⟨by simpa using hCG.out.1, hCG.out.2⟩⟩
                  case round =>
                    clear z2 hCG
                    obtain ⟨k, hk, rfl, hst⟩ := hrel
                    by_cases hlt : k < q.els.length
                    · obtain ⟨b, off, u, rfl, _, _, hu, hcell⟩ := fmE.rd_at (HRD.out _ hst.out.2).1 hlt
                      have c0 := hcell 0 _ rfl
                      have c1 := hcell 1 _ rfl
                      rw [show off + (k * fmE.size + 0) = off + k * 2 from rfl] at c0
                      rw [show off + (k * fmE.size + 1) = off + k * 2 + 1 from by show off + (k * 2 + 1) = _; omega] at c1
                      have hu' : kdR.rd wr 0 w2.heap.size u q.els[k].rules := hu
                      obtain ⟨A9, c9, rfl, _⟩ := fmR.rd_form hu'
                      have hri := HO.out.int2 k hlt
                      obtain ⟨TE, hTE⟩ : ∃ TE, TE = (T2 ++ q.schemes.flatMap fS ++ q.drop.flatMap fD ++ q.glob.flatMap fG) ++ (q.els.take k).flatMap fE := ⟨_, rfl⟩
                      have hfl := flat_fit (f := fE) hlt (n := (T2 ++ q.schemes.flatMap fS ++ q.drop.flatMap fD ++ q.glob.flatMap fG).length) (m := 140737488355328) (by have := HL.out; simp only [List.length_append]; omega)
                      have hfe : fE q.els[k] = lineL [(str [101, 108, 101, 109, 101, 110, 116]), q.els[k].name] ++ q.els[k].rules.flatMap fA := rfl
                      have HTL : Hid (TE.length + (lineL [(str [101, 108, 101, 109, 101, 110, 116]), q.els[k].name]).length + (q.els[k].rules.flatMap fA).length ≤ 140737488355328) := Lib.hid (by rw [hfe] at hfl; rw [hTE]; simp only [List.length_append] at hfl ⊢; omega)
                      have HFE := Lib.hid hfe
                      have hBE : Bd wr w2.heap.size TE := by rw [hTE]; exact hst.out.1
                      have HTE := Lib.hid hTE
                      have hwb : Below wr.heap.size wr (wr.alloc (.cells #[.string q.els[k].name, .slice A9 q.els[k].rules.length c9] 59)) := (Below.refl _ _).alloc (Nat.le_refl _) _
                      have hsz3 : w2.heap.size ≤ wr.heap.size := by have := hst.out.2.size; omega
                      have hka9 : Kp w2.heap.size W3 (wr.alloc (.cells #[.string q.els[k].name, .slice A9 q.els[k].rules.length c9] 59)) := hst.out.2.trans (Kp.of hwb hsz3)
                      have k5 : Bl (wr.alloc (.cells #[.string q.els[k].name, .slice A9 q.els[k].rules.length c9] 59)) wr.heap.size 59 [.string q.els[k].name, .slice A9 q.els[k].rules.length c9] := Bl.new wr _ _ rfl
                      have y0 := k5.cell 0 rfl
                      have f1 := (HKF.out _ hka9).cell 0 rfl
                      unfold lineV at f1
                      have hL0 := line2 (str [101, 108, 101, 109, 101, 110, 116]) q.els[k].name (hBE.below hwb) (by have := HTL.out; omega)
                      rw [show (wr.alloc (.cells #[.string q.els[k].name, .slice A9 q.els[k].rules.length c9] 59)).heap.size = wr.heap.size + 1 from by simp] at hL0
                      have hL := Lib.hid hL0
                      clear hL0
                      have hne : wr.heap.size ≠ w2.heap.size := by have := hst.out.1.lt; omega
                      clear hTE hfl hfe hBE hu hcell
                      go_upto_region 30 with (go_at_call 151; refine hL.out.mono ?_; rintro e w8 ⟨rfl, hB8, hk8⟩)
                      have k6 := Bl.kp k5 hk8 hne (by decide)
                      have y1 := k6.cell 1 rfl
                      have hC8 : Hid (Bd w8 w2.heap.size (TE ++ lineL [(str [101, 108, 101, 109, 101, 110, 116]), q.els[k].name]) ∧ Kp w2.heap.size W3 w8) := Lib.hid ⟨hB8, hka9.trans hk8⟩
                      have hur := Lib.hid (fun W (hW : Kp w2.heap.size wr W) => (kdR.stay hu' fun j _ hj => hW.below.block j hj : kdR.rd W 0 w2.heap.size (.slice A9 q.els[k].rules.length c9) q.els[k].rules))
                      have hrw8 : Hid (Kp w2.heap.size wr w8) := Lib.hid ((Kp.of hwb hsz3).trans hk8)
                      clear hB8 hk8 k5 k6 y0 f1 hwb hka9 hu'
                      obtain ⟨TF, hTF⟩ : ∃ TF, TF = TE ++ lineL [(str [101, 108, 101, 109, 101, 110, 116]), q.els[k].name] := ⟨_, rfl⟩
                      rw [← hTF] at hC8
                      have HTF := Lib.hid hTF
                      have HTL2 : Hid (TF.length + (q.els[k].rules.flatMap fA).length ≤ 140737488355328) := Lib.hid (by rw [hTF, List.length_append]; exact HTL.out)
                      clear hTF
                      obtain ⟨wr0, rfl⟩ : ∃ wr0, wr0 = wr := ⟨_, rfl⟩
                      go_wp2
                      go_loopw [95] (fun i wr => ∃ j : Nat, j ≤ q.els[k].rules.length ∧ i = .int .i64 j ∧ Hid (Bd wr w2.heap.size (TF ++ (q.els[k].rules.take j).flatMap fA) ∧ Kp w2.heap.size W3 wr ∧ Kp w2.heap.size wr0 wr)) (fun i _ => q.els[k].rules.length - (intOf i).toNat)
                      case atStart => exact ⟨0, by omega, rfl, Lib.hid ⟨by simpa using hC8.out.1, hC8.out.2, hrw8.out⟩⟩
                      case round =>
                        clear hC8 y1
                        obtain ⟨j, hj, rfl, hin⟩ := hrel
                        by_cases hlj : j < q.els[k].rules.length
                        · obtain ⟨b2, off2, u, rfl, _, _, hu, hcell⟩ := fmR.rd_at (hur.out _ hin.out.2.2) hlj
                          have c0 := hcell 0 _ rfl
                          have c1 := hcell 1 _ rfl
                          have c2 := hcell 2 _ rfl
                          rw [show off2 + (j * fmR.size + 0) = off2 + j * 3 from rfl] at c0
                          rw [show off2 + (j * fmR.size + 1) = off2 + j * 3 + 1 from by show off2 + (j * 3 + 1) = _; omega] at c1
                          rw [show off2 + (j * fmR.size + 2) = off2 + j * 3 + 2 from by show off2 + (j * 3 + 2) = _; omega] at c2
                          obtain ⟨o1, o2, o3⟩ := HO.out.els k hlt j hlj
                          obtain ⟨kn, hkn⟩ : ∃ kn : Nat, q.els[k].rules[j].kind = kn := ⟨_, (Int.toNat_of_nonneg o1).symm⟩
                          have hkn9 : kn < 9 := by omega
                          have hu' : kdW.rd wr 0 w2.heap.size u q.els[k].rules[j].words := hu
                          obtain ⟨A7, c7, rfl, _⟩ := rdW_form hu'
                          have hfg : Hid (fA q.els[k].rules[j] = lineL ((str [97, 116, 116, 114]) :: q.els[k].rules[j].name :: kindN kn :: q.els[k].rules[j].words)) := Lib.hid (by unfold fA sayL; rw [hkn]; rfl)
                          rw [hkn] at c1
                          have hsy := Lib.hid (say1 (word := (str [97, 116, 116, 114])) (nm := q.els[k].rules[j].name) (fb := w2.heap.size + 1) (.cells #[.string q.els[k].rules[j].name, .int .i64 (kn : Int), .slice A7 q.els[k].rules[j].words.length c7] 51) hu' (by have := hin.out.2.1.size; omega) hkn9 hin.out.1 (HKF.out _ hin.out.2.1) (by omega) (by rw [← hfg.out, List.length_append]; exact flat_fit (f := fA) hlj HTL2.out) o3)
                          have k5 : Bl (wr.alloc (.cells #[.string q.els[k].rules[j].name, .int .i64 (kn : Int), .slice A7 q.els[k].rules[j].words.length c7] 51)) wr.heap.size 51 [.string q.els[k].rules[j].name, .int .i64 (kn : Int), .slice A7 q.els[k].rules[j].words.length c7] := Bl.new wr _ _ rfl
                          have y0 := k5.cell 0 rfl
                          have y1 := k5.cell 1 rfl
                          have y2 := k5.cell 2 rfl
                          clear hkn hu hu' hcell o1 o2 o3
                          go_wp2_with (go_at_call 154; refine hsy.out.mono ?_; rintro e w9 ⟨rfl, hB9, hk9⟩)
                          have hN : Hid (Bd w9 w2.heap.size (TF ++ (q.els[k].rules.take (j + 1)).flatMap fA) ∧ Kp w2.heap.size W3 w9 ∧ Kp w2.heap.size wr0 w9) := Lib.hid ⟨by rw [flat_succ hlj, ← List.append_assoc, hfg.out]; exact hB9, hin.out.2.1.trans hk9, hin.out.2.2.trans hk9⟩
                          go_roundw
                          case rel => exact ⟨j + 1, by omega, by go_num, hN⟩
                          case measure => simp [intOf] <;> omega
                        · obtain rfl : j = q.els[k].rules.length := by omega
                          have hN : Hid (Bd wr w2.heap.size ((T2 ++ q.schemes.flatMap fS ++ q.drop.flatMap fD ++ q.glob.flatMap fG) ++ (q.els.take (k + 1)).flatMap fE) ∧ Kp w2.heap.size W3 wr) := Lib.hid (by
                            have h9 := hin.out
                            rw [List.take_length, HTF.out, HTE.out, List.append_assoc, List.append_assoc, ← HFE.out] at h9
                            rw [flat_succ hlt]
                            exact ⟨h9.1, h9.2.1⟩)
                          go_wp2
                          go_roundw
                          case rel => exact ⟨k + 1, by omega, by go_num, hN⟩
                          case measure => simp [intOf] <;> omega
                    · obtain rfl : k = q.els.length := by omega
                      have hfin := hst.out
                      rw [List.take_length] at hfin
                      obtain ⟨TT, hTT⟩ : ∃ TT, TT = (T2 ++ q.schemes.flatMap fS ++ q.drop.flatMap fD ++ q.glob.flatMap fG) ++ q.els.flatMap fE := ⟨_, rfl⟩
                      have HRT : Hid (res = str TT) := Lib.hid (by rw [HRES.out, hTT])
                      rw [← hTT] at hfin
                      clear hTT
                      have HS := Lib.hid (stringC hfin.1)
                      go_wp2_with (go_at_call 157; refine HS.out.mono ?_; rintro e w9 ⟨rfl, hB9, hk9⟩)
                      go_ret2
                      exact ⟨by rw [HRT.out]; rfl, HBW.out _ (hfin.2.trans hk9)⟩
    · go_upto_region 11 with (go_at_call 151; refine (line1 (str [114, 101, 108, 97, 116, 105, 118, 101]) HB6.out HL3.out).mono ?_; rintro e w7 ⟨rfl, hB7, hk7⟩)
      have hC : Hid (Bd w7 w2.heap.size T2 ∧ Kp w2.heap.size W3 w7) := Lib.hid ⟨by rw [HT2.out]; exact hB7, hk6.trans hk7⟩
      clear f3 g3 hk6 hk5 HB6 hB0 hk0 hB7 hk7
      have z2 := (HKP.out _ hC.out.2).cell 2 rfl
      go_wp2
      go_loopw [48] (fun i wr => ∃ k : Nat, k ≤ q.schemes.length ∧ i = .int .i64 k ∧ Hid (Bd wr w2.heap.size (T2 ++ (q.schemes.take k).flatMap fS) ∧ Kp w2.heap.size W3 wr)) (fun i _ => q.schemes.length - (intOf i).toNat)
      case atStart => exact ⟨0, by omega, rfl, Lib.hid ⟨by simpa using hC.out.1, hC.out.2⟩⟩
      case round =>
        clear z2 hC
        obtain ⟨k, hk, rfl, hst⟩ := hrel
        by_cases hlt : k < q.schemes.length
        · obtain ⟨b, off, rfl, _, _, hcl⟩ := rdW_at (HRD.out _ hst.out.2).2.2.1 hlt
          have f1 := (HKF.out _ hst.out.2).cell 0 rfl
          unfold lineV at f1
          have hL := Lib.hid (line2 (str [115, 99, 104, 101, 109, 101]) q.schemes[k] hst.out.1 (by rw [List.length_append]; exact flat_fit (f := fS) hlt (by have := HL.out; omega)))
          go_wp2_with (go_at_call 151; refine hL.out.mono ?_; rintro e w8 ⟨rfl, hB8, hk8⟩)
          have hN : Hid (Bd w8 w2.heap.size (T2 ++ (q.schemes.take (k + 1)).flatMap fS) ∧ Kp w2.heap.size W3 w8) := Lib.hid ⟨by rw [flat_succ hlt, ← List.append_assoc]; exact hB8, hst.out.2.trans hk8⟩
          go_roundw
          case rel => exact ⟨k + 1, by omega, by go_num, hN⟩
          case measure => simp [intOf] <;> omega
        · obtain rfl : k = q.schemes.length := by omega
          obtain ⟨wS, rfl⟩ : ∃ wS, wS = wr := ⟨_, rfl⟩
          have hCS : Hid (Bd wS w2.heap.size (T2 ++ q.schemes.flatMap fS) ∧ Kp w2.heap.size W3 wS) := Lib.hid (by have := hst.out; rw [List.take_length] at this; exact this)
          clear hst
          have z2 := (HKP.out _ hCS.out.2).cell 4 rfl
          go_wp2
          go_loopw [60] (fun i wr => ∃ k : Nat, k ≤ q.drop.length ∧ i = .int .i64 k ∧ Hid (Bd wr w2.heap.size ((T2 ++ q.schemes.flatMap fS) ++ (q.drop.take k).flatMap fD) ∧ Kp w2.heap.size W3 wr)) (fun i _ => q.drop.length - (intOf i).toNat)
          case atStart => exact ⟨0, by omega, rfl, Lib.hid ⟨by simpa using hCS.out.1, hCS.out.2⟩⟩
          case round =>
            clear z2 hCS
            obtain ⟨k, hk, rfl, hst⟩ := hrel
            by_cases hlt : k < q.drop.length
            · obtain ⟨b, off, rfl, _, _, hcl⟩ := rdW_at (HRD.out _ hst.out.2).2.2.2 hlt
              have f1 := (HKF.out _ hst.out.2).cell 0 rfl
              unfold lineV at f1
              have hL := Lib.hid (line2 (str [100, 114, 111, 112]) q.drop[k] hst.out.1 (by rw [List.length_append]; exact flat_fit (f := fD) hlt (by have := HL.out; rw [List.length_append]; omega)))
              go_wp2_with (go_at_call 151; refine hL.out.mono ?_; rintro e w8 ⟨rfl, hB8, hk8⟩)
              have hN : Hid (Bd w8 w2.heap.size ((T2 ++ q.schemes.flatMap fS) ++ (q.drop.take (k + 1)).flatMap fD) ∧ Kp w2.heap.size W3 w8) := Lib.hid ⟨by rw [flat_succ hlt, ← List.append_assoc]; exact hB8, hst.out.2.trans hk8⟩
              go_roundw
              case rel => exact ⟨k + 1, by omega, by go_num, hN⟩
              case measure => simp [intOf] <;> omega
            · obtain rfl : k = q.drop.length := by omega
              obtain ⟨wD, rfl⟩ : ∃ wD, wD = wr := ⟨_, rfl⟩
              have hCD : Hid (Bd wD w2.heap.size (T2 ++ q.schemes.flatMap fS ++ q.drop.flatMap fD) ∧ Kp w2.heap.size W3 wD) := Lib.hid (by have := hst.out; rw [List.take_length] at this; exact this)
              clear hst
              have z2 := (HKP.out _ hCD.out.2).cell 1 rfl
              go_wp2
              go_loopw [72] (fun i wr => ∃ k : Nat, k ≤ q.glob.length ∧ i = .int .i64 k ∧ Hid (Bd wr w2.heap.size ((T2 ++ q.schemes.flatMap fS ++ q.drop.flatMap fD) ++ (q.glob.take k).flatMap fG) ∧ Kp w2.heap.size W3 wr)) (fun i _ => q.glob.length - (intOf i).toNat)
              case atStart => exact ⟨0, by omega, rfl, Lib.hid ⟨by simpa using hCD.out.1, hCD.out.2⟩⟩
              case round =>
                clear z2 hCD
                obtain ⟨k, hk, rfl, hst⟩ := hrel
                by_cases hlt : k < q.glob.length
                · obtain ⟨b, off, u, rfl, _, _, hu, hcell⟩ := fmR.rd_at (HRD.out _ hst.out.2).2.1 hlt
                  have c0 := hcell 0 _ rfl
                  have c1 := hcell 1 _ rfl
                  have c2 := hcell 2 _ rfl
                  rw [show off + (k * fmR.size + 0) = off + k * 3 from rfl] at c0
                  rw [show off + (k * fmR.size + 1) = off + k * 3 + 1 from by show off + (k * 3 + 1) = _; omega] at c1
                  rw [show off + (k * fmR.size + 2) = off + k * 3 + 2 from by show off + (k * 3 + 2) = _; omega] at c2
                  obtain ⟨o1, o2, o3⟩ := HO.out.glob k hlt
                  obtain ⟨kn, hkn⟩ : ∃ kn : Nat, q.glob[k].kind = kn := ⟨_, (Int.toNat_of_nonneg o1).symm⟩
                  have hkn9 : kn < 9 := by omega
                  have HKN := Lib.hid hkn
                  have hu' : kdW.rd wr 0 w2.heap.size u q.glob[k].words := hu
                  obtain ⟨A9, c9, rfl, _⟩ := rdW_form hu'
                  have hfg : Hid (fG q.glob[k] = lineL ((str [103, 108, 111, 98, 97, 108]) :: q.glob[k].name :: kindN kn :: q.glob[k].words)) := Lib.hid (by unfold fG sayL; rw [hkn]; rfl)
                  rw [hkn] at c1
                  have hsy := Lib.hid (say1 (word := (str [103, 108, 111, 98, 97, 108])) (nm := q.glob[k].name) (fb := w2.heap.size + 1) (.cells #[.string q.glob[k].name, .int .i64 (kn : Int), .slice A9 q.glob[k].words.length c9] 51) hu' (by have := hst.out.2.size; omega) hkn9 hst.out.1 (HKF.out _ hst.out.2) (by omega) (by rw [← hfg.out, List.length_append]; exact flat_fit (f := fG) hlt (by have := HL.out; simp only [List.length_append]; omega)) o3)
                  have k5 : Bl (wr.alloc (.cells #[.string q.glob[k].name, .int .i64 (kn : Int), .slice A9 q.glob[k].words.length c9] 51)) wr.heap.size 51 [.string q.glob[k].name, .int .i64 (kn : Int), .slice A9 q.glob[k].words.length c9] := Bl.new wr _ _ rfl
                  have y0 := k5.cell 0 rfl
                  have y1 := k5.cell 1 rfl
                  have y2 := k5.cell 2 rfl
                  clear hkn hu hu' hcell o1 o2 o3
                  go_wp2_with (go_at_call 154; refine hsy.out.mono ?_; rintro e w8 ⟨rfl, hB8, hk8⟩)
                  have hN : Hid (Bd w8 w2.heap.size ((T2 ++ q.schemes.flatMap fS ++ q.drop.flatMap fD) ++ (q.glob.take (k + 1)).flatMap fG) ∧ Kp w2.heap.size W3 w8) := Lib.hid ⟨by rw [flat_succ hlt, ← List.append_assoc, hfg.out]; exact hB8, hst.out.2.trans hk8⟩
                  go_roundw
                  case rel => exact ⟨k + 1, by omega, by go_num, hN⟩
                  case measure => simp [intOf] <;> omega
                · obtain rfl : k = q.glob.length := by omega
                  obtain ⟨wG, rfl⟩ : ∃ wG, wG = wr := ⟨_, rfl⟩
                  have hCG : Hid (Bd wG w2.heap.size (T2 ++ q.schemes.flatMap fS ++ q.drop.flatMap fD ++ q.glob.flatMap fG) ∧ Kp w2.heap.size W3 wG) := Lib.hid (by have := hst.out; rw [List.take_length] at this; exact this)
                  clear hst
                  have z2 := (HKP.out _ hCG.out.2).cell 0 rfl
                  go_wp2
                  go_loopw [83] (fun i wr => ∃ k : Nat, k ≤ q.els.length ∧ i = .int .i64 k ∧ Hid (Bd wr w2.heap.size ((T2 ++ q.schemes.flatMap fS ++ q.drop.flatMap fD ++ q.glob.flatMap fG) ++ (q.els.take k).flatMap fE) ∧ Kp w2.heap.size W3 wr)) (fun i _ => q.els.length - (intOf i).toNat)
                  case atStart => exact ⟨0, by omega, rfl, Lib.hid ⟨by simpa using hCG.out.1, hCG.out.2⟩⟩
                  case round =>
                    clear z2 hCG
                    obtain ⟨k, hk, rfl, hst⟩ := hrel
                    by_cases hlt : k < q.els.length
                    · obtain ⟨b, off, u, rfl, _, _, hu, hcell⟩ := fmE.rd_at (HRD.out _ hst.out.2).1 hlt
                      have c0 := hcell 0 _ rfl
                      have c1 := hcell 1 _ rfl
                      rw [show off + (k * fmE.size + 0) = off + k * 2 from rfl] at c0
                      rw [show off + (k * fmE.size + 1) = off + k * 2 + 1 from by show off + (k * 2 + 1) = _; omega] at c1
                      have hu' : kdR.rd wr 0 w2.heap.size u q.els[k].rules := hu
                      obtain ⟨A9, c9, rfl, _⟩ := fmR.rd_form hu'
                      have hri := HO.out.int2 k hlt
                      obtain ⟨TE, hTE⟩ : ∃ TE, TE = (T2 ++ q.schemes.flatMap fS ++ q.drop.flatMap fD ++ q.glob.flatMap fG) ++ (q.els.take k).flatMap fE := ⟨_, rfl⟩
                      have hfl := flat_fit (f := fE) hlt (n := (T2 ++ q.schemes.flatMap fS ++ q.drop.flatMap fD ++ q.glob.flatMap fG).length) (m := 140737488355328) (by have := HL.out; simp only [List.length_append]; omega)
                      have hfe : fE q.els[k] = lineL [(str [101, 108, 101, 109, 101, 110, 116]), q.els[k].name] ++ q.els[k].rules.flatMap fA := rfl
                      have HTL : Hid (TE.length + (lineL [(str [101, 108, 101, 109, 101, 110, 116]), q.els[k].name]).length + (q.els[k].rules.flatMap fA).length ≤ 140737488355328) := Lib.hid (by rw [hfe] at hfl; rw [hTE]; simp only [List.length_append] at hfl ⊢; omega)
                      have HFE := Lib.hid hfe
                      have hBE : Bd wr w2.heap.size TE := by rw [hTE]; exact hst.out.1
                      have HTE := Lib.hid hTE
                      have hwb : Below wr.heap.size wr (wr.alloc (.cells #[.string q.els[k].name, .slice A9 q.els[k].rules.length c9] 59)) := (Below.refl _ _).alloc (Nat.le_refl _) _
                      have hsz3 : w2.heap.size ≤ wr.heap.size := by have := hst.out.2.size; omega
                      have hka9 : Kp w2.heap.size W3 (wr.alloc (.cells #[.string q.els[k].name, .slice A9 q.els[k].rules.length c9] 59)) := hst.out.2.trans (Kp.of hwb hsz3)
                      have k5 : Bl (wr.alloc (.cells #[.string q.els[k].name, .slice A9 q.els[k].rules.length c9] 59)) wr.heap.size 59 [.string q.els[k].name, .slice A9 q.els[k].rules.length c9] := Bl.new wr _ _ rfl
                      have y0 := k5.cell 0 rfl
                      have f1 := (HKF.out _ hka9).cell 0 rfl
                      unfold lineV at f1
                      have hL0 := line2 (str [101, 108, 101, 109, 101, 110, 116]) q.els[k].name (hBE.below hwb) (by have := HTL.out; omega)
                      rw [show (wr.alloc (.cells #[.string q.els[k].name, .slice A9 q.els[k].rules.length c9] 59)).heap.size = wr.heap.size + 1 from by simp] at hL0
                      have hL := Lib.hid hL0
                      clear hL0
                      have hne : wr.heap.size ≠ w2.heap.size := by have := hst.out.1.lt; omega
                      clear hTE hfl hfe hBE hu hcell
                      go_upto_region 30 with (go_at_call 151; refine hL.out.mono ?_; rintro e w8 ⟨rfl, hB8, hk8⟩)
                      have k6 := Bl.kp k5 hk8 hne (by decide)
                      have y1 := k6.cell 1 rfl
                      have hC8 : Hid (Bd w8 w2.heap.size (TE ++ lineL [(str [101, 108, 101, 109, 101, 110, 116]), q.els[k].name]) ∧ Kp w2.heap.size W3 w8) := Lib.hid ⟨hB8, hka9.trans hk8⟩
                      have hur := Lib.hid (fun W (hW : Kp w2.heap.size wr W) => (kdR.stay hu' fun j _ hj => hW.below.block j hj : kdR.rd W 0 w2.heap.size (.slice A9 q.els[k].rules.length c9) q.els[k].rules))
                      have hrw8 : Hid (Kp w2.heap.size wr w8) := Lib.hid ((Kp.of hwb hsz3).trans hk8)
                      clear hB8 hk8 k5 k6 y0 f1 hwb hka9 hu'
                      obtain ⟨TF, hTF⟩ : ∃ TF, TF = TE ++ lineL [(str [101, 108, 101, 109, 101, 110, 116]), q.els[k].name] := ⟨_, rfl⟩
                      rw [← hTF] at hC8
                      have HTF := Lib.hid hTF
                      have HTL2 : Hid (TF.length + (q.els[k].rules.flatMap fA).length ≤ 140737488355328) := Lib.hid (by rw [hTF, List.length_append]; exact HTL.out)
                      clear hTF
                      obtain ⟨wr0, rfl⟩ : ∃ wr0, wr0 = wr := ⟨_, rfl⟩
                      go_wp2
                      go_loopw [95] (fun i wr => ∃ j : Nat, j ≤ q.els[k].rules.length ∧ i = .int .i64 j ∧ Hid (Bd wr w2.heap.size (TF ++ (q.els[k].rules.take j).flatMap fA) ∧ Kp w2.heap.size W3 wr ∧ Kp w2.heap.size wr0 wr)) (fun i _ => q.els[k].rules.length - (intOf i).toNat)
                      case atStart => exact ⟨0, by omega, rfl, Lib.hid ⟨by simpa using hC8.out.1, hC8.out.2, hrw8.out⟩⟩
                      case round =>
                        clear hC8 y1
                        obtain ⟨j, hj, rfl, hin⟩ := hrel
                        by_cases hlj : j < q.els[k].rules.length
                        · obtain ⟨b2, off2, u, rfl, _, _, hu, hcell⟩ := fmR.rd_at (hur.out _ hin.out.2.2) hlj
                          have c0 := hcell 0 _ rfl
                          have c1 := hcell 1 _ rfl
                          have c2 := hcell 2 _ rfl
                          rw [show off2 + (j * fmR.size + 0) = off2 + j * 3 from rfl] at c0
                          rw [show off2 + (j * fmR.size + 1) = off2 + j * 3 + 1 from by show off2 + (j * 3 + 1) = _; omega] at c1
                          rw [show off2 + (j * fmR.size + 2) = off2 + j * 3 + 2 from by show off2 + (j * 3 + 2) = _; omega] at c2
                          obtain ⟨o1, o2, o3⟩ := HO.out.els k hlt j hlj
                          obtain ⟨kn, hkn⟩ : ∃ kn : Nat, q.els[k].rules[j].kind = kn := ⟨_, (Int.toNat_of_nonneg o1).symm⟩
                          have hkn9 : kn < 9 := by omega
                          have hu' : kdW.rd wr 0 w2.heap.size u q.els[k].rules[j].words := hu
                          obtain ⟨A7, c7, rfl, _⟩ := rdW_form hu'
                          have hfg : Hid (fA q.els[k].rules[j] = lineL ((str [97, 116, 116, 114]) :: q.els[k].rules[j].name :: kindN kn :: q.els[k].rules[j].words)) := Lib.hid (by unfold fA sayL; rw [hkn]; rfl)
                          rw [hkn] at c1
                          have hsy := Lib.hid (say1 (word := (str [97, 116, 116, 114])) (nm := q.els[k].rules[j].name) (fb := w2.heap.size + 1) (.cells #[.string q.els[k].rules[j].name, .int .i64 (kn : Int), .slice A7 q.els[k].rules[j].words.length c7] 51) hu' (by have := hin.out.2.1.size; omega) hkn9 hin.out.1 (HKF.out _ hin.out.2.1) (by omega) (by rw [← hfg.out, List.length_append]; exact flat_fit (f := fA) hlj HTL2.out) o3)
                          have k5 : Bl (wr.alloc (.cells #[.string q.els[k].rules[j].name, .int .i64 (kn : Int), .slice A7 q.els[k].rules[j].words.length c7] 51)) wr.heap.size 51 [.string q.els[k].rules[j].name, .int .i64 (kn : Int), .slice A7 q.els[k].rules[j].words.length c7] := Bl.new wr _ _ rfl
                          have y0 := k5.cell 0 rfl
                          have y1 := k5.cell 1 rfl
                          have y2 := k5.cell 2 rfl
                          clear hkn hu hu' hcell o1 o2 o3
                          go_wp2_with (go_at_call 154; refine hsy.out.mono ?_; rintro e w9 ⟨rfl, hB9, hk9⟩)
                          have hN : Hid (Bd w9 w2.heap.size (TF ++ (q.els[k].rules.take (j + 1)).flatMap fA) ∧ Kp w2.heap.size W3 w9 ∧ Kp w2.heap.size wr0 w9) := Lib.hid ⟨by rw [flat_succ hlj, ← List.append_assoc, hfg.out]; exact hB9, hin.out.2.1.trans hk9, hin.out.2.2.trans hk9⟩
                          go_roundw
                          case rel => exact ⟨j + 1, by omega, by go_num, hN⟩
                          case measure => simp [intOf] <;> omega
                        · obtain rfl : j = q.els[k].rules.length := by omega
                          have hN : Hid (Bd wr w2.heap.size ((T2 ++ q.schemes.flatMap fS ++ q.drop.flatMap fD ++ q.glob.flatMap fG) ++ (q.els.take (k + 1)).flatMap fE) ∧ Kp w2.heap.size W3 wr) := Lib.hid (by
                            have h9 := hin.out
                            rw [List.take_length, HTF.out, HTE.out, List.append_assoc, List.append_assoc, ← HFE.out] at h9
                            rw [flat_succ hlt]
                            exact ⟨h9.1, h9.2.1⟩)
                          go_wp2
                          go_roundw
                          case rel => exact ⟨k + 1, by omega, by go_num, hN⟩
                          case measure => simp [intOf] <;> omega
                    · obtain rfl : k = q.els.length := by omega
                      have hfin := hst.out
                      rw [List.take_length] at hfin
                      obtain ⟨TT, hTT⟩ : ∃ TT, TT = (T2 ++ q.schemes.flatMap fS ++ q.drop.flatMap fD ++ q.glob.flatMap fG) ++ q.els.flatMap fE := ⟨_, rfl⟩
                      have HRT : Hid (res = str TT) := Lib.hid (by rw [HRES.out, hTT])
                      rw [← hTT] at hfin
                      clear hTT
                      have HS := Lib.hid (stringC hfin.1)
                      go_wp2_with (go_at_call 157; refine HS.out.mono ?_; rintro e w9 ⟨rfl, hB9, hk9⟩)
                      go_ret2
                      exact ⟨by rw [HRT.out]; rfl, HBW.out _ (hfin.2.trans hk9)⟩
  · have hc2 : (cc != 0) = true := by simpa using hc
    have HR2 : Hid (res = str []) := Lib.hid (by rw [HPQ.out, if_neg hc])
    clear HQ HPQ HPR
    go_enter Tryz.func84, Tryz.ntmps84
    go_upto_region 1 with fail
    rw [← HX.out]
    go_upto_region 2 with (go_at_call 150; refine HTD.out.mono ?_; rintro e w1 ⟨y, F, rfl, ho, hb1⟩; obtain ⟨B1, d1, B2, d2, B3, d3, B4, d4, rfl, _⟩ := (ho.rd (lo := 0) (hi := w1.heap.size) (Nat.zero_le _) (Nat.le_refl _)).form; have m1 := k0.below hb1; obtain ⟨s0, s1, s2, s3, s4, s5, s6, s7, s8, s9, s10, s11, s12, s13⟩ := m1.store7 (.slice B1 q.els.length d1) (.slice B2 q.glob.length d2) (.slice B3 q.schemes.length d3) (.bool q.rel) (.slice B4 q.drop.length d4) (.int .i64 q.depth) (.int .i64 q.window))
    have hfz := Fr.set7 w1 w.heap.size (.slice B1 q.els.length d1) (.slice B2 q.glob.length d2) (.slice B3 q.schemes.length d3) (.bool q.rel) (.slice B4 q.drop.length d4) (.int .i64 q.depth) (.int .i64 q.window)
    have hb2 : Below w.heap.size w w1 := hb0.trans (hb1.mono hb0.size)
    go_wp2
    go_ret2
    exact ⟨by rw [HR2.out]; rfl, hb2.trans (hfz.below hb2.size (by simp))⟩
end Go.Proofs.YtejpdbiiikcmmaaGreatDoor.Pp
