/- Rows of structs that hold no list: attributes, findings; rows of tokens. -/
import Derived.Test.YtejpdbiiikcmmaaGreatDoorBk
import Derived.Test.YtejpdbiiikcmmaaGreatDoorFpl
set_option linter.unusedVariables false
set_option linter.unusedSimpArgs false
namespace Go.Proofs.YtejpdbiiikcmmaaGreatDoor.Kf
open Go.RowKit Lb Gr Pd Fpl Go.Proofs.YtejpdbiiikcmmaaGreatDoor.Pm Bk

theorem flat_len {α : Type} {enc : α → List Value} {s : Nat} (hl : ∀ a, (enc a).length = s) (l : List α) : (l.flatMap enc).length = l.length * s := by
  induction l with
  | nil => simp
  | cons a r ih => rw [List.flatMap_cons, List.length_append, hl, ih, List.length_cons, Nat.add_mul, Nat.one_mul, Nat.add_comm]
theorem flat_at {α : Type} {enc : α → List Value} {s : Nat} (hl : ∀ a, (enc a).length = s) {l : List α} {i q : Nat} (hi : i < l.length) (hq : q < s) : (l.flatMap enc)[i * s + q]? = (enc l[i])[q]? := by
  have e : l = l.take i ++ l[i] :: l.drop (i + 1) := by rw [← List.drop_eq_getElem_cons hi, List.take_append_drop]
  generalize l[i] = a at e
  rw [e, List.flatMap_append, List.flatMap_cons]
  have h1 : ((l.take i).flatMap enc).length = i * s := by rw [flat_len hl, List.length_take]; congr 1; omega
  rw [List.getElem?_append_right (by omega), h1, Nat.add_sub_cancel_left, List.getElem?_append_left (by rw [hl]; exact hq)]
/-- lists of such structs, as a kind -/
def kdF {α : Type} (e : TypeId) (s : Nat) (enc : α → List Value) : Kd (List α) where
  own w B v l F := w.ownsRow B e s v l.length (l.flatMap enc) ∧ F = v.ownBlock.toList
  rd w lo hi v l := Sl2 w lo hi v l.length (l.flatMap enc)
  keep := by rintro w w' B v l F ⟨h, rfl⟩ hsz hF; exact ⟨own_stay h hF, rfl⟩
  ge := by rintro w B v l F ⟨h, rfl⟩; exact own_ge2 h
  nodup := by rintro w B v l F ⟨h, rfl⟩; cases v.ownBlock <;> simp
  low := by rintro w B B' v l F ⟨h, rfl⟩ hB; exact ⟨own_low h hB, rfl⟩
  read := by rintro w B lo hi v l F ⟨h, rfl⟩ hl hh; exact Sl2.of_own h hl hh
  stay := fun h hb => h.stay hb
  wide := fun h h1 h2 => h.wide h1 h2
  slice := by rintro w lo hi v l ⟨A, c, rfl, _⟩; exact ⟨A, _, c, rfl⟩
def encA (a : AtD) : List Value := [.string a.name, .string a.value]
def encF (f : FinD) : List Value := [.int .i64 f.byte, .int .i64 f.line, .int .i64 f.col, .int .i64 f.why, .string f.name]
def kdA : Kd (List AtD) := kdF 48 2 encA
def kdN : Kd (List FinD) := kdF 64 5 encF
theorem encA_len (a : AtD) : (encA a).length = 2 := rfl
theorem encF_len (a : FinD) : (encF a).length = 5 := rfl
theorem rdF_form {α : Type} {e : TypeId} {s : Nat} {enc : α → List Value} {w : World} {lo hi : Nat} {v : Value} {l : List α} (h : (kdF e s enc).rd w lo hi v l) : ∃ A c, v = .slice A l.length c ∧ l.length ≤ c ∧ c ≤ maxLen := by
  obtain ⟨A, c, rfl, h1, h2, _⟩ := h
  exact ⟨A, c, rfl, h1, h2⟩
theorem rdF_nil {α : Type} (e : TypeId) (s : Nat) (enc : α → List Value) (w : World) (lo hi : Nat) : (kdF e s enc).rd w lo hi (.slice none 0 0) [] := ⟨none, 0, rfl, Nat.le_refl _, by simp, fun h => by simp at h⟩
theorem ownF_nil {α : Type} (e : TypeId) (s : Nat) (enc : α → List Value) (w : World) (B : Nat) : (kdF e s enc).own w B (.slice none 0 0) [] [] := ⟨World.ownsRow_nil _ _ _ _, rfl⟩
theorem rdA_at {w : World} {lo hi n c : Nat} {A : Option Addr} {l : List AtD} (h : kdA.rd w lo hi (.slice A n c) l) {i : Nat} (hi' : i < l.length) : ∃ b off, A = some ⟨b, off, none⟩ ∧ lo ≤ b ∧ b < hi ∧ w.cell? ⟨b, off + i * 2, none⟩ = some (.string l[i].name) ∧ w.cell? ⟨b, off + (i * 2 + 1), none⟩ = some (.string l[i].value) := by
  obtain ⟨A', c', hv, _, _, h3⟩ := h
  injection hv with e1 e2 e3
  subst e1
  have h4 := flat_at (enc := encA) encA_len hi' (show 0 < 2 by omega)
  have h5 := flat_at (enc := encA) encA_len hi' (show 1 < 2 by omega)
  have hp : 0 < (l.flatMap encA).length := by rw [flat_len encA_len]; omega
  obtain ⟨b, off, rfl, hl, hh, hc⟩ := h3 hp
  exact ⟨b, off, rfl, hl, hh, hc _ _ h4, hc _ _ h5⟩

def encT (t : TokD) (v : Value) : List Value := [.int .i64 t.kind, .string t.name, .string t.text, v, .bool t.self, .int .i64 t.byte, .int .i64 t.line, .int .i64 t.col]
def fmT : Fm TokD (List AtD) where
  kd := kdA
  sub := (·.attrs)
  enc := encT
  size := 8
  e := 39
  pos := by decide
  len := fun _ _ => rfl
  one := by intro a A n c u hu; simp [encT] at hu; rcases hu with rfl | rfl | rfl | rfl | rfl | rfl | rfl | rfl <;> rfl
def kdK : Kd (List TokD) := fmT.kind
/-- a token as a value -/
def tokV (t : TokD) (v : Value) : Value := .agg #[.int .i64 t.kind, .string t.name, .string t.text, v, .bool t.self, .int .i64 t.byte, .int .i64 t.line, .int .i64 t.col]
theorem infoTok : (Tryz.prog.info? 39).map (fun i => (i.zero, i.size)) = some (some (.agg #[.int .i64 0, .string ByteArray.empty, .string ByteArray.empty, .slice none 0 0, .bool false, .int .i64 0, .int .i64 0, .int .i64 0]), 8) := by kernel_rfl
theorem infoAt : (Tryz.prog.info? 48).map (fun i => (i.zero, i.size, i.bytes)) = some (some (.agg #[.string ByteArray.empty, .string ByteArray.empty]), 2, 32) := by kernel_rfl
theorem infoFin : (Tryz.prog.info? 64).map (fun i => (i.zero, i.size)) = some (some (.agg #[.int .i64 0, .int .i64 0, .int .i64 0, .int .i64 0, .string ByteArray.empty]), 5) := by kernel_rfl
end Go.Proofs.YtejpdbiiikcmmaaGreatDoor.Kf
