/- Plain laws that need no program: a block of bytes, a slice that reads as a list, small letters of a text, and what the conversions between texts and bytes lay. -/
import Derived.WalkKit
import Derived.Lib.Hide
import Derived.WalkSpells
import Derived.Laws.IdiomStrings
import Derived.Lib.Strings
import Derived.Maps.AppendAt
import Derived.Test.YtejpdbiiikcmmaaGreatDoorProg
import Derived.WalkLawsBesides
set_option linter.unusedVariables false
set_option linter.unusedSimpArgs false
namespace Go.Proofs.YtejpdbiiikcmmaaGreatDoor.Lb
open Go.RowKit

theorem ri {k : IntKind} {a b : Int} (h : b = a) : Ending.returned (.int k a) = .returned (.int k b) := by rw [h]
theorem rb {a b : Bool} (h : b = a) : Ending.returned (.bool a) = .returned (.bool b) := by rw [h]
theorem rs {a b : ByteArray} (h : b = a) : Ending.returned (.string a) = .returned (.string b) := by rw [h]

/-- a text, of its bytes -/
def str (l : List UInt8) : ByteArray := ⟨l.toArray⟩
theorem str_toList (l : List UInt8) : (str l).data.toList = l := rfl
theorem str_of (s : ByteArray) : str s.data.toList = s := by cases s; rfl
theorem str_size (l : List UInt8) : (str l).size = l.length := by show l.toArray.size = _; simp
theorem size_len (s : ByteArray) : s.data.toList.length = s.size := by show _ = s.data.size; simp
theorem str_inj {a b : List UInt8} (h : str a = str b) : a = b := by
  have := congrArg (fun s : ByteArray => s.data.toList) h
  exact this

/-- block b is a row of bytes that begins with l -/
def Byt (w : World) (b : Nat) (e : TypeId) (l : List UInt8) : Prop :=
  ∃ D : Array Value, w.heap[b]? = some (.cells D e (D.size, D.size + 1)) ∧ l.length ≤ D.size ∧ ∀ j (h : j < l.length), D[j]? = some (.int .u8 (l[j].toNat : Int))

theorem Byt.cell {w : World} {b : Nat} {e : TypeId} {l : List UInt8} (h : Byt w b e l) {j : Nat} (hj : j < l.length) : w.cell? ⟨b, j, none⟩ = some (.int .u8 (l[j].toNat : Int)) := by
  obtain ⟨D, hb, _, hc⟩ := h
  simp [World.cell?, hb, hc j hj]
theorem Byt.free {w : World} {b : Nat} {e : TypeId} {l : List UInt8} (h : Byt w b e l) {j : Nat} (hj : j < l.length) : w.frozen? ⟨b, j, none⟩ = false := by
  obtain ⟨D, hb, hl, hc⟩ := h
  simp [World.frozen?, hb]
  omega
theorem Byt.lt {w : World} {b : Nat} {e : TypeId} {l : List UInt8} (h : Byt w b e l) : b < w.heap.size := by
  obtain ⟨D, hb, _⟩ := h
  exact (Array.getElem?_eq_some_iff.1 hb).1
theorem Byt.set {w : World} {b : Nat} {e : TypeId} {l : List UInt8} (h : Byt w b e l) {j : Nat} (hj : j < l.length) (c : UInt8) : Byt (w.setCell ⟨b, j, none⟩ (.int .u8 (c.toNat : Int))) b e (l.set j c) := by
  obtain ⟨D, hb, hl, hc⟩ := h
  refine ⟨D.setIfInBounds j (.int .u8 (c.toNat : Int)), by simp [World.setCell, hb, Array.getElem?_modify], by simpa using hl, ?_⟩
  intro i hi
  rw [List.length_set] at hi
  by_cases hij : j = i
  · subst hij
    simp [Array.getElem?_setIfInBounds]
    omega
  · rw [Array.getElem?_setIfInBounds, if_neg hij, hc i hi]
    simp [hij]
theorem Byt.drew {w : World} {b : Nat} {e : TypeId} {l : List UInt8} (h : Byt w b e l) : Byt w.drew b e l := h
theorem Byt.below {w w' : World} {b B : Nat} {e : TypeId} {l : List UInt8} (h : Byt w b e l) (hb : Below B w w') (hB : b < B) : Byt w' b e l := by
  obtain ⟨D, h1, h2⟩ := h
  exact ⟨D, (hb.block b hB).trans h1, h2⟩

/-- what '[]byte(s)' lays -/
theorem byt_of_string {P : Program} (w : World) (src dst e : TypeId) (s : ByteArray) (hs : P.underlying src = some .string) (hd : P.underlying dst = some (.slice e)) (he : P.underlying e = some (.int .u8)) :
    ∃ (cap : Nat) (o : Obj), s.size ≤ cap ∧ (convert src dst (.string s)).run P w = .ok (.slice (some ⟨w.heap.size, 0, none⟩) s.size cap) (w.alloc o).drew ∧ Byt (w.alloc o) w.heap.size e s.data.toList := by
  refine ⟨_, _, ?_, run_bytes_of_string w src dst e s hs hd he, ?_⟩
  · exact grownCap_ge w s.size 0 e
  · have hge := grownCap_ge w s.size 0 e
    refine ⟨_, heap_alloc_new w _, ?_, ?_⟩
    · have hz : s.data.size = s.size := rfl
      simp only [bytesRow, Array.size_append, Array.size_map, Array.size_replicate, Array.length_toList]
      omega
    · intro j hj
      exact bytesRow_at s _ j (by simpa using hj)

/-- what 'string(b)' gives -/
theorem string_of_byt {P : Program} {w : World} {src dst e t : TypeId} {b cap : Nat} {l : List UInt8} {n : Nat} (hs : P.underlying src = some (.slice e)) (he : P.underlying e = some (.int .u8)) (hd : P.underlying dst = some .string)
    (h : Byt w b t l) (hn : l.length = n) : (convert src dst (.slice (some ⟨b, 0, none⟩) n cap)).run P w = .ok (.string (str l)) w := by
  subst hn
  refine run_convert_bytes_back w src dst e ⟨b, 0, none⟩ cap l hs he hd ?_
  intro j hj
  have hp : (⟨b, 0, none⟩ : Addr).add j = ⟨b, j, none⟩ := by unfold Addr.add; split <;> simp_all
  rw [hp]
  exact h.cell hj

/-- small letters -/
def lowB (c : UInt8) : UInt8 := if 65 ≤ c.toNat ∧ c.toNat ≤ 90 then c + 32 else c
def lowL (l : List UInt8) : List UInt8 := l.map lowB
def lowS (s : ByteArray) : ByteArray := str (lowL s.data.toList)
theorem lowB_up {c : UInt8} (h1 : 65 ≤ c.toNat) (h2 : c.toNat ≤ 90) : ((lowB c).toNat : Int) = c.toNat + 32 := by
  simp [lowB, h1, h2, UInt8.toNat_add]; omega
theorem lowB_no {c : UInt8} (h : ¬ (65 ≤ c.toNat ∧ c.toNat ≤ 90)) : lowB c = c := by simp [lowB, h]
theorem low_at (l : List UInt8) (k : Nat) (h : k < l.length) : ((lowL l).take k ++ l.drop k).length = l.length := by simp [lowL]; omega
theorem low_get (l : List UInt8) (k : Nat) (h : k < l.length) (h' : k < ((lowL l).take k ++ l.drop k).length) : ((lowL l).take k ++ l.drop k)[k] = l[k] := by
  rw [List.getElem_append_right (by simp [lowL]; omega)]
  simp [lowL]
  congr 1
  omega
theorem low_step (l : List UInt8) (k : Nat) (h : k < l.length) : ((lowL l).take k ++ l.drop k).set k (lowB l[k]) = (lowL l).take (k + 1) ++ l.drop (k + 1) := by
  have hl : ((lowL l).take k).length = k := by simp [lowL]; omega
  rw [List.set_append_right _ _ (by omega), hl, Nat.sub_self, List.drop_eq_getElem_cons h]
  simp only [List.set_cons_zero]
  have : (lowL l).take (k + 1) = (lowL l).take k ++ [lowB l[k]] := by
    rw [List.take_succ_eq_append_getElem (by simpa [lowL] using h)]
    simp [lowL]
  rw [this]
  simp
theorem low_stay (l : List UInt8) (k : Nat) (h : k < l.length) (hn : ¬ (65 ≤ (l[k]).toNat ∧ (l[k]).toNat ≤ 90)) : (lowL l).take k ++ l.drop k = (lowL l).take (k + 1) ++ l.drop (k + 1) := by
  have h1 := low_step l k h
  rw [lowB_no hn] at h1
  rw [← h1]
  have hl : ((lowL l).take k).length = k := by simp [lowL]; omega
  rw [List.set_append_right _ _ (by omega), hl, Nat.sub_self]
  have hd := List.drop_eq_getElem_cons h
  rw [hd]
  rfl

/-- a byte that is a blank -/
def blB (c : UInt8) : Bool := (c.toNat : Int) == 9 || (c.toNat : Int) == 10 || (c.toNat : Int) == 12 || (c.toNat : Int) == 32

def frontL (l : List UInt8) : List UInt8 := l.dropWhile blB
def backL (l : List UInt8) : List UInt8 := (l.reverse.dropWhile blB).reverse
def trimL (l : List UInt8) : List UInt8 := backL (frontL l)
theorem front_cons {l : List UInt8} (h : 0 < l.length) (hb : blB l[0] = true) : frontL (l.drop 1) = frontL l := by
  cases l with
  | nil => simp at h
  | cons c r => simp at hb; simp [frontL, hb]
theorem front_stop {l : List UInt8} (h : 0 < l.length) (hb : blB l[0] = false) : frontL l = l := by
  cases l with
  | nil => simp at h
  | cons c r => simp at hb; simp [frontL, hb]
theorem back_cons {l : List UInt8} (h : 0 < l.length) (hb : blB (l[l.length - 1]'(by omega)) = true) : backL (l.take (l.length - 1)) = backL l := by
  have hne : l ≠ [] := by intro e; subst e; simp at h
  obtain ⟨r, c, rfl⟩ : ∃ r c, l = r ++ [c] := ⟨l.dropLast, l.getLast hne, (List.dropLast_concat_getLast hne).symm⟩
  have hc : blB c = true := by simpa using hb
  have e1 : (r ++ [c]).take ((r ++ [c]).length - 1) = r := by simp
  rw [e1]
  simp [backL, hc]
theorem back_stop {l : List UInt8} (h : 0 < l.length) (hb : blB (l[l.length - 1]'(by omega)) = false) : backL l = l := by
  have hne : l ≠ [] := by intro e; subst e; simp at h
  obtain ⟨r, c, rfl⟩ : ∃ r c, l = r ++ [c] := ⟨l.dropLast, l.getLast hne, (List.dropLast_concat_getLast hne).symm⟩
  have hc : blB c = false := by simpa using hb
  simp [backL, hc]
theorem front_nil {l : List UInt8} (h : l.length = 0) : frontL l = l := by
  have := List.eq_nil_of_length_eq_zero h; subst this; rfl
theorem back_nil {l : List UInt8} (h : l.length = 0) : backL l = l := by
  have := List.eq_nil_of_length_eq_zero h; subst this; rfl

theorem extract_str (s : ByteArray) (a b : Nat) : s.extract a b = str ((s.data.toList.drop a).take (b - a)) := Lib.extract_eq s a b
theorem toList_nil {s : ByteArray} (h : s.size = 0) : s.toList = [] := by
  rw [Lib.toList_data]; exact List.eq_nil_of_length_eq_zero (by rw [size_len]; exact h)
theorem toList_ne {s : ByteArray} (h : 0 < s.size) : ¬ s.toList = [] := by
  rw [Lib.toList_data]; intro e; have h2 := congrArg List.length e; rw [size_len] at h2; simp only [List.length_nil] at h2; omega
theorem isEmpty_ne {s : ByteArray} (h : 0 < s.size) : s.toList.isEmpty = false := by
  have := toList_ne h
  cases h2 : s.toList with
  | nil => exact absurd h2 this
  | cons _ _ => rfl
theorem isEmpty_nil {s : ByteArray} (h : s.size = 0) : s.toList.isEmpty = true := by rw [toList_nil h]; rfl
theorem at_list {s : ByteArray} {k : Nat} (h : k < s.size) : s[k] = s.data.toList[k]'(by rw [size_len]; exact h) := rfl

/-- the parts without a blank -/
def flds : List UInt8 → List UInt8 → List (List UInt8)
  | cur, [] => if cur.isEmpty then [] else [cur]
  | cur, c :: r => if blB c then (if cur.isEmpty then flds [] r else cur :: flds [] r) else flds (cur ++ [c]) r
def fieldsL (l : List UInt8) : List (List UInt8) := flds [] l
def fieldsS (s : ByteArray) : List ByteArray := (fieldsL s.data.toList).map str

theorem flds_blank_none {l : List UInt8} {k : Nat} (h : k < l.length) (hb : blB l[k] = true) : flds [] (l.drop k) = flds [] (l.drop (k + 1)) := by
  rw [List.drop_eq_getElem_cons h]; simp [flds, hb]
theorem flds_blank_some {l cur : List UInt8} {k : Nat} (h : k < l.length) (hb : blB l[k] = true) (hc : cur ≠ []) : flds cur (l.drop k) = cur :: flds [] (l.drop (k + 1)) := by
  rw [List.drop_eq_getElem_cons h]; simp [flds, hb, hc]
theorem flds_go {l cur : List UInt8} {k : Nat} (h : k < l.length) (hb : blB l[k] = false) : flds cur (l.drop k) = flds (cur ++ [l[k]]) (l.drop (k + 1)) := by
  rw [List.drop_eq_getElem_cons h]; simp [flds, hb]
theorem flds_end_some {l cur : List UInt8} {k : Nat} (h : l.length ≤ k) (hc : cur ≠ []) : flds cur (l.drop k) = cur :: flds [] (l.drop (k + 1)) := by
  rw [List.drop_of_length_le h, List.drop_of_length_le (by omega)]; simp [flds, hc]
theorem flds_end_none {l : List UInt8} {k : Nat} (h : l.length ≤ k) : flds [] (l.drop k) = [] := by
  rw [List.drop_of_length_le h]; simp [flds]
theorem flds_length : ∀ (r cur : List UInt8), (flds cur r).length ≤ r.length + 1
  | [], cur => by simp only [flds]; split <;> simp
  | c :: r, cur => by
    simp only [flds]
    have h1 := flds_length r []
    have h2 := flds_length r (cur ++ [c])
    split
    · split
      · simp; omega
      · simp; omega
    · simp; omega
theorem seg_step {l : List UInt8} {a k : Nat} (h : k < l.length) (ha : a ≤ k) : (l.drop a).take (k - a) ++ [l[k]] = (l.drop a).take (k + 1 - a) := by
  have e : k + 1 - a = (k - a) + 1 := by omega
  rw [e, List.take_succ_eq_append_getElem (by simp; omega)]
  simp
  congr 1
  omega
theorem seg_ne {l : List UInt8} {a k : Nat} (h : k ≤ l.length) (ha : a < k) : (l.drop a).take (k - a) ≠ [] := by
  intro e; have := congrArg List.length e; simp at this; omega

/-- slice value v has n elements and reads as the cells xs, in a block below B -/
def Sl (w : World) (B : Nat) (v : Value) (n : Nat) (xs : List Value) : Prop :=
  ∃ A c, v = .slice A n c ∧ n ≤ c ∧ c ≤ maxLen ∧ (0 < xs.length → ∃ b off, A = some ⟨b, off, none⟩ ∧ b < B ∧ ∀ j u, xs[j]? = some u → w.cell? ⟨b, off + j, none⟩ = some u)
theorem Sl.keep {w w' : World} {B B' : Nat} {v : Value} {n : Nat} {xs : List Value} (h : Sl w B v n xs) (hb : Below B w w') (hB : B ≤ B') : Sl w' B' v n xs := by
  obtain ⟨A, c, rfl, h1, h2, h3⟩ := h
  refine ⟨A, c, rfl, h1, h2, fun hp => ?_⟩
  obtain ⟨b, off, rfl, hlt, hc⟩ := h3 hp
  exact ⟨b, off, rfl, by omega, fun j u hu => (hb.cell (p := ⟨b, off + j, none⟩) hlt).trans (hc j u hu)⟩
theorem Sl.of_own {w : World} {base : Nat} {e : TypeId} {size : Nat} {v : Value} {n : Nat} {xs : List Value} (h : w.ownsRow base e size v n xs) : Sl w w.heap.size v n xs := by
  obtain ⟨hx, h⟩ := h
  rcases h with ⟨rfl, rfl⟩ | ⟨g, cap, cur, rfl, hb, hg, hnc, hcm, hcs, htake⟩
  · exact ⟨none, 0, rfl, Nat.le_refl _, by simp, fun hp => by simp at hx; subst hx; simp at hp⟩
  · refine ⟨_, _, rfl, hnc, hcm, fun _ => ⟨g, 0, rfl, (Array.getElem?_eq_some_iff.1 hg).1, fun j u hu => ?_⟩⟩
    rw [Nat.zero_add, cell_of_row w g j cur e (0, 0) hg]
    rw [← htake, List.getElem?_take] at hu
    split at hu
    · simpa using hu
    · cases hu
theorem Sl.at_ {w : World} {B : Nat} {v : Value} {n : Nat} {xs : List Value} (h : Sl w B v n xs) : ∃ A c, v = .slice A n c ∧ n ≤ c ∧ c ≤ maxLen ∧ (0 < xs.length → ∃ b off, A = some ⟨b, off, none⟩ ∧ b < B ∧ ∀ j u, xs[j]? = some u → w.cell? ⟨b, off + j, none⟩ = some u) := h

/-- the one cell that 'append(l, x)' lays ahead -/
theorem one_new (w : World) (x : Value) (t : TypeId) : ∀ j u, [x][j]? = some u → (w.alloc (.cells #[x] t)).cell? ((⟨w.heap.size, 0, none⟩ : Addr).add j) = some u := by
  intro j u hj
  match j, hj with
  | 0, hj => simp at hj; subst hj; simp [Addr.add]
theorem one_cell {x : Value} (h : x.oneCell' = true) : ∀ u ∈ [x], u.oneCell' = true := by
  intro u hu; simp at hu; subst hu; exact h
theorem own_ge {w : World} {base : Nat} {e : TypeId} {size : Nat} {v : Value} {n : Nat} {xs : List Value} (h : w.ownsRow base e size v n xs) : ∀ k, v.ownBlock = some k → base ≤ k := fun k hk => (h.lt k hk).1

/-- a byte a to z; 0 to 9 -/
def smB (c : UInt8) : Bool := decide (97 ≤ c.toNat) && decide (c.toNat ≤ 122)
def dgB (c : UInt8) : Bool := decide (48 ≤ c.toNat) && decide (c.toNat ≤ 57)
def okB (o : Bool) (c : UInt8) : Bool := smB c || dgB c || (o && c.toNat == 45)
/-- a name that may be written: a tag's (false), an attribute's (true) -/
def wrt (o : Bool) (l : List UInt8) : Bool :=
  decide (1 ≤ l.length) && decide (l.length ≤ 100) && smB (l.headD 0) && (!(o && (l.getLastD 0).toNat == 45)) && l.all (okB o)
theorem headD_at {l : List UInt8} (h : 0 < l.length) : l.headD 0 = l[0] := by cases l with
  | nil => simp at h
  | cons c r => rfl
theorem head_at {s : ByteArray} (h : 0 < s.size) : s.data.toList.headD 0 = s[0] := by
  rw [at_list h]
  exact headD_at (by rw [size_len]; exact h)
theorem last_at {s : ByteArray} (h : 0 < s.size) : s.data.toList.getLastD 0 = s[s.size - 1]'(by omega) := by
  rw [at_list (by omega)]
  have hne : s.data.toList ≠ [] := by intro e; have h2 := congrArg List.length e; rw [size_len] at h2; simp only [List.length_nil] at h2; omega
  rw [List.getLastD_eq_getLast?, List.getLast?_eq_some_getLast hne, Option.getD_some, List.getLast_eq_getElem]
  simp only [size_len]
theorem wrt_0 {o : Bool} {s : ByteArray} (h : s.size = 0) : wrt o s.data.toList = false := by
  unfold wrt; rw [size_len, h]; rfl
theorem wrt_long {o : Bool} {s : ByteArray} (h : 100 < s.size) : wrt o s.data.toList = false := by
  have : decide (s.size ≤ 100) = false := by simp; omega
  unfold wrt; rw [size_len, this]; simp
theorem wrt_head {o : Bool} {s : ByteArray} (h : 0 < s.size) (hb : smB s[0] = false) : wrt o s.data.toList = false := by
  unfold wrt; rw [head_at h, hb]; simp
theorem wrt_last {o : Bool} {s : ByteArray} (h : 0 < s.size) (hb : (s[s.size - 1]'(by omega)).toNat = 45) : wrt o s.data.toList = false := by
  cases o
  · have : s.data.toList.all (okB false) = false := by
      rw [List.all_eq_false]
      refine ⟨s[s.size - 1]'(by omega), ?_, ?_⟩
      · rw [at_list (by omega)]; exact List.getElem_mem _
      · simp [okB, smB, dgB, hb]
    unfold wrt; rw [this]; simp
  · unfold wrt; rw [last_at h, hb]; simp
theorem wrt_bad {o : Bool} {s : ByteArray} {k : Nat} (h : k < s.size) (hb : okB o s[k] = false) : wrt o s.data.toList = false := by
  have : s.data.toList.all (okB o) = false := by
    rw [List.all_eq_false]
    refine ⟨s[k], ?_, by simp [hb]⟩
    rw [at_list h]; exact List.getElem_mem _
  unfold wrt; rw [this]; simp
theorem wrt_yes {o : Bool} {s : ByteArray} (h1 : 0 < s.size) (h2 : s.size ≤ 100) (h3 : smB s[0] = true) (h4 : o = true → (s[s.size - 1]'(by omega)).toNat ≠ 45) (h5 : ∀ j (hj : j < s.size), okB o s[j] = true) : wrt o s.data.toList = true := by
  have ha : s.data.toList.all (okB o) = true := by
    rw [List.all_eq_true]
    intro c hc
    obtain ⟨j, hj, rfl⟩ := List.getElem_of_mem hc
    have hj' : j < s.size := by rw [← size_len]; exact hj
    have := h5 j hj'
    rw [at_list hj'] at this
    exact this
  have e1 : decide (1 ≤ s.size) = true := by simp; omega
  have e2 : decide (s.size ≤ 100) = true := by simp; omega
  unfold wrt
  rw [head_at h1, last_at h1, h3, ha, size_len, e1, e2]
  cases o
  · rfl
  · simp [h4 rfl]
theorem smB_t {c : UInt8} (h : smB c = true) : 97 ≤ c.toNat ∧ c.toNat ≤ 122 := by simpa [smB] using h
theorem smB_f {c : UInt8} (h : smB c = false) : c.toNat < 97 ∨ 122 < c.toNat := by
  have := h; simp [smB] at this; omega

/-- an array's element, by a variable index -/
theorem run_index_arr {P : Program} {w : World} {t e : TypeId} {n : Nat} {cs : Array Value} {x : Value} {kd : IntKind} {i : Int} {i0 : TypeInfo} (ht : P.underlying t = some (.array n e)) (hi : P.info? e = some i0) (hs : i0.size = 1)
    (hagg : (isAgg e).run P w = .ok false w) (h0 : 0 ≤ i) (h1 : i < n) (hx : cs[i.toNat]? = some x) : (Instr.index t (.agg cs) (.int kd i)).run P w = .ok x w := by
  simp [Instr.index, asIntOf, run_underlying ht, h0, h1, sizeOf, typeInfo, hi, hs, part, hagg, hx]

/-- the texts of a row, by their places -/
theorem cells_str {l : List ByteArray} {j : Nat} {x : ByteArray} (h : l[j]? = some x) : (l.map Value.string)[j]? = some (.string x) := by
  rw [List.getElem?_map, h]; rfl
theorem eq_str {a b : ByteArray} : (a.toList == b.toList) = decide (a = b) := by
  rw [Lib.toList_data, Lib.toList_data, Bool.eq_iff_iff, beq_iff_eq, decide_eq_true_iff]
  constructor
  · intro h; rw [← str_of a, ← str_of b, h]
  · intro h; rw [h]
theorem toList_ne_of {a b : ByteArray} (h : a ≠ b) : (a.toList == b.toList) = false := by rw [eq_str]; simpa using h
theorem toList_eq_of {a b : ByteArray} (h : a = b) : (a.toList == b.toList) = true := by rw [eq_str]; simpa using h
theorem toList_bne_of {a b : ByteArray} (h : a ≠ b) : (a.toList != b.toList) = true := by unfold bne; rw [toList_ne_of h]; rfl
theorem toList_beq_of {a b : ByteArray} (h : a = b) : (a.toList != b.toList) = false := by unfold bne; rw [toList_eq_of h]; rfl

/-- a contract's last limb, said of an earlier world -/
theorem chain {P : Program} {f : FuncId} {args : Array Value} {w wc : World} {R : Ending → World → Prop} (hb : Below w.heap.size w wc) (h : Calls P f args wc fun e w' => R e w' ∧ Below wc.heap.size wc w') :
    Calls P f args wc fun e w' => R e w' ∧ Below w.heap.size w w' :=
  h.mono fun _ _ ⟨h1, h2⟩ => ⟨h1, hb.trans (h2.mono hb.size)⟩
theorem low_low (l : List UInt8) : lowL (lowL l) = lowL l := by
  unfold lowL
  rw [List.map_map]
  apply List.map_congr_left
  intro c _
  show lowB (lowB c) = lowB c
  by_cases h : 65 ≤ c.toNat ∧ c.toNat ≤ 90
  · have h1 := lowB_up h.1 h.2
    exact lowB_no (by omega)
  · rw [lowB_no h, lowB_no h]
theorem lowS_lowS (s : ByteArray) : lowS (lowS s) = lowS s := by
  unfold lowS; rw [str_toList, low_low]
theorem lowS_size (s : ByteArray) : (lowS s).size = s.size := by
  unfold lowS; rw [str_size]; unfold lowL; rw [List.length_map, size_len]
theorem low_ok {o : Bool} {l : List UInt8} (h : l.all (okB o) = true) : lowL l = l := by
  unfold lowL
  rw [List.all_eq_true] at h
  have : l.map lowB = l.map id := by
    apply List.map_congr_left
    intro c hc
    have := h c hc
    refine lowB_no ?_
    simp [okB, smB, dgB] at this
    omega
  rw [this, List.map_id]
theorem low_wrt {o : Bool} {s : ByteArray} (h : wrt o s.data.toList = true) : lowS s = s := by
  unfold wrt at h
  simp only [Bool.and_eq_true] at h
  unfold lowS
  rw [low_ok h.2, str_of]

/-- one world behind the other -/
theorem seq {a b c : World} (h1 : Below a.heap.size a b) (h2 : Below b.heap.size b c) : Below a.heap.size a c := h1.trans (h2.mono h1.size)

section
variable {P : Program}
/-- append onto a row of the call's own, the source nil, empty or not -/
theorem run_append_src (w : World) (base : Nat) (t ty e : TypeId) (i : TypeInfo) (z : Value) (size bytes : Nat) (ht : P.underlying t = some (.slice e)) (hi : P.info? e = some i) (hz : i.zero = some z)
    (hsize : i.size = size) (hby : i.bytes = bytes) (hzs : z.cells.size = size) (hsz : 0 < size) (v : Value) (n : Nat) (xs : List Value) (hown : w.ownsRow base e size v n xs)
    (A : Option Addr) (m c : Nat) (news : List Value) (hl : news.length = m * size) (hcell : 0 < news.length → ∃ b off, A = some ⟨b, off, none⟩ ∧ ∀ j u, news[j]? = some u → w.cell? ⟨b, off + j, none⟩ = some u)
    (h1 : ∀ u ∈ news, u.oneCell' = true) (h63 : n + m ≤ maxLen) (hbytes : (n + m) * bytes ≤ 140737488355328) (hbase : base ≤ w.heap.size) :
    ∃ v' w', (Builtin.append_ #[t, t] ty #[v, .slice A m c]).run P w = .ok v' w' ∧ w'.ownsRow base e size v' (n + m) (xs ++ news) ∧ w.grownBy w' v.ownBlock ∧ (v'.ownBlock = v.ownBlock ∨ v'.ownBlock = some w.heap.size) := by
  rcases Nat.eq_zero_or_pos m with h0 | h0
  · subst h0
    have hn : news = [] := List.eq_nil_of_length_eq_zero (by simpa using hl)
    subst hn
    cases A with
    | none =>
      refine ⟨v, w, ?_, by simpa using hown, World.grownBy.refl w _, .inl rfl⟩
      rcases hown.2 with ⟨rfl, rfl⟩ | ⟨g, cap, cur, rfl, _, _, hnc, _⟩
      · simp [Builtin.append_, run_underlying ht, sizeOf, typeInfo, hi, Builtin.lenOf, Builtin.firstCells]
      · simp [Builtin.append_, run_underlying ht, sizeOf, typeInfo, hi, Builtin.lenOf, Builtin.firstCells, hnc, storeCells]
    | some ad =>
      obtain ⟨v', w', hr, h2, h3, _, h5⟩ := run_append_own_at (P := P) w base t ty e i z size bytes ht hi hz hsize hby hzs hsz v n xs hown ad 0 c [] (by simp) (fun j u hu => by simp at hu) h1 h63 hbytes hbase
      exact ⟨v', w', hr, h2, h3, h5⟩
  · have hp : 0 < news.length := by rw [hl]; exact Nat.mul_pos h0 hsz
    obtain ⟨b, off, rfl, hc⟩ := hcell hp
    obtain ⟨v', w', hr, h2, h3, _, h5⟩ := run_append_own_at (P := P) w base t ty e i z size bytes ht hi hz hsize hby hzs hsz v n xs hown ⟨b, off, none⟩ m c news hl (fun j u hu => by
      have hp : (⟨b, off, none⟩ : Addr).add j = ⟨b, off + j, none⟩ := by unfold Addr.add; split <;> simp_all
      rw [hp]; exact hc j u hu) h1 h63 hbytes hbase
    exact ⟨v', w', hr, h2, h3, h5⟩
theorem wpList_append_src (w : World) {ops : Array Oper} {rest : List Oper} {o : Oper} {a : Act} {Q : Exit → Act → World → Prop} (hgd : o.guard = none) (s x : Operand) (t : TypeId)
    (ho : o.op = .call { callee := .builtin .append, args := #[s, x], argTypes := #[t, t] })
    (base : Nat) (e : TypeId) (i : TypeInfo) (z : Value) (size bytes : Nat) (ht : P.underlying t = some (.slice e)) (hi : P.info? e = some i) (hz : i.zero = some z)
    (hsize : i.size = size) (hby : i.bytes = bytes) (hzs : z.cells.size = size) (hsz : 0 < size) (v : Value) (n : Nat) (xs : List Value) (hs : a.eval s = v) (hown : w.ownsRow base e size v n xs)
    (A : Option Addr) (m c : Nat) (news : List Value) (hx : a.eval x = .slice A m c) (hl : news.length = m * size) (hcell : 0 < news.length → ∃ b off, A = some ⟨b, off, none⟩ ∧ ∀ j u, news[j]? = some u → w.cell? ⟨b, off + j, none⟩ = some u)
    (h1 : ∀ u ∈ news, u.oneCell' = true) (h63 : n + m ≤ maxLen) (hbytes : (n + m) * bytes ≤ 140737488355328) (hbase : base ≤ w.heap.size)
    (h : ∀ v' w', w'.ownsRow base e size v' (n + m) (xs ++ news) → w.grownBy w' v.ownBlock → (v'.ownBlock = v.ownBlock ∨ v'.ownBlock = some w.heap.size) → wpList P ops Q rest (a.put o.dst v') w') : wpList P ops Q (o :: rest) a w :=
  wpList_plain hgd fun _ hK => by
    obtain ⟨v', w', hr, h2, h3, h4⟩ := run_append_src (P := P) w base t o.type e i z size bytes ht hi hz hsize hby hzs hsz v n xs hown A m c news hl hcell h1 h63 hbytes hbase
    unfold Oper.wp execOp
    simp only [ho, resolve, invoke, builtin, Sem.run_bind, Sem.run_pure, Result.andThen_ok, List.map_toArray, List.map_cons, List.map_nil, hs, hx, hr]
    exact hK _ _ (h v' w' h2 h3 h4)
end

end Go.Proofs.YtejpdbiiikcmmaaGreatDoor.Lb

/- Rows of texts that the call itself made, lists of texts that are read. No program but for the number of the type string. -/
set_option linter.unusedVariables false
set_option linter.unusedSimpArgs false
namespace Go.Proofs.YtejpdbiiikcmmaaGreatDoor.Fl
open Go.RowKit Lb
theorem infoStr : (Tryz.prog.info? 9).map (fun i => (i.zero, i.size, i.bytes)) = some (some (.string ByteArray.empty), 1, 16) := by kernel_rfl

/-- v is a row of texts of the call's own, from block B on -/
def Own (w : World) (B : Nat) (v : Value) (l : List ByteArray) : Prop := w.ownsRow B 9 1 v l.length (l.map Value.string)

theorem Own.nil (w : World) (B : Nat) : Own w B (.slice none 0 0) [] := World.ownsRow_nil _ _ _ _

theorem Own.push {w1 : World} {B : Nat} {v' : Value} {l : List ByteArray} {x : ByteArray} (h : w1.ownsRow B 9 1 v' (l.length + 1) (l.map Value.string ++ [.string x])) : Own w1 B v' (l ++ [x]) := by
  unfold Own
  simpa using h
theorem le_alloc {w : World} {B : Nat} (h : B ≤ w.heap.size) (o : Obj) : B ≤ (w.alloc o).heap.size := by simp; omega
theorem Own.ge {w : World} {B : Nat} {v : Value} {l : List ByteArray} (h : Own w B v l) : ∀ k, v.ownBlock = some k → B ≤ k := own_ge h
theorem push_below {w w1 wr : World} {B : Nat} {o : Obj} {v : Value} {l : List ByteArray} (h : Own wr B v l) (hnx : Below B w wr) (hB : B ≤ wr.heap.size) (hg : (wr.alloc o).grownBy w1 v.ownBlock) : Below B w w1 :=
  (hnx.alloc hB o).grown hg (by simp; omega) h.ge

/-- the j-th text of a row, in any later world -/
theorem Own.get {w : World} {B n c : Nat} {A : Option Addr} {l : List ByteArray} (h : Own w B (.slice A n c) l) {j : Nat} (hj : j < l.length) :
    ∃ b off, A = some ⟨b, off, none⟩ ∧ b < w.heap.size ∧ ∀ w', Below w.heap.size w w' → w'.cell? ⟨b, off + j, none⟩ = some (.string l[j]) := by
  obtain ⟨A', c', hv, _, _, hc⟩ := Sl.of_own h
  injection hv with hA hn hcc
  subst hA
  obtain ⟨b, off, rfl, hb, hcell⟩ := hc (by simp; omega)
  exact ⟨b, off, rfl, hb, fun w' hw => (hw.cell (p := ⟨b, off + j, none⟩) hb).trans (hcell j _ (by simp [List.getElem?_eq_getElem hj]))⟩
theorem Own.form {w : World} {B : Nat} {v : Value} {l : List ByteArray} (h : Own w B v l) : ∃ A c, v = .slice A l.length c := by
  obtain ⟨A, c, rfl, _⟩ := Sl.of_own h
  exact ⟨A, c, rfl⟩
/-- what a call that gives a new list of texts ends in -/
def RetS (w : World) (l : List ByteArray) (e : Ending) (w' : World) : Prop :=
  ∃ A c, e = .returned (.slice A l.length c) ∧ Own w' w.heap.size (.slice A l.length c) l ∧ Below w.heap.size w w'
theorem RetS.mk {w w' : World} {l : List ByteArray} {v : Value} (h : Own w' w.heap.size v l) (hb : Below w.heap.size w w') : RetS w l (.returned v) w' := by
  obtain ⟨A, c, rfl⟩ := h.form
  exact ⟨A, c, rfl, h, hb⟩

/-- the slice at A, of n elements, reads as the texts l, now and in any later world -/
def Rd (w : World) (A : Option Addr) (n : Nat) (l : List ByteArray) : Prop :=
  n = l.length ∧ ∀ j (h : j < l.length), ∃ b off, A = some ⟨b, off, none⟩ ∧ b < w.heap.size ∧ ∀ w', Below w.heap.size w w' → w'.cell? ⟨b, off + j, none⟩ = some (.string l[j])
theorem Own.rd {w : World} {B n c : Nat} {A : Option Addr} {l : List ByteArray} (h : Own w B (.slice A n c) l) : Rd w A n l := by
  refine ⟨?_, fun j hj => h.get hj⟩
  obtain ⟨A', c', hv⟩ := h.form
  injection hv
theorem Rd.below {w w' : World} {A : Option Addr} {n : Nat} {l : List ByteArray} (h : Rd w A n l) (hb : Below w.heap.size w w') : Rd w' A n l :=
  ⟨h.1, fun j hj => by
    obtain ⟨b, off, e, hlt, hc⟩ := h.2 j hj
    have := hb.size
    exact ⟨b, off, e, by omega, fun w2 h2 => hc w2 (hb.trans (h2.mono hb.size))⟩⟩
theorem Rd.len {w : World} {A : Option Addr} {n : Nat} {l : List ByteArray} (h : Rd w A n l) : n = l.length := h.1
theorem Rd.get {w : World} {A : Option Addr} {n : Nat} {l : List ByteArray} (h : Rd w A n l) {j : Nat} (hj : j < l.length) :
    ∃ b off, A = some ⟨b, off, none⟩ ∧ b < w.heap.size ∧ ∀ w', Below w.heap.size w w' → w'.cell? ⟨b, off + j, none⟩ = some (.string l[j]) := h.2 j hj
theorem Rd.nil (w : World) (A : Option Addr) : Rd w A 0 [] := ⟨rfl, fun j hj => by simp at hj⟩

theorem Own.below {w w' : World} {B : Nat} {v : Value} {l : List ByteArray} (h : Own w B v l) (hb : Below w.heap.size w w') : Own w' B v l := by
  obtain ⟨h1, h2⟩ := h
  refine ⟨h1, ?_⟩
  rcases h2 with h2 | ⟨g, cap, cur, hv, hg, hh, r⟩
  · exact Or.inl h2
  · exact Or.inr ⟨g, cap, cur, hv, hg, by rw [hb.block g (Array.getElem?_eq_some_iff.1 hh).1]; exact hh, r⟩
/-- the j-th place of a row of the call's own may be written -/
theorem Own.store {w : World} {B n c : Nat} {A : Option Addr} {l : List ByteArray} (h : Own w B (.slice A n c) l) {j : Nat} (hj : j < l.length) (x : ByteArray) :
    ∃ g, A = some ⟨g, 0, none⟩ ∧ B ≤ g ∧ g < w.heap.size ∧ w.frozen? ⟨g, j, none⟩ = false ∧ w.cell? ⟨g, j, none⟩ = some (.string l[j]) ∧ Own (w.setCell ⟨g, j, none⟩ (.string x)) B (.slice A n c) (l.set j x) := by
  have hl : n = l.length := by obtain ⟨A', c', hv⟩ := h.form; injection hv
  subst hl
  rcases h.2 with ⟨hn, h0⟩ | ⟨g, cap, cur, hv, hg, hh, _⟩
  · omega
  · injection hv with hA _ hc
    subst hA
    have hown : w.ownsRow B 9 1 (.slice (some ⟨g, 0, none⟩) l.length c) l.length (l.map Value.string) := h
    refine ⟨g, rfl, hg, (Array.getElem?_eq_some_iff.1 hh).1, hown.frozenAt j, ?_, ?_⟩
    · rw [hown.cellAt j (by omega)]; simp [List.getElem?_eq_getElem hj]
    · have h2 := (hown.stored j (.string x)).1
      unfold Own
      rw [List.length_set, List.map_set]
      exact h2
theorem Own.other {w : World} {B B' : Nat} {v : Value} {l : List ByteArray} (h : Own w B v l) {p : Addr} (hp : p.block < B') (hB : B' ≤ B) (u : Value) : Own (w.setCell p u) B v l :=
  ownsRow_setCell_below h (by omega) u
theorem Own.apart {wa wb : World} {Ba : Nat} {vf vg : Value} {lf lg : List ByteArray} (hf : Own wa Ba vf lf) (hg : Own wb wa.heap.size vg lg) : vg.ownBlock = none ∨ vg.ownBlock ≠ vf.ownBlock := by
  cases hgb : vg.ownBlock with
  | none => exact .inl rfl
  | some k =>
    refine .inr (fun e => ?_)
    have h1 := (hg.lt k hgb).1
    have h2 := (hf.lt k (by rw [← e])).2
    omega
theorem Own.apart2 {wa wb : World} {Ba Bg : Nat} {vf vg : Value} {lf lg : List ByteArray} (hf : Own wa Ba vf lf) (hg : Own wb Bg vg lg) (hB : wa.heap.size ≤ Bg) : vg.ownBlock = none ∨ vg.ownBlock ≠ vf.ownBlock := by
  cases hgb : vg.ownBlock with
  | none => exact .inl rfl
  | some k =>
    refine .inr (fun e => ?_)
    have h1 := (hg.lt k hgb).1
    have h2 := (hf.lt k (by rw [← e])).2
    omega

theorem Rd.cells {w : World} {A : Option Addr} {n : Nat} {l : List ByteArray} (h : Rd w A n l) : 0 < (l.map Value.string).length → ∃ b off, A = some ⟨b, off, none⟩ ∧ ∀ j u, (l.map Value.string)[j]? = some u → w.cell? ⟨b, off + j, none⟩ = some u := by
  intro hp
  have h0 : 0 < l.length := by simpa using hp
  obtain ⟨b, off, e, _, _⟩ := h.get h0
  refine ⟨b, off, e, fun j u hu => ?_⟩
  have hj : j < l.length := by
    have := (List.getElem?_eq_some_iff.1 hu).1
    simpa using this
  obtain ⟨b', off', e', _, hc⟩ := h.get hj
  rw [e] at e'
  injection e' with e'
  injection e' with e1 e2
  subst e1 e2
  rw [hc w (Below.refl _ _)]
  rw [List.getElem?_map, List.getElem?_eq_getElem hj] at hu
  simpa using hu
theorem Own.other' {w : World} {B : Nat} {v u : Value} {l : List ByteArray} (h : Own w B v l) {p : Addr} (hp : v.ownBlock ≠ some p.block) : Own (w.setCell p u) B v l :=
  ownsRow_setCell_other h hp u
end Go.Proofs.YtejpdbiiikcmmaaGreatDoor.Fl

/- Blanks: the reference's. -/
set_option linter.unusedVariables false
set_option linter.unusedSimpArgs false
namespace Go.Proofs.YtejpdbiiikcmmaaGreatDoor.Rb
open Go.RowKit Lb
def bl (r : Int) : Bool := r == 9 || r == 10 || r == 12 || r == 32
set_option maxHeartbeats 400000 in
theorem rBlank (r : Int) (w : World) : Calls Tryz.prog 217 #[.int .i32 r] w fun e w' => e = .returned (.bool (bl r)) ∧ w = w' := by
  unfold bl
  by_cases h1 : r = 9
  · subst h1
    go_enter Tryz.func217, Tryz.ntmps217
    go_wp2
    go_ret
    simp
  by_cases h2 : r = 10
  · subst h2
    go_enter Tryz.func217, Tryz.ntmps217
    go_wp2
    go_ret
    simp
  by_cases h3 : r = 12
  · subst h3
    go_enter Tryz.func217, Tryz.ntmps217
    go_wp2
    go_ret
    simp
  by_cases h4 : r = 32
  · subst h4
    go_enter Tryz.func217, Tryz.ntmps217
    go_wp2
    go_ret
    simp
  · have e1 : (r == 9) = false := by simpa using h1
    have e2 : (r == 10) = false := by simpa using h2
    have e3 : (r == 12) = false := by simpa using h3
    have e4 : (r == 32) = false := by simpa using h4
    go_enter Tryz.func217, Tryz.ntmps217
    go_wp2
    go_ret
    simp [e1, e2, e3, e4]

set_option maxHeartbeats 400000 in
theorem rBlankByte (c : Int) (w : World) (h0 : 0 ≤ c) (h9 : c ≤ 255) : Calls Tryz.prog 171 #[.int .u8 c] w fun e w' => e = .returned (.bool (bl c)) ∧ w = w' := by
  go_enter Tryz.func171, Tryz.ntmps171
  go_wp2_with (go_at_call 217; refine (rBlank _ _).mono ?_; rintro e w' ⟨rfl, rfl⟩)
  go_ret
  exact ⟨rfl, rfl⟩

theorem bl_blB (c : UInt8) : bl (c.toNat : Int) = blB c := rfl
theorem rBlank8 (c : UInt8) (w : World) : Calls Tryz.prog 171 #[.int .u8 (c.toNat : Int)] w fun e w' => e = .returned (.bool (blB c)) ∧ w = w' := by
  have h := c.toNat_lt
  exact rBlankByte _ w (by omega) (by omega)

end Go.Proofs.YtejpdbiiikcmmaaGreatDoor.Rb

/- The fields of a text. For texts of at most 2^31 - 1 bytes. -/
set_option linter.unusedVariables false
set_option linter.unusedSimpArgs false
namespace Go.Proofs.YtejpdbiiikcmmaaGreatDoor.Rf
open Go.RowKit Lb Fl Rb
set_option maxHeartbeats 2000000 in
set_option maxRecDepth 100000 in
theorem rFields (s : ByteArray) (w : World) (hs : s.size ≤ 2147483647) : Calls Tryz.prog 103 #[.string s] w fun e w' => ∃ v, e = .returned v ∧ Own w' w.heap.size v (fieldsS s) ∧ Below w.heap.size w w' := by
  obtain ⟨i0, hi, hz0, hz1, hz2⟩ := info_parts infoStr
  obtain ⟨L, hL⟩ : ∃ L, L = s.data.toList := ⟨_, rfl⟩
  have hLs : L.length = s.size := by rw [hL, size_len]
  have HLs := Lib.hid hLs; clear hLs
  have HL := Lib.hid hL; clear hL
  go_enter Tryz.func103, Tryz.ntmps103
  go_wp2
  go_loopw [3, 4, 5] (fun v f i wr => ∃ (k a : Nat) (done : List ByteArray), k ≤ s.size + 1 ∧ a ≤ k ∧ i = .int .i64 k ∧ f = .int .i64 a ∧ Own wr w.heap.size v done ∧ Below w.heap.size w wr ∧ done.length ≤ k ∧
      Hid (done ++ (flds ((L.drop a).take (k - a)) (L.drop k)).map str = fieldsS s) ∧ (k = s.size + 1 → a = k)) (fun _ _ i _ => s.size + 1 - (intOf i).toNat)
  case atStart => exact ⟨0, 0, [], by omega, by omega, rfl, rfl, Own.nil _ _, Below.refl _ _, by simp, Lib.hid (by simp [fieldsS, fieldsL, HL.out]), by omega⟩
  case round =>
    obtain ⟨k, a, done, hk, hak, rfl, rfl, hown, hnx, hdl, hst, hend⟩ := hrel
    have hsz := hnx.size
    have g1 : done.length + 1 ≤ maxLen := by unfold maxLen; omega
    have g2 : (done.length + 1) * 16 ≤ 140737488355328 := by omega
    by_cases hlt : k < s.size
    · have hlL : k < L.length := by rw [HLs.out]; exact hlt
      have hck : s[k] = L[k] := by rw [at_list]; congr 1; exact HL.out.symm
      cases hb : blB s[k]
      · have hb' : blB L[k] = false := by rw [← hck]; exact hb
        have HC := Lib.hid hck; clear hck hend
        go_wp2_with (go_at_call 171; refine (rBlank8 _ _).mono ?_; rintro e w' ⟨rfl, rfl⟩)
        go_roundw
        case rel => exact ⟨k + 1, a, done, by omega, by omega, by go_num, rfl, hown, hnx, by omega, Lib.hid (by
            have h1 := hst.out
            rw [flds_go hlL hb', seg_step hlL (by omega)] at h1
            exact h1), by omega⟩
        case measure => simp [intOf] <;> omega
      · have hb' : blB L[k] = true := by rw [← hck]; exact hb
        have HC := Lib.hid hck; clear hck hend
        by_cases hak2 : a < k
        · have hst2 : Hid ((done ++ [s.extract a k]) ++ (flds [] (L.drop (k + 1))).map str = fieldsS s) := Lib.hid (by
            have h1 := hst.out
            rw [flds_blank_some hlL hb' (seg_ne (by omega) hak2)] at h1
            rw [← h1, extract_str, ← HL.out]; simp)
          clear hst
          go_wp2_with (first | (go_at_call 171; refine (rBlank8 _ _).mono ?_; rintro e w' ⟨rfl, rfl⟩) | (at_builtin; refine wpList_append_own _ rfl (.tmp 26) (.tmp 31) 25 rfl w.heap.size 9 i0 (.string ByteArray.empty) 1 16 Tryz.underlying25 hi hz0 hz1 hz2 rfl (by decide) _ _ _ rfl (hown.alloc _) ⟨wr.heap.size, 0, none⟩ 1 1 [.string (s.extract a k)] rfl rfl (one_new _ _ _) (one_cell rfl) g1 g2 (le_alloc hsz _) ?_))
          intro v' w1 hown' hgrow _
          have hown2 := Own.push hown'
          have hb2 := push_below hown hnx hsz hgrow
          clear hown' hgrow hown hnx
          go_wp2
          go_roundw
          case rel => exact ⟨k + 1, k + 1, _, by omega, by omega, by go_num, by go_num, hown2, hb2, by simp; omega, by simpa using hst2, by omega⟩
          case measure => simp [intOf] <;> omega
        · have hst2 : Hid (done ++ (flds [] (L.drop (k + 1))).map str = fieldsS s) := Lib.hid (by
            have h1 := hst.out
            obtain rfl : a = k := by omega
            rw [Nat.sub_self, List.take_zero, flds_blank_none hlL hb'] at h1
            exact h1)
          clear hst
          go_wp2_with (go_at_call 171; refine (rBlank8 _ _).mono ?_; rintro e w' ⟨rfl, rfl⟩)
          go_roundw
          case rel => exact ⟨k + 1, k + 1, done, by omega, by omega, by go_num, by go_num, hown, hnx, by omega, by simpa using hst2, by omega⟩
          case measure => simp [intOf] <;> omega
    · by_cases hke : k = s.size
      · have hlL : L.length ≤ k := by have hq := HLs.out; omega
        clear hend
        by_cases hak2 : a < k
        · have hst2 : Hid ((done ++ [s.extract a k]) ++ (flds [] (L.drop (k + 1))).map str = fieldsS s) := Lib.hid (by
            have h1 := hst.out
            rw [flds_end_some hlL (seg_ne (by have hq := HLs.out; omega) hak2)] at h1
            rw [← h1, extract_str, ← HL.out]; simp)
          clear hst
          subst hke
          go_wp2_with (at_builtin; refine wpList_append_own _ rfl (.tmp 26) (.tmp 31) 25 rfl w.heap.size 9 i0 (.string ByteArray.empty) 1 16 Tryz.underlying25 hi hz0 hz1 hz2 rfl (by decide) _ _ _ rfl (hown.alloc _) ⟨wr.heap.size, 0, none⟩ 1 1 [.string (s.extract a s.size)] rfl rfl (one_new _ _ _) (one_cell rfl) g1 g2 (le_alloc hsz _) ?_)
          intro v' w1 hown' hgrow _
          have hown2 := Own.push hown'
          have hb2 := push_below hown hnx hsz hgrow
          clear hown' hgrow hown hnx
          go_wp2
          go_roundw
          case rel => exact ⟨s.size + 1, s.size + 1, _, by omega, by omega, by go_num, by go_num, hown2, hb2, by simp; omega, by simpa using hst2, by omega⟩
          case measure => simp [intOf] <;> omega
        · have hst2 : Hid (done ++ (flds [] (L.drop (k + 1))).map str = fieldsS s) := Lib.hid (by
            have h1 := hst.out
            obtain rfl : a = k := by omega
            rw [Nat.sub_self, List.take_zero, flds_end_none hlL] at h1
            rw [flds_end_none (by omega)]; exact h1)
          clear hst
          subst hke
          go_wp2
          go_roundw
          case rel => exact ⟨s.size + 1, s.size + 1, done, by omega, by omega, by go_num, by go_num, hown, hnx, by omega, by simpa using hst2, by omega⟩
          case measure => simp [intOf] <;> omega
      · have hk3 : s.size < k := by omega
        have hfin : Hid (done = fieldsS s) := Lib.hid (by
            have h1 := hst.out
            obtain rfl : a = k := hend (by omega)
            rw [Nat.sub_self, List.take_zero, flds_end_none (by have hq := HLs.out; omega)] at h1
            simpa using h1)
        clear hke hlt hst hend
        go_wp2
        go_ret
        exact ⟨_, rfl, by rw [← hfin.out]; exact hown, hnx⟩

theorem rFieldsR (s : ByteArray) (w : World) (hs : s.size ≤ 2147483647) : Calls Tryz.prog 103 #[.string s] w (RetS w (fieldsS s)) :=
  (rFields s w hs).mono fun _ _ ⟨_, he, h, hb⟩ => he ▸ RetS.mk h hb
end Go.Proofs.YtejpdbiiikcmmaaGreatDoor.Rf
