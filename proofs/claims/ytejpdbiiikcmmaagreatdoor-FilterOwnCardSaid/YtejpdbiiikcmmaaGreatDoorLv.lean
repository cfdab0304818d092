/- The statements' example of chapter 15 (lives): the policy, the tags, what comes of them. -/
import Derived.Test.YtejpdbiiikcmmaaGreatDoorFl
set_option linter.unusedVariables false
set_option linter.unusedSimpArgs false
namespace Go.Proofs.YtejpdbiiikcmmaaGreatDoor.Lv
open Go.RowKit Lb Gr Pd Fl Fpl Kf Mp Is Go.Proofs.YtejpdbiiikcmmaaGreatDoor.Pm Bk Lc Ck Ea Tk Go.Proofs.YtejpdbiiikcmmaaGreatDoor.Lk Ru Co Go.Proofs.YtejpdbiiikcmmaaGreatDoor.Ch Fi
attribute [local go_sem ↓] Go.wp_at_zero Go.wp_at_succ

def bT : ByteArray := str [98]
def aT : ByteArray := str [97]
def uT : ByteArray := str [117]
def svgT : ByteArray := str [115, 118, 103]
def hrefT : ByteArray := str [104, 114, 101, 102]
def polP : PolD := ⟨[⟨bT, []⟩, ⟨aT, [⟨hrefT, 5, []⟩]⟩], [], [], true, [svgT], 9, 100⟩
def polX (n : Nat) : Vs := ⟨.slice (some ⟨n + 2, 0, none⟩) 2 2, .slice none 0 0, .slice none 0 0, .slice (some ⟨n + 3, 0, none⟩) 1 1⟩
/-- the policy's memory, from block n on -/
structure PM (W : World) (n : Nat) : Prop where
  r : Bl W (n + 1) 51 [.string hrefT, .int .i64 5, .slice none 0 0]
  e : Bl W (n + 2) 59 [.string bT, .slice none 0 0, .string aT, .slice (some ⟨n + 1, 0, none⟩) 1 1]
  d : Bl W (n + 3) 9 [.string svgT]
theorem PM.below {W W' : World} {n : Nat} (h : PM W n) (hb : Below W.heap.size W W') : PM W' n := ⟨h.r.below hb, h.e.below hb, h.d.below hb⟩
theorem PM.rd {W : World} {n : Nat} (h : PM W n) : RdP W 0 W.heap.size (polX n) polP := by
  have hr := h.r.lt
  have he := h.e.lt
  have hd := h.d.lt
  have rr : kdR.rd W 0 W.heap.size (.slice (some ⟨n + 1, 0, none⟩) 1 1) [⟨hrefT, 5, []⟩] := by
    refine ⟨[⟨⟨hrefT, 5, []⟩, .slice none 0 0, []⟩], rfl, ⟨some ⟨n + 1, 0, none⟩, 1, rfl, Nat.le_refl _, by decide, fun _ => ⟨n + 1, 0, rfl, Nat.zero_le _, hr, fun j u hu => ?_⟩⟩, fun t ht => ?_⟩
    · rw [Nat.zero_add]; exact h.r.cell j hu
    · rw [List.mem_singleton.1 ht]; exact ⟨none, 0, rfl, Nat.le_refl _, by simp, fun h => by simp [fmR] at h⟩
  refine ⟨?_, fmR.rd_nil _ _ _, ⟨none, 0, rfl, Nat.le_refl _, by simp, fun h => by simp [polP] at h⟩, ⟨some ⟨n + 3, 0, none⟩, 1, rfl, Nat.le_refl _, by decide, fun _ => ⟨n + 3, 0, rfl, Nat.zero_le _, hd, fun j u hu => ?_⟩⟩⟩
  · refine ⟨[⟨⟨bT, []⟩, .slice none 0 0, []⟩, ⟨⟨aT, [⟨hrefT, 5, []⟩]⟩, .slice (some ⟨n + 1, 0, none⟩) 1 1, []⟩], rfl, ⟨some ⟨n + 2, 0, none⟩, 2, rfl, Nat.le_refl _, by decide, fun _ => ⟨n + 2, 0, rfl, Nat.zero_le _, he, fun j u hu => ?_⟩⟩, fun t ht => ?_⟩
    · rw [Nat.zero_add]; exact h.e.cell j hu
    · simp only [List.mem_cons, List.not_mem_nil, or_false] at ht
      rcases ht with rfl | rfl
      · exact fmR.rd_nil _ _ _
      · exact rr
  · rw [Nat.zero_add]; exact h.d.cell j hu
theorem pol_check : checkI polP = 0 := by decide +kernel
theorem pol_ok : OkP polP := by
  refine ⟨⟨by decide, fun i hi => ?_⟩, ⟨by decide, fun i hi => by simp [polP] at hi⟩, ⟨by decide, fun i hi => by simp [polP] at hi⟩, ⟨by decide, fun i hi => ?_⟩⟩
  · match i, hi with
    | 0, _ => exact ⟨Nat.zero_le _, fun j hj => absurd hj (Nat.not_lt_zero _)⟩
    | 1, _ => exact ⟨by show 1 ≤ 9223372036854775807; decide, fun j hj => by
        match j, hj with
        | 0, _ => exact ⟨Nat.zero_le _, by show 4 ≤ maxLen; decide, by show (-9223372036854775808 : Int) ≤ 5; decide, by show (5 : Int) ≤ 9223372036854775807; decide⟩⟩
  · match i, hi with
    | 0, _ => show 3 ≤ maxLen; decide
theorem pol_fit : FitP polP := by
  refine ⟨⟨by decide, fun i hi => ?_⟩, ⟨by decide, fun i hi => by simp [polP] at hi⟩, by decide, by decide⟩
  match i, hi with
  | 0, _ => exact ⟨by show 0 * 48 ≤ 140737488355328; decide, fun j hj => absurd hj (Nat.not_lt_zero _)⟩
  | 1, _ => exact ⟨by show 1 * 48 ≤ 140737488355328; decide, fun j hj => by
      match j, hj with
      | 0, _ => show 0 * 16 ≤ 140737488355328; decide⟩
theorem pol_dis : Dis polP.glob ∧ (∀ e ∈ polP.els, Dis e.rules) ∧ (polP.els.map (·.name)).Nodup ∧ polP.drop.Nodup := by
  refine ⟨fun k h => by simp [polP] at h, fun e he => ?_, by decide +kernel, by decide +kernel⟩
  simp only [polP, List.mem_cons, List.not_mem_nil, or_false] at he
  rcases he with rfl | rfl
  · exact fun k h => by simp at h
  · exact fun k h => by
      match k, h with
      | 0, _ => rfl
theorem newP (n : Nat) (W : World) (ht : Tab W) (hn : NevT W) (h : PM W n) : Calls Tryz.prog 23 #[polV (polX n) polP] W fun e w' => ∃ g, e = .returned (.tuple #[.pointer (some ⟨g, 0, none⟩), .int .i64 0]) ∧ Fil w' g W.heap.size polP ByteArray.empty 0 ∧ Below W.heap.size W w' :=
  newC (polX n) polP W ht hn h.rd pol_ok pol_fit pol_check pol_dis.1 pol_dis.2.1 pol_dis.2.2.1 pol_dis.2.2.2
set_option maxHeartbeats 4000000 in
set_option maxRecDepth 100000 in
theorem policyC (w : World) : Calls Tryz.prog 22 #[] w fun e w' => e = .returned (polV (polX w.heap.size) polP) ∧ PM w' w.heap.size ∧ w.heap.size + 4 ≤ w'.heap.size ∧ Below w.heap.size w w' := by
  go_enter Tryz.func22, Tryz.ntmps22
  go_wp2
  obtain ⟨W1, hW1⟩ : ∃ W, W = w.alloc (.cells #[.slice (some ⟨w.heap.size + 1 + 1, 0, none⟩) 2 2, .slice none 0 0, .slice none 0 0, .bool true, .slice (some ⟨w.heap.size + 1 + 1 + 1, 0, none⟩) 1 1, .int .i64 9, .int .i64 100] 27) := ⟨_, rfl⟩
  have s1 : W1.heap.size = w.heap.size + 1 := by rw [hW1]; simp
  have b1 : Below w.heap.size w W1 := hW1 ▸ (Below.refl _ _).alloc (Nat.le_refl _) _
  have k1 : Bl W1 w.heap.size 27 [.slice (some ⟨w.heap.size + 1 + 1, 0, none⟩) 2 2, .slice none 0 0, .slice none 0 0, .bool true, .slice (some ⟨w.heap.size + 1 + 1 + 1, 0, none⟩) 1 1, .int .i64 9, .int .i64 100] := hW1 ▸ Bl.new w _ _ rfl
  rw [← hW1]
  clear hW1
  obtain ⟨W2, hW2⟩ : ∃ W, W = W1.alloc (.cells #[.string hrefT, .int .i64 5, .slice none 0 0] 51) := ⟨_, rfl⟩
  have s2 : W2.heap.size = w.heap.size + 2 := by rw [hW2]; simp [s1]
  have b2 : Below W1.heap.size W1 W2 := hW2 ▸ (Below.refl _ _).alloc (Nat.le_refl _) _
  have k2 : Bl W2 (w.heap.size + 1) 51 [.string hrefT, .int .i64 5, .slice none 0 0] := hW2 ▸ Bl.new W1 _ _ s1
  obtain ⟨W3, hW3⟩ : ∃ W, W = W2.alloc (.cells #[.string bT, .slice none 0 0, .string aT, .slice (some ⟨w.heap.size + 1, 0, none⟩) 1 1] 59) := ⟨_, rfl⟩
  have s3 : W3.heap.size = w.heap.size + 3 := by rw [hW3]; simp [s2]
  have b3 : Below W2.heap.size W2 W3 := hW3 ▸ (Below.refl _ _).alloc (Nat.le_refl _) _
  have k3 : Bl W3 (w.heap.size + 2) 59 [.string bT, .slice none 0 0, .string aT, .slice (some ⟨w.heap.size + 1, 0, none⟩) 1 1] := hW3 ▸ Bl.new W2 _ _ s2
  obtain ⟨W4, hW4⟩ : ∃ W, W = W3.alloc (.cells #[.string svgT] 9) := ⟨_, rfl⟩
  have s4 : W4.heap.size = w.heap.size + 4 := by rw [hW4]; simp [s3]
  have b4 : Below W3.heap.size W3 W4 := hW4 ▸ (Below.refl _ _).alloc (Nat.le_refl _) _
  have k4 : Bl W4 (w.heap.size + 3) 9 [.string svgT] := hW4 ▸ Bl.new W3 _ _ s3
  have kP := ((k1.below b2).below b3).below b4
  have hbb : Below w.heap.size w W4 := ((b1.trans (b2.mono (by omega))).trans (b3.mono (by omega))).trans (b4.mono (by omega))
  have hpm : PM W4 w.heap.size := ⟨(k2.below b3).below b4, k3.below b4, k4⟩
  rw [hW3, hW2] at hW4
  have hW5 := Lib.hid hW4
  clear hW4 hW3 hW2
  show bodyPost _ _ _ _ _ (((W1.alloc (.cells #[.string hrefT, .int .i64 5, .slice none 0 0] 51)).alloc (.cells #[.string bT, .slice none 0 0, .string aT, .slice (some ⟨w.heap.size + 1, 0, none⟩) 1 1] 59)).alloc (.cells #[.string svgT] 9))
  rw [← hW5.out]
  refine bodyPost_ret (res_cell rfl rfl kP Tryz.underlying27 rfl (by kernel_rfl)) rfl ?_
  exact ⟨rfl, hpm, by omega, hbb⟩
set_option maxHeartbeats 4000000 in
set_option maxRecDepth 100000 in
theorem startTagC (s : ByteArray) (w : World) : Calls Tryz.prog 24 #[.string s] w fun e w' => e = .returned (.agg #[.int .i64 1, .string s, .string ByteArray.empty, .slice none 0 0, .bool false, .int .i64 0, .int .i64 0, .int .i64 0]) ∧ Below w.heap.size w w' := by
  go_enter Tryz.func24, Tryz.ntmps24
  go_wp2
  have k : Bl (w.alloc (.cells #[.int .i64 1, .string s, .string ByteArray.empty, .slice none 0 0, .bool false, .int .i64 0, .int .i64 0, .int .i64 0] 39)) w.heap.size 39 [.int .i64 1, .string s, .string ByteArray.empty, .slice none 0 0, .bool false, .int .i64 0, .int .i64 0, .int .i64 0] := Bl.new w _ _ rfl
  refine bodyPost_ret (res_cell rfl rfl k Tryz.underlying39 rfl (by kernel_rfl)) rfl ?_
  exact ⟨rfl, (Below.refl _ _).alloc (Nat.le_refl _) _⟩

/-! ### the six tags -/
def tk : Nat → Int
  | 4 => 2
  | _ => 1
def tn : Nat → ByteArray
  | 0 => bT
  | 1 => uT
  | 2 => svgT
  | 3 => bT
  | 4 => svgT
  | _ => aT
def XX : Nat → ByteArray
  | 3 => svgT
  | 4 => svgT
  | _ => ByteArray.empty
def NN : Nat → Int
  | 3 => 1
  | 4 => 1
  | _ => 0
def cT (n : ByteArray) : List Value := [.int .i64 1, .string n, .string ByteArray.empty, .slice none 0 0, .bool false, .int .i64 0, .int .i64 0, .int .i64 0]
def onn : Nat → Nat
  | 0 => 1
  | 5 => 1
  | _ => 0
def OO : Nat → List Value
  | 0 => cT bT
  | 5 => cT aT
  | _ => []
def fnn : Nat → Nat
  | 1 => 1
  | 2 => 1
  | _ => 0
def FF : Nat → List Value
  | 1 => [.int .i64 0, .int .i64 0, .int .i64 0, .int .i64 0, .string uT]
  | 2 => [.int .i64 0, .int .i64 0, .int .i64 0, .int .i64 1, .string svgT]
  | _ => []
theorem name_b : nameP false bT.data.toList = true := by decide +kernel
theorem name_a : nameP false aT.data.toList = true := by decide +kernel
theorem name_u : nameP false uT.data.toList = true := by decide +kernel
theorem name_svg : nameP false svgT.data.toList = true := by decide +kernel
theorem set_u0 : inS uT 0 = false := by decide +kernel
theorem set_u3 : inS uT 3 = false := by decide +kernel
theorem set_svg : inS svgT 0 = false := by decide +kernel
theorem has_u : hasT polP.drop uT = false := by decide +kernel
theorem has_svg : hasT polP.drop svgT = true := by decide +kernel
theorem drop_u : dropQ polP uT = false := by unfold dropQ; rw [set_u0, has_u, set_u3]; decide +kernel
theorem drop_svg : dropQ polP svgT = true := by unfold dropQ; rw [set_svg, has_svg]; rfl
theorem runes_b : runesN bT = 1 := by decide +kernel
theorem runes_a : runesN aT = 1 := by decide +kernel
theorem fnd_b : fndE polP.els bT = some ⟨bT, []⟩ := rfl
theorem fnd_a : fndE polP.els aT = some ⟨aT, [⟨hrefT, 5, []⟩]⟩ := rfl
theorem fnd_u : fndE polP.els uT = none := rfl
theorem fnd_svg : fndE polP.els svgT = none := rfl
theorem name_k : ∀ k, nameP false (tn k).data.toList = true ∧ (tn k).size ≤ 1000
  | 0 => ⟨name_b, by decide⟩
  | 1 => ⟨name_u, by decide⟩
  | 2 => ⟨name_svg, by decide⟩
  | 3 => ⟨name_b, by decide⟩
  | 4 => ⟨name_svg, by decide⟩
  | n + 5 => ⟨name_a, by show aT.size ≤ 1000; decide⟩
/-- start of a bare tag, as Take hands it on -/
theorem takeS {nm : ByteArray} (hs : nm.size ≤ 1000) (hn : nameP false nm.data.toList = true) {on fn : Nat} {OC FC : List Value} {X' : ByteArray} {N' : Int} (W : World) (g base : Nat) (em gm dm : Nat) (sv : Value) (E : List (ElD × Nat)) (hD : FilD W g base em gm dm sv E polP ByteArray.empty 0)
    (hst : ∀ V, FilD V g base em gm dm sv E polP ByteArray.empty 0 → Calls Tryz.prog 58 #[.pointer (some ⟨g, 0, none⟩), tokV (bareT 1 nm 0 0 0) (.slice none 0 0)] V fun e w' => ∃ a b, e = .returned (.tuple #[a, b]) ∧ w'.ownsRow V.heap.size 39 8 a on OC ∧ w'.ownsRow V.heap.size 64 5 b fn FC ∧ FilD w' g base em gm dm sv E polP X' N' ∧ Fr [g] V w') :
    Calls Tryz.prog 25 #[.pointer (some ⟨g, 0, none⟩), .agg #[.int .i64 1, .string nm, .string ByteArray.empty, .slice none 0 0, .bool false, .int .i64 0, .int .i64 0, .int .i64 0]] W fun e w' => Giv on fn OC FC g base em gm dm sv E polP X' N' W e w' := by
  have h := takeStart g base polP ByteArray.empty nm 0 0 0 W em gm dm sv E hD hs hn (fun e V w' => ∃ a b, e = .returned (.tuple #[a, b, .int .i64 0]) ∧ w'.ownsRow V.heap.size 39 8 a on OC ∧ w'.ownsRow V.heap.size 64 5 b fn FC ∧ FilD w' g base em gm dm sv E polP X' N' ∧ Fr [g] V w') (fun V _ hV => (hst V hV).mono fun e w' ⟨a, b, h1, h2, h3, h4, h5⟩ => ⟨a, b, h1, h5, a, b, rfl, h2, h3, h4, h5⟩)
  refine h.mono ?_
  rintro e w' ⟨V, hb, a, b, h1, h2, h3, h4, h5⟩
  exact ⟨⟨a, b, h1, own_low h2 hb.size, own_low h3 hb.size⟩, h4, (Fr.of_below hb).trans h5⟩

theorem takeT {nm : ByteArray} (hs : nm.size ≤ 1000) (hn : nameP false nm.data.toList = true) (w : World) (ht : Tab w) (W : World) (hW : Below w.heap.size w W) (g base : Nat) (em gm dm : Nat) (sv : Value) (E : List (ElD × Nat)) (hD : FilD W g base em gm dm sv E polP ByteArray.empty 0)
    (hno : fndE polP.els nm = none) (hcase : (inS nm 0 = false ∧ hasT polP.drop nm = true) ∨ (inS nm 0 = false ∧ hasT polP.drop nm = false ∧ inS nm 3 = false ∧ nm ≠ scriptT ∧ nm ≠ plainT)) (b : Bool) (hb : dropQ polP nm = b) :
    Calls Tryz.prog 25 #[.pointer (some ⟨g, 0, none⟩), .agg #[.int .i64 1, .string nm, .string ByteArray.empty, .slice none 0 0, .bool false, .int .i64 0, .int .i64 0, .int .i64 0]] W fun e w' => Giv 0 1 [] [.int .i64 0, .int .i64 0, .int .i64 0, .int .i64 (if b then 1 else 0), .string nm] g base em gm dm sv E polP (if b then nm else ByteArray.empty) (if b then 1 else 0) W e w' := by
  have h := takeStart g base polP ByteArray.empty nm 0 0 0 W em gm dm sv E hD hs hn (fun e V w' => ∃ a b', e = .returned (.tuple #[a, b', .int .i64 0]) ∧ w'.ownsRow V.heap.size 39 8 a 0 [] ∧ w'.ownsRow V.heap.size 64 5 b' 1 [.int .i64 0, .int .i64 0, .int .i64 0, .int .i64 (if b then 1 else 0), .string nm] ∧ FilD w' g base em gm dm sv E polP (if b then nm else ByteArray.empty) (if b then 1 else 0) ∧ Fr [g] V w') (fun V hV hDV => by
    have h2 := startNone g base polP ByteArray.empty 0 (bareT 1 nm 0 0 0) (.slice none 0 0) V (ht.below (hW.trans (hV.mono hW.size))) em gm dm sv E hDV hno hcase
    refine h2.mono ?_
    rintro e w' ⟨u, h1, h3, h4, h5⟩
    have hb' : dropQ polP (bareT 1 nm 0 0 0).name = b := hb
    rw [hb'] at h3 h4
    exact ⟨_, u, h1, h5, _, u, rfl, World.ownsRow_nil _ _ _ _, h3.1, h4, h5⟩)
  refine h.mono ?_
  rintro e w' ⟨V, hb, a, b, h1, h2, h3, h4, h5⟩
  exact ⟨⟨a, b, h1, own_low h2 hb.size, own_low h3 hb.size⟩, h4, (Fr.of_below hb).trans h5⟩
theorem takeK (w : World) (ht : Tab w) : ∀ k, k < 6 → ∀ W g base em gm dm sv E, Below w.heap.size w W → FilD W g base em gm dm sv E polP (XX k) (NN k) → Calls Tryz.prog 25 #[.pointer (some ⟨g, 0, none⟩), .agg #[.int .i64 (tk k), .string (tn k), .string ByteArray.empty, .slice none 0 0, .bool false, .int .i64 0, .int .i64 0, .int .i64 0]] W fun e w' => Giv (onn k) (fnn k) (OO k) (FF k) g base em gm dm sv E polP (XX (k + 1)) (NN (k + 1)) W e w'
  | 0, _, W, g, base, em, gm, dm, sv, E, hW, hD => takeS (nm := bT) (by decide) name_b W g base em gm dm sv E hD fun V hV => (startIn g base polP ByteArray.empty 0 bT 0 0 0 V em gm dm sv E hV _ fnd_b (by decide) (by rw [runes_b]; decide)).mono fun e w' ⟨u, h1, h2, h3, h4⟩ => ⟨u, _, h1, h2, World.ownsRow_nil _ _ _ _, h3, Fr.of_below h4⟩
  | 1, _, W, g, base, em, gm, dm, sv, E, hW, hD => takeT (nm := uT) (by decide) name_u w ht W hW g base em gm dm sv E hD fnd_u (.inr ⟨set_u0, has_u, set_u3, by decide +kernel, by decide +kernel⟩) false drop_u
  | 2, _, W, g, base, em, gm, dm, sv, E, hW, hD => takeT (nm := svgT) (by decide) name_svg w ht W hW g base em gm dm sv E hD fnd_svg (.inl ⟨set_svg, has_svg⟩) true drop_svg
  | 3, _, W, g, base, em, gm, dm, sv, E, hW, hD => (takeOther g base polP svgT bT 0 0 0 W em gm dm sv E hD (by decide) name_b (by decide +kernel)).mono fun e w' ⟨h1, h2, h3⟩ => ⟨⟨_, _, h1, World.ownsRow_nil _ _ _ _, World.ownsRow_nil _ _ _ _⟩, h2, Fr.of_below h3⟩
  | 4, _, W, g, base, em, gm, dm, sv, E, hW, hD => (takeEnd g base polP svgT 0 0 0 W em gm dm sv E hD (by decide) name_svg).mono fun e w' ⟨h1, h2, h3⟩ => ⟨⟨_, _, h1, World.ownsRow_nil _ _ _ _, World.ownsRow_nil _ _ _ _⟩, h2, h3⟩
  | 5, _, W, g, base, em, gm, dm, sv, E, hW, hD => takeS (nm := aT) (by decide) name_a W g base em gm dm sv E hD fun V hV => (startIn g base polP ByteArray.empty 0 aT 0 0 0 V em gm dm sv E hV _ fnd_a (by decide) (by rw [runes_a]; decide)).mono fun e w' ⟨u, h1, h2, h3, h4⟩ => ⟨u, _, h1, h2, World.ownsRow_nil _ _ _ _, h3, Fr.of_below h4⟩
  | n + 6, h, _, _, _, _, _, _, _, _, _, _ => absurd h (by omega)
end Go.Proofs.YtejpdbiiikcmmaaGreatDoor.Lv
