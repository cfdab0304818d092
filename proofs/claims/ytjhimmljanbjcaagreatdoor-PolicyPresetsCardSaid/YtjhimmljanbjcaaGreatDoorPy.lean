/- The program's preset 'full'. -/
import Derived.Test.YtjhimmljanbjcaaGreatDoorPq
import Derived.Test.YtjhimmljanbjcaaGreatDoorCs
set_option linter.unusedVariables false
set_option linter.unusedSimpArgs false
namespace Go.Proofs.YtjhimmljanbjcaaGreatDoor.Yf
open Go.RowKit Lb Gr Pd Fl Go.Proofs.YtjhimmljanbjcaaGreatDoor.Pm Bk Mp Is Ru Co Go.Proofs.YtjhimmljanbjcaaGreatDoor.Sr Go.Proofs.YtjhimmljanbjcaaGreatDoor.Es Go.Proofs.YtjhimmljanbjcaaGreatDoor.Sl Go.Proofs.YtjhimmljanbjcaaGreatDoor.Ck Go.Proofs.YtjhimmljanbjcaaGreatDoor.Or Go.Proofs.YtjhimmljanbjcaaGreatDoor.Ty Go.Proofs.YtjhimmljanbjcaaGreatDoor.Vd Go.Proofs.YtjhimmljanbjcaaGreatDoor.Pl Go.Proofs.YtjhimmljanbjcaaGreatDoor.Pp Pt Po At Ps Go.Proofs.YtjhimmljanbjcaaGreatDoor.Pr Go.Proofs.YtjhimmljanbjcaaGreatDoor.Px Go.Proofs.YtjhimmljanbjcaaGreatDoor.Ni
attribute [local go_sem ↓] Go.wp_at_zero Go.wp_at_succ
/-- a map of rules under way, its names and its rules known -/
def RK (b : Nat) (W : World) (K : List (ByteArray × List RuleD)) : Prop := ∃ L, RM b W L ∧ (L.map fun x => (x.1, x.2.2)) = K
theorem RK.made (w : World) : RK w.heap.size (w.alloc (.map #[] 0)) [] := ⟨[], RM.made w, rfl⟩
theorem RK.below {b : Nat} {W W' : World} {K : List (ByteArray × List RuleD)} (h : RK b W K) (hb : Below W.heap.size W W') : RK b W' K :=
  h.elim fun L h => ⟨L, h.1.below hb, h.2⟩
theorem RK.ins {b : Nat} {W : World} {K : List (ByteArray × List RuleD)} (h : RK b W K) : b < W.heap.size ∧ ∃ L, MapS W b L ∧ L.map (·.1) = K.map (·.1) ∧ ∀ (W' : World) (s : ByteArray) (v : Value) (r : List RuleD), MapS W' b (L ++ [(s, v)]) → W.grownBy W' (some b) → kdR.rd W (b + 1) W.heap.size v r → RK b W' (K ++ [(s, r)]) := by
  obtain ⟨L, h1, rfl⟩ := h
  refine ⟨h1.m.lt, L.map fun x => (x.1, x.2.1), h1.m, by rw [List.map_map, List.map_map]; rfl, fun W' s v r hm hg hv => ⟨L ++ [(s, v, r)], h1.put hm hg hv, by rw [List.map_append]; rfl⟩⟩
theorem elemsK {l : List ByteArray} {A : Option Addr} {n c b : Nat} {K : List (ByteArray × List RuleD)} {w : World} (h : kdW.rd w 0 w.heap.size (.slice A n c) l) (hz : l.length * 40 ≤ 140737488355328) (hm : RK b w K) :
    Calls Tryz.prog 73 #[.slice A n c, .map (some b)] w fun e w' => ∃ v, e = .returned v ∧ kdE.rd w' 0 w'.heap.size v (elsOf (rulesOf K) l) ∧ Below w.heap.size w w' := by
  obtain ⟨L, h1, rfl⟩ := hm
  exact elemsC l A n c b L w h hz h1
theorem look_keys2 {s : ByteArray} {L : List (ByteArray × Value)} {K : List ByteArray} (hK : L.map (·.1) = K) (h : (K.all fun k => !decide (s = k)) = true) : lookL s L = none := Pq.look_keys K hK h

theorem tx0 : Txt (str [104, 114, 101, 102, 32, 108, 105, 110, 107]) (⟨str [104, 114, 101, 102], 5, []⟩) := ⟨by decide, by decide +kernel, by decide +kernel, by decide +kernel, by decide +kernel⟩
def rA : List RuleD := [⟨str [104, 114, 101, 102], 5, []⟩]
theorem rA_C (g : Nat) (w : World) (ht : Tab w) (hg : g = w.heap.size) : Calls Tryz.prog 75 #[.slice (some ⟨g, 0, none⟩) 1 1] (w.alloc (.cells #[.string ⟨#[104, 114, 101, 102, 32, 108, 105, 110, 107]⟩] 9)) fun e w' => ∃ A c, e = .returned (.slice A 1 c) ∧ kdR.rd w' w.heap.size w'.heap.size (.slice A 1 c) rA ∧ Below w.heap.size w w' :=
  attrs_lit [str [104, 114, 101, 102, 32, 108, 105, 110, 107]] rA 1 g w ht hg rfl rfl (fun i hi => match i, hi with | 0, _ => tx0 | i + 1, h => absurd h (by simp)) (by decide)
theorem tx1 : Txt (str [115, 116, 97, 114, 116, 32, 110, 117, 109, 98, 101, 114]) (⟨str [115, 116, 97, 114, 116], 3, []⟩) := ⟨by decide, by decide +kernel, by decide +kernel, by decide +kernel, by decide +kernel⟩
def rO : List RuleD := [⟨str [115, 116, 97, 114, 116], 3, []⟩]
theorem rO_C (g : Nat) (w : World) (ht : Tab w) (hg : g = w.heap.size) : Calls Tryz.prog 75 #[.slice (some ⟨g, 0, none⟩) 1 1] (w.alloc (.cells #[.string ⟨#[115, 116, 97, 114, 116, 32, 110, 117, 109, 98, 101, 114]⟩] 9)) fun e w' => ∃ A c, e = .returned (.slice A 1 c) ∧ kdR.rd w' w.heap.size w'.heap.size (.slice A 1 c) rO ∧ Below w.heap.size w w' :=
  attrs_lit [str [115, 116, 97, 114, 116, 32, 110, 117, 109, 98, 101, 114]] rO 1 g w ht hg rfl rfl (fun i hi => match i, hi with | 0, _ => tx1 | i + 1, h => absurd h (by simp)) (by decide)
theorem tx2 : Txt (str [100, 97, 116, 101, 116, 105, 109, 101, 32, 97, 110, 121]) (⟨str [100, 97, 116, 101, 116, 105, 109, 101], 0, []⟩) := ⟨by decide, by decide +kernel, by decide +kernel, by decide +kernel, by decide +kernel⟩
def rT : List RuleD := [⟨str [100, 97, 116, 101, 116, 105, 109, 101], 0, []⟩]
theorem rT_C (g : Nat) (w : World) (ht : Tab w) (hg : g = w.heap.size) : Calls Tryz.prog 75 #[.slice (some ⟨g, 0, none⟩) 1 1] (w.alloc (.cells #[.string ⟨#[100, 97, 116, 101, 116, 105, 109, 101, 32, 97, 110, 121]⟩] 9)) fun e w' => ∃ A c, e = .returned (.slice A 1 c) ∧ kdR.rd w' w.heap.size w'.heap.size (.slice A 1 c) rT ∧ Below w.heap.size w w' :=
  attrs_lit [str [100, 97, 116, 101, 116, 105, 109, 101, 32, 97, 110, 121]] rT 1 g w ht hg rfl rfl (fun i hi => match i, hi with | 0, _ => tx2 | i + 1, h => absurd h (by simp)) (by decide)
theorem tx3 : Txt (str [118, 97, 108, 117, 101, 32, 97, 110, 121]) (⟨str [118, 97, 108, 117, 101], 0, []⟩) := ⟨by decide, by decide +kernel, by decide +kernel, by decide +kernel, by decide +kernel⟩
def rV : List RuleD := [⟨str [118, 97, 108, 117, 101], 0, []⟩]
theorem rV_C (g : Nat) (w : World) (ht : Tab w) (hg : g = w.heap.size) : Calls Tryz.prog 75 #[.slice (some ⟨g, 0, none⟩) 1 1] (w.alloc (.cells #[.string ⟨#[118, 97, 108, 117, 101, 32, 97, 110, 121]⟩] 9)) fun e w' => ∃ A c, e = .returned (.slice A 1 c) ∧ kdR.rd w' w.heap.size w'.heap.size (.slice A 1 c) rV ∧ Below w.heap.size w w' :=
  attrs_lit [str [118, 97, 108, 117, 101, 32, 97, 110, 121]] rV 1 g w ht hg rfl rfl (fun i hi => match i, hi with | 0, _ => tx3 | i + 1, h => absurd h (by simp)) (by decide)
theorem tx4 : Txt (str [99, 105, 116, 101, 32, 108, 105, 110, 107]) (⟨str [99, 105, 116, 101], 5, []⟩) := ⟨by decide, by decide +kernel, by decide +kernel, by decide +kernel, by decide +kernel⟩
def rQ : List RuleD := [⟨str [99, 105, 116, 101], 5, []⟩]
theorem rQ_C (g : Nat) (w : World) (ht : Tab w) (hg : g = w.heap.size) : Calls Tryz.prog 75 #[.slice (some ⟨g, 0, none⟩) 1 1] (w.alloc (.cells #[.string ⟨#[99, 105, 116, 101, 32, 108, 105, 110, 107]⟩] 9)) fun e w' => ∃ A c, e = .returned (.slice A 1 c) ∧ kdR.rd w' w.heap.size w'.heap.size (.slice A 1 c) rQ ∧ Below w.heap.size w w' :=
  attrs_lit [str [99, 105, 116, 101, 32, 108, 105, 110, 107]] rQ 1 g w ht hg rfl rfl (fun i hi => match i, hi with | 0, _ => tx4 | i + 1, h => absurd h (by simp)) (by decide)
theorem tx5 : Txt (str [99, 111, 108, 115, 112, 97, 110, 32, 110, 117, 109, 98, 101, 114]) (⟨str [99, 111, 108, 115, 112, 97, 110], 3, []⟩) := ⟨by decide, by decide +kernel, by decide +kernel, by decide +kernel, by decide +kernel⟩
theorem tx6 : Txt (str [114, 111, 119, 115, 112, 97, 110, 32, 110, 117, 109, 98, 101, 114]) (⟨str [114, 111, 119, 115, 112, 97, 110], 3, []⟩) := ⟨by decide, by decide +kernel, by decide +kernel, by decide +kernel, by decide +kernel⟩
def rS : List RuleD := [⟨str [99, 111, 108, 115, 112, 97, 110], 3, []⟩, ⟨str [114, 111, 119, 115, 112, 97, 110], 3, []⟩]
theorem rS_C (g : Nat) (w : World) (ht : Tab w) (hg : g = w.heap.size) : Calls Tryz.prog 75 #[.slice (some ⟨g, 0, none⟩) 2 2] (w.alloc (.cells #[.string ⟨#[99, 111, 108, 115, 112, 97, 110, 32, 110, 117, 109, 98, 101, 114]⟩, .string ⟨#[114, 111, 119, 115, 112, 97, 110, 32, 110, 117, 109, 98, 101, 114]⟩] 9)) fun e w' => ∃ A c, e = .returned (.slice A 2 c) ∧ kdR.rd w' w.heap.size w'.heap.size (.slice A 2 c) rS ∧ Below w.heap.size w w' :=
  attrs_lit [str [99, 111, 108, 115, 112, 97, 110, 32, 110, 117, 109, 98, 101, 114], str [114, 111, 119, 115, 112, 97, 110, 32, 110, 117, 109, 98, 101, 114]] rS 2 g w ht hg rfl rfl (fun i hi => match i, hi with | 0, _ => tx5 | 1, _ => tx6 | i + 2, h => absurd h (by simp)) (by decide)
theorem tx7 : Txt (str [99, 108, 97, 115, 115, 32, 116, 111, 107, 101, 110, 115]) (⟨str [99, 108, 97, 115, 115], 1, []⟩) := ⟨by decide, by decide +kernel, by decide +kernel, by decide +kernel, by decide +kernel⟩
theorem tx8 : Txt (str [100, 105, 114, 32, 111, 110, 101, 111, 102, 32, 97, 117, 116, 111, 32, 108, 116, 114, 32, 114, 116, 108]) (⟨str [100, 105, 114], 7, [str [97, 117, 116, 111], str [108, 116, 114], str [114, 116, 108]]⟩) := ⟨by decide, by decide +kernel, by decide +kernel, by decide +kernel, by decide +kernel⟩
theorem tx9 : Txt (str [105, 100, 32, 110, 97, 109, 101]) (⟨str [105, 100], 2, []⟩) := ⟨by decide, by decide +kernel, by decide +kernel, by decide +kernel, by decide +kernel⟩
theorem tx10 : Txt (str [108, 97, 110, 103, 32, 108, 97, 110, 103]) (⟨str [108, 97, 110, 103], 6, []⟩) := ⟨by decide, by decide +kernel, by decide +kernel, by decide +kernel, by decide +kernel⟩
theorem tx11 : Txt (str [116, 105, 116, 108, 101, 32, 97, 110, 121]) (⟨str [116, 105, 116, 108, 101], 0, []⟩) := ⟨by decide, by decide +kernel, by decide +kernel, by decide +kernel, by decide +kernel⟩
def rG : List RuleD := [⟨str [99, 108, 97, 115, 115], 1, []⟩, ⟨str [100, 105, 114], 7, [str [97, 117, 116, 111], str [108, 116, 114], str [114, 116, 108]]⟩, ⟨str [105, 100], 2, []⟩, ⟨str [108, 97, 110, 103], 6, []⟩, ⟨str [116, 105, 116, 108, 101], 0, []⟩]
theorem rG_C (g : Nat) (w : World) (ht : Tab w) (hg : g = w.heap.size) : Calls Tryz.prog 75 #[.slice (some ⟨g, 0, none⟩) 5 5] (w.alloc (.cells #[.string ⟨#[99, 108, 97, 115, 115, 32, 116, 111, 107, 101, 110, 115]⟩, .string ⟨#[100, 105, 114, 32, 111, 110, 101, 111, 102, 32, 97, 117, 116, 111, 32, 108, 116, 114, 32, 114, 116, 108]⟩, .string ⟨#[105, 100, 32, 110, 97, 109, 101]⟩, .string ⟨#[108, 97, 110, 103, 32, 108, 97, 110, 103]⟩, .string ⟨#[116, 105, 116, 108, 101, 32, 97, 110, 121]⟩] 9)) fun e w' => ∃ A c, e = .returned (.slice A 5 c) ∧ kdR.rd w' w.heap.size w'.heap.size (.slice A 5 c) rG ∧ Below w.heap.size w w' :=
  attrs_lit [str [99, 108, 97, 115, 115, 32, 116, 111, 107, 101, 110, 115], str [100, 105, 114, 32, 111, 110, 101, 111, 102, 32, 97, 117, 116, 111, 32, 108, 116, 114, 32, 114, 116, 108], str [105, 100, 32, 110, 97, 109, 101], str [108, 97, 110, 103, 32, 108, 97, 110, 103], str [116, 105, 116, 108, 101, 32, 97, 110, 121]] rG 5 g w ht hg rfl rfl (fun i hi => match i, hi with | 0, _ => tx7 | 1, _ => tx8 | 2, _ => tx9 | 3, _ => tx10 | 4, _ => tx11 | i + 5, h => absurd h (by simp)) (by decide)
theorem st0 : fullR.take 0 ++ [(str [97], rA)] = fullR.take 1 := rfl
theorem st1 : fullR.take 1 ++ [(str [105, 109, 103], Pq.rI)] = fullR.take 2 := rfl
theorem st2 : fullR.take 2 ++ [(str [111, 108], rO)] = fullR.take 3 := rfl
theorem st3 : fullR.take 3 ++ [(str [116, 105, 109, 101], rT)] = fullR.take 4 := rfl
theorem st4 : fullR.take 4 ++ [(str [100, 97, 116, 97], rV)] = fullR.take 5 := rfl
def nA : List ByteArray := [str [98, 108, 111, 99, 107, 113, 117, 111, 116, 101], str [100, 101, 108], str [105, 110, 115], str [113]]
def nB : List ByteArray := [str [116, 100], str [116, 104]]
theorem nA_st : ∀ k (h : k < nA.length), fullR.take (5 + k) ++ [(nA[k], rQ)] = fullR.take (5 + (k + 1))
  | 0, _ => rfl
  | 1, _ => rfl
  | 2, _ => rfl
  | 3, _ => rfl
  | k + 4, h => absurd h (by simp [nA])
theorem nA_no : ∀ k (h : k < nA.length) (L : List (ByteArray × Value)), L.map (·.1) = (fullR.take (5 + k)).map (·.1) → lookL nA[k] L = none
  | 0, _, L, hL => look_keys2 hL (show (((fullR.take (5 + 0)).map (·.1)).all fun k => !decide (str [98, 108, 111, 99, 107, 113, 117, 111, 116, 101] = k)) = true from by decide +kernel)
  | 1, _, L, hL => look_keys2 hL (show (((fullR.take (5 + 1)).map (·.1)).all fun k => !decide (str [100, 101, 108] = k)) = true from by decide +kernel)
  | 2, _, L, hL => look_keys2 hL (show (((fullR.take (5 + 2)).map (·.1)).all fun k => !decide (str [105, 110, 115] = k)) = true from by decide +kernel)
  | 3, _, L, hL => look_keys2 hL (show (((fullR.take (5 + 3)).map (·.1)).all fun k => !decide (str [113] = k)) = true from by decide +kernel)
  | k + 4, h, _, _ => absurd h (by simp [nA])
theorem nB_st : ∀ k (h : k < nB.length), fullR.take (9 + k) ++ [(nB[k], rS)] = fullR.take (9 + (k + 1))
  | 0, _ => rfl
  | 1, _ => rfl
  | k + 2, h => absurd h (by simp [nB])
theorem nB_no : ∀ k (h : k < nB.length) (L : List (ByteArray × Value)), L.map (·.1) = (fullR.take (9 + k)).map (·.1) → lookL nB[k] L = none
  | 0, _, L, hL => look_keys2 hL (show (((fullR.take (9 + 0)).map (·.1)).all fun k => !decide (str [116, 100] = k)) = true from by decide +kernel)
  | 1, _, L, hL => look_keys2 hL (show (((fullR.take (9 + 1)).map (·.1)).all fun k => !decide (str [116, 104] = k)) = true from by decide +kernel)
  | k + 2, h, _, _ => absurd h (by simp [nB])
theorem n15_len : n15.length * 40 ≤ 140737488355328 := by
  rw [show n15 = fullN from full_N.symm]
  decide +kernel
theorem full_els : elsOf (rulesOf fullR) n15 = fullP.els := by
  rw [show n15 = fullN from full_N.symm]
  rfl
theorem full_rest : fullP.glob = rG ∧ fullP.schemes = [str [104, 116, 116, 112], str [104, 116, 116, 112, 115], str [109, 97, 105, 108, 116, 111]] ∧ fullP.drop = [str [109, 97, 116, 104], str [115, 101, 108, 101, 99, 116], str [115, 118, 103], str [116, 101, 109, 112, 108, 97, 116, 101]] ∧ fullP.rel = true ∧ fullP.depth = 256 ∧ fullP.window = 65536 := ⟨rfl, rfl, rfl, rfl, rfl, rfl⟩
theorem full_sm : smP fullP = true := by decide +kernel
theorem fullR_all : fullR.take 11 = fullR := rfl

set_option maxHeartbeats 8000000 in
set_option maxRecDepth 100000 in
theorem presetFullC (w : World) (ht : Tab w) : Calls Tryz.prog 23 #[.string (str [102, 117, 108, 108])] w fun e w' =>
    ∃ y F, e = .returned (.tuple #[polV y (tidyP fullP), .bool true]) ∧ OwnP w' w.heap.size y (tidyP fullP) F ∧ Below w.heap.size w w' := by
  obtain ⟨hfit, hokv⟩ := smP_of full_sm
  have hdif := dif_of full_dif.1
  have HT : Hid (∀ W, Below w.heap.size w W → Tab W) := Lib.hid fun W hW => ht.below hW
  obtain ⟨Wa, hWa⟩ : ∃ W, W = w.alloc (.cells #[.slice none 0 0, .slice none 0 0, .slice none 0 0, .bool false, .slice none 0 0, .int .i64 0, .int .i64 0] 26) := ⟨_, rfl⟩
  obtain ⟨W0, hW0⟩ : ∃ W, W = Wa.alloc (.cells #[.string ⟨#[97, 108, 116, 32, 97, 110, 121]⟩, .string ⟨#[104, 101, 105, 103, 104, 116, 32, 108, 101, 110, 103, 116, 104]⟩, .string ⟨#[115, 114, 99, 32, 108, 105, 110, 107]⟩, .string ⟨#[119, 105, 100, 116, 104, 32, 108, 101, 110, 103, 116, 104]⟩] 9) := ⟨_, rfl⟩
  have hba : Below w.heap.size w Wa := hWa ▸ (Below.refl _ _).alloc (Nat.le_refl _) _
  have hb0 : Below w.heap.size w W0 := hW0 ▸ hba.alloc hba.size _
  have k1 : Bl W0 w.heap.size 26 [.slice none 0 0, .slice none 0 0, .slice none 0 0, .bool false, .slice none 0 0, .int .i64 0, .int .i64 0] := hW0 ▸ (hWa ▸ Bl.new w _ _ rfl : Bl Wa w.heap.size _ _).alloc _
  have HL0 : Hid (w.heap.size < W0.heap.size) := Lib.hid k1.lt
  have hi0 : Hid (kdW.rd W0 0 W0.heap.size (.slice (some ⟨Wa.heap.size, 0, none⟩) 4 4) [str [97, 108, 116, 32, 97, 110, 121], str [104, 101, 105, 103, 104, 116, 32, 108, 101, 110, 103, 116, 104], str [115, 114, 99, 32, 108, 105, 110, 107], str [119, 105, 100, 116, 104, 32, 108, 101, 110, 103, 116, 104]]) := Lib.hid (hW0 ▸ rd_lit (W := Wa) (l := [str [97, 108, 116, 32, 97, 110, 121], str [104, 101, 105, 103, 104, 116, 32, 108, 101, 110, 103, 116, 104], str [115, 114, 99, 32, 108, 105, 110, 107], str [119, 105, 100, 116, 104, 32, 108, 101, 110, 103, 116, 104]]) rfl (by decide))
  have HI5 : Hid (∀ W, Below W0.heap.size W0 W → kdW.rd W 0 W.heap.size (.slice (some ⟨Wa.heap.size, 0, none⟩) 4 4) [str [97, 108, 116, 32, 97, 110, 121], str [104, 101, 105, 103, 104, 116, 32, 108, 101, 110, 103, 116, 104], str [115, 114, 99, 32, 108, 105, 110, 107], str [119, 105, 100, 116, 104, 32, 108, 101, 110, 103, 116, 104]]) := Lib.hid fun W hW => kdW.wide (rd_below hi0.out hW (Nat.le_refl _)) (Nat.le_refl _) hW.size
  have HX0 := Lib.hid hW0
  have HXA := Lib.hid hWa
  have hzz := hb0.size
  have hbq : ((str [102, 117, 108, 108]).toList == [98, 97, 115, 105, 99]) = false := by rw [Lib.toList_data]; rfl
  have hbr : ((str [102, 117, 108, 108]).toList == [114, 105, 99, 104]) = false := by rw [Lib.toList_data]; rfl
  have hbf : ((str [102, 117, 108, 108]).toList == [102, 117, 108, 108]) = true := by rw [Lib.toList_data]; rfl
  obtain ⟨N, hN⟩ : ∃ N, N = n15.length := ⟨_, rfl⟩
  have HNL : Hid (∀ W, Below w.heap.size w W → Calls Tryz.prog 76 #[.int .i64 15] W fun e w' => ∃ A c, e = .returned (.tuple #[.slice A N c, .int .i64 0]) ∧ kdW.rd w' 0 w'.heap.size (.slice A N c) n15 ∧ Below W.heap.size W w') := Lib.hid fun W hW => (nList15 W (ht.below hW)).mono (by
    rintro e w' ⟨A, c, he, ho, hb⟩
    rw [hN]
    exact ⟨A, c, he, kdW.read (F := (Value.slice A n15.length c).ownBlock.toList) ⟨ho, rfl⟩ (Nat.zero_le _) (Nat.le_refl _), hb⟩)
  have HEL : Hid (∀ A c W, kdW.rd W 0 W.heap.size (.slice A N c) n15 → RK W0.heap.size W fullR → Calls Tryz.prog 73 #[.slice A N c, .map (some W0.heap.size)] W fun e w' => ∃ v, e = .returned v ∧ kdE.rd w' 0 w'.heap.size v fullP.els ∧ Below W.heap.size W w') := Lib.hid fun A c W h1 h2 => by
    have h3 := elemsK h1 n15_len h2
    rw [full_els] at h3
    exact h3
  obtain ⟨Q, hQ⟩ : ∃ Q, Q = tidyP fullP := ⟨_, rfl⟩
  have hq : Hid (Q.rel = true ∧ Q.depth = 256 ∧ Q.window = 65536) := Lib.hid (by rw [hQ]; exact ⟨rfl, rfl, rfl⟩)
  have HTD : Hid (∀ (w11 w12 : World) A5 c5 (_ : Below w.heap.size w w12) (_ : Below w11.heap.size w11 w12) {v : Value} (_ : kdE.rd w11 0 w11.heap.size v fullP.els) (_ : kdR.rd w12 w11.heap.size w12.heap.size (.slice A5 5 c5) rG) (g1 g2 : Nat) (_ : g1 = w12.heap.size) (_ : g2 = w12.heap.size + 1), Calls Tryz.prog 54 #[.agg #[v, .slice A5 5 c5, .slice (some ⟨g1, 0, none⟩) 3 3, .bool true, .slice (some ⟨g2, 0, none⟩) 4 4, .int .i64 256, .int .i64 65536]] ((w12.alloc (.cells #[.string ⟨#[104, 116, 116, 112]⟩, .string ⟨#[104, 116, 116, 112, 115]⟩, .string ⟨#[109, 97, 105, 108, 116, 111]⟩] 9)).alloc (.cells #[.string ⟨#[109, 97, 116, 104]⟩, .string ⟨#[115, 101, 108, 101, 99, 116]⟩, .string ⟨#[115, 118, 103]⟩, .string ⟨#[116, 101, 109, 112, 108, 97, 116, 101]⟩] 9)) fun e w' => ∃ y F, e = .returned (.agg #[y.e, y.g, y.s, .bool true, y.d, .int .i64 256, .int .i64 65536]) ∧ OwnP w' w12.heap.size y Q F ∧ Below w12.heap.size w12 w') := Lib.hid fun w11 w12 A5 c5 hw hb v h1 h2 g1 g2 e1 e2 => by
    subst e1
    obtain ⟨Wx, hWx⟩ : ∃ W, W = w12.alloc (.cells #[.string ⟨#[104, 116, 116, 112]⟩, .string ⟨#[104, 116, 116, 112, 115]⟩, .string ⟨#[109, 97, 105, 108, 116, 111]⟩] 9) := ⟨_, rfl⟩
    have hbx : Below w12.heap.size w12 Wx := hWx ▸ (Below.refl _ _).alloc (Nat.le_refl _) _
    have hsx : Wx.heap.size = w12.heap.size + 1 := by rw [hWx]; simp
    have r1 : kdW.rd Wx 0 Wx.heap.size (.slice (some ⟨w12.heap.size, 0, none⟩) 3 3) [str [104, 116, 116, 112], str [104, 116, 116, 112, 115], str [109, 97, 105, 108, 116, 111]] := hWx ▸ rd_lit (W := w12) (l := [str [104, 116, 116, 112], str [104, 116, 116, 112, 115], str [109, 97, 105, 108, 116, 111]]) rfl (by decide)
    rw [← hWx]
    rw [← hsx] at e2
    subst e2
    obtain ⟨Wy, hWy⟩ : ∃ W, W = Wx.alloc (.cells #[.string ⟨#[109, 97, 116, 104]⟩, .string ⟨#[115, 101, 108, 101, 99, 116]⟩, .string ⟨#[115, 118, 103]⟩, .string ⟨#[116, 101, 109, 112, 108, 97, 116, 101]⟩] 9) := ⟨_, rfl⟩
    have hby : Below Wx.heap.size Wx Wy := hWy ▸ (Below.refl _ _).alloc (Nat.le_refl _) _
    have r2 : kdW.rd Wy 0 Wy.heap.size (.slice (some ⟨Wx.heap.size, 0, none⟩) 4 4) [str [109, 97, 116, 104], str [115, 101, 108, 101, 99, 116], str [115, 118, 103], str [116, 101, 109, 112, 108, 97, 116, 101]] := hWy ▸ rd_lit (W := Wx) (l := [str [109, 97, 116, 104], str [115, 101, 108, 101, 99, 116], str [115, 118, 103], str [116, 101, 109, 112, 108, 97, 116, 101]]) rfl (by decide)
    rw [← hWy]
    have hxy : Below w12.heap.size w12 Wy := hbx.trans (hby.mono hbx.size)
    have h4 := tidyC ⟨v, .slice A5 5 c5, .slice (some ⟨w12.heap.size, 0, none⟩) 3 3, .slice (some ⟨Wx.heap.size, 0, none⟩) 4 4⟩ fullP Wy ⟨kdE.wide (rd_below h1 (hb.trans (hxy.mono hb.size)) (Nat.le_refl _)) (Nat.le_refl _) (hb.trans (hxy.mono hb.size)).size, kdR.wide (rd_below h2 hxy (Nat.le_refl _)) (Nat.zero_le _) hxy.size, kdW.wide (rd_below r1 hby (Nat.le_refl _)) (Nat.le_refl _) hby.size, r2⟩ hfit hdif hokv
    rw [← hQ] at h4
    refine h4.mono fun e w' ⟨y, F, he, ho, hb⟩ => ⟨y, F, ?_, ho.low hxy.size, hxy.trans (hb.mono hxy.size)⟩
    unfold polV at he
    rw [hq.out.1, hq.out.2.1, hq.out.2.2] at he
    exact he
  rw [← hQ]
  clear ht hW0 hWa hba hQ hfit hokv hdif hN
  go_enter Tryz.func23, Tryz.ntmps23
  go_upto_region 1 with fail
  rw [← HXA.out]
  go_upto_region 9 with fail
  rw [← HX0.out]
  have hmm := @run_makeMap Tryz.prog
  have i0 : Hid (RK W0.heap.size (W0.alloc (.map #[] 0)) (fullR.take 0)) := Lib.hid (RK.made W0)
  have hw1 : Below w.heap.size w (W0.alloc (.map #[] 0)) := hb0.alloc hb0.size _
  have hz1 : W0.heap.size + 1 = (W0.alloc (.map #[] 0)).heap.size := by simp
  have HZ1 := Lib.hid hz1
  clear hz1
  have hw1q : Below W0.heap.size W0 (W0.alloc (.map #[] 0)) := (Below.refl _ _).alloc (Nat.le_refl _) _
  go_upto_region 10 with (first
    | (go_at_call 75; have _z := i4; refine (rV_C w9.heap.size w9 (HT.out _ hw9) rfl).mono ?_; rintro e w10 ⟨A5, c5, rfl, hr, hb⟩; have hmlt := i4.out.ins.1; have j5 := Lib.hid (And.intro (i4.out.below hb) (kdR.wide (lo' := W0.heap.size + 1) hr (by omega) (Nat.le_refl _))); have hw10 : Below w.heap.size w w10 := hw9.trans (hb.mono hw9.size); have hw10q : Below W0.heap.size W0 w10 := hw9q.trans (hb.mono hw9q.size); clear hr hb hmlt)
    | (go_at_call 75; have _z := i3; refine (rT_C w7.heap.size w7 (HT.out _ hw7) rfl).mono ?_; rintro e w8 ⟨A4, c4, rfl, hr, hb⟩; have hmlt := i3.out.ins.1; have j4 := Lib.hid (And.intro (i3.out.below hb) (kdR.wide (lo' := W0.heap.size + 1) hr (by omega) (Nat.le_refl _))); have hw8 : Below w.heap.size w w8 := hw7.trans (hb.mono hw7.size); have hw8q : Below W0.heap.size W0 w8 := hw7q.trans (hb.mono hw7q.size); clear hr hb hmlt)
    | (go_at_call 75; have _z := i2; refine (rO_C w5.heap.size w5 (HT.out _ hw5) rfl).mono ?_; rintro e w6 ⟨A3, c3, rfl, hr, hb⟩; have hmlt := i2.out.ins.1; have j3 := Lib.hid (And.intro (i2.out.below hb) (kdR.wide (lo' := W0.heap.size + 1) hr (by omega) (Nat.le_refl _))); have hw6 : Below w.heap.size w w6 := hw5.trans (hb.mono hw5.size); have hw6q : Below W0.heap.size W0 w6 := hw5q.trans (hb.mono hw5q.size); clear hr hb hmlt)
    | (go_at_call 75; have _z := i1; refine (Pq.rI_C _ _ (HT.out _ hw3) (HI5.out _ hw3q)).mono ?_; rintro e w4 ⟨A2, c2, rfl, hr, hb⟩; have hmlt := i1.out.ins.1; have j2 := Lib.hid (And.intro (i1.out.below hb) (kdR.wide (lo' := W0.heap.size + 1) hr (by omega) (Nat.le_refl _))); have hw4 : Below w.heap.size w w4 := hw3.trans (hb.mono hw3.size); have hw4q : Below W0.heap.size W0 w4 := hw3q.trans (hb.mono hw3q.size); clear hr hb hmlt)
    | (go_at_call 75; refine (rA_C (W0.heap.size + 1) (W0.alloc (.map #[] 0)) (HT.out _ hw1) HZ1.out).mono ?_; rintro e w2 ⟨A1, c1, rfl, hr, hb⟩; have hmlt := i0.out.ins.1; have j1 := Lib.hid (And.intro (i0.out.below hb) (kdR.wide (lo' := W0.heap.size + 1) hr (by omega) (Nat.le_refl _))); have hw2 : Below w.heap.size w w2 := hw1.trans (hb.mono hw1.size); have hw2q : Below W0.heap.size W0 w2 := hw1q.trans (hb.mono hw1q.size); clear hr hb hmlt)
    | (obtain ⟨hlt, L, hLm, hLk, hLp⟩ := j1.out.1.ins; refine wpList_insert_new _ rfl (.tmp 43) (.const (.string (str [97]))) (.tmp 45) 96 rfl 9 23 Tryz.underlying96 Tryz.underlying9 W0.heap.size L (str [97]) _ rfl hLm rfl rfl (look_keys2 hLk (by decide +kernel)) ?_; intro w3 mm gg; have i1 : Hid (RK W0.heap.size w3 (fullR.take 1)) := Lib.hid (by rw [← st0]; exact hLp _ _ _ _ mm gg j1.out.2); have hw3 : Below w.heap.size w w3 := hw2.grown gg hw2.size (fun j hj => by injection hj with hj; omega); have hw3q : Below W0.heap.size W0 w3 := hw2q.grown gg hw2q.size (fun j hj => by injection hj with hj; omega); clear mm gg hLp hLk hLm hlt)
    | (obtain ⟨hlt, L, hLm, hLk, hLp⟩ := j2.out.1.ins; refine wpList_insert_new _ rfl (.tmp 43) (.const (.string (str [105, 109, 103]))) (.tmp 47) 96 rfl 9 23 Tryz.underlying96 Tryz.underlying9 W0.heap.size L (str [105, 109, 103]) _ rfl hLm rfl rfl (look_keys2 hLk (by decide +kernel)) ?_; intro w5 mm gg; have i2 : Hid (RK W0.heap.size w5 (fullR.take 2)) := Lib.hid (by rw [← st1]; exact hLp _ _ _ _ mm gg j2.out.2); have hw5 : Below w.heap.size w w5 := hw4.grown gg hw4.size (fun j hj => by injection hj with hj; omega); have hw5q : Below W0.heap.size W0 w5 := hw4q.grown gg hw4q.size (fun j hj => by injection hj with hj; omega); clear mm gg hLp hLk hLm hlt)
    | (obtain ⟨hlt, L, hLm, hLk, hLp⟩ := j3.out.1.ins; refine wpList_insert_new _ rfl (.tmp 43) (.const (.string (str [111, 108]))) (.tmp 49) 96 rfl 9 23 Tryz.underlying96 Tryz.underlying9 W0.heap.size L (str [111, 108]) _ rfl hLm rfl rfl (look_keys2 hLk (by decide +kernel)) ?_; intro w7 mm gg; have i3 : Hid (RK W0.heap.size w7 (fullR.take 3)) := Lib.hid (by rw [← st2]; exact hLp _ _ _ _ mm gg j3.out.2); have hw7 : Below w.heap.size w w7 := hw6.grown gg hw6.size (fun j hj => by injection hj with hj; omega); have hw7q : Below W0.heap.size W0 w7 := hw6q.grown gg hw6q.size (fun j hj => by injection hj with hj; omega); clear mm gg hLp hLk hLm hlt)
    | (obtain ⟨hlt, L, hLm, hLk, hLp⟩ := j4.out.1.ins; refine wpList_insert_new _ rfl (.tmp 43) (.const (.string (str [116, 105, 109, 101]))) (.tmp 51) 96 rfl 9 23 Tryz.underlying96 Tryz.underlying9 W0.heap.size L (str [116, 105, 109, 101]) _ rfl hLm rfl rfl (look_keys2 hLk (by decide +kernel)) ?_; intro w9 mm gg; have i4 : Hid (RK W0.heap.size w9 (fullR.take 4)) := Lib.hid (by rw [← st3]; exact hLp _ _ _ _ mm gg j4.out.2); have hw9 : Below w.heap.size w w9 := hw8.grown gg hw8.size (fun j hj => by injection hj with hj; omega); have hw9q : Below W0.heap.size W0 w9 := hw8q.grown gg hw8q.size (fun j hj => by injection hj with hj; omega); clear mm gg hLp hLk hLm hlt)
    | (obtain ⟨hlt, L, hLm, hLk, hLp⟩ := j5.out.1.ins; refine wpList_insert_new _ rfl (.tmp 43) (.const (.string (str [100, 97, 116, 97]))) (.tmp 53) 96 rfl 9 23 Tryz.underlying96 Tryz.underlying9 W0.heap.size L (str [100, 97, 116, 97]) _ rfl hLm rfl rfl (look_keys2 hLk (by decide +kernel)) ?_; intro w11 mm gg; have i5 : Hid (RK W0.heap.size w11 (fullR.take 5)) := Lib.hid (by rw [← st4]; exact hLp _ _ _ _ mm gg j5.out.2); have hw11 : Below w.heap.size w w11 := hw10.grown gg hw10.size (fun j hj => by injection hj with hj; omega); have hw11q : Below W0.heap.size W0 w11 := hw10q.grown gg hw10q.size (fun j hj => by injection hj with hj; omega); clear mm gg hLp hLk hLm hlt))
  have ip : Hid (RK W0.heap.size w11 (fullR.take 5)) := i5
  have hwp := hw11
  have hwpq := hw11q
  clear i0 i1 i2 i3 i4 i5 j1 j2 j3 j4 j5 hw1 hw1q hw2 hw2q hw3 hw3q hw4 hw4q hw5 hw5q hw6 hw6q hw7 hw7q hw8 hw8q hw9 hw9q hw10 hw10q hw11 hw11q HZ1
  go_wp2
  obtain ⟨WL, hWL⟩ : ∃ W, W = w11.alloc (.cells #[.string ⟨#[98, 108, 111, 99, 107, 113, 117, 111, 116, 101]⟩, .string ⟨#[100, 101, 108]⟩, .string ⟨#[105, 110, 115]⟩, .string ⟨#[113]⟩] 9) := ⟨_, rfl⟩
  rw [← hWL]
  have hwl : Below w.heap.size w WL := hWL ▸ hwp.alloc hwp.size _
  have hwlq : Below W0.heap.size W0 WL := hWL ▸ hwpq.alloc hwpq.size _
  have hiL : Hid (RK W0.heap.size WL (fullR.take (5 + 0))) := Lib.hid (hWL ▸ ip.out.below ((Below.refl _ _).alloc (Nat.le_refl _) _))
  have HIP := Lib.hid ip.out.ins.1
  have HC : Hid (∀ k (h : k < nA.length) W, Fr [W0.heap.size] WL W → W.cell? ⟨w11.heap.size, k, none⟩ = some (.string nA[k])) := Lib.hid fun k h W hW => by
    have h1 : Bl WL w11.heap.size 9 (nA.map Value.string) := hWL ▸ Bl.new w11 _ _ rfl
    exact (h1.of (hW.block _ h1.lt (by have := HIP.out; simp; omega))).cell k (by rw [List.getElem?_map, List.getElem?_eq_getElem h]; rfl)
  clear hWL hwp hwpq ip
  go_loopw [57] (fun i wr => ∃ k : Nat, k ≤ 4 ∧ i = .int .i64 k ∧ Fr [W0.heap.size] WL wr ∧ RK W0.heap.size wr (fullR.take (5 + k)) ∧ Below w.heap.size w wr ∧ Below W0.heap.size W0 wr) (fun i _ => 4 - (intOf i).toNat)
  case atStart => exact ⟨0, Nat.zero_le _, rfl, Fr.refl _ _, hiL.out, hwl, hwlq⟩
  case round =>
    obtain ⟨k, hk, rfl, hv1k, hik, hv1, hv1q⟩ := hrel
    have HIK := Lib.hid hik
    clear hik
    by_cases hlt : k < 4
    · have hkl : k < nA.length := hlt
      have y0 := HC.out k hkl wr hv1k
      obtain ⟨hx, hhx⟩ : ∃ x, x = nA[k] := ⟨_, rfl⟩
      have HNO : Hid (∀ L : List (ByteArray × Value), L.map (·.1) = (fullR.take (5 + k)).map (·.1) → lookL hx L = none) := Lib.hid (by rw [hhx]; exact nA_no k hkl)
      have HSK : Hid (fullR.take (5 + k) ++ [(hx, rQ)] = fullR.take (5 + (k + 1))) := Lib.hid (by rw [hhx]; exact nA_st k hkl)
      rw [← hhx] at y0
      clear hhx
      go_wp2_with (first
        | (go_at_call 75; refine (rQ_C wr.heap.size wr (HT.out _ hv1) rfl).mono ?_; rintro e v2 ⟨Ak, ck, rfl, hr, hb⟩; have hmlt := HIK.out.ins.1; have jk := Lib.hid (And.intro (HIK.out.below hb) (kdR.wide (lo' := W0.heap.size + 1) hr (by omega) (Nat.le_refl _))); have hv2 : Below w.heap.size w v2 := hv1.trans (hb.mono hv1.size); have hv2q : Below W0.heap.size W0 v2 := hv1q.trans (hb.mono hv1q.size); have hv2k : Fr [W0.heap.size] WL v2 := hv1k.trans (Fr.of_below hb); clear hr hb hmlt)
        | (obtain ⟨hlt, L, hLm, hLk, hLp⟩ := jk.out.1.ins; refine Ne.wpList_update_new _ rfl (.tmp 61) (.tmp 62) (.tmp 64) 96 rfl 9 23 Tryz.underlying96 Tryz.underlying9 W0.heap.size L hx _ rfl hLm rfl rfl (HNO.out L hLk) ?_; intro v3 mm gg; have ik : Hid (RK W0.heap.size v3 (fullR.take (5 + (k + 1)))) := Lib.hid (by rw [← HSK.out]; exact hLp _ _ _ _ mm gg jk.out.2); have hv3 : Below w.heap.size w v3 := hv2.grown gg hv2.size (fun j hj => by injection hj with hj; omega); have hv3q : Below W0.heap.size W0 v3 := hv2q.grown gg hv2q.size (fun j hj => by injection hj with hj; omega); have hv3k : Fr [W0.heap.size] WL v3 := hv2k.trans (Fr.of_grown gg); clear mm gg hLp hLk hLm hlt))
      go_roundw
      case rel => exact ⟨k + 1, by omega, by go_num, hv3k, ik.out, hv3, hv3q⟩
      case measure => simp [intOf] <;> omega
    · obtain rfl : k = 4 := by omega
      obtain ⟨wo, hwo⟩ : ∃ W, W = wr := ⟨_, rfl⟩
      subst hwo
      have ip : Hid (RK W0.heap.size wo (fullR.take 9)) := Lib.hid HIK.out
      have hwp := hv1
      have hwpq := hv1q
      clear HIK HC hiL hwl hwlq HIP
      go_wp2
      obtain ⟨WM, hWM⟩ : ∃ W, W = wo.alloc (.cells #[.string ⟨#[116, 100]⟩, .string ⟨#[116, 104]⟩] 9) := ⟨_, rfl⟩
      rw [← hWM]
      have hwl : Below w.heap.size w WM := hWM ▸ hwp.alloc hwp.size _
      have hwlq : Below W0.heap.size W0 WM := hWM ▸ hwpq.alloc hwpq.size _
      have hiL : Hid (RK W0.heap.size WM (fullR.take (9 + 0))) := Lib.hid (hWM ▸ ip.out.below ((Below.refl _ _).alloc (Nat.le_refl _) _))
      have HIP := Lib.hid ip.out.ins.1
      have HC : Hid (∀ k (h : k < nB.length) W, Fr [W0.heap.size] WM W → W.cell? ⟨wo.heap.size, k, none⟩ = some (.string nB[k])) := Lib.hid fun k h W hW => by
        have h1 : Bl WM wo.heap.size 9 (nB.map Value.string) := hWM ▸ Bl.new wo _ _ rfl
        exact (h1.of (hW.block _ h1.lt (by have := HIP.out; simp; omega))).cell k (by rw [List.getElem?_map, List.getElem?_eq_getElem h]; rfl)
      clear hWM hwp hwpq ip
      go_loopw [68] (fun i wr => ∃ k : Nat, k ≤ 2 ∧ i = .int .i64 k ∧ Fr [W0.heap.size] WM wr ∧ RK W0.heap.size wr (fullR.take (9 + k)) ∧ Below w.heap.size w wr ∧ Below W0.heap.size W0 wr) (fun i _ => 2 - (intOf i).toNat)
      case atStart => exact ⟨0, Nat.zero_le _, rfl, Fr.refl _ _, hiL.out, hwl, hwlq⟩
      case round =>
        obtain ⟨k, hk, rfl, hv1k, hik, hv1, hv1q⟩ := hrel
        have HIK := Lib.hid hik
        clear hik
        by_cases hlt : k < 2
        · have hkl : k < nB.length := hlt
          have y0 := HC.out k hkl wr hv1k
          obtain ⟨hx, hhx⟩ : ∃ x, x = nB[k] := ⟨_, rfl⟩
          have HNO : Hid (∀ L : List (ByteArray × Value), L.map (·.1) = (fullR.take (9 + k)).map (·.1) → lookL hx L = none) := Lib.hid (by rw [hhx]; exact nB_no k hkl)
          have HSK : Hid (fullR.take (9 + k) ++ [(hx, rS)] = fullR.take (9 + (k + 1))) := Lib.hid (by rw [hhx]; exact nB_st k hkl)
          rw [← hhx] at y0
          clear hhx
          go_wp2_with (first
            | (go_at_call 75; refine (rS_C wr.heap.size wr (HT.out _ hv1) rfl).mono ?_; rintro e v2 ⟨Ak, ck, rfl, hr, hb⟩; have hmlt := HIK.out.ins.1; have jk := Lib.hid (And.intro (HIK.out.below hb) (kdR.wide (lo' := W0.heap.size + 1) hr (by omega) (Nat.le_refl _))); have hv2 : Below w.heap.size w v2 := hv1.trans (hb.mono hv1.size); have hv2q : Below W0.heap.size W0 v2 := hv1q.trans (hb.mono hv1q.size); have hv2k : Fr [W0.heap.size] WM v2 := hv1k.trans (Fr.of_below hb); clear hr hb hmlt)
            | (obtain ⟨hlt, L, hLm, hLk, hLp⟩ := jk.out.1.ins; refine Ne.wpList_update_new _ rfl (.tmp 72) (.tmp 73) (.tmp 75) 96 rfl 9 23 Tryz.underlying96 Tryz.underlying9 W0.heap.size L hx _ rfl hLm rfl rfl (HNO.out L hLk) ?_; intro v3 mm gg; have ik : Hid (RK W0.heap.size v3 (fullR.take (9 + (k + 1)))) := Lib.hid (by rw [← HSK.out]; exact hLp _ _ _ _ mm gg jk.out.2); have hv3 : Below w.heap.size w v3 := hv2.grown gg hv2.size (fun j hj => by injection hj with hj; omega); have hv3q : Below W0.heap.size W0 v3 := hv2q.grown gg hv2q.size (fun j hj => by injection hj with hj; omega); have hv3k : Fr [W0.heap.size] WM v3 := hv2k.trans (Fr.of_grown gg); clear mm gg hLp hLk hLm hlt))
          go_roundw
          case rel => (refine ⟨_, _, _, _, _, _, _, _, _, _, ⟨k + 1, by omega, ?_, hv3k, ik.out, hv3, hv3q⟩, rfl⟩; go_num)
          case measure => simp [intOf] <;> omega
        · obtain rfl : k = 2 := by omega
          have HT2 : Hid (RK W0.heap.size wr fullR) := Lib.hid (by have := HIK.out; rw [show 9 + 2 = 11 from rfl, fullR_all] at this; exact this)
          have hl0 : w.heap.size < W0.heap.size := HL0.out
          have k9 := k1.below hv1q
          have HK9 := Lib.hid k9
          go_upto_region 21 with (go_at_call 76; refine (HNL.out _ hv1).mono ?_; rintro e w10 ⟨A9, c9, rfl, hr10, hb10⟩; have HR10 := Lib.hid hr10; have hw10 : Below w.heap.size w w10 := hv1.trans (hb10.mono hv1.size); have hw10q : Below W0.heap.size W0 w10 := hv1q.trans (hb10.mono hv1q.size); have HRK := Lib.hid (HT2.out.below hb10); clear hr10)
          go_upto_region 22 with (first
            | (go_at_call 73; refine (HEL.out _ _ _ HR10.out HRK.out).mono ?_; rintro e w11 ⟨v, rfl, hv, hb11⟩; obtain ⟨B0, d0, rfl, _⟩ := fmE.rd_form hv; have HV := Lib.hid hv; have hw11 : Below w.heap.size w w11 := hw10.trans (hb11.mono hw10.size); have hw11q : Below W0.heap.size W0 w11 := hw10q.trans (hb11.mono hw10q.size); clear hv)
            | (go_at_call 75; refine (rG_C w11.heap.size w11 (HT.out _ hw11) rfl).mono ?_; rintro e w12 ⟨A5, c5, rfl, hr12, hb12⟩; have HR12 := Lib.hid hr12; have hw12 : Below w.heap.size w w12 := hw11.trans (hb12.mono hw11.size); have hw12q : Below W0.heap.size W0 w12 := hw11q.trans (hb12.mono hw11q.size); clear hr12)
            | (go_at_call 54; refine (HTD.out w11 w12 A5 c5 hw12 hb12 HV.out HR12.out _ _ rfl rfl).mono ?_; rintro e w14 ⟨y, F, rfl, ho, hb14⟩; obtain ⟨B1, d1, B2, d2, B3, d3, B4, d4, rfl, _⟩ := (ho.rd (lo := 0) (hi := w14.heap.size) (Nat.zero_le _) (Nat.le_refl _)).form; have n1 := (k1.below hw12q).below hb14; obtain ⟨s0, s1, s2, s3, s4, s5, s6, s7, s8, s9, s10, s11, s12, s13⟩ := n1.store7 (.slice B1 Q.els.length d1) (.slice B2 Q.glob.length d2) (.slice B3 Q.schemes.length d3) (.bool true) (.slice B4 Q.drop.length d4) (.int .i64 256) (.int .i64 65536)))
          have jz := n1.seven (.slice B1 Q.els.length d1) (.slice B2 Q.glob.length d2) (.slice B3 Q.schemes.length d3) (.bool true) (.slice B4 Q.drop.length d4) (.int .i64 256) (.int .i64 65536)
          have hfz := Fr.set7 w14 w.heap.size (.slice B1 Q.els.length d1) (.slice B2 Q.glob.length d2) (.slice B3 Q.schemes.length d3) (.bool true) (.slice B4 Q.drop.length d4) (.int .i64 256) (.int .i64 65536)
          refine bodyPost_ret (res_cell2 Tryz.results23 rfl jz Tryz.underlying26 rfl (by kernel_rfl)) rfl ?_
          obtain ⟨q1, q2, q3⟩ := hq.out
          have hz12 := hw12.size
          have hz12q := hw12q.size
          have hb15 : Below w.heap.size w w14 := hw12.trans (hb14.mono hw12.size)
          refine ⟨_, F, by unfold polV; rw [q1, q2, q3]; rfl, (ho.keep hfz.size fun x hx => hfz.block x (ho.ge x hx).2 (by have := (ho.ge x hx).1; simp; omega)).low (by omega), hb15.trans (hfz.below hb15.size (by simp))⟩
end Go.Proofs.YtjhimmljanbjcaaGreatDoor.Yf
