/- The program's Preset at basic. -/
import Derived.Test.YtejpdbiiikcmmaaGreatDoorEs
import Derived.Test.YtejpdbiiikcmmaaGreatDoorVd
import Derived.Test.YtejpdbiiikcmmaaGreatDoorPp
set_option linter.unusedVariables false
set_option linter.unusedSimpArgs false
namespace Go.Proofs.YtejpdbiiikcmmaaGreatDoor.Pb
open Go.RowKit Lb Gr Pd Fl Go.Proofs.YtejpdbiiikcmmaaGreatDoor.Pm Bk Is Sl Ru Go.Proofs.YtejpdbiiikcmmaaGreatDoor.Co Ro Go.Proofs.YtejpdbiiikcmmaaGreatDoor.Ck Go.Proofs.YtejpdbiiikcmmaaGreatDoor.Rs Go.Proofs.YtejpdbiiikcmmaaGreatDoor.Or Go.Proofs.YtejpdbiiikcmmaaGreatDoor.Sr Go.Proofs.YtejpdbiiikcmmaaGreatDoor.Ty Go.Proofs.YtejpdbiiikcmmaaGreatDoor.Vd Go.Proofs.YtejpdbiiikcmmaaGreatDoor.Es
attribute [local go_sem ↓] Go.wp_at_zero Go.wp_at_succ

def basicT : ByteArray := str [98, 32, 98, 114, 32, 99, 111, 100, 101, 32, 101, 109, 32, 105, 32, 112, 32, 115, 116, 114, 111, 110, 103]
def basicN : List ByteArray := [str [98], str [98, 114], str [99, 111, 100, 101], str [101, 109], str [105], str [112], str [115, 116, 114, 111, 110, 103]]
def basicP : PolD := ⟨elsOf (fun _ => []) basicN, [], [], false, [], 32, 4096⟩
theorem basic_fields : fieldsS basicT = basicN := by decide +kernel
theorem basic_asc : basicT.data.toList.all (fun b => decide (b.toNat < 128)) = true := by decide +kernel
theorem basic_lib : Lib.fields basicT.data.toList = fieldsL basicT.data.toList := by decide +kernel
theorem ord_nil {α : Type} (f : α → ByteArray) : ordBy f [] = [] := by simp [ordBy]
theorem srt_nil : Go.Proofs.YtejpdbiiikcmmaaGreatDoor.So.srt [] = [] := by simp [Go.Proofs.YtejpdbiiikcmmaaGreatDoor.So.srt]
theorem basic_sorted : basicN.Pairwise fun a b => leS a b = true := by decide +kernel
theorem basic_nodup : basicN.Nodup := by decide +kernel
theorem tidyE_bare (n : ByteArray) : tidyE ⟨n, []⟩ = ⟨n, []⟩ := by
  unfold tidyE tidyRs
  rw [List.map_nil, ord_nil]
theorem basic_names : (elsOf (fun _ => []) basicN).map ElD.name = basicN := by
  unfold elsOf; rw [List.map_map]; exact List.map_id' _
theorem tidy_basic : tidyP basicP = basicP := by
  have h1 : (elsOf (fun _ => []) basicN).map tidyE = elsOf (fun _ => []) basicN := by
    unfold elsOf
    rw [List.map_map]
    exact List.map_congr_left fun n _ => tidyE_bare n
  have h2 : ordBy ElD.name (elsOf (fun _ => []) basicN) = elsOf (fun _ => []) basicN := by
    symm
    refine ordBy_eq (List.Perm.refl _) ?_ (by rw [basic_names]; exact basic_nodup)
    unfold elsOf
    rw [List.pairwise_map]
    exact basic_sorted
  unfold tidyP tidyRs
  show (⟨ordBy ElD.name ((elsOf (fun _ => []) basicN).map tidyE), ordBy RuleD.name ([].map tidyR), Go.Proofs.YtejpdbiiikcmmaaGreatDoor.So.srt [], false, Go.Proofs.YtejpdbiiikcmmaaGreatDoor.So.srt [], 32, 4096⟩ : PolD) = _
  rw [h1, h2, List.map_nil, ord_nil, srt_nil]
  rfl
theorem basic_dif : Dif basicP := ⟨by show ((elsOf (fun _ => []) basicN).map ElD.name).Nodup; rw [basic_names]; exact basic_nodup, fun i hi => by
  have : basicP.els[i].rules = [] := by
    show (elsOf (fun _ => []) basicN)[i].rules = []
    simp [elsOf]
  rw [this]; simp, by simp [basicP]⟩
theorem basic_rules (i : Nat) (hi : i < basicP.els.length) : basicP.els[i].rules = [] := by
  show (elsOf (fun _ => []) basicN)[i].rules = []
  simp [elsOf]
theorem basic_len : basicP.els.length = 7 := by decide +kernel
theorem basic_size : Sized basicP := by
  refine ⟨⟨⟨by rw [basic_len]; decide, fun i hi => by rw [basic_rules i hi]; exact ⟨by decide, fun i h => by simp at h⟩⟩, ⟨by decide, fun i h => by simp [basicP] at h⟩, by decide, by decide⟩,
    ⟨⟨by rw [basic_len]; decide, fun i hi => by rw [basic_rules i hi]; exact ⟨by decide, fun i h => by simp at h⟩⟩, ⟨by decide, fun i h => by simp [basicP] at h⟩, ⟨by decide, fun i h => by simp [basicP] at h⟩, ⟨by decide, fun i h => by simp [basicP] at h⟩⟩,
    ⟨by rw [basic_len]; decide, fun i hi => by rw [basic_rules i hi]; exact ⟨by decide, fun i h => by simp at h⟩, ⟨by decide, fun i h => by simp [basicP] at h⟩, by decide, by decide⟩⟩
theorem basic_check : checkI basicP = 0 := by decide +kernel

set_option maxHeartbeats 4000000 in
set_option maxRecDepth 100000 in
theorem presetBasicC0 (w : World) (ht : Tab w) : Calls Tryz.prog 83 #[.string (str [98, 97, 115, 105, 99])] w fun e w' =>
    ∃ y F, e = .returned (.tuple #[.agg #[y.e, y.g, y.s, .bool false, y.d, .int .i64 32, .int .i64 4096], .bool true]) ∧ OwnP w' w.heap.size y basicP F ∧ Below w.heap.size w w' := by
  have HF : Hid (∀ W, Below w.heap.size w W → Calls Tryz.prog 147 #[.string basicT] W fun e w' => ∃ A c G, e = .returned (.slice A basicN.length c) ∧ kdW.own w' W.heap.size (.slice A basicN.length c) basicN G ∧ Below W.heap.size W w') :=
    Lib.hid fun W hW => by have := libFieldsC basicT W (ht.below hW) (by decide) basic_asc basic_lib; rw [basic_fields] at this; exact this
  have HE : Hid (∀ W A c, kdW.rd W 0 W.heap.size (.slice A basicN.length c) basicN → Calls Tryz.prog 146 #[.slice A basicN.length c, .map none] W fun e w' => ∃ v, e = .returned v ∧ kdE.rd w' 0 w'.heap.size v basicP.els ∧ Below W.heap.size W w') :=
    Lib.hid fun W A c h => elementsC basicN A _ c (.map none) (fun _ => []) (fun _ => .slice none 0 0) W h (by decide) (fun W' _ s => lookNil W' s) (fun s => fmR.rd_nil _ _ _)
  have HT : Hid (∀ W v, kdE.rd W 0 W.heap.size v basicP.els → Calls Tryz.prog 66 #[.agg #[v, .slice none 0 0, .slice none 0 0, .bool false, .slice none 0 0, .int .i64 32, .int .i64 4096]] W fun e w' => ∃ y F, e = .returned (.agg #[y.e, y.g, y.s, .bool false, y.d, .int .i64 32, .int .i64 4096]) ∧ OwnP w' W.heap.size y basicP F ∧ Below W.heap.size W w') :=
    Lib.hid fun W v h => by
      have h2 : RdP W 0 W.heap.size ⟨v, .slice none 0 0, .slice none 0 0, .slice none 0 0⟩ basicP := ⟨h, fmR.rd_nil _ _ _, ⟨none, 0, rfl, Nat.le_refl _, by simp, fun h => by simp [basicP] at h⟩, ⟨none, 0, rfl, Nat.le_refl _, by simp, fun h => by simp [basicP] at h⟩⟩
      have := tidyC ⟨v, .slice none 0 0, .slice none 0 0, .slice none 0 0⟩ basicP W h2 basic_size.fit basic_dif basic_size.okv
      rw [tidy_basic] at this
      exact this
  clear ht
  generalize basicP = P0 at *
  generalize basicN = N0 at *
  obtain ⟨W0, hW0⟩ : ∃ W, W = (w.alloc (.cells #[.slice none 0 0, .slice none 0 0, .slice none 0 0, .bool false, .slice none 0 0, .int .i64 0, .int .i64 0] 27)).alloc (.cells #[.string ⟨#[97, 108, 116, 32, 97, 110, 121]⟩, .string ⟨#[104, 101, 105, 103, 104, 116, 32, 108, 101, 110, 103, 116, 104]⟩, .string ⟨#[115, 114, 99, 32, 108, 105, 110, 107]⟩, .string ⟨#[119, 105, 100, 116, 104, 32, 108, 101, 110, 103, 116, 104]⟩] 9) := ⟨_, rfl⟩
  have hb0 : Below w.heap.size w W0 := hW0 ▸ ((Below.refl _ _).alloc (Nat.le_refl _) _).alloc (by simp) _
  have k1 : Bl W0 w.heap.size 27 [.slice none 0 0, .slice none 0 0, .slice none 0 0, .bool false, .slice none 0 0, .int .i64 0, .int .i64 0] := hW0 ▸ (Bl.new w _ _ rfl).alloc _
  have HX := Lib.hid hW0
  clear hW0
  have hbq : ((str [98, 97, 115, 105, 99]).toList == [98, 97, 115, 105, 99]) = true := by rw [Lib.toList_data]; rfl
  go_enter Tryz.func83, Tryz.ntmps83
  go_upto_region 4 with fail
  rw [← HX.out]
  go_wp2_with (first
    | (go_at_call 147; refine (HF.out _ hb0).mono ?_; rintro e w1 ⟨A9, c9, G9, rfl, ho9, hb1⟩; have hrd1 := kdW.read (lo := 0) (hi := w1.heap.size) ho9 (Nat.zero_le _) (Nat.le_refl _))
    | (go_at_call 146; refine (HE.out _ A9 c9 hrd1).mono ?_; rintro e w2 ⟨v, rfl, hrd2, hb2⟩; have hrf := fmE.rd_form hrd2; obtain ⟨B0, d0, rfl, _⟩ := hrf)
    | (go_at_call 66; refine (HT.out _ _ hrd2).mono ?_; rintro e w3 ⟨y, F, rfl, ho, hb3⟩; obtain ⟨B1, d1, B2, d2, B3, d3, B4, d4, rfl, _⟩ := (ho.rd (lo := 0) (hi := w3.heap.size) (Nat.zero_le _) (Nat.le_refl _)).form; have n1 := ((k1.below hb1).below hb2).below hb3; obtain ⟨s0, s1, s2, s3, s4, s5, s6, s7, s8, s9, s10, s11, s12, s13⟩ := n1.store7 (.slice B1 P0.els.length d1) (.slice B2 P0.glob.length d2) (.slice B3 P0.schemes.length d3) (.bool false) (.slice B4 P0.drop.length d4) (.int .i64 32) (.int .i64 4096)))
  have jz := n1.seven (.slice B1 P0.els.length d1) (.slice B2 P0.glob.length d2) (.slice B3 P0.schemes.length d3) (.bool false) (.slice B4 P0.drop.length d4) (.int .i64 32) (.int .i64 4096)
  have hfz := Fr.set7 w3 w.heap.size (.slice B1 P0.els.length d1) (.slice B2 P0.glob.length d2) (.slice B3 P0.schemes.length d3) (.bool false) (.slice B4 P0.drop.length d4) (.int .i64 32) (.int .i64 4096)
  refine bodyPost_ret (res_cell2 Tryz.results83 rfl jz Tryz.underlying27 rfl (by kernel_rfl)) rfl ?_
  have hk1 := k1.lt
  have hz0 := hb0.size
  have hz1 := hb1.size
  have hz2 := hb2.size
  have hb5 : Below w.heap.size w w3 := ((hb0.trans (hb1.mono hz0)).trans (hb2.mono (by omega))).trans (hb3.mono (by omega))
  exact ⟨_, F, rfl, (ho.keep hfz.size fun x hx => hfz.block x (ho.ge x hx).2 (by have := (ho.ge x hx).1; simp; omega)).low (by omega), hb5.trans (hfz.below hb5.size (by simp))⟩
theorem presetBasicC (w : World) (ht : Tab w) : Calls Tryz.prog 83 #[.string (str [98, 97, 115, 105, 99])] w fun e w' =>
    ∃ y F, e = .returned (.tuple #[polV y basicP, .bool true]) ∧ OwnP w' w.heap.size y basicP F ∧ Below w.heap.size w w' := presetBasicC0 w ht
end Go.Proofs.YtejpdbiiikcmmaaGreatDoor.Pb

/- The law's awake: the document's example. -/
set_option linter.unusedVariables false
set_option linter.unusedSimpArgs false
namespace Go.Proofs.YtejpdbiiikcmmaaGreatDoor.Aw
open Go.RowKit Lb Gr Pd Fl Go.Proofs.YtejpdbiiikcmmaaGreatDoor.Pm Bk Is Sl Go.Proofs.YtejpdbiiikcmmaaGreatDoor.Ck Go.Proofs.YtejpdbiiikcmmaaGreatDoor.Lk Go.Proofs.YtejpdbiiikcmmaaGreatDoor.Or Go.Proofs.YtejpdbiiikcmmaaGreatDoor.Ty Go.Proofs.YtejpdbiiikcmmaaGreatDoor.Vd Go.Proofs.YtejpdbiiikcmmaaGreatDoor.Pl Go.Proofs.YtejpdbiiikcmmaaGreatDoor.Pp Go.Proofs.YtejpdbiiikcmmaaGreatDoor.Pb
attribute [local go_sem ↓] Go.wp_at_zero Go.wp_at_succ

def exampleL : List UInt8 := [100, 101, 112, 116, 104, 32, 51, 50, 10, 119, 105, 110, 100, 111, 119, 32, 52, 48, 57, 54, 10, 101, 108, 101, 109, 101, 110, 116, 32, 98, 10, 101, 108, 101, 109, 101, 110, 116, 32, 98, 114, 10, 101, 108, 101, 109, 101, 110, 116, 32, 99, 111, 100, 101, 10, 101, 108, 101, 109, 101, 110, 116, 32, 101, 109, 10, 101, 108, 101, 109, 101, 110, 116, 32, 105, 10, 101, 108, 101, 109, 101, 110, 116, 32, 112, 10, 101, 108, 101, 109, 101, 110, 116, 32, 115, 116, 114, 111, 110, 103, 10]
theorem print_basic : printL basicP = exampleL := by decide +kernel
theorem basic_prok : PrOk basicP := by
  refine ⟨fun i h => by simp [basicP] at h, fun i h j hj => by rw [basic_rules i h] at hj; simp at hj, by decide, by decide, by rw [print_basic]; decide, ⟨by rw [basic_len]; decide, by decide, by decide, by decide⟩, fun i h => by rw [basic_rules i h]; decide⟩
theorem printQ_basic : printQ basicP = str exampleL := by
  unfold printQ
  rw [basic_check, if_pos rfl, tidy_basic, print_basic]
set_option maxHeartbeats 400000 in
theorem numC (e : Int) (w : World) : Calls Tryz.prog 30 #[.int .i64 e] w fun r w' => r = .returned (.int .i64 e) ∧ w = w' := by
  go_enter Tryz.func30, Tryz.ntmps30
  go_wp2
  go_ret
  exact ⟨rfl, rfl⟩
/-- what the library's and the program's tables lay -/
structure Laid (w : World) : Prop where
  tab : Tab w
  nev : NevT w
  pow : Pow w
theorem Laid.below {w w' : World} (h : Laid w) (hb : Below w.heap.size w w') : Laid w' := ⟨h.tab.below hb, h.nev.below hb, h.pow.below hb⟩

set_option maxHeartbeats 2000000 in
set_option maxRecDepth 100000 in
theorem awakeC (w : World) (hl : Laid w) : Calls Tryz.prog 34 #[] w fun e w' => e = .returned (.bool true) ∧ Below w.heap.size w w' := by
  have HP := Lib.hid (presetBasicC w hl.tab)
  have HPR : Hid (∀ W x, Below w.heap.size w W → RdP W 0 W.heap.size x basicP → Calls Tryz.prog 84 #[polV x basicP] W fun e w' => e = .returned (.tuple #[.string (str exampleL), .int .i64 0]) ∧ Below W.heap.size W w') :=
    Lib.hid fun W x hW h => by
      have h2 := PrintC x basicP W (hl.tab.below hW) (hl.nev.below hW) (hl.pow.below hW) h basic_size (fun _ => by rw [tidy_basic]; exact basic_prok)
      rw [printQ_basic, basic_check] at h2
      exact h2
  have HS : Hid ((str exampleL).toList = exampleL) := Lib.hid (by rw [Lib.toList_data]; rfl)
  obtain ⟨sv, hsv⟩ : ∃ sv, sv = str exampleL := ⟨_, rfl⟩
  have hq : (sv.toList == [100, 101, 112, 116, 104, 32, 51, 50, 10, 119, 105, 110, 100, 111, 119, 32, 52, 48, 57, 54, 10, 101, 108, 101, 109, 101, 110, 116, 32, 98, 10, 101, 108, 101, 109, 101, 110, 116, 32, 98, 114, 10, 101, 108, 101, 109, 101, 110, 116, 32, 99, 111, 100, 101, 10, 101, 108, 101, 109, 101, 110, 116, 32, 101, 109, 10, 101, 108, 101, 109, 101, 110, 116, 32, 105, 10, 101, 108, 101, 109, 101, 110, 116, 32, 112, 10, 101, 108, 101, 109, 101, 110, 116, 32, 115, 116, 114, 111, 110, 103, 10]) = true := by rw [hsv, HS.out]; exact beq_self_eq_true exampleL
  rw [← hsv] at HPR
  have hd : basicP.depth = 32 := rfl
  have hw : basicP.window = 4096 := rfl
  have hr : basicP.rel = false := rfl
  clear hsv hl HS
  unfold polV at HP HPR
  rw [hd, hw, hr] at HP HPR
  clear hd hw hr
  generalize basicP = P0 at *
  go_enter Tryz.func34, Tryz.ntmps34
  go_upto_region 2 with (go_at_call 83; refine HP.out.mono ?_; rintro e w1 ⟨y, F, rfl, ho, hb1⟩; obtain ⟨B1, d1, B2, d2, B3, d3, B4, d4, rfl, _⟩ := (ho.rd (lo := 0) (hi := w1.heap.size) (Nat.zero_le _) (Nat.le_refl _)).form)
  obtain ⟨W2, hW2⟩ : ∃ W, W = w1.alloc (.cells #[.slice B1 P0.els.length d1, .slice B2 P0.glob.length d2, .slice B3 P0.schemes.length d3, .bool false, .slice B4 P0.drop.length d4, .int .i64 32, .int .i64 4096] 27) := ⟨_, rfl⟩
  have hb2 : Below w1.heap.size w1 W2 := hW2 ▸ (Below.refl _ _).alloc (Nat.le_refl _) _
  have k2 : Bl W2 w1.heap.size 27 [.slice B1 P0.els.length d1, .slice B2 P0.glob.length d2, .slice B3 P0.schemes.length d3, .bool false, .slice B4 P0.drop.length d4, .int .i64 32, .int .i64 4096] := hW2 ▸ Bl.new w1 _ _ rfl
  have hbw : Below w.heap.size w W2 := hb1.trans (hb2.mono hb1.size)
  have hrd := ((ho.rd (lo := 0) (hi := w1.heap.size) (Nat.zero_le _) (Nat.le_refl _)).stay (stay_below hb2 (Nat.le_refl _))).wide (Nat.le_refl _) hb2.size
  have HC := Lib.hid (HPR.out W2 _ hbw hrd)
  have z0 := k2.cell 0 rfl
  have z1 := k2.cell 1 rfl
  have z2 := k2.cell 2 rfl
  have z3 := k2.cell 3 rfl
  have z4 := k2.cell 4 rfl
  have z5 := k2.cell 5 rfl
  have z6 := k2.cell 6 rfl
  rw [← hW2]
  clear hW2 ho
  go_wp2_with (first
    | (go_at_call 84; refine HC.out.mono ?_; rintro e w3 ⟨rfl, hb3⟩)
    | (go_at_call 30; refine (numC _ _).mono ?_; rintro e w4 ⟨rfl, rfl⟩))
  go_ret
  exact ⟨rfl, hbw.trans (hb3.mono hbw.size)⟩
end Go.Proofs.YtejpdbiiikcmmaaGreatDoor.Aw

/- No preset: the program's, the reference's; the reference's 'basic'. -/
set_option linter.unusedVariables false
set_option linter.unusedSimpArgs false
namespace Go.Proofs.YtejpdbiiikcmmaaGreatDoor.Pu
open Go.RowKit Lb Gr Pd Fl Go.Proofs.YtejpdbiiikcmmaaGreatDoor.Pm Bk Is Go.Proofs.YtejpdbiiikcmmaaGreatDoor.Sl Go.Proofs.YtejpdbiiikcmmaaGreatDoor.Ck Go.Proofs.YtejpdbiiikcmmaaGreatDoor.Vd
attribute [local go_sem ↓] Go.wp_at_zero Go.wp_at_succ
theorem lit_no2 {s : ByteArray} {l : List UInt8} (h : s ≠ str l) : (s.toList == l) = false := by
  have h1 := toList_ne_of h
  rw [Lib.toList_data (str l)] at h1
  exact h1
set_option maxHeartbeats 2000000 in
set_option maxRecDepth 100000 in
theorem presetNoC (s : ByteArray) (w : World) (h0 : s ≠ str [98, 97, 115, 105, 99]) (h1 : s ≠ str [114, 105, 99, 104]) (h2 : s ≠ str [102, 117, 108, 108]) : Calls Tryz.prog 83 #[.string s] w fun e w' =>
    e = .returned (.tuple #[polV zeroV zeroP, .bool false]) ∧ Below w.heap.size w w' := by
  have e0 := lit_no2 h0
  have e1 := lit_no2 h1
  have e2 := lit_no2 h2
  obtain ⟨Wa, hWa⟩ : ∃ W, W = w.alloc (.cells #[.slice none 0 0, .slice none 0 0, .slice none 0 0, .bool false, .slice none 0 0, .int .i64 0, .int .i64 0] 27) := ⟨_, rfl⟩
  obtain ⟨W0, hW0⟩ : ∃ W, W = Wa.alloc (.cells #[.string ⟨#[97, 108, 116, 32, 97, 110, 121]⟩, .string ⟨#[104, 101, 105, 103, 104, 116, 32, 108, 101, 110, 103, 116, 104]⟩, .string ⟨#[115, 114, 99, 32, 108, 105, 110, 107]⟩, .string ⟨#[119, 105, 100, 116, 104, 32, 108, 101, 110, 103, 116, 104]⟩] 9) := ⟨_, rfl⟩
  have hba : Below w.heap.size w Wa := hWa ▸ (Below.refl _ _).alloc (Nat.le_refl _) _
  have hb0 : Below w.heap.size w W0 := hW0 ▸ hba.alloc hba.size _
  have k1 : Bl W0 w.heap.size 27 [.slice none 0 0, .slice none 0 0, .slice none 0 0, .bool false, .slice none 0 0, .int .i64 0, .int .i64 0] := hW0 ▸ (hWa ▸ Bl.new w _ _ rfl : Bl Wa w.heap.size _ _).alloc _
  have HX0 := Lib.hid hW0
  have HXA := Lib.hid hWa
  clear h0 h1 h2 hW0 hWa hba
  go_enter Tryz.func83, Tryz.ntmps83
  go_upto_region 1 with fail
  rw [← HXA.out]
  go_upto_region 3 with fail
  rw [← HX0.out]
  obtain ⟨s0, s1, s2, s3, s4, s5, s6, s7, s8, s9, s10, s11, s12, s13⟩ := k1.store7 (.slice none 0 0) (.slice none 0 0) (.slice none 0 0) (.bool false) (.slice none 0 0) (.int .i64 0) (.int .i64 0)
  have jz := k1.seven (.slice none 0 0) (.slice none 0 0) (.slice none 0 0) (.bool false) (.slice none 0 0) (.int .i64 0) (.int .i64 0)
  have hfz := Fr.set7 W0 w.heap.size (.slice none 0 0) (.slice none 0 0) (.slice none 0 0) (.bool false) (.slice none 0 0) (.int .i64 0) (.int .i64 0)
  go_wp2
  refine bodyPost_ret (res_cell2 Tryz.results83 rfl jz Tryz.underlying27 rfl (by kernel_rfl)) rfl ?_
  exact ⟨rfl, hb0.trans (hfz.below hb0.size (by simp))⟩
end Go.Proofs.YtejpdbiiikcmmaaGreatDoor.Pu
