/- What else is wrong with a policy: the program's closed, limitsRight; Check. -/
import Derived.Test.YteikagdinecfoaaGreatDoorSd
set_option linter.unusedVariables false
set_option linter.unusedSimpArgs false
namespace Go.Proofs.YteikagdinecfoaaGreatDoor.Ch
open Go.RowKit Lb Gr Pd Fl Go.Proofs.YteikagdinecfoaaGreatDoor.Pm Bk Is Sl Ha Rm Rn Ro Go.Proofs.YteikagdinecfoaaGreatDoor.Ck Go.Proofs.YteikagdinecfoaaGreatDoor.Lk Go.Proofs.YteikagdinecfoaaGreatDoor.Nd Go.Proofs.YteikagdinecfoaaGreatDoor.Th Go.Proofs.YteikagdinecfoaaGreatDoor.Er Go.Proofs.YteikagdinecfoaaGreatDoor.Sd
attribute [local go_sem ↓] Go.wp_at_zero Go.wp_at_succ

def okClos (l : List ElD) (e : ElD) : Bool := (needsL e.name).all fun n => hasE l n
def closK (l : List ElD) (k : Nat) : Bool := (l.take k).all (okClos l)
theorem closK_succ {l : List ElD} {k : Nat} (h : k < l.length) : closK l (k + 1) = (closK l k && okClos l l[k]) := by
  unfold closK
  rw [List.take_succ_eq_append_getElem h, List.all_append]
  simp
def needK (l : List ElD) (ns : List ByteArray) (b : Bool) (j : Nat) : Bool := b && (ns.take j).all fun n => hasE l n
theorem needK_succ {l : List ElD} {ns : List ByteArray} {b : Bool} {j : Nat} (h : j < ns.length) : needK l ns b (j + 1) = (needK l ns b j && hasE l ns[j]) := by
  unfold needK
  rw [List.take_succ_eq_append_getElem h, List.all_append]
  simp [Bool.and_assoc]
set_option maxHeartbeats 4000000 in
set_option maxRecDepth 100000 in
theorem closedC (x : Vs) (p : PolD) (w : World) (ht : Tab w) (h : RdP w 0 w.heap.size x p) (hl : p.els.length ≤ 9223372036854775807) : Calls Tryz.prog 71 #[polV x p] w fun e w' => e = .returned (.int .i64 (closI p)) ∧ Below w.heap.size w w' := by
  obtain ⟨A1, c1, A2, c2, A3, c3, A4, c4, rfl, q1, q2, q3, q4, q5, q6, q7, q8⟩ := h.form
  have HRD : Hid (∀ W, Below w.heap.size w W → kdE.rd W 0 w.heap.size (.slice A1 p.els.length c1) p.els) := Lib.hid fun W hW => kdE.stay h.1 (stay_below hW (Nat.le_refl _))
  have HN : Hid (∀ W s, Below w.heap.size w W → Calls Tryz.prog 42 #[.string s] W fun e w' => ∃ A c G, e = .returned (.slice A (needsL s).length c) ∧ kdW.own w' W.heap.size (.slice A (needsL s).length c) (needsL s) G ∧ Below W.heap.size W w') := Lib.hid fun W s hW => NeedsC s W (ht.below hW)
  have HH : Hid (∀ W s, Below w.heap.size w W → Calls Tryz.prog 93 #[.agg #[.slice A1 p.els.length c1, .slice A2 p.glob.length c2, .slice A3 p.schemes.length c3, .bool p.rel, .slice A4 p.drop.length c4, .int .i64 p.depth, .int .i64 p.window], .string s] W fun e w' => e = .returned (.bool (hasE p.els s)) ∧ Below W.heap.size W w') :=
    Lib.hid fun W s hW => hasC A1 A2 A3 A4 p.els.length c1 _ c2 _ c3 _ c4 p.rel p.depth p.window s p.els W (kdE.wide (kdE.stay h.1 (stay_below hW (Nat.le_refl _))) (Nat.le_refl _) hW.size) hl
  have HB : Hid (closI p = codeI (closK p.els p.els.length) 142) := Lib.hid (by unfold closI codeI closK closedB; rw [List.take_length]; rfl)
  have H0 : Hid (closK p.els 0 = true) := Lib.hid rfl
  clear h ht
  unfold polV
  go_enter Tryz.func71, Tryz.ntmps71
  go_wp2
  go_loopw [2, 10] (fun v2 i wr => ∃ k : Nat, k ≤ p.els.length ∧ i = .int .i64 k ∧ v2 = acc (closK p.els k) 142 ∧ Bl wr w.heap.size 29 [.slice A1 p.els.length c1, .slice A2 p.glob.length c2, .slice A3 p.schemes.length c3, .bool p.rel, .slice A4 p.drop.length c4, .int .i64 p.depth, .int .i64 p.window] ∧ Below w.heap.size w wr) (fun _ i _ => p.els.length - (intOf i).toNat)
  case atStart => exact ⟨0, by omega, rfl, by rw [H0.out]; rfl, Bl.new w _ _ rfl, (Below.refl _ _).alloc (Nat.le_refl _) _⟩
  case round =>
    obtain ⟨k, hk, rfl, hv2, m1, hnx⟩ := hrel
    have HV2 := Lib.hid hv2
    clear hv2
    by_cases hlt : k < p.els.length
    · obtain ⟨b, off, u, rfl, hb1, hb2, hu, hcell⟩ := fmE.rd_at (HRD.out _ hnx) hlt
      have hu' : kdR.rd wr 0 w.heap.size u p.els[k].rules := hu
      clear hu
      have e0 := hcell 0 _ rfl
      have e1 := hcell 1 _ rfl
      rw [show off + (k * fmE.size + 0) = off + k * 2 from rfl] at e0
      rw [show off + (k * fmE.size + 1) = off + k * 2 + 1 from by show off + (k * 2 + 1) = _; omega] at e1
      obtain ⟨A5, c5, rfl, _⟩ := fmR.rd_form hu'
      clear hcell hu'
      obtain ⟨W0, hW0⟩ : ∃ W, W = wr.alloc (.cells #[.string p.els[k].name, .slice A5 p.els[k].rules.length c5] 45) := ⟨_, rfl⟩
      have hb0 : Below wr.heap.size wr W0 := hW0 ▸ (Below.refl _ _).alloc (Nat.le_refl _) _
      have k5 : Bl W0 wr.heap.size 45 [.string p.els[k].name, .slice A5 p.els[k].rules.length c5] := hW0 ▸ Bl.new wr _ _ rfl
      have m2 := m1.below hb0
      have y0 := k5.cell 0 rfl
      have hb9 : Below w.heap.size w W0 := hnx.trans (hb0.mono hnx.size)
      have HX := Lib.hid hW0
      have hsu := Lib.hid (closK_succ hlt)
      clear hW0
      obtain ⟨ns, hns⟩ : ∃ ns, ns = needsL p.els[k].name := ⟨_, rfl⟩
      have HNS := Lib.hid hns
      have HN2 := HN.out W0 p.els[k].name hb9
      rw [← hns] at HN2
      have HN3 := Lib.hid HN2
      clear HN2 hns
      go_upto_region 4 with fail
      rw [← HX.out]
      go_wp2_with (go_at_call 42; refine HN3.out.mono ?_; rintro e w1 ⟨A9, c9, G9, rfl, ho9, hb3⟩)
      have hb4 := hb9.trans (hb3.mono hb9.size)
      have m3 := m2.below hb3
      have hrd := Lib.hid (kdW.read (lo := 0) (hi := w1.heap.size) ho9 (Nat.zero_le _) (Nat.le_refl _))
      have hf9 := rdW_form hrd.out
      obtain ⟨A8, c8, hv8, h81, h82⟩ := hf9
      injection hv8 with r1 r2 r3
      subst r1 r3
      have hnl : ns.length ≤ 9223372036854775807 := by unfold maxLen at h82; omega
      have HA := Lib.hid (show needK p.els ns (closK p.els k) 0 = closK p.els k by unfold needK; simp)
      clear ho9
      go_loopw [2, 18] (fun v2 i wr => ∃ j : Nat, j ≤ ns.length ∧ i = .int .i64 j ∧ v2 = acc (needK p.els ns (closK p.els k) j) 142 ∧ Bl wr w.heap.size 29 [.slice (some ⟨b, off, none⟩) p.els.length c1, .slice A2 p.glob.length c2, .slice A3 p.schemes.length c3, .bool p.rel, .slice A4 p.drop.length c4, .int .i64 p.depth, .int .i64 p.window] ∧ Below w1.heap.size w1 wr) (fun _ i _ => ns.length - (intOf i).toNat)
      case atStart => exact ⟨0, by omega, rfl, by rw [HA.out]; exact HV2.out, m3, Below.refl _ _⟩
      case round =>
        obtain ⟨j, hj, rfl, hv3, m4, hny⟩ := hrel
        have HV3 := Lib.hid hv3
        clear hv3
        by_cases hltj : j < ns.length
        · obtain ⟨b2, off2, rfl, hc1, hc2, hcl⟩ := rdW_at (kdW.stay hrd.out (stay_below hny (Nat.le_refl _))) hltj
          have z0 := m4.cell 0 rfl
          have z1 := m4.cell 1 rfl
          have z2 := m4.cell 2 rfl
          have z3 := m4.cell 3 rfl
          have z4 := m4.cell 4 rfl
          have z5 := m4.cell 5 rfl
          have z6 := m4.cell 6 rfl
          have hby := hb4.trans (hny.mono hb4.size)
          have hss := Lib.hid (needK_succ (l := p.els) (b := closK p.els k) hltj)
          have HH2 := HH.out wr ns[j] hby
          cases hha : hasE p.els ns[j]
          · have hr : Hid (needK p.els ns (closK p.els k) (j + 1) = false) := Lib.hid (by rw [hss.out, hha]; simp)
            rw [hha] at HH2
            have HH3 := Lib.hid HH2
            clear hha HH2
            go_wp2_with (go_at_call 93; refine HH3.out.mono ?_; rintro e w3 ⟨rfl, hb7⟩)
            go_roundw
            case rel => exact ⟨j + 1, by omega, by go_num, by rw [hr.out]; rfl, m4.below hb7, hny.trans (hb7.mono hny.size)⟩
            case measure => simp [intOf] <;> omega
          · have hr : Hid (needK p.els ns (closK p.els k) (j + 1) = needK p.els ns (closK p.els k) j) := Lib.hid (by rw [hss.out, hha]; simp)
            rw [hha] at HH2
            have HH3 := Lib.hid HH2
            clear hha HH2
            go_wp2_with (go_at_call 93; refine HH3.out.mono ?_; rintro e w3 ⟨rfl, hb7⟩)
            go_roundw
            case rel => exact ⟨j + 1, by omega, by go_num, by rw [hr.out]; exact HV3.out, m4.below hb7, hny.trans (hb7.mono hny.size)⟩
            case measure => simp [intOf] <;> omega
        · obtain rfl : j = ns.length := by omega
          have hr : Hid (closK p.els (k + 1) = needK p.els ns (closK p.els k) ns.length) := Lib.hid (by
            rw [hsu.out]; unfold needK okClos; rw [List.take_length, HNS.out])
          go_wp2
          go_roundw
          case rel => exact ⟨k + 1, by omega, by go_num, by rw [hr.out]; exact HV3.out, m4, hb4.trans (hny.mono hb4.size)⟩
          case measure => simp [intOf] <;> omega
    · obtain rfl : k = p.els.length := by omega
      go_wp2
      go_ret
      exact ⟨by rw [HV2.out, HB.out]; rfl, hnx⟩

set_option maxHeartbeats 2000000 in
set_option maxRecDepth 100000 in
theorem limitsRightC (x : Vs) (p : PolD) (w : World) (h : RdP w 0 w.heap.size x p) (hm : p.els.length ≤ 9223372036854775807 ∧ p.glob.length ≤ 9223372036854775807 ∧ ∀ e ∈ p.els, e.rules.length ≤ 9223372036854775807) : Calls Tryz.prog 74 #[polV x p] w fun e w' => e = .returned (.int .i64 (limI p)) ∧ Below w.heap.size w w' := by
  obtain ⟨A1, c1, A2, c2, A3, c3, A4, c4, rfl, q1, q2, q3, q4, q5, q6, q7, q8⟩ := h.form
  obtain ⟨W0, hW0⟩ : ∃ W, W = w.alloc (.cells #[.slice A1 p.els.length c1, .slice A2 p.glob.length c2, .slice A3 p.schemes.length c3, .bool p.rel, .slice A4 p.drop.length c4, .int .i64 p.depth, .int .i64 p.window] 29) := ⟨_, rfl⟩
  have hb0 : Below w.heap.size w W0 := hW0 ▸ (Below.refl _ _).alloc (Nat.le_refl _) _
  have hc := Lib.hid (thingsC ⟨.slice A1 p.els.length c1, .slice A2 p.glob.length c2, .slice A3 p.schemes.length c3, .slice A4 p.drop.length c4⟩ p W0 ((h.stay (stay_below hb0 (Nat.le_refl _))).wide (Nat.le_refl _) hb0.size) hm)
  have HX := Lib.hid hW0
  have HL : Hid (limOk p = (decide (1 ≤ p.depth) && decide (p.depth ≤ 512) && decide (16 ≤ p.window) && decide (p.window ≤ 1048576) && decide (w64 (thingsN p) ≤ 1000))) := Lib.hid rfl
  have HI : Hid (limI p = if limOk p then 0 else 144) := Lib.hid rfl
  clear h hm hW0
  unfold polV at hc ⊢
  generalize w64 (thingsN p) = T at *
  generalize limI p = res at *
  generalize limOk p = lo at *
  generalize p.depth = d at *
  generalize p.window = q at *
  by_cases h1 : d < 1
  · have hr : Hid (res = 144) := Lib.hid (by rw [HI.out, HL.out, decide_eq_false (show ¬ 1 ≤ d by omega)]; rfl)
    go_enter Tryz.func74, Tryz.ntmps74
    go_wp2
    go_ret
    exact ⟨rgi hr.out, HX.out ▸ hb0⟩
  · by_cases h2 : 512 < d
    · have hr : Hid (res = 144) := Lib.hid (by rw [HI.out, HL.out, decide_eq_false (show ¬ d ≤ 512 by omega), Bool.and_false]; rfl)
      go_enter Tryz.func74, Tryz.ntmps74
      go_wp2
      go_ret
      exact ⟨rgi hr.out, HX.out ▸ hb0⟩
    · by_cases h3 : q < 16
      · have hr : Hid (res = 144) := Lib.hid (by rw [HI.out, HL.out, decide_eq_false (show ¬ 16 ≤ q by omega), Bool.and_false]; rfl)
        go_enter Tryz.func74, Tryz.ntmps74
        go_wp2
        go_ret
        exact ⟨rgi hr.out, HX.out ▸ hb0⟩
      · by_cases h4 : 1048576 < q
        · have hr : Hid (res = 144) := Lib.hid (by rw [HI.out, HL.out, decide_eq_false (show ¬ q ≤ 1048576 by omega), Bool.and_false]; rfl)
          go_enter Tryz.func74, Tryz.ntmps74
          go_wp2
          go_ret
          exact ⟨rgi hr.out, HX.out ▸ hb0⟩
        · by_cases h5 : 1000 < T
          · have hr : Hid (res = 144) := Lib.hid (by rw [HI.out, HL.out, decide_eq_false (show ¬ T ≤ 1000 by omega), Bool.and_false]; rfl)
            go_enter Tryz.func74, Tryz.ntmps74
            go_wp2_with (go_at_call 101; rw [← HX.out]; refine hc.out.mono ?_; rintro e w3 ⟨rfl, hb7⟩)
            go_ret
            exact ⟨rgi hr.out, hb0.trans (hb7.mono hb0.size)⟩
          · have hr : Hid (res = 0) := Lib.hid (by rw [HI.out, HL.out, decide_eq_true (show 1 ≤ d by omega), decide_eq_true (show d ≤ 512 by omega), decide_eq_true (show 16 ≤ q by omega), decide_eq_true (show q ≤ 1048576 by omega), decide_eq_true (show T ≤ 1000 by omega)]; rfl)
            go_enter Tryz.func74, Tryz.ntmps74
            go_wp2_with (go_at_call 101; rw [← HX.out]; refine hc.out.mono ?_; rintro e w3 ⟨rfl, hb7⟩)
            go_ret
            exact ⟨rgi hr.out, hb0.trans (hb7.mono hb0.size)⟩

/-- the six questions -/
def fnK : Nat → Nat
  | 0 => 69
  | 1 => 70
  | 2 => 71
  | 3 => 72
  | 4 => 73
  | _ => 74
def codes (p : PolD) : List Int := [elsI p, globI p, closI p, schI p, dropI p, limI p]
theorem enterK (k : Nat) (hk : k < 6) : ∀ args w, (callFunc (fnK k) args).run Tryz.prog w = .ok (.enter (fnK k) args) w := by
  match k, hk with
  | 0, _ => exact enters_of Tryz.func69 (by kernel_rfl) rfl
  | 1, _ => exact enters_of Tryz.func70 (by kernel_rfl) rfl
  | 2, _ => exact enters_of Tryz.func71 (by kernel_rfl) rfl
  | 3, _ => exact enters_of Tryz.func72 (by kernel_rfl) rfl
  | 4, _ => exact enters_of Tryz.func73 (by kernel_rfl) rfl
  | 5, _ => exact enters_of Tryz.func74 (by kernel_rfl) rfl
def funcsA : Array Value := #[.func (.func 69) #[] #[], .func (.func 70) #[] #[], .func (.func 71) #[] #[], .func (.func 72) #[] #[], .func (.func 73) #[] #[], .func (.func 74) #[] #[]]
theorem funcsA_at (k : Nat) (hk : k < 6) : funcsA[k]? = some (.func (.func (fnK k)) #[] #[]) := by
  match k, hk with
  | 0, _ => rfl
  | 1, _ => rfl
  | 2, _ => rfl
  | 3, _ => rfl
  | 4, _ => rfl
  | 5, _ => rfl
theorem okE_all {l : List ElD} (h : OkE l) : ∀ e ∈ l, e.rules.length ≤ 9223372036854775807 := fun e he => by
  obtain ⟨i, hi, rfl⟩ := List.getElem_of_mem he
  exact (h.2 i hi).1
theorem askK (k : Nat) (hk : k < 6) (x : Vs) (p : PolD) (w : World) (ht : Tab w) (hn : NevT w) (h : RdP w 0 w.heap.size x p) (hok : OkP p) : Calls Tryz.prog (fnK k) #[polV x p] w fun e w' => e = .returned (.int .i64 ((codes p)[k]'hk)) ∧ Below w.heap.size w w' := by
  obtain ⟨o1, o2, o3, o4⟩ := hok
  match k, hk with
  | 0, _ => exact elementsRightC x p w ht h o1
  | 1, _ => exact globalRightC x p w ht h o2
  | 2, _ => exact closedC x p w ht h o1.1
  | 3, _ => exact schemesRightC x p w hn h o3
  | 4, _ => exact dropRightC x p w h ⟨o4.1, o1.1⟩
  | 5, _ => exact limitsRightC x p w h ⟨o1.1, o2.1, okE_all o1⟩
theorem first_zero {l : List Int} {k : Nat} (h : k < l.length) (hz : l[k] = 0) : firstI (l.drop k) = firstI (l.drop (k + 1)) := by
  rw [List.drop_eq_getElem_cons h, firstI, if_pos hz]
theorem first_stop {l : List Int} {k : Nat} (h : k < l.length) (hz : l[k] ≠ 0) : firstI (l.drop k) = l[k] := by
  rw [List.drop_eq_getElem_cons h, firstI, if_neg hz]
set_option maxHeartbeats 2000000 in
set_option maxRecDepth 100000 in
theorem CheckC (x : Vs) (p : PolD) (w : World) (ht : Tab w) (hn : NevT w) (h : RdP w 0 w.heap.size x p) (hok : OkP p) : Calls Tryz.prog 22 #[polV x p] w fun e w' => e = .returned (.int .i64 (checkI p)) ∧ Below w.heap.size w w' := by
  obtain ⟨A1, c1, A2, c2, A3, c3, A4, c4, rfl, q1, q2, q3, q4, q5, q6, q7, q8⟩ := h.form
  have HA : Hid (∀ k (hk : k < 6) W, Below w.heap.size w W → Calls Tryz.prog (fnK k) #[.agg #[.slice A1 p.els.length c1, .slice A2 p.glob.length c2, .slice A3 p.schemes.length c3, .bool p.rel, .slice A4 p.drop.length c4, .int .i64 p.depth, .int .i64 p.window]] W fun e w' => e = .returned (.int .i64 ((codes p)[k]'hk)) ∧ Below W.heap.size W w') :=
    Lib.hid fun k hk W hW => askK k hk ⟨.slice A1 p.els.length c1, .slice A2 p.glob.length c2, .slice A3 p.schemes.length c3, .slice A4 p.drop.length c4⟩ p W (ht.below hW) (hn.below hW) ((h.stay (stay_below hW (Nat.le_refl _))).wide (Nat.le_refl _) hW.size) hok
  have HB : Hid (checkI p = firstI ((codes p).drop 0)) := Lib.hid rfl
  clear h ht hn hok
  unfold polV
  obtain ⟨X, hX⟩ : ∃ X, X = (w.alloc (.cells #[.slice A1 p.els.length c1, .slice A2 p.glob.length c2, .slice A3 p.schemes.length c3, .bool p.rel, .slice A4 p.drop.length c4, .int .i64 p.depth, .int .i64 p.window] 29)).alloc (.cells funcsA 36) := ⟨_, rfl⟩
  have hb0 : Below w.heap.size w X := hX ▸ ((Below.refl _ _).alloc (Nat.le_refl _) _).alloc (by simp) _
  have m1 : Bl X w.heap.size 29 [.slice A1 p.els.length c1, .slice A2 p.glob.length c2, .slice A3 p.schemes.length c3, .bool p.rel, .slice A4 p.drop.length c4, .int .i64 p.depth, .int .i64 p.window] := hX ▸ (Bl.new w _ _ rfl).alloc _
  have hz0 := hb0.size
  have hfb : X.heap[w.heap.size + 1]? = some (.cells funcsA 36 (0, 0)) := by rw [hX]; have := heap_alloc_new (w.alloc (.cells #[.slice A1 p.els.length c1, .slice A2 p.glob.length c2, .slice A3 p.schemes.length c3, .bool p.rel, .slice A4 p.drop.length c4, .int .i64 p.depth, .int .i64 p.window] 29)) (.cells funcsA 36); simpa using this
  have hsz : w.heap.size + 1 < X.heap.size := by rw [hX]; simp
  have HF : Hid (∀ W k (hk : k < 6), Below X.heap.size X W → W.cell? ⟨w.heap.size + 1, k, none⟩ = some (.func (.func (fnK k)) #[] #[])) := Lib.hid fun W k hk hW => by
    rw [hW.cell (p := ⟨w.heap.size + 1, k, none⟩) hsz]
    simp [World.cell?, hfb, funcsA_at k hk]
  have HX := Lib.hid hX
  have hbx := Below.refl X.heap.size X
  clear hX hfb
  go_enter Tryz.func22, Tryz.ntmps22
  go_wp2
  go_loopw [8] (fun i wr => ∃ k : Nat, k ≤ 6 ∧ i = .int .i64 k ∧ Hid (Below X.heap.size X wr ∧ checkI p = firstI ((codes p).drop k))) (fun i _ => 6 - (intOf i).toNat)
  case atStart => exact ⟨0, by omega, rfl, Lib.hid ⟨by rw [HX.out]; exact Below.refl _ _, HB.out⟩⟩
  case round =>
    obtain ⟨k, hk, rfl, hst⟩ := hrel
    by_cases hlt : k < 6
    · have m2 := m1.below hst.out.1
      have z0 := m2.cell 0 rfl
      have z1 := m2.cell 1 rfl
      have z2 := m2.cell 2 rfl
      have z3 := m2.cell 3 rfl
      have z4 := m2.cell 4 rfl
      have z5 := m2.cell 5 rfl
      have z6 := m2.cell 6 rfl
      have y0 := HF.out wr k hlt hst.out.1
      have eK := enterK k hlt
      have hbw := hb0.trans (hst.out.1.mono hz0)
      have hA := HA.out k hlt wr hbw
      obtain ⟨F, hF⟩ : ∃ F, F = fnK k := ⟨_, rfl⟩
      obtain ⟨c, hc⟩ : ∃ c, c = (codes p)[k]'hlt := ⟨_, rfl⟩
      rw [← hF] at y0 eK hA
      rw [← hc] at hA
      have HA2 := Lib.hid hA
      have HC := Lib.hid hc
      clear hA hF hc
      by_cases hz : c = 0
      · subst hz
        have hr : Hid (checkI p = firstI ((codes p).drop (k + 1))) := Lib.hid (by rw [hst.out.2]; exact first_zero (l := codes p) hlt HC.out.symm)
        go_wp2_with (go_at_fn F; refine HA2.out.mono ?_; rintro e w3 ⟨rfl, hb7⟩)
        go_roundw
        case rel => exact ⟨k + 1, by omega, by go_num, Lib.hid ⟨hst.out.1.trans (hb7.mono hst.out.1.size), hr.out⟩⟩
        case measure => simp [intOf] <;> omega
      · have hr : Hid (checkI p = c) := Lib.hid (by rw [hst.out.2, HC.out]; exact first_stop (l := codes p) hlt (by rw [← HC.out]; exact hz))
        have hz2 : (c != 0) = true := by simpa using hz
        go_wp2_with (go_at_fn F; refine HA2.out.mono ?_; rintro e w3 ⟨rfl, hb7⟩)
        go_ret
        exact ⟨rgi hr.out, hbw.trans (hb7.mono hbw.size)⟩
    · obtain rfl : k = 6 := by omega
      have hr : Hid (checkI p = 0) := Lib.hid hst.out.2
      go_wp2
      go_ret
      exact ⟨rgi hr.out, hb0.trans (hst.out.1.mono hz0)⟩
end Go.Proofs.YteikagdinecfoaaGreatDoor.Ch
