/- The program's Close: a policy with all that its elements need. -/
import Derived.Deep.AppendLies
import Derived.Test.YteikagdinecfoaaGreatDoorCn
import Derived.Test.YteikagdinecfoaaGreatDoorEs
set_option linter.unusedVariables false
set_option linter.unusedSimpArgs false
namespace Go.Proofs.YteikagdinecfoaaGreatDoor.Cl
open Go.RowKit Lb Gr Pd Fl Go.Proofs.YteikagdinecfoaaGreatDoor.Pm Bk Ru Co Is Sl Ha Go.Proofs.YteikagdinecfoaaGreatDoor.Nd Go.Proofs.YteikagdinecfoaaGreatDoor.So Go.Proofs.YteikagdinecfoaaGreatDoor.Cn
attribute [local go_sem ↓] Go.wp_at_zero Go.wp_at_succ

def lenV : Value → Nat
  | .slice _ n _ => n
  | _ => 0
/-- a row that lies between lo and wf's end stays, whatever is put to v -/
structure Sep (wf wr : World) (lo : Nat) (v : Value) : Prop where
  keep : ∀ k, lo ≤ k → k < wf.heap.size → wr.heap[k]? = wf.heap[k]?
  size : wf.heap.size ≤ wr.heap.size
  sep : ∀ b, v.ownBlock = some b → b < lo ∨ wf.heap.size ≤ b
theorem own_low' {w : World} {B : Nat} {v : Value} {l : List ByteArray} (h : Own w B v l) : ∀ b, v.ownBlock = some b → b < w.heap.size := fun b hb => by
  rcases h.2 with ⟨rfl, _⟩ | ⟨g, cap, cur, rfl, hbb, hg, _⟩
  · cases hb
  · cases hb; exact (Array.getElem?_eq_some_iff.1 hg).1
theorem Sep.start' {w wf : World} {B : Nat} {v : Value} {l : List ByteArray} (h : Own w B v l) : Sep wf wf w.heap.size v :=
  ⟨fun _ _ _ => rfl, Nat.le_refl _, fun b hb => .inl (own_low' h b hb)⟩
theorem Sep.below {wf wr w' : World} {lo : Nat} {v : Value} (h : Sep wf wr lo v) (hb : Below wr.heap.size wr w') : Sep wf w' lo v :=
  ⟨fun k h1 h2 => (hb.block k (Nat.lt_of_lt_of_le h2 h.size)).trans (h.keep k h1 h2), Nat.le_trans h.size hb.size, h.sep⟩
theorem Sep.push {wf wr w9 : World} {lo : Nat} {v v9 : Value} {o : Obj} (h : Sep wf wr lo v) (hg : (wr.alloc o).grownBy w9 v.ownBlock) (hr : v9.ownBlock = v.ownBlock ∨ v9.ownBlock = some (wr.alloc o).heap.size) : Sep wf w9 lo v9 := by
  have hs := h.size
  refine ⟨fun k h1 h2 => ?_, ?_, fun b hb => ?_⟩
  · rw [hg.block k (by simp; omega) (fun e => by have := h.sep k e.symm; omega), Below.heap_alloc _ _ _ (by omega)]
    exact h.keep k h1 h2
  · have := hg.size
    simp at this
    omega
  · rcases hr with e | e
    · exact h.sep b (by rw [← e]; exact hb)
    · rw [e] at hb
      cases hb
      right
      simp
      omega
/-- a text more, in a row of the call's own -/
theorem own_add {w1 : World} {B : Nat} {v' : Value} {m : List ByteArray} {y : ByteArray} (h : w1.ownsRow B 9 1 v' (m.length + 1) (m.map Value.string ++ [.string y])) : Own w1 B v' (m ++ [y]) := Own.push h
theorem rd_own {w : World} {B : Nat} {v : Value} {l : List ByteArray} (h : Own w B v l) : kdW.rd w 0 w.heap.size v l := kdW.read (F := v.ownBlock.toList) ⟨h, rfl⟩ (Nat.zero_le _) (Nat.le_refl _)
/-- an element more -/
theorem els_add {w w9 : World} {B : Nat} {x : Vs} {p : PolD} {T : List (It ElD)} {F2 F3 F4 : List Nat} {o : Obj} {v9 : Value} {n : ByteArray} (hT : T.map (·.a) = p.els) (ho : w.ownsRow B fmE.e fmE.size x.e T.length (fmE.cells T)) (hs : ∀ t ∈ T, fmE.kd.own w B t.v (fmE.sub t.a) t.G)
    (hn1 : (x.e.ownBlock.toList ++ outG T).Nodup) (h2 : kdR.own w B x.g p.glob F2) (h3 : kdW.own w B x.s p.schemes F3) (h4 : kdW.own w B x.d p.drop F4) (hn : ((x.e.ownBlock.toList ++ outG T) ++ (F2 ++ (F3 ++ F4))).Nodup)
    (h1 : w9.ownsRow B fmE.e fmE.size v9 (T.length + 1) (fmE.cells T ++ [.string n, .slice none 0 0]))
    (hg : (w.alloc o).grownBy w9 x.e.ownBlock) (hv : v9.ownBlock = x.e.ownBlock ∨ v9.ownBlock = some (w.alloc o).heap.size) (hB : B ≤ w.heap.size) :
    ∃ F', OwnP w9 B ⟨v9, x.g, x.s, x.d⟩ { p with els := p.els ++ [⟨n, []⟩] } F' ∧ ∀ k ∈ F', k ∈ ((x.e.ownBlock.toList ++ outG T) ++ (F2 ++ (F3 ++ F4))) ∨ w.heap.size < k := by
  have hq := fmE.push (t := ⟨⟨n, []⟩, .slice none 0 0, []⟩) ho hs hn1 (Below.refl _ _) hB ⟨[], rfl, World.ownsRow_nil _ _ _ _, by simp, rfl, by simp [Value.ownBlock, outG]⟩ h1 hg hv
  rw [hT] at hq
  have hd : ∀ k ∈ F2 ++ (F3 ++ F4), k ∉ x.e.ownBlock.toList ++ outG T := fun k hk hx => (List.nodup_append.1 hn).2.2 k hx k hk rfl
  have hst : ∀ k ∈ F2 ++ (F3 ++ F4), k < w.heap.size → w9.heap[k]? = w.heap[k]? := fun k hk hlt => by
    rw [hg.block k (by simp; omega) (fun e => hd k hk (List.mem_append_left _ (by rw [← e]; simp))), Below.heap_alloc _ _ _ hlt]
  have hsz : w.heap.size ≤ w9.heap.size := by have := hg.size; simp at this; omega
  have hG : outG (T ++ [⟨⟨n, []⟩, .slice none 0 0, []⟩]) = outG T := by simp [outG]
  rw [hG] at hq
  have hnew : ∀ k ∈ v9.ownBlock.toList ++ outG T, k ∈ x.e.ownBlock.toList ++ outG T ∨ w.heap.size < k := fun k hk => by
    rcases List.mem_append.1 hk with hk | hk
    · rcases hv with e | e
      · rw [e] at hk; exact .inl (List.mem_append_left _ hk)
      · rw [e] at hk; simp at hk; right; omega
    · exact .inl (List.mem_append_right _ hk)
  have hl : ∀ k ∈ F2 ++ (F3 ++ F4), k < w.heap.size := fun k hk => by
    rcases List.mem_append.1 hk with hk | hk
    · exact (kdR.ge h2 k hk).2
    · rcases List.mem_append.1 hk with hk | hk
      · exact (kdW.ge h3 k hk).2
      · exact (kdW.ge h4 k hk).2
  refine ⟨_, ⟨_, F2, F3, F4, hq, kdR.keep h2 hsz fun k hk => hst k (by simp [hk]) (kdR.ge h2 k hk).2, kdW.keep h3 hsz fun k hk => hst k (by simp [hk]) (kdW.ge h3 k hk).2, kdW.keep h4 hsz fun k hk => hst k (by simp [hk]) (kdW.ge h4 k hk).2, rfl, ?_⟩, ?_⟩
  · refine List.nodup_append.2 ⟨fmE.kind.nodup hq, (List.nodup_append.1 hn).2.1, fun a ha b hb e => ?_⟩
    subst e
    rcases hnew a ha with h | h
    · exact hd a hb h
    · have := hl a hb; omega
  · intro k hk
    rcases List.mem_append.1 hk with hk | hk
    · rcases hnew k hk with h | h
      · exact .inl (List.mem_append_left _ h)
      · exact .inr h
    · exact .inl (List.mem_append_right _ hk)
theorem eblock {w : World} {B : Nat} {x : Vs} {p : PolD} {F : List Nat} (h : OwnP w B x p F) : ∀ b, x.e.ownBlock = some b → b ∈ F := by
  obtain ⟨F1, F2, F3, F4, ⟨T, hT, ho, hs, rfl, hn1⟩, h2, h3, h4, rfl, hn⟩ := h
  intro b hb
  rw [hb]
  simp
theorem Sep.set {wf wr : World} {lo : Nat} {v : Value} (h : Sep wf wr lo v) {p : Addr} (hp : p.block < lo) (u : Value) : Sep wf (wr.setCell p u) lo v :=
  ⟨fun k h1 h2 => (Below.heap_setCell wr p u k (by omega)).trans (h.keep k h1 h2), by simp [World.setCell]; exact h.size, h.sep⟩
/-- closed, the first j of what is needed put to it -/
def clK (p : PolD) (m : List ByteArray) (j : Nat) : PolD := { p with els := p.els ++ ((srt m).take j).map fun n => (⟨n, []⟩ : ElD) }
theorem clK_zero (p : PolD) (m : List ByteArray) : clK p m 0 = p := by unfold clK; simp
theorem clK_all (p : PolD) (m : List ByteArray) : clK p m m.length = closeP p m := by unfold clK closeP; rw [← srt_len, List.take_length]
theorem clK_succ {p : PolD} {m : List ByteArray} {j : Nat} (h : j < (srt m).length) : clK p m (j + 1) = { clK p m j with els := (clK p m j).els ++ [⟨(srt m)[j], []⟩] } := by
  unfold clK
  rw [List.take_succ_eq_append_getElem h, List.map_append, ← List.append_assoc]
  rfl
theorem clK_len {p : PolD} {m : List ByteArray} {j : Nat} (h : j ≤ m.length) : (clK p m j).els.length = p.els.length + j := by
  unfold clK
  have := srt_len m
  simp
  omega

set_option maxHeartbeats 8000000 in
set_option maxRecDepth 100000 in
theorem closeC (x : Vs) (p : PolD) (w : World) (ht : Tab w) (h : RdP w 0 w.heap.size x p) (hf : FitP p) (hl : (p.els.length + 9) * 40 ≤ 140737488355328) : Calls Tryz.prog 39 #[polV x p] w fun e w' =>
    ∃ m y F, Full (nms p) m ∧ e = .returned (polV y (closeP p m)) ∧ OwnP w' w.heap.size y (closeP p m) F ∧ Below w.heap.size w w' := by
  obtain ⟨i0, hi, iz0, iz1, iz2⟩ := info_parts infoEl
  obtain ⟨j0, hj', jw0, jw1, jw2⟩ := info_parts infoStr
  obtain ⟨A1, c1, A2, c2, A3, c3, A4, c4, rfl, q1, q2, q3, q4, q5, q6, q7, q8⟩ := h.form
  have hrd : ∀ W, Below w.heap.size w W → RdP W 0 W.heap.size ⟨.slice A1 p.els.length c1, .slice A2 p.glob.length c2, .slice A3 p.schemes.length c3, .slice A4 p.drop.length c4⟩ p := fun W hW => (h.stay (stay_below hW (Nat.le_refl _))).wide (Nat.le_refl _) hW.size
  have hm : maxLen = 9223372036854775807 := rfl
  have HCP : Hid (∀ W, Below w.heap.size w W → Calls Tryz.prog 89 #[polV ⟨.slice A1 p.els.length c1, .slice A2 p.glob.length c2, .slice A3 p.schemes.length c3, .slice A4 p.drop.length c4⟩ p] W fun e w' => ∃ D1 e1 D2 e2 D3 e3 D4 e4 F, e = .returned (.agg #[.slice D1 p.els.length e1, .slice D2 p.glob.length e2, .slice D3 p.schemes.length e3, .bool p.rel, .slice D4 p.drop.length e4, .int .i64 p.depth, .int .i64 p.window]) ∧ OwnP w' W.heap.size ⟨.slice D1 p.els.length e1, .slice D2 p.glob.length e2, .slice D3 p.schemes.length e3, .slice D4 p.drop.length e4⟩ p F ∧ Below W.heap.size W w') := Lib.hid fun W hW => (copiedC _ p W (hrd W hW) hf).mono fun e w' ⟨y, F, he, ho, hb⟩ => by
    obtain ⟨D1, e1, D2, e2, D3, e3, D4, e4, rfl, _⟩ := (ho.rd (lo := 0) (hi := w'.heap.size) (Nat.zero_le _) (Nat.le_refl _)).form
    exact ⟨D1, e1, D2, e2, D3, e3, D4, e4, F, he, ho, hb⟩
  have HND : Hid (∀ W s, Below w.heap.size w W → Calls Tryz.prog 42 #[.string s] W fun e w' => ∃ A c G, e = .returned (.slice A (needsL s).length c) ∧ kdW.own w' W.heap.size (.slice A (needsL s).length c) (needsL s) G ∧ Below W.heap.size W w') := Lib.hid fun W s hW => NeedsC s W (ht.below hW)
  have HHS : Hid (∀ W s, Below w.heap.size w W → Calls Tryz.prog 93 #[.agg #[.slice A1 p.els.length c1, .slice A2 p.glob.length c2, .slice A3 p.schemes.length c3, .bool p.rel, .slice A4 p.drop.length c4, .int .i64 p.depth, .int .i64 p.window], .string s] W fun e w' => e = .returned (.bool (hasT (nms p) s)) ∧ Below W.heap.size W w') := Lib.hid fun W s hW => by
    rw [← hasE_nms]
    exact hasC A1 A2 A3 A4 _ _ _ _ _ _ _ _ _ _ _ s p.els W (hrd W hW).1 (by omega)
  have HCT : Hid (∀ W B A c (m : List ByteArray) s, Own W B (.slice A m.length c) m → m.length ≤ 9 → Calls Tryz.prog 87 #[.slice A m.length c, .string s] W fun e w' => e = .returned (.bool (hasT m s)) ∧ W = w') := Lib.hid fun W B A c m s ho hn => libContains (rd_own ho) (by omega) s
  have HCL : Hid (∀ W B A c (m : List ByteArray), Own W B (.slice A m.length c) m → m.length ≤ 9 → Calls Tryz.prog 94 #[.slice A m.length c] W fun e w' => ∃ u G, e = .returned u ∧ kdW.own w' W.heap.size u m G ∧ Below W.heap.size W w') := Lib.hid fun W B A c m ho hn => libClone (rd_own ho) (by omega)
  have HSO : Hid (∀ W B A c (m : List ByteArray), Own W B (.slice A m.length c) m → m.length ≤ 9 → Calls Tryz.prog 95 #[.slice A m.length c] W fun e w' => e = .returned (.tuple #[]) ∧ Own w' B (.slice A m.length c) (srt m) ∧ W.grownBy w' (Value.slice A m.length c).ownBlock) := Lib.hid fun W B A c m ho hn => by
    have h1 := libSort (l := m.map fun s => s.data.toList) (A := A) (n := m.length) (c := c) (B := B) (w := W) (by rw [str_bts]; exact ho) (by simp; omega)
    rw [str_bts] at h1
    exact h1
  have HRD : Hid (∀ W, Below w.heap.size w W → kdE.rd W 0 w.heap.size (.slice A1 p.els.length c1) p.els) := Lib.hid fun W hW => (h.stay (stay_below hW (Nat.le_refl _))).1
  have hn : (p.els.length : Int) ≤ 9223372036854775807 := by omega
  obtain ⟨N, hN⟩ : ∃ N, N = nms p := ⟨_, rfl⟩
  rw [← hN] at HHS
  have hNl : N.length = p.els.length := by rw [hN]; simp [nms]
  have HNK : Hid (∀ k (h : k < p.els.length) (h2 : k < N.length), N[k] = p.els[k].name) := Lib.hid (by subst hN; intro k h h2; simp [nms])
  unfold polV at HCP ⊢
  simp only at HCP
  clear h hf ht hrd q1 q2 q3 q4 q5 q6 q7 q8
  obtain ⟨W0, hW0⟩ : ∃ W, W = (w.alloc (.cells #[.slice A1 p.els.length c1, .slice A2 p.glob.length c2, .slice A3 p.schemes.length c3, .bool p.rel, .slice A4 p.drop.length c4, .int .i64 p.depth, .int .i64 p.window] 29)).alloc (.cells #[.slice none 0 0, .slice none 0 0, .slice none 0 0, .bool false, .slice none 0 0, .int .i64 0, .int .i64 0] 29) := ⟨_, rfl⟩
  have hb0 : Below w.heap.size w W0 := hW0 ▸ ((Below.refl _ _).alloc (Nat.le_refl _) _).alloc (by simp) _
  have hs0 : W0.heap.size = w.heap.size + 2 := by rw [hW0]; simp
  have k0 : Bl W0 w.heap.size 29 [.slice A1 p.els.length c1, .slice A2 p.glob.length c2, .slice A3 p.schemes.length c3, .bool p.rel, .slice A4 p.drop.length c4, .int .i64 p.depth, .int .i64 p.window] := hW0 ▸ (Bl.new w _ _ rfl).alloc _
  have k1 : Bl W0 (w.heap.size + 1) 29 [.slice none 0 0, .slice none 0 0, .slice none 0 0, .bool false, .slice none 0 0, .int .i64 0, .int .i64 0] := hW0 ▸ Bl.new _ _ _ (by simp)
  have g0 := k0.cell 0 rfl
  have g1 := k0.cell 1 rfl
  have g2 := k0.cell 2 rfl
  have g3 := k0.cell 3 rfl
  have g4 := k0.cell 4 rfl
  have g5 := k0.cell 5 rfl
  have g6 := k0.cell 6 rfl
  have HX0 := Lib.hid hW0
  clear hW0 hm
  go_enter Tryz.func39, Tryz.ntmps39
  go_upto_region 1 with fail
  rw [← HX0.out]
  go_upto_region 2 with (go_at_call 89; refine (HCP.out _ hb0).mono ?_; rintro e w1 ⟨D1, e1, D2, e2, D3, e3, D4, e4, F, rfl, ho1, hb1⟩)
  obtain ⟨W1, hW1⟩ : ∃ W, W = w1.alloc (.cells #[.slice D1 p.els.length e1, .slice D2 p.glob.length e2, .slice D3 p.schemes.length e3, .bool p.rel, .slice D4 p.drop.length e4, .int .i64 p.depth, .int .i64 p.window] 29) := ⟨_, rfl⟩
  have hc1 : Below W0.heap.size W0 W1 := hW1 ▸ hb1.alloc hb1.size _
  have k3 : Bl W1 w1.heap.size 29 [.slice D1 p.els.length e1, .slice D2 p.glob.length e2, .slice D3 p.schemes.length e3, .bool p.rel, .slice D4 p.drop.length e4, .int .i64 p.depth, .int .i64 p.window] := hW1 ▸ Bl.new w1 _ _ rfl
  have hz1 := hb1.size
  have hs1 : W1.heap.size = w1.heap.size + 1 := by rw [hW1]; simp
  have hoF : OwnP W1 W0.heap.size ⟨.slice D1 p.els.length e1, .slice D2 p.glob.length e2, .slice D3 p.schemes.length e3, .slice D4 p.drop.length e4⟩ p F := ho1.keep (by omega) fun j hj => by rw [hW1]; exact Below.heap_alloc _ _ _ (ho1.ge j hj).2
  have hFl : ∀ k ∈ F, k < w1.heap.size := fun k hk => (ho1.ge k hk).2
  have HX1 := Lib.hid hW1
  rw [← hW1]
  clear hW1 ho1 g0 g1 g2 g3 g4 g5 g6
  have j0' := k0.below hc1
  have j1' := k1.below hc1
  have hw1' : Below w.heap.size w W1 := hb0.trans (hc1.mono hb0.size)
  have hzw := hw1'.size
  have HP : Hid (∀ W, Below W1.heap.size W1 W → Below w.heap.size w W ∧ (W.cell? ⟨w.heap.size, 0, none⟩ = some (.slice A1 p.els.length c1) ∧ W.cell? ⟨w.heap.size, 1, none⟩ = some (.slice A2 p.glob.length c2) ∧ W.cell? ⟨w.heap.size, 2, none⟩ = some (.slice A3 p.schemes.length c3) ∧ W.cell? ⟨w.heap.size, 3, none⟩ = some (.bool p.rel) ∧ W.cell? ⟨w.heap.size, 4, none⟩ = some (.slice A4 p.drop.length c4) ∧ W.cell? ⟨w.heap.size, 5, none⟩ = some (.int .i64 p.depth) ∧ W.cell? ⟨w.heap.size, 6, none⟩ = some (.int .i64 p.window))) := Lib.hid fun W hW => by
    have j0 := j0'.below hW
    exact ⟨hw1'.trans (hW.mono hzw), j0.cell 0 rfl, j0.cell 1 rfl, j0.cell 2 rfl, j0.cell 3 rfl, j0.cell 4 rfl, j0.cell 5 rfl, j0.cell 6 rfl⟩
  have g0 := j0'.cell 0 rfl
  obtain ⟨B1, hB1⟩ : ∃ B, B = W1.heap.size := ⟨_, rfl⟩
  go_wp2
  go_loopw [4, 21] (fun v4 i wr => ∃ (k : Nat) (m : List ByteArray), k ≤ p.els.length ∧ i = .int .i64 k ∧ Hid (Own wr B1 v4 m ∧ Iv N m ∧ Dn N m (N.take k)) ∧ Below W1.heap.size W1 wr) (fun _ i _ => p.els.length - (intOf i).toNat)
  case atStart => exact ⟨0, [], by omega, rfl, Lib.hid ⟨Own.nil _ _, Iv.nil _, by rw [List.take_zero]; exact Dn.nil _ _⟩, Below.refl _ _⟩
  case round =>
    clear g0
    obtain ⟨k, m, hk, rfl, hst, hnx⟩ := hrel
    obtain ⟨hwr, g0, g1, g2, g3, g4, g5, g6⟩ := HP.out _ hnx
    by_cases hlt : k < p.els.length
    · obtain ⟨b, off, u, rfl, _, hb2, hu, hcell⟩ := fmE.rd_at (HRD.out _ hwr) hlt
      have x0 := hcell 0 _ rfl
      have x1 := hcell 1 _ rfl
      rw [show off + (k * fmE.size + 0) = off + k * 2 from rfl] at x0
      rw [show off + (k * fmE.size + 1) = off + k * 2 + 1 from by show off + (k * 2 + 1) = _; omega] at x1
      obtain ⟨A5, c5, rfl, _⟩ := fmR.rd_form hu
      have hk0 : (0 : Int) ≤ (k : Int) := by omega
      have hk1 : (k : Int) < (p.els.length : Int) := by omega
      have hkN : k < N.length := by omega
      have hnk := Lib.hid (HNK.out k hlt hkN)
      obtain ⟨nm, hnm⟩ : ∃ nm, nm = p.els[k].name := ⟨_, rfl⟩
      rw [← hnm] at x0 hnk
      clear hcell hu hnm
      go_upto_region 6 with fail
      obtain ⟨W2, hW2⟩ : ∃ W, W = wr.alloc (.cells #[.string nm, .slice A5 (fmE.sub p.els[k]).length c5] 45) := ⟨_, rfl⟩
      have hb3 : Below wr.heap.size wr W2 := hW2 ▸ (Below.refl _ _).alloc (Nat.le_refl _) _
      have k5 : Bl W2 wr.heap.size 45 [.string nm, .slice A5 (fmE.sub p.els[k]).length c5] := hW2 ▸ Bl.new wr _ _ rfl
      have y0 := k5.cell 0 rfl
      rw [← hW2]
      have HX2 := Lib.hid hW2
      clear hW2 x0 x1
      have hzr := hnx.size
      have hn2 : Below W1.heap.size W1 W2 := hnx.trans (hb3.mono hzr)
      have hst2 : Hid (Own W2 B1 u4 m ∧ Iv N m ∧ Dn N m (N.take k)) := Lib.hid ⟨hst.out.1.below hb3, hst.out.2⟩
      have hw2 := (HP.out _ hn2).1
      go_wp2_with (go_at_call 42; refine (HND.out _ nm hw2).mono ?_; rintro e w4 ⟨A6, c6, G6, rfl, ho6, hb4⟩)
      have hn4 : Below W1.heap.size W1 w4 := hn2.trans (hb4.mono hn2.size)
      have hrow : kdW.rd w4 W2.heap.size w4.heap.size (.slice A6 (needsL nm).length c6) (needsL nm) := kdW.read ho6 (Nat.le_refl _) (Nat.le_refl _)
      have hsep : Hid (Sep w4 w4 W2.heap.size u4) := Lib.hid (Sep.start' hst2.out.1)
      have h5 := needs_len nm
      have hst4 : Hid (Own w4 B1 u4 m ∧ Iv N m ∧ Dn N m (N.take k) ∧ Hd N m (needsL nm) 0) := Lib.hid ⟨hst2.out.1.below hb4, hst2.out.2.1, hst2.out.2.2, Hd.zero _ _ _⟩
      have HROW := Lib.hid hrow
      clear hrow ho6 hst2 hst y0
      go_loopw [4, 29] (fun v4 i wr => ∃ (j : Nat) (m3 : List ByteArray), j ≤ (needsL nm).length ∧ i = .int .i64 j ∧ Hid (Own wr B1 v4 m3 ∧ Iv N m3 ∧ Dn N m3 (N.take k) ∧ Hd N m3 (needsL nm) j) ∧ Hid (Sep w4 wr W2.heap.size v4) ∧ Below W1.heap.size W1 wr) (fun _ i _ => (needsL nm).length - (intOf i).toNat)
      case atStart => exact ⟨0, m, by omega, rfl, hst4, hsep, hn4⟩
      case round =>
        clear hst4 hsep g0 g1 g2 g3 g4 g5 g6
        obtain ⟨j, m3, hj, rfl, hin, hse, hnx⟩ := hrel
        obtain ⟨hwr, g0, g1, g2, g3, g4, g5, g6⟩ := HP.out _ hnx
        obtain ⟨A7, c7, rfl⟩ := hin.out.1.form
        by_cases hltj : j < (needsL nm).length
        · obtain ⟨b2, off2, rfl, _, _, hcl⟩ := rdW_at (kdW.stay HROW.out hse.out.keep) hltj
          obtain ⟨y, hy⟩ : ∃ y, y = (needsL nm)[j] := ⟨_, rfl⟩
          have hyN : y ∈ needsL nm := hy ▸ List.getElem_mem _
          have HY := Lib.hid hy
          rw [← hy] at hcl
          have hj0 : (0 : Int) ≤ (j : Int) := by omega
          have hj1 : (j : Int) < ((needsL nm).length : Int) := by omega
          have hm9 := hin.out.2.1.len
          have r1 : m3.length + 1 ≤ maxLen := by unfold maxLen; omega
          have r2 : (m3.length + 1) * 16 ≤ 140737488355328 := by omega
          have hzr := hnx.size
          have HH := HHS.out _ y hwr
          have HCC := HCT.out _ B1 A7 c7 m3 y hin.out.1 hm9
          clear hy
          cases q1 : hasT N y
          · rw [q1] at HH
            have HH2 := Lib.hid HH
            clear HH
            cases q2 : hasT m3 y
            · have HC2 : Hid (∀ W, Below _ _ W → Calls Tryz.prog 87 #[.slice A7 m3.length c7, .string y] W fun e w' => e = .returned (.bool false) ∧ W = w') := Lib.hid fun W hW => by rw [← q2]; exact HCT.out W B1 A7 c7 m3 y (hin.out.1.below hW) hm9
              clear HCC
              go_wp2_with (first
                | (go_at_call 93; go_loud (refine HH2.out.mono ?_; rintro e w8 ⟨rfl, hb8⟩; have how := hin.out.1.below hb8; have hz8 := hb8.size))
                | (go_at_call 87; go_loud (refine (HC2.out _ hb8).mono ?_; rintro e w8' ⟨rfl, rfl⟩))
                | (at_builtin; go_loud (refine wpList_append_src _ rfl (.tmp 43) (.tmp 45) 27 rfl B1 9 j0 _ 1 16 Tryz.underlying27 hj' jw0 jw1 jw2 rfl (by decide) _ _ _ rfl (how.alloc _) (some ⟨w8.heap.size, 0, none⟩) 1 1 [.string y] rfl rfl (news_src w8 _ _) (by simp [Value.oneCell']) r1 r2 (by simp; omega) ?_; intro v9 w9 hown9 hgrow9 hrow9)))
              have hn9 : Below W1.heap.size W1 w9 := ((hnx.trans (hb8.mono hzr)).alloc (by omega) _).grown hgrow9 (by simp; omega) (fun j hj => by rw [← hB1]; exact how.ge j hj)
              have hnew : Hid (Own w9 B1 v9 (m3 ++ [y]) ∧ Iv N (m3 ++ [y]) ∧ Dn N (m3 ++ [y]) (N.take k) ∧ Hd N (m3 ++ [y]) (needsL nm) (j + 1)) := Lib.hid ⟨Own.push hown9, hin.out.2.1.add (.inl (hnk.out ▸ List.getElem_mem hkN)) hyN q1 q2, hin.out.2.2.1.more (fun x hx => List.mem_append_left _ hx), by rw [HY.out]; exact hin.out.2.2.2.add hltj⟩
              have hse9 : Hid (Sep w4 w9 W2.heap.size v9) := Lib.hid ((hse.out.below hb8).push hgrow9 hrow9)
              clear hown9 hgrow9 hrow9 how
              go_roundw
              case rel => exact ⟨j + 1, _, by omega, by go_num, hnew, hse9, hn9⟩
              case measure => simp [intOf] <;> omega
            · rw [q2] at HCC
              have HC2 : Hid (∀ W, Below _ _ W → Calls Tryz.prog 87 #[.slice A7 m3.length c7, .string y] W fun e w' => e = .returned (.bool true) ∧ W = w') := Lib.hid fun W hW => by rw [← q2]; exact HCT.out W B1 A7 c7 m3 y (hin.out.1.below hW) hm9
              clear HCC
              go_wp2_with (first | (go_at_call 93; refine HH2.out.mono ?_; rintro e w8 ⟨rfl, hb8⟩) | (go_at_call 87; refine (HC2.out _ hb8).mono ?_; rintro e w8' ⟨rfl, rfl⟩))
              have hn8 : Below W1.heap.size W1 w8 := hnx.trans (hb8.mono hzr)
              have hnew : Hid (Own w8 B1 (.slice A7 m3.length c7) m3 ∧ Iv N m3 ∧ Dn N m3 (N.take k) ∧ Hd N m3 (needsL nm) (j + 1)) := Lib.hid ⟨hin.out.1.below hb8, hin.out.2.1, hin.out.2.2.1, hin.out.2.2.2.had hltj (by rw [← HY.out]; exact (.inr q2))⟩
              have hse9 : Hid (Sep w4 w8 W2.heap.size (.slice A7 m3.length c7)) := Lib.hid (hse.out.below hb8)
              go_roundw
              case rel => exact ⟨j + 1, _, by omega, by go_num, hnew, hse9, hn8⟩
              case measure => simp [intOf] <;> omega
          · rw [q1] at HH
            have HH2 := Lib.hid HH
            clear HH HCC
            go_wp2_with (go_at_call 93; refine HH2.out.mono ?_; rintro e w8 ⟨rfl, hb8⟩)
            have hn8 : Below W1.heap.size W1 w8 := hnx.trans (hb8.mono hzr)
            have hnew : Hid (Own w8 B1 (.slice A7 m3.length c7) m3 ∧ Iv N m3 ∧ Dn N m3 (N.take k) ∧ Hd N m3 (needsL nm) (j + 1)) := Lib.hid ⟨hin.out.1.below hb8, hin.out.2.1, hin.out.2.2.1, hin.out.2.2.2.had hltj (by rw [← HY.out]; exact (.inl q1))⟩
            have hse9 : Hid (Sep w4 w8 W2.heap.size (.slice A7 m3.length c7)) := Lib.hid (hse.out.below hb8)
            go_roundw
            case rel => exact ⟨j + 1, _, by omega, by go_num, hnew, hse9, hn8⟩
            case measure => simp [intOf] <;> omega
        · obtain rfl : j = (needsL nm).length := by omega
          go_wp2
          go_roundw
          case rel => exact ⟨k + 1, m3, by omega, by go_num, Lib.hid ⟨hin.out.1, hin.out.2.1, hin.out.2.2.1.next hkN (by rw [hnk.out]; exact hin.out.2.2.2)⟩, hnx⟩
          case measure => simp [intOf] <;> omega
    · obtain rfl : k = p.els.length := by omega
      have hstN : Hid (Own wr B1 u4 m ∧ Iv N m ∧ Dn N m N) := Lib.hid ⟨hst.out.1, hst.out.2.1, by have h9 := hst.out.2.2; rwa [List.take_of_length_le (by omega)] at h9⟩
      clear hst
      go_wp2
      go_loopw [4] (fun v4 wr => ∃ m, Hid (Own wr B1 v4 m ∧ Iv N m ∧ Dn N m N) ∧ Below W1.heap.size W1 wr) (fun v _ => 10 - lenV v)
      case atStart => exact ⟨m, hstN, hnx⟩
      case round =>
        clear g0 g1 g2 g3 g4 g5 g6 hstN hnx hwr
        obtain ⟨m, hst, hnx⟩ := hrel
        obtain ⟨A6, c6, rfl⟩ := hst.out.1.form
        have hm9 := hst.out.2.1.len
        have hwr := (HP.out _ hnx).1
        have hzr := hnx.size
        obtain ⟨lo4, hlo4⟩ : ∃ lo4, lo4 = wr.heap.size := ⟨_, rfl⟩
        go_wp2_with (go_at_call 94; refine (HCL.out _ B1 A6 c6 m hst.out.1 hm9).mono ?_; rintro e w4 ⟨u, G, rfl, hou, hb4⟩; obtain ⟨A8, c8, rfl, _⟩ := own_slice hou.1)
        have hn4 : Below W1.heap.size W1 w4 := hnx.trans (hb4.mono hzr)
        have hrow : kdW.rd w4 lo4 w4.heap.size (.slice A8 m.length c8) m := kdW.read hou (by omega) (Nat.le_refl _)
        have hst4 : Hid (Own w4 B1 (.slice A6 m.length c6) m ∧ Iv N m ∧ Dn N m N ∧ Dn N m (m.take 0) ∧ m <+: m) := Lib.hid ⟨hst.out.1.below hb4, hst.out.2.1, hst.out.2.2, by rw [List.take_zero]; exact Dn.nil _ _, List.prefix_refl _⟩
        have hsep : Hid (Sep w4 w4 lo4 (.slice A6 m.length c6)) := Lib.hid (by rw [hlo4]; exact Sep.start' hst.out.1)
        have HROW4 := Lib.hid hrow
        clear hrow hou hst
        go_loopw [4, 54] (fun v4 i wr => ∃ (k : Nat) (m2 : List ByteArray), k ≤ m.length ∧ i = .int .i64 k ∧ Hid (Own wr B1 v4 m2 ∧ Iv N m2 ∧ Dn N m2 N ∧ Dn N m2 (m.take k) ∧ m <+: m2) ∧ Hid (Sep w4 wr lo4 v4) ∧ Below W1.heap.size W1 wr) (fun _ i _ => m.length - (intOf i).toNat)
        case atStart => exact ⟨0, m, by omega, rfl, hst4, hsep, hn4⟩
        case round =>
          clear hst4 hsep
          obtain ⟨k, m2, hk, rfl, hst, hse, hnx⟩ := hrel
          obtain ⟨A7, c7, rfl⟩ := hst.out.1.form
          have hwr := (HP.out _ hnx).1
          have hzr := hnx.size
          by_cases hlt : k < m.length
          · obtain ⟨b, off, rfl, _, _, hcx⟩ := rdW_at (kdW.stay HROW4.out hse.out.keep) hlt
            obtain ⟨nm, hnm⟩ : ∃ nm, nm = m[k] := ⟨_, rfl⟩
            have hnm2 : nm ∈ m := hnm ▸ List.getElem_mem _
            have HNM := Lib.hid hnm
            rw [← hnm] at hcx
            have hk0 : (0 : Int) ≤ (k : Int) := by omega
            have hk1 : (k : Int) < (m.length : Int) := by omega
            clear hnm
            obtain ⟨lo5, hlo5⟩ : ∃ lo5, lo5 = wr.heap.size := ⟨_, rfl⟩
            go_wp2_with (go_at_call 42; refine (HND.out _ nm hwr).mono ?_; rintro e w5 ⟨A5, c5, G5, rfl, ho5, hb5⟩)
            have hn5 : Below W1.heap.size W1 w5 := hnx.trans (hb5.mono hzr)
            have hrow : kdW.rd w5 lo5 w5.heap.size (.slice A5 (needsL nm).length c5) (needsL nm) := kdW.read ho5 (by omega) (Nat.le_refl _)
            have h5 := needs_len nm
            have hst5 : Hid (Own w5 B1 (.slice A7 m2.length c7) m2 ∧ Iv N m2 ∧ Dn N m2 N ∧ Dn N m2 (m.take k) ∧ m <+: m2 ∧ Hd N m2 (needsL nm) 0) := Lib.hid ⟨hst.out.1.below hb5, hst.out.2.1, hst.out.2.2.1, hst.out.2.2.2.1, hst.out.2.2.2.2, Hd.zero _ _ _⟩
            have hsep5 : Hid (Sep w4 w5 lo4 (.slice A7 m2.length c7) ∧ Sep w5 w5 lo5 (.slice A7 m2.length c7)) := Lib.hid ⟨hse.out.below hb5, by rw [hlo5]; exact Sep.start' hst.out.1⟩
            have HROW5 := Lib.hid hrow
            clear hrow ho5 hst hse hcx
            go_loopw [4, 61] (fun v4 i wr => ∃ (j : Nat) (m3 : List ByteArray), j ≤ (needsL nm).length ∧ i = .int .i64 j ∧ Hid (Own wr B1 v4 m3 ∧ Iv N m3 ∧ Dn N m3 N ∧ Dn N m3 (m.take k) ∧ m <+: m3 ∧ Hd N m3 (needsL nm) j) ∧ Hid (Sep w4 wr lo4 v4 ∧ Sep w5 wr lo5 v4) ∧ Below W1.heap.size W1 wr) (fun _ i _ => (needsL nm).length - (intOf i).toNat)
            case atStart => exact ⟨0, m2, by omega, rfl, hst5, hsep5, hn5⟩
            case round =>
              clear hst5 hsep5
              obtain ⟨j, m3, hj, rfl, hin, hse, hnx⟩ := hrel
              obtain ⟨hwr, g0, g1, g2, g3, g4, g5, g6⟩ := HP.out _ hnx
              obtain ⟨A7, c7, rfl⟩ := hin.out.1.form
              by_cases hltj : j < (needsL nm).length
              · obtain ⟨b2, off2, rfl, _, _, hcl⟩ := rdW_at (kdW.stay HROW5.out hse.out.2.keep) hltj
                obtain ⟨y, hy⟩ : ∃ y, y = (needsL nm)[j] := ⟨_, rfl⟩
                have hyN : y ∈ needsL nm := hy ▸ List.getElem_mem _
                have HY := Lib.hid hy
                rw [← hy] at hcl
                have hj0 : (0 : Int) ≤ (j : Int) := by omega
                have hj1 : (j : Int) < ((needsL nm).length : Int) := by omega
                have hm9 := hin.out.2.1.len
                have r1 : m3.length + 1 ≤ maxLen := by unfold maxLen; omega
                have r2 : (m3.length + 1) * 16 ≤ 140737488355328 := by omega
                have hzr := hnx.size
                have HH := HHS.out _ y hwr
                have HCC := HCT.out _ B1 A7 c7 m3 y hin.out.1 hm9
                clear hy
                cases q1 : hasT N y
                · rw [q1] at HH
                  have HH2 := Lib.hid HH
                  clear HH
                  cases q2 : hasT m3 y
                  · have HC2 : Hid (∀ W, Below _ _ W → Calls Tryz.prog 87 #[.slice A7 m3.length c7, .string y] W fun e w' => e = .returned (.bool false) ∧ W = w') := Lib.hid fun W hW => by rw [← q2]; exact HCT.out W B1 A7 c7 m3 y (hin.out.1.below hW) hm9
                    clear HCC
                    go_wp2_with (first
                      | (go_at_call 93; refine HH2.out.mono ?_; rintro e w8 ⟨rfl, hb8⟩; have how := hin.out.1.below hb8; have hz8 := hb8.size)
                      | (go_at_call 87; refine (HC2.out _ hb8).mono ?_; rintro e w8' ⟨rfl, rfl⟩)
                      | (at_builtin; refine wpList_append_src _ rfl (.tmp 75) (.tmp 77) 27 rfl B1 9 j0 _ 1 16 Tryz.underlying27 hj' jw0 jw1 jw2 rfl (by decide) _ _ _ rfl (how.alloc _) (some ⟨w8.heap.size, 0, none⟩) 1 1 [.string y] rfl rfl (news_src w8 _ _) (by simp [Value.oneCell']) r1 r2 (by simp; omega) ?_; intro v9 w9 hown9 hgrow9 hrow9))
                    have hn9 : Below W1.heap.size W1 w9 := ((hnx.trans (hb8.mono hzr)).alloc (by omega) _).grown hgrow9 (by simp; omega) (fun j hj => by rw [← hB1]; exact how.ge j hj)
                    have hnew : Hid (Own w9 B1 v9 (m3 ++ [y]) ∧ Iv N (m3 ++ [y]) ∧ Dn N (m3 ++ [y]) N ∧ Dn N (m3 ++ [y]) (m.take k) ∧ m <+: (m3 ++ [y]) ∧ Hd N (m3 ++ [y]) (needsL nm) (j + 1)) := Lib.hid ⟨Own.push hown9, hin.out.2.1.add (.inr (hin.out.2.2.2.2.1.subset hnm2)) hyN q1 q2, hin.out.2.2.1.more (fun x hx => List.mem_append_left _ hx), hin.out.2.2.2.1.more (fun x hx => List.mem_append_left _ hx), hin.out.2.2.2.2.1.trans (List.prefix_append _ _), by rw [HY.out]; exact hin.out.2.2.2.2.2.add hltj⟩
                    have hse9 : Hid (Sep w4 w9 lo4 v9 ∧ Sep w5 w9 lo5 v9) := Lib.hid ⟨(hse.out.1.below hb8).push hgrow9 hrow9, (hse.out.2.below hb8).push hgrow9 hrow9⟩
                    clear hown9 hgrow9 hrow9 how
                    go_roundw
                    case rel => exact ⟨j + 1, _, by omega, by go_num, hnew, hse9, hn9⟩
                    case measure => simp [intOf] <;> omega
                  · rw [q2] at HCC
                    have HC2 : Hid (∀ W, Below _ _ W → Calls Tryz.prog 87 #[.slice A7 m3.length c7, .string y] W fun e w' => e = .returned (.bool true) ∧ W = w') := Lib.hid fun W hW => by rw [← q2]; exact HCT.out W B1 A7 c7 m3 y (hin.out.1.below hW) hm9
                    clear HCC
                    go_wp2_with (first | (go_at_call 93; refine HH2.out.mono ?_; rintro e w8 ⟨rfl, hb8⟩) | (go_at_call 87; refine (HC2.out _ hb8).mono ?_; rintro e w8' ⟨rfl, rfl⟩))
                    have hn8 : Below W1.heap.size W1 w8 := hnx.trans (hb8.mono hzr)
                    have hnew : Hid (Own w8 B1 (.slice A7 m3.length c7) m3 ∧ Iv N m3 ∧ Dn N m3 N ∧ Dn N m3 (m.take k) ∧ m <+: m3 ∧ Hd N m3 (needsL nm) (j + 1)) := Lib.hid ⟨hin.out.1.below hb8, hin.out.2.1, hin.out.2.2.1, hin.out.2.2.2.1, hin.out.2.2.2.2.1, hin.out.2.2.2.2.2.had hltj (by rw [← HY.out]; exact (.inr q2))⟩
                    have hse9 : Hid (Sep w4 w8 lo4 (.slice A7 m3.length c7) ∧ Sep w5 w8 lo5 (.slice A7 m3.length c7)) := Lib.hid ⟨hse.out.1.below hb8, hse.out.2.below hb8⟩
                    go_roundw
                    case rel => exact ⟨j + 1, _, by omega, by go_num, hnew, hse9, hn8⟩
                    case measure => simp [intOf] <;> omega
                · rw [q1] at HH
                  have HH2 := Lib.hid HH
                  clear HH HCC
                  go_wp2_with (go_at_call 93; refine HH2.out.mono ?_; rintro e w8 ⟨rfl, hb8⟩)
                  have hn8 : Below W1.heap.size W1 w8 := hnx.trans (hb8.mono hzr)
                  have hnew : Hid (Own w8 B1 (.slice A7 m3.length c7) m3 ∧ Iv N m3 ∧ Dn N m3 N ∧ Dn N m3 (m.take k) ∧ m <+: m3 ∧ Hd N m3 (needsL nm) (j + 1)) := Lib.hid ⟨hin.out.1.below hb8, hin.out.2.1, hin.out.2.2.1, hin.out.2.2.2.1, hin.out.2.2.2.2.1, hin.out.2.2.2.2.2.had hltj (by rw [← HY.out]; exact (.inl q1))⟩
                  have hse9 : Hid (Sep w4 w8 lo4 (.slice A7 m3.length c7) ∧ Sep w5 w8 lo5 (.slice A7 m3.length c7)) := Lib.hid ⟨hse.out.1.below hb8, hse.out.2.below hb8⟩
                  go_roundw
                  case rel => exact ⟨j + 1, _, by omega, by go_num, hnew, hse9, hn8⟩
                  case measure => simp [intOf] <;> omega
              · obtain rfl : j = (needsL nm).length := by omega
                go_wp2
                go_roundw
                case rel => exact ⟨k + 1, m3, by omega, by go_num, Lib.hid ⟨hin.out.1, hin.out.2.1, hin.out.2.2.1, hin.out.2.2.2.1.next hlt (by rw [← HNM.out]; exact hin.out.2.2.2.2.2), hin.out.2.2.2.2.1⟩, Lib.hid hse.out.1, hnx⟩
                case measure => simp [intOf] <;> omega
          · obtain rfl : k = m.length := by omega
            have hm2 := hst.out.2.1.len
            by_cases heq : m2.length = m.length
            · have hmm : m = m2 := hst.out.2.2.2.2.eq_of_length heq.symm
              subst hmm
              have hfull : Hid (Full N m) := Lib.hid ⟨hst.out.2.1, clo_of hst.out.2.2.1 (by have h9 := hst.out.2.2.2.1; rwa [List.take_length] at h9)⟩
              have heqI : ((m.length : Int) == (m.length : Int)) = true := by simp
              go_wp2_with (go_at_call 95; refine (HSO.out _ B1 A7 c7 m hst.out.1 hm2).mono ?_; rintro e w6 ⟨rfl, ho6, hg6⟩)
              have hzr6 := hg6.size
              have hn6 : Below W1.heap.size W1 w6 := hnx.grown hg6 hzr (fun j hj => by rw [← hB1]; exact hst.out.1.ge j hj)
              have hrow : kdW.rd w6 B1 w6.heap.size (.slice A7 m.length c7) (srt m) := kdW.read (F := (Value.slice A7 m.length c7).ownBlock.toList) ⟨ho6, rfl⟩ (Nat.le_refl _) (Nat.le_refl _)
              have HROW6 := Lib.hid hrow
              have hsl := srt_len m
              have ho0 : OwnP w6 W0.heap.size ⟨.slice D1 p.els.length e1, .slice D2 p.glob.length e2, .slice D3 p.schemes.length e3, .slice D4 p.drop.length e4⟩ p F := hoF.keep hn6.size fun k hk => hn6.block k (by have := hFl k hk; omega)
              have hst6 : Hid (OwnP w6 W0.heap.size ⟨.slice D1 p.els.length e1, .slice D2 p.glob.length e2, .slice D3 p.schemes.length e3, .slice D4 p.drop.length e4⟩ (clK p m 0) F ∧ (∀ k ∈ F, k < w1.heap.size ∨ B1 ≤ k)) := Lib.hid ⟨by rw [clK_zero]; exact ho0, fun k hk => .inl (hFl k hk)⟩
              have hsep6 : Hid (Sep w6 w6 B1 (.slice D1 p.els.length e1)) := Lib.hid ⟨fun _ _ _ => rfl, Nat.le_refl _, fun b hb => .inl (by have := hFl b (eblock ho0 b hb); omega)⟩
              have hbx := k3.below hn6
              have hbr := j1'.below hn6
              have hw6 := (HP.out _ hn6).1
              have hB16 : B1 ≤ w6.heap.size := by have := hn6.size; omega
              clear hrow ho0 hst hse hg6 ho6
              go_loopw [89] (fun i wr => ∃ (j : Nat) (y : Vs) (F' : List Nat), j ≤ m.length ∧ i = .int .i64 j ∧ Hid (OwnP wr W0.heap.size y (clK p m j) F' ∧ (∀ k ∈ F', k < w1.heap.size ∨ B1 ≤ k)) ∧ Bl wr w1.heap.size 29 [y.e, y.g, y.s, .bool p.rel, y.d, .int .i64 p.depth, .int .i64 p.window] ∧ Bl wr (w.heap.size + 1) 29 [.slice none 0 0, .slice none 0 0, .slice none 0 0, .bool false, .slice none 0 0, .int .i64 0, .int .i64 0] ∧ Hid (Sep w6 wr B1 y.e) ∧ Below w.heap.size w wr) (fun i _ => m.length - (intOf i).toNat)
              case atStart => exact ⟨0, _, F, by omega, rfl, hst6, hbx, hbr, hsep6, hw6⟩
              case round =>
                clear hst6 hbx hbr hsep6 hw6
                obtain ⟨j, ⟨ve, vg, vs, vd⟩, F', hj, rfl, hst, hbx, hbr, hse, hwr⟩ := hrel
                have hzz := hwr.size
                have hz6 := hse.out.size
                simp only at hbx hse
                by_cases hltj : j < m.length
                · obtain ⟨F1, F2, F3, F4, ⟨T, hT, ho, hs, hF1, hn1⟩, h2, h3, h4, hF, hnF⟩ := hst.out.1
                  simp only at ho h2 h3 h4 hF1
                  obtain ⟨b, off, rfl, _, _, hcx⟩ := rdW_at (kdW.stay HROW6.out hse.out.keep) (i := j) (by omega)
                  obtain ⟨y, hy⟩ : ∃ y, y = (srt m)[j] := ⟨_, rfl⟩
                  rw [← hy] at hcx
                  have HS := Lib.hid (clK_succ (p := p) (m := m) (j := j) (by omega))
                  rw [← hy] at HS
                  have hTl : T.length = p.els.length + j := by rw [← clK_len (p := p) (m := m) hj, ← hT, List.length_map]
                  have r1 : T.length + 1 ≤ maxLen := by unfold maxLen; omega
                  have r2 : (T.length + 1) * 40 ≤ 140737488355328 := by omega
                  obtain ⟨E1, f1, rfl, _⟩ := own_slice ho
                  have HT := Lib.hid hT
                  have HF : Hid (F1 = (Value.slice E1 T.length f1).ownBlock.toList ++ outG T ∧ F' = F1 ++ (F2 ++ (F3 ++ F4)) ∧ F'.Nodup) := Lib.hid ⟨hF1, hF, hnF⟩
                  have HTL := Lib.hid hTl
                  have x0 := hbx.cell 0 rfl
                  have hj0 : (0 : Int) ≤ (j : Int) := by omega
                  have hj1 : (j : Int) < (m.length : Int) := by omega
                  have hb5 := hbx.alloc (.cells #[.string y, .slice none 0 0] 45)
                  have x1 := hb5.cell 0 rfl
                  have hEB : ∀ b, (Value.slice E1 T.length f1).ownBlock = some b → b < w1.heap.size ∨ B1 ≤ b := fun b hb => hst.out.2 b (by rw [HF.out.2.1, HF.out.1, hb]; simp)
                  have hHE := Lib.hid hEB
                  clear hy hT hTl hF1 hF hnF hEB
                  go_wp2_with (at_builtin; refine wpList_append_src _ rfl (.tmp 94) (.tmp 97) 25 rfl W0.heap.size 45 i0 _ 2 40 Tryz.underlying25 hi iz0 iz1 iz2 rfl (by decide) _ _ _ rfl (ho.alloc _) (some ⟨wr.heap.size, 0, none⟩) 1 1 [.string y, .slice none 0 0] rfl rfl (news_src wr _ _) (by simp [Value.oneCell']) r1 r2 (by simp; omega) ?_; intro v9 w9 hown9 hgrow9 hrow9; obtain ⟨E9, f9, rfl, _⟩ := own_slice hown9; have hb9 := hb5.of (hgrow9.block _ hb5.lt (fun e => by have := hHE.out _ e.symm; omega)); have x2 := hb9.cell 0 rfl; have x3 := hb9.fz 0)
                  have hP0 : p.els = p.els := rfl
                  have hadd := els_add (x := ⟨.slice E1 T.length f1, vg, vs, vd⟩) (p := clK p m j) (n := y) (F2 := F2) (F3 := F3) (F4 := F4) HT.out ho hs (by have h9 := hn1; rw [HF.out.1] at h9; exact h9) h2 h3 h4 (by have h9 := HF.out.2.2; rw [HF.out.2.1, HF.out.1] at h9; exact h9) hown9 hgrow9 hrow9 (by omega)
                  obtain ⟨F5, hF5, hm5⟩ := hadd
                  rw [← HS.out] at hF5
                  have hF6 : ∀ k ∈ F5, k < w1.heap.size ∨ B1 ≤ k := fun k hk => (hm5 k hk).elim (fun h => hst.out.2 k (by rw [HF.out.2.1, HF.out.1]; exact h)) (fun h => by omega)
                  have hgz : wr.heap.size ≤ w9.heap.size := by have h9 := hgrow9.size; simp at h9; omega
                  have hst' : Hid (OwnP (w9.setCell ⟨w1.heap.size, 0, none⟩ (.slice E9 (T.length + 1) f9)) W0.heap.size ⟨.slice E9 (T.length + 1) f9, vg, vs, vd⟩ (clK p m (j + 1)) F5 ∧ (∀ k ∈ F5, k < w1.heap.size ∨ B1 ≤ k)) := Lib.hid ⟨hF5.keep (by simp [World.setCell]) fun k hk => Below.heap_setCell _ _ _ _ (by have h9 := hF6 k hk; show k ≠ w1.heap.size; omega), hF6⟩
                  have hbx' := hb9.set 0 (.slice E9 (T.length + 1) f9)
                  have hbr' := ((hbr.alloc (.cells #[.string y, .slice none 0 0] 45)).of (hgrow9.block _ (by have := hbr.lt; simp; omega) (fun e => by have h9 := (ho.lt _ e.symm).1; omega))).other (p := ⟨w1.heap.size, 0, none⟩) (by show w.heap.size + 1 ≠ w1.heap.size; omega) (.slice E9 (T.length + 1) f9)
                  have hse' : Hid (Sep w6 (w9.setCell ⟨w1.heap.size, 0, none⟩ (.slice E9 (T.length + 1) f9)) B1 (.slice E9 (T.length + 1) f9)) := Lib.hid ((hse.out.push hgrow9 hrow9).set (by show w1.heap.size < B1; omega) _)
                  have hwr' : Below w.heap.size w (w9.setCell ⟨w1.heap.size, 0, none⟩ (.slice E9 (T.length + 1) f9)) := ((hwr.alloc hzz _).grown hgrow9 (by simp; omega) (fun j hj => by have h9 := (ho.lt _ hj).1; omega)).setCell (p := ⟨w1.heap.size, 0, none⟩) (by show w.heap.size ≤ w1.heap.size; omega) _
                  clear hF5 hm5 hF6 hown9 hgrow9 hrow9 hb9 hb5 x0 x1 x2 x3 ho hs hn1 h2 h3 h4 hcx
                  go_wp2
                  go_roundw
                  case rel => exact ⟨j + 1, ⟨_, vg, vs, vd⟩, F5, by omega, by go_num, hst', hbx', hbr', hse', hwr'⟩
                  case measure => simp [intOf] <;> omega
                · obtain rfl : j = m.length := by omega
                  have hfin := hst.out.1
                  rw [clK_all] at hfin
                  obtain ⟨E1, f1, E2, f2, E3, f3, E4, f4, hv, _⟩ := (hfin.rd (lo := 0) (hi := wr.heap.size) (Nat.zero_le _) (Nat.le_refl _)).form
                  injection hv with v1 v2 v3 v4
                  subst v1 v2 v3 v4
                  generalize (closeP p m).els.length = l1 at *
                  generalize (closeP p m).glob.length = l2 at *
                  generalize (closeP p m).schemes.length = l3 at *
                  generalize (closeP p m).drop.length = l4 at *
                  have r0 := hbx.cell 0 rfl
                  have r1 := hbx.cell 1 rfl
                  have r2 := hbx.cell 2 rfl
                  have r3 := hbx.cell 3 rfl
                  have r4 := hbx.cell 4 rfl
                  have r5 := hbx.cell 5 rfl
                  have r6 := hbx.cell 6 rfl
                  obtain ⟨s0, s1, s2, s3, s4, s5, s6, s7, s8, s9, s10, s11, s12, s13⟩ := hbr.store7 (.slice E1 l1 f1) (.slice E2 l2 f2) (.slice E3 l3 f3) (.bool p.rel) (.slice E4 l4 f4) (.int .i64 p.depth) (.int .i64 p.window)
                  have jz := hbr.seven (.slice E1 l1 f1) (.slice E2 l2 f2) (.slice E3 l3 f3) (.bool p.rel) (.slice E4 l4 f4) (.int .i64 p.depth) (.int .i64 p.window)
                  have hfz := Fr.set7 wr (w.heap.size + 1) (.slice E1 l1 f1) (.slice E2 l2 f2) (.slice E3 l3 f3) (.bool p.rel) (.slice E4 l4 f4) (.int .i64 p.depth) (.int .i64 p.window)
                  have HFN := Lib.hid hfin
                  clear hfin hst hse
                  go_wp2
                  refine bodyPost_ret (res_cell Tryz.results39 rfl jz Tryz.underlying29 rfl (by kernel_rfl)) rfl ?_
                  exact ⟨m, ⟨.slice E1 l1 f1, .slice E2 l2 f2, .slice E3 l3 f3, .slice E4 l4 f4⟩, F', hN ▸ hfull.out, rfl, (HFN.out.keep hfz.size fun k hk => hfz.block k (HFN.out.ge k hk).2 (by have := (HFN.out.ge k hk).1; simp; omega)).low (by omega), hwr.trans (hfz.below hzz (by simp))⟩
            · have hle := hst.out.2.2.2.2.length_le
              have hneI : ((m2.length : Int) == (m.length : Int)) = false := by simp; omega
              go_wp2
              go_roundw
              case rel => exact ⟨m2, Lib.hid ⟨hst.out.1, hst.out.2.1, hst.out.2.2.1⟩, hnx⟩
              case measure => simp [lenV] <;> omega
end Go.Proofs.YteikagdinecfoaaGreatDoor.Cl
