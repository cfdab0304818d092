/- sievelaw15.lives: the document's examples are as it says. Where the library's and the program's tables are laid. -/
import Derived.Test.YtejpdbiiikcmmaaGreatDoorLv
set_option linter.unusedVariables false
set_option linter.unusedSimpArgs false
namespace Go.Proofs.YtejpdbiiikcmmaaGreatDoor.Lv
open Go.RowKit Lb Gr Pd Fl Fpl Kf Mp Is Go.Proofs.YtejpdbiiikcmmaaGreatDoor.Pm Bk Lc Ck Ea Tk Go.Proofs.YtejpdbiiikcmmaaGreatDoor.Lk Ru Co Go.Proofs.YtejpdbiiikcmmaaGreatDoor.Ch Fi
attribute [local go_sem ↓] Go.wp_at_zero Go.wp_at_succ
def six : List Value := cT bT ++ cT uT ++ cT svgT ++ cT bT ++ [.int .i64 2, .string svgT, .string ByteArray.empty, .slice none 0 0, .bool false, .int .i64 0, .int .i64 0, .int .i64 0] ++ cT aT
theorem sixAt {W : World} {bl : Nat} {t : TypeId} (h : Bl W bl t six) : ∀ k, k < 6 → W.cell? ⟨bl, k * 8, none⟩ = some (.int .i64 (tk k)) ∧ W.cell? ⟨bl, k * 8 + 1, none⟩ = some (.string (tn k)) ∧ W.cell? ⟨bl, k * 8 + 2, none⟩ = some (.string ByteArray.empty) ∧ W.cell? ⟨bl, k * 8 + 3, none⟩ = some (.slice none 0 0) ∧ W.cell? ⟨bl, k * 8 + 4, none⟩ = some (.bool false) ∧ W.cell? ⟨bl, k * 8 + 5, none⟩ = some (.int .i64 0) ∧ W.cell? ⟨bl, k * 8 + 6, none⟩ = some (.int .i64 0) ∧ W.cell? ⟨bl, k * 8 + 7, none⟩ = some (.int .i64 0)
  | 0, _ => ⟨h.cell _ rfl, h.cell _ rfl, h.cell _ rfl, h.cell _ rfl, h.cell _ rfl, h.cell _ rfl, h.cell _ rfl, h.cell _ rfl⟩
  | 1, _ => ⟨h.cell _ rfl, h.cell _ rfl, h.cell _ rfl, h.cell _ rfl, h.cell _ rfl, h.cell _ rfl, h.cell _ rfl, h.cell _ rfl⟩
  | 2, _ => ⟨h.cell _ rfl, h.cell _ rfl, h.cell _ rfl, h.cell _ rfl, h.cell _ rfl, h.cell _ rfl, h.cell _ rfl, h.cell _ rfl⟩
  | 3, _ => ⟨h.cell _ rfl, h.cell _ rfl, h.cell _ rfl, h.cell _ rfl, h.cell _ rfl, h.cell _ rfl, h.cell _ rfl, h.cell _ rfl⟩
  | 4, _ => ⟨h.cell _ rfl, h.cell _ rfl, h.cell _ rfl, h.cell _ rfl, h.cell _ rfl, h.cell _ rfl, h.cell _ rfl, h.cell _ rfl⟩
  | 5, _ => ⟨h.cell _ rfl, h.cell _ rfl, h.cell _ rfl, h.cell _ rfl, h.cell _ rfl, h.cell _ rfl, h.cell _ rfl, h.cell _ rfl⟩
  | n + 6, h => absurd h (by omega)
theorem checkK : ∀ k, k < 6 → ∀ W, Calls Tryz.prog 41 #[.agg #[.int .i64 (tk k), .string (tn k), .string ByteArray.empty, .slice none 0 0, .bool false, .int .i64 0, .int .i64 0, .int .i64 0]] W fun e w' => e = .returned (.int .i64 0) ∧ Below W.heap.size W w'
  | 0, _, W => checkS bT 0 0 0 W (by decide) name_b
  | 1, _, W => checkS uT 0 0 0 W (by decide) name_u
  | 2, _, W => checkS svgT 0 0 0 W (by decide) name_svg
  | 3, _, W => checkS bT 0 0 0 W (by decide) name_b
  | 4, _, W => checkE svgT 0 0 0 W (by decide) name_svg
  | 5, _, W => checkS aT 0 0 0 W (by decide) name_a
  | n + 6, h, _ => absurd h (by omega)
theorem allLives (n : Nat) (w : World) (ht : Tab w) (hn : NevT w) (hp : PM w n) (bl cap : Nat) (t : TypeId) (hb : Bl w bl t six) : Calls Tryz.prog 14 #[polV (polX n) polP, .slice (some ⟨bl, 0, none⟩) 6 cap] w fun e w' => ∃ a b, e = .returned (.tuple #[a, b, .int .i64 0]) ∧ w'.ownsRow w.heap.size 39 8 a 2 (cT bT ++ cT aT) ∧ w'.ownsRow w.heap.size 64 5 b 2 [.int .i64 0, .int .i64 0, .int .i64 0, .int .i64 0, .string uT, .int .i64 0, .int .i64 0, .int .i64 0, .int .i64 1, .string svgT] ∧ Below w.heap.size w w' :=
  allC (polX n) polP w (fun W hW => newP n W (ht.below hW) (hn.below hW) (hp.below hW)) ⟨_, _, _, _, _, _, _, _, rfl⟩ bl cap 6 (by decide) tk tn (sixAt hb) hb.lt checkK XX NN onn fnn OO FF rfl rfl
    (fun k hk => by
      match k, hk with
      | 0, _ => intro u hu; simp [OO, cT] at hu; rcases hu with rfl | rfl | rfl | rfl | rfl | rfl | rfl | rfl <;> rfl
      | 1, _ => intro u hu; cases hu
      | 2, _ => intro u hu; cases hu
      | 3, _ => intro u hu; cases hu
      | 4, _ => intro u hu; cases hu
      | 5, _ => intro u hu; simp [OO, cT] at hu; rcases hu with rfl | rfl | rfl | rfl | rfl | rfl | rfl | rfl <;> rfl)
    (fun k hk => by
      match k, hk with
      | 0, _ => intro u hu; cases hu
      | 1, _ => intro u hu; simp [FF] at hu; rcases hu with rfl | rfl <;> rfl
      | 2, _ => intro u hu; simp [FF] at hu; rcases hu with rfl | rfl | rfl <;> rfl
      | 3, _ => intro u hu; cases hu
      | 4, _ => intro u hu; cases hu
      | 5, _ => intro u hu; cases hu)
    (fun k => by
      match k with
      | 0 => rfl
      | 1 => rfl
      | 2 => rfl
      | 3 => rfl
      | 4 => rfl
      | 5 => rfl
      | n + 6 => rfl)
    (fun k => by
      match k with
      | 0 => rfl
      | 1 => rfl
      | 2 => rfl
      | n + 3 => rfl)
    (fun k hk => by
      match k, hk with
      | 0, _ => decide
      | 1, _ => decide
      | 2, _ => decide
      | 3, _ => decide
      | 4, _ => decide
      | 5, _ => decide
      | 6, _ => decide)
    (fun k hk => by
      match k, hk with
      | 0, _ => decide
      | 1, _ => decide
      | 2, _ => decide
      | 3, _ => decide
      | 4, _ => decide
      | 5, _ => decide
      | 6, _ => decide)
    (takeK w ht)
set_option maxHeartbeats 8000000 in
set_option maxRecDepth 100000 in
theorem livesC (w : World) (ht : Tab w) (hn : NevT w) : Calls Tryz.prog 13 #[] w fun e w' => e = .returned (.bool true) ∧ Below w.heap.size w w' := by
  have HT := Lib.hid (fun W (h : Below w.heap.size w W) => And.intro (ht.below h) (hn.below h))
  have q1 : (bT.toList == [98]) = true := by decide +kernel
  have q2 : (aT.toList == [97]) = true := by decide +kernel
  clear ht hn
  go_enter Tryz.func13, Tryz.ntmps13
  go_upto_region 2 with (first
    | (have _z := hb6; go_at_call 14; refine (HALL.out).mono ?_; rintro e w8 ⟨oa, ob, rfl, hoa, hob, hb8⟩)
    | (have _z := hb5; go_at_call 24; refine (startTagC _ _).mono ?_; rintro e w6 ⟨rfl, hb6⟩; have hq6 := hq5.trans (hb6.mono hq5.size); have p6 := p5.below hb6; have HALL : Hid (Calls Tryz.prog 14 #[polV (polX w.heap.size) polP, .slice (some ⟨w6.heap.size, 0, none⟩) 6 6] (w6.alloc (.cells six.toArray 39)) fun e w' => ∃ a b, e = .returned (.tuple #[a, b, .int .i64 0]) ∧ w'.ownsRow (w6.alloc (.cells six.toArray 39)).heap.size 39 8 a 2 (cT bT ++ cT aT) ∧ w'.ownsRow (w6.alloc (.cells six.toArray 39)).heap.size 64 5 b 2 [.int .i64 0, .int .i64 0, .int .i64 0, .int .i64 0, .string uT, .int .i64 0, .int .i64 0, .int .i64 0, .int .i64 1, .string svgT] ∧ Below (w6.alloc (.cells six.toArray 39)).heap.size (w6.alloc (.cells six.toArray 39)) w') := Lib.hid (by have hh := (Below.refl w6.heap.size w6).alloc (Nat.le_refl _) (.cells six.toArray 39); have h2 := HT.out _ (hq6.trans (hh.mono hq6.size)); exact allLives _ _ h2.1 h2.2 (p6.below hh) _ _ _ (Bl.new w6 _ _ rfl)))
    | (have _z := hb4; go_at_call 24; refine (startTagC _ _).mono ?_; rintro e w5 ⟨rfl, hb5⟩; have hq5 := hq4.trans (hb5.mono hq4.size); have p5 := p4.below hb5)
    | (have _z := hb3; go_at_call 24; refine (startTagC _ _).mono ?_; rintro e w4 ⟨rfl, hb4⟩; have hq4 := hq3.trans (hb4.mono hq3.size); have p4 := p3.below hb4)
    | (have _z := hb2; go_at_call 24; refine (startTagC _ _).mono ?_; rintro e w3 ⟨rfl, hb3⟩; have hq3 := hq2.trans (hb3.mono hq2.size); have p3 := p2.below hb3)
    | (have _z := hb1; go_at_call 24; refine (startTagC _ _).mono ?_; rintro e w2 ⟨rfl, hb2⟩; have hq2 := hb1.trans (hb2.mono hb1.size); have p2 := p1.below hb2)
    | (go_at_call 22; refine (policyC _).mono ?_; rintro e w1 ⟨rfl, p1, hs1, hb1⟩))
  obtain ⟨A8, c8, rfl, _⟩ := own_slice hoa
  obtain ⟨A9, c9, rfl, _⟩ := own_slice hob
  obtain ⟨b1, o1, rfl, hx1⟩ := own_src hoa (by decide)
  obtain ⟨b2, o2, rfl, hx2⟩ := own_src hob (by decide)
  have f1 := hx1 1 _ rfl
  have f2 := hx1 9 _ rfl
  have f3 := hx2 3 _ rfl
  have f4 := hx2 8 _ rfl
  have f2' : w8.cell? ⟨b1, o1 + 8 + 1, none⟩ = some (.string aT) := by rw [Nat.add_assoc]; exact f2
  have f4' : w8.cell? ⟨b2, o2 + 5 + 3, none⟩ = some (.int .i64 1) := by rw [Nat.add_assoc]; exact f4
  have hfin : Below w.heap.size w w8 := hq6.trans ((((Below.refl _ _).alloc (Nat.le_refl _) _).trans (hb8.mono (show w6.heap.size ≤ (w6.alloc (.cells six.toArray 39)).heap.size by simp))).mono hq6.size)
  clear hx1 hx2 hoa hob
  go_wp2
  go_ret
  exact ⟨rfl, hfin⟩
end Go.Proofs.YtejpdbiiikcmmaaGreatDoor.Lv
