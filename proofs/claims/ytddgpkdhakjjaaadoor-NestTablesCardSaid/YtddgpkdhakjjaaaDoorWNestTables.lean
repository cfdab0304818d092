/- NestTables: in a right stack each part of a table, each item stands where it must; no p around a block, no a around an a, no heading around a heading, but behind a wall. No condition. (The walk.) -/
import Derived.Deep.Cut
import Derived.Test.YtddgpkdhakjjaaaDoorSl
import Derived.Deep.DeepCutAuto
import Derived.Deep.CutBlock
import Derived.Test.YtddgpkdhakjjaaaDoorLa
import Derived.Test.YtddgpkdhakjjaaaDoorLw
import Derived.Test.YtddgpkdhakjjaaaDoorAw
set_option linter.unusedVariables false
set_option linter.unusedSimpArgs false
namespace Go.Proofs.YtddgpkdhakjjaaaDoor.nestTables
open Go.Proofs.YtddgpkdhakjjaaaDoor.Np hiding is_li is_dt is_dd is_textarea is_a
open Go.RowKit Lb Fl Is Tp Wk Wp Wi Wo Pt Oc Go.Proofs.YtddgpkdhakjjaaaDoor.Ask Rt Go.Proofs.YtddgpkdhakjjaaaDoor.Op Aw Pm Lt Lw En El Rn Ri Go.Proofs.YtddgpkdhakjjaaaDoor.Eq Sl La

theorem litR (w : World) (l : List ByteArray) (h : l.length ≤ 1000) : Rd (w.alloc (.cells (l.map Value.string).toArray 9)) (some ⟨w.heap.size, 0, none⟩) l.length l := (own_lit (Nat.le_refl _) l h).rd
theorem f_heads6 : fieldsS c_heads = [⟨#[104, 49]⟩, ⟨#[104, 50]⟩, ⟨#[104, 51]⟩, ⟨#[104, 52]⟩, ⟨#[104, 53]⟩, ⟨#[104, 54]⟩] := by decide +kernel
theorem mem_is {c : ByteArray} {l : List ByteArray} (h : fieldsS c = l) : memB l = isB c := by funext x; rw [isB_of h]; rfl
theorem mem_HW : memB [s_td, s_th, s_caption, s_table] = wallB := by rw [mem_is f_walls, walls_B]
theorem mem_HP : memB [s_p] = (namedB s_p) := by rw [mem_is f_p, one_B f_p]
theorem mem_HH : memB [⟨#[104, 49]⟩, ⟨#[104, 50]⟩, ⟨#[104, 51]⟩, ⟨#[104, 52]⟩, ⟨#[104, 53]⟩, ⟨#[104, 54]⟩] = headB := by rw [mem_is f_heads6, heads_B]
theorem mem_HA : memB [s_a] = (namedB s_a) := by rw [mem_is f_a, one_B f_a]
theorem mem_HC : memB [s_td, s_th, s_caption] = cellB := by rw [mem_is f_cells, cells_B]

/-- no name that stands for a place of its own -/
structure Oth (x : ByteArray) : Prop where
  n_caption : x ≠ s_caption
  n_colgroup : x ≠ s_colgroup
  n_thead : x ≠ s_thead
  n_tbody : x ≠ s_tbody
  n_tfoot : x ≠ s_tfoot
  n_tr : x ≠ s_tr
  n_td : x ≠ s_td
  n_th : x ≠ s_th
  n_li : x ≠ s_li
  n_dt : x ≠ ⟨#[100, 116]⟩
  n_dd : x ≠ s_dd

inductive Cls (x u : ByteArray) : Prop where
  | caption_ (h : x = s_caption) (hu : u = s_table)
  | colgroup_ (h : x = s_colgroup) (hu : u = s_table)
  | thead_ (h : x = s_thead) (hu : u = s_table)
  | tbody_ (h : x = s_tbody) (hu : u = s_table)
  | tfoot_ (h : x = s_tfoot) (hu : u = s_table)
  | tr_thead (h : x = s_tr) (hu : u = s_thead)
  | tr_tbody (h : x = s_tr) (hu : u = s_tbody)
  | tr_tfoot (h : x = s_tr) (hu : u = s_tfoot)
  | td_ (h : x = s_td) (hu : u = s_tr)
  | th_ (h : x = s_th) (hu : u = s_tr)
  | li_ul (h : x = s_li) (hu : u = s_ul)
  | li_ol (h : x = s_li) (hu : u = ⟨#[111, 108]⟩)
  | li_menu (h : x = s_li) (hu : u = ⟨#[109, 101, 110, 117]⟩)
  | dt_ (h : x = ⟨#[100, 116]⟩) (hu : u = s_dl)
  | dd_ (h : x = s_dd) (hu : u = s_dl)
  | oth (h : Oth x) (h1 : u ≠ s_table) (h2 : u ≠ s_tr) (h3 : u ≠ ⟨#[116, 101, 120, 116, 97, 114, 101, 97]⟩)
theorem ne_b {x z : ByteArray} {l : List UInt8} (hl : z.toList = l) (h : x ≠ z) : (x.toList == l) = false := by subst hl; exact toList_ne_of h
theorem ne_n {x z : ByteArray} {l : List UInt8} (hl : z.toList = l) (h : x ≠ z) : (x.toList != l) = true := by subst hl; exact toList_bne_of h
theorem cls {t : List ByteArray} {x : ByteArray} (h : Fit t x) (hv : inS x 0 = false) : Cls x (topS t) := by
  obtain ⟨p1, p2, p3, p4, p5, p6, p7⟩ := h.at_
  rcases kd_cases x with hk | hk | hk | hk | hk
  · have e := tab_is (p1 hk)
    rcases kd1 hk with e1 | e1 | e1 | e1 | e1
    · exact .caption_ e1 e
    · exact .colgroup_ e1 e
    · exact .thead_ e1 e
    · exact .tbody_ e1 e
    · exact .tfoot_ e1 e
  · have e := tr_is (p2 hk)
    rcases kd2 hk with e1 | e1
    · exact .td_ e1 e
    · exact .th_ e1 e
  · have := kd3 hk
    rw [this] at hv
    exact absurd hv (by decide +kernel)
  · have e1 := kd4 hk
    rcases group_cases (p4 hk) with e | e | e
    · exact .tr_thead e1 e
    · exact .tr_tbody e1 e
    · exact .tr_tfoot e1 e
  · cases hl : is_li x
    · cases hd : (is_dt x || is_dd x)
      · obtain ⟨q1, q2, q3, q4, q5, q6⟩ := p7 hk hl hd
        simp only [Bool.or_eq_false_iff] at hd
        refine .oth ⟨kd0_ne hk (by decide +kernel), kd0_ne hk (by decide +kernel), kd0_ne hk (by decide +kernel), kd0_ne hk (by decide +kernel), kd0_ne hk (by decide +kernel), kd0_ne hk (by decide +kernel), kd0_ne hk (by decide +kernel), kd0_ne hk (by decide +kernel), ?_, ?_, ?_⟩ ?_ ?_ ?_
        · rintro rfl; exact absurd hl (by decide +kernel)
        · rintro rfl; exact absurd hd.1 (by decide +kernel)
        · rintro rfl; exact absurd hd.2 (by decide +kernel)
        · intro e; rw [e] at q2; exact absurd q2 (by decide +kernel)
        · intro e; rw [e] at q4; exact absurd q4 (by decide +kernel)
        · intro e
          have := h.ta
          rw [e] at this
          exact absurd this (by decide +kernel)
      · have e := dl_is (p6 hk hl hd)
        simp only [Bool.or_eq_true] at hd
        rcases hd with hd | hd
        · exact .dt_ (dt_is hd) e
        · exact .dd_ (dd_is hd) e
    · have e1 := li_is hl
      rcases list_cases (p5 hk hl) with e | e | e
      · exact .li_ul e1 e
      · exact .li_ol e1 e
      · exact .li_menu e1 e
theorem up_ne {t : List ByteArray} {u : ByteArray} (h : topS t = u) (hu : u ≠ ⟨#[]⟩) : t ≠ [] := by rintro rfl; exact hu h.symm

set_option maxHeartbeats 16000000 in
set_option maxRecDepth 100000 in
theorem walk (w : World) (ht : Tab w) (A : Option Addr) (n c : Nat) (s : List ByteArray) (hr : Rd w A n s) (hc : n ≤ c) (hc2 : c ≤ 8796093021952) :
    Calls Tryd.prog 4 #[.slice A n c] w fun e w' => e = .returned (.bool true) ∧ Below w.heap.size w w' := by
  have HT : Hid (∀ W, Below w.heap.size w W → Tab W) := Lib.hid fun W h => ht.below h
  have HR : Hid (∀ W, Below w.heap.size w W → Rd W A n s) := Lib.hid fun W h => hr.below h
  have HN : Hid (n = s.length) := Lib.hid hr.1
  have HRC : Hid (∀ W, Below w.heap.size w W → Calls Tryd.prog 15 #[.slice A n c] W fun e w' => e = .returned (.bool (rightB s)) ∧ Below W.heap.size W w') := Lib.hid fun W h => rightC W (ht.below h) A n c s (hr.below h) hc (by omega)
  clear hr ht
  by_cases hn : 600 < n
  · have hlong : decide (600 < n) = true := by simp [hn]
    go_enter Tryd.func4, Tryd.ntmps4
    go_wp2_with (first
      | (go_at_call 14; refine (longC _ _ _ _).mono ?_; rintro e wl ⟨rfl, rfl⟩; rw [hlong])
      | (go_at_call 13; refine (awakeC _ (HT.out _ (Below.refl _ _))).mono ?_; rintro e wa ⟨rfl, hba⟩))
    go_ret
    exact ⟨rfl, hba⟩
  · have hlong : decide (600 < n) = false := by simp [hn]
    cases hR : rightB s
    · rw [hR] at HRC
      go_enter Tryd.func4, Tryd.ntmps4
      go_wp2_with (first
        | (go_at_call 14; refine (longC _ _ _ _).mono ?_; rintro e wl ⟨rfl, rfl⟩; rw [hlong])
        | (go_at_call 15; refine (HRC.out _ (Below.refl _ _)).mono ?_; rintro e w1 ⟨rfl, hb1⟩)
        | (go_at_call 13; refine (awakeC _ (HT.out _ hb1)).mono ?_; rintro e wa ⟨rfl, hba⟩))
      go_ret
      exact ⟨rfl, seq hb1 hba⟩
    · rw [hR] at HRC
      have HFIT := Lib.hid (fun j hj => right_fit hR j hj)
      have HMEM := Lib.hid (fun j (hj : j < s.length) => (right_mem hR (List.getElem_mem hj)).2)
      clear hR
      go_enter Tryd.func4, Tryd.ntmps4
      go_wp2_with (first
        | (go_at_call 14; refine (longC _ _ _ _).mono ?_; rintro e wl ⟨rfl, rfl⟩; rw [hlong])
        | (go_at_call 15; refine (HRC.out _ (Below.refl _ _)).mono ?_; rintro e w1 ⟨rfl, hb1⟩))
      go_loopw [18] (fun i wr => ∃ j : Nat, j ≤ n ∧ i = .int .i64 j ∧ Below w.heap.size w wr) (fun i _ => n - (intOf i).toNat)
      case atStart => exact ⟨0, by omega, rfl, hb1⟩
      case round =>
        obtain ⟨j, hj, rfl, hnx⟩ := hrel
        by_cases hlt : j < n
        · have hjl : j < s.length := by rw [← HN.out]; exact hlt
          have HW : Hid (∀ W, Below w.heap.size w W → Calls Tryd.prog 16 #[.slice A n c, .int .i64 j, .slice (some ⟨W.heap.size, 0, none⟩) 4 4] (W.alloc (.cells #[.string s_td, .string s_th, .string s_caption, .string s_table] 9)) fun e w' => e = .returned (.int .i64 (tm wallB noB (s.take j))) ∧ Below W.heap.size W w') := Lib.hid fun W h => by
            have h1 := lastC A (some ⟨W.heap.size, 0, none⟩) n c 4 4 j s [s_td, s_th, s_caption, s_table] (W.alloc (.cells #[.string s_td, .string s_th, .string s_caption, .string s_table] 9)) ((HR.out W h).below ((Below.refl _ _).alloc (Nat.le_refl _) _)) (by exact litR W [s_td, s_th, s_caption, s_table] (by decide)) (by omega) (by decide) hj
            rw [mem_HW] at h1
            exact h1.mono fun e w' ⟨h2, h3⟩ => ⟨h2, h3 ▸ (Below.refl _ _).alloc (Nat.le_refl _) _⟩
          have HP : Hid (∀ W, Below w.heap.size w W → Calls Tryd.prog 16 #[.slice A n c, .int .i64 j, .slice (some ⟨W.heap.size, 0, none⟩) 1 1] (W.alloc (.cells #[.string s_p] 9)) fun e w' => e = .returned (.int .i64 (tm (namedB s_p) noB (s.take j))) ∧ Below W.heap.size W w') := Lib.hid fun W h => by
            have h1 := lastC A (some ⟨W.heap.size, 0, none⟩) n c 1 1 j s [s_p] (W.alloc (.cells #[.string s_p] 9)) ((HR.out W h).below ((Below.refl _ _).alloc (Nat.le_refl _) _)) (by exact litR W [s_p] (by decide)) (by omega) (by decide) hj
            rw [mem_HP] at h1
            exact h1.mono fun e w' ⟨h2, h3⟩ => ⟨h2, h3 ▸ (Below.refl _ _).alloc (Nat.le_refl _) _⟩
          have HH : Hid (∀ W, Below w.heap.size w W → Calls Tryd.prog 16 #[.slice A n c, .int .i64 j, .slice (some ⟨W.heap.size, 0, none⟩) 6 6] (W.alloc (.cells #[.string ⟨#[104, 49]⟩, .string ⟨#[104, 50]⟩, .string ⟨#[104, 51]⟩, .string ⟨#[104, 52]⟩, .string ⟨#[104, 53]⟩, .string ⟨#[104, 54]⟩] 9)) fun e w' => e = .returned (.int .i64 (tm headB noB (s.take j))) ∧ Below W.heap.size W w') := Lib.hid fun W h => by
            have h1 := lastC A (some ⟨W.heap.size, 0, none⟩) n c 6 6 j s [⟨#[104, 49]⟩, ⟨#[104, 50]⟩, ⟨#[104, 51]⟩, ⟨#[104, 52]⟩, ⟨#[104, 53]⟩, ⟨#[104, 54]⟩] (W.alloc (.cells #[.string ⟨#[104, 49]⟩, .string ⟨#[104, 50]⟩, .string ⟨#[104, 51]⟩, .string ⟨#[104, 52]⟩, .string ⟨#[104, 53]⟩, .string ⟨#[104, 54]⟩] 9)) ((HR.out W h).below ((Below.refl _ _).alloc (Nat.le_refl _) _)) (by exact litR W [⟨#[104, 49]⟩, ⟨#[104, 50]⟩, ⟨#[104, 51]⟩, ⟨#[104, 52]⟩, ⟨#[104, 53]⟩, ⟨#[104, 54]⟩] (by decide)) (by omega) (by decide) hj
            rw [mem_HH] at h1
            exact h1.mono fun e w' ⟨h2, h3⟩ => ⟨h2, h3 ▸ (Below.refl _ _).alloc (Nat.le_refl _) _⟩
          have HA : Hid (∀ W, Below w.heap.size w W → Calls Tryd.prog 16 #[.slice A n c, .int .i64 j, .slice (some ⟨W.heap.size, 0, none⟩) 1 1] (W.alloc (.cells #[.string s_a] 9)) fun e w' => e = .returned (.int .i64 (tm (namedB s_a) noB (s.take j))) ∧ Below W.heap.size W w') := Lib.hid fun W h => by
            have h1 := lastC A (some ⟨W.heap.size, 0, none⟩) n c 1 1 j s [s_a] (W.alloc (.cells #[.string s_a] 9)) ((HR.out W h).below ((Below.refl _ _).alloc (Nat.le_refl _) _)) (by exact litR W [s_a] (by decide)) (by omega) (by decide) hj
            rw [mem_HA] at h1
            exact h1.mono fun e w' ⟨h2, h3⟩ => ⟨h2, h3 ▸ (Below.refl _ _).alloc (Nat.le_refl _) _⟩
          have HC : Hid (∀ W, Below w.heap.size w W → Calls Tryd.prog 16 #[.slice A n c, .int .i64 j, .slice (some ⟨W.heap.size, 0, none⟩) 3 3] (W.alloc (.cells #[.string s_td, .string s_th, .string s_caption] 9)) fun e w' => e = .returned (.int .i64 (tm cellB noB (s.take j))) ∧ Below W.heap.size W w') := Lib.hid fun W h => by
            have h1 := lastC A (some ⟨W.heap.size, 0, none⟩) n c 3 3 j s [s_td, s_th, s_caption] (W.alloc (.cells #[.string s_td, .string s_th, .string s_caption] 9)) ((HR.out W h).below ((Below.refl _ _).alloc (Nat.le_refl _) _)) (by exact litR W [s_td, s_th, s_caption] (by decide)) (by omega) (by decide) hj
            rw [mem_HC] at h1
            exact h1.mono fun e w' ⟨h2, h3⟩ => ⟨h2, h3 ▸ (Below.refl _ _).alloc (Nat.le_refl _) _⟩
          have hfit := HFIT.out j hjl
          have h0 := HMEM.out j hjl
          obtain ⟨b1, o1, rfl, _, hcx⟩ := (HR.out _ (Below.refl _ _)).get hjl
          have hx1 := hcx wr hnx
          have hup : ∀ m, j = m + 1 → wr.cell? ⟨b1, o1 + m, none⟩ = some (.string (topS (s.take j))) := fun m hm => by
            have hml : m < s.length := by omega
            obtain ⟨b2, o2, e2, _, hcu⟩ := (HR.out _ (Below.refl _ _)).get hml
            injection e2 with e2
            injection e2 with e3 e4
            subst e3 e4
            rw [hcu wr hnx, hm, List.take_succ_eq_append_getElem hml, topS_snoc]
          have hcls := cls hfit h0
          have hw6 : inS s[j] 6 = true → ¬ tm wallB noB (s.take j) < tm (namedB s_p) noB (s.take j) := fun h => by have := tm_neg (hfit.bl h); omega
          have hw5 : inS s[j] 5 = true → ¬ tm wallB noB (s.take j) < tm headB noB (s.take j) := fun h => by have := tm_neg (hfit.hd h); omega
          have hwa : is_a s[j] = true → ¬ tm cellB noB (s.take j) < tm (namedB s_a) noB (s.take j) := fun h => by have := tm_neg (hfit.a h); omega
          have hnil : j = 0 → topS (s.take j) = ⟨#[]⟩ := fun h => by rw [h]; rfl
          generalize s[j] = x at *
          generalize topS (s.take j) = u at *
          generalize tm wallB noB (s.take j) = wl at *
          generalize tm (namedB s_p) noB (s.take j) = kp at *
          generalize tm headB noB (s.take j) = kh at *
          generalize tm cellB noB (s.take j) = kc at *
          generalize tm (namedB s_a) noB (s.take j) = ka at *
          have hb3 : (j : Int) < (n : Int) := by omega
          have hb0 : (0 : Int) ≤ (j : Int) := by omega
          have HCLS := Lib.hid hcls
          have HW6 := Lib.hid hw6
          have HW5 := Lib.hid hw5
          have HWA := Lib.hid hwa
          have hupn : ∃ v, u = v ∧ (j = 0 → v = ⟨#[]⟩) := ⟨u, rfl, hnil⟩
          clear hcx hfit hcls hw6 hw5 hwa
          go_upto_if 24 with fail
          go_cut [3, 4, 5, 18] (fun s3 s4 s5 s18 wx => s3 = .int .i64 j ∧ s4 = .string x ∧ s5 = .string u ∧ s18 = .int .i64 j ∧ Below w.heap.size w wx)
          case first =>
            by_cases hj0 : j = 0
            · have eu := hnil hj0
              have hz : ¬ (0 : Int) < (j : Int) := by omega
              have HJ := Lib.hid hj0
              clear hup hj0 hnil hupn
              go_wp2
              go_meet
              exact ⟨rfl, rfl, by rw [eu], rfl, hnx⟩
            · obtain ⟨m, hm⟩ : ∃ m, j = m + 1 := ⟨j - 1, by omega⟩
              have hcu := hup m hm
              have hz : (0 : Int) < (j : Int) := by omega
              have hix : (j : Int) - 1 = (m : Int) := by omega
              have hm1 : (m : Int) < (n : Int) := by omega
              have HM := Lib.hid hm
              clear hup hnil hm hj0
              go_wp2
              go_meet
              exact ⟨rfl, rfl, rfl, rfl, hnx⟩
          case rest =>
            obtain ⟨rfl, rfl, rfl, rfl, hbc⟩ := hcut
            clear hup hnil hupn hx1
            go_upto_block 2 with (go_at_call 16; refine (HW.out wc hbc).mono ?_; rintro e w1 ⟨rfl, hb1⟩)
            have hbw := seq hbc hb1
            go_cut [4, 5, 6, 18] (fun s4 s5 s6 s18 wx => s4 = .string x ∧ s5 = .string u ∧ s6 = .int .i64 wl ∧ s18 = .int .i64 j ∧ Below w.heap.size w wx)
            case first =>
              rcases HCLS.out with ⟨ex, eu⟩ | ⟨ex, eu⟩ | ⟨ex, eu⟩ | ⟨ex, eu⟩ | ⟨ex, eu⟩ | ⟨ex, eu⟩ | ⟨ex, eu⟩ | ⟨ex, eu⟩ | ⟨ex, eu⟩ | ⟨ex, eu⟩ | ⟨ex, eu⟩ | ⟨ex, eu⟩ | ⟨ex, eu⟩ | ⟨ex, eu⟩ | ⟨ex, eu⟩ | ⟨hox, hu1, hu2, hu3⟩
              · as_aux_lemma =>
                have q1 : (x.toList == [99, 97, 112, 116, 105, 111, 110]) = true := by rw [ex]; decide +kernel
                have q2 : (u.toList == [116, 97, 98, 108, 101]) = true := by rw [eu]; decide +kernel
                have q3 : (u.toList != [116, 97, 98, 108, 101]) = false := by rw [eu]; decide +kernel
                clear ex eu
                go_wp2
                go_meet
                exact ⟨rfl, rfl, rfl, rfl, hbw⟩
              · as_aux_lemma =>
                have q1 : (x.toList == [99, 97, 112, 116, 105, 111, 110]) = false := by rw [ex]; decide +kernel
                have q2 : (x.toList == [99, 111, 108, 103, 114, 111, 117, 112]) = true := by rw [ex]; decide +kernel
                have q3 : (u.toList == [116, 97, 98, 108, 101]) = true := by rw [eu]; decide +kernel
                have q4 : (u.toList != [116, 97, 98, 108, 101]) = false := by rw [eu]; decide +kernel
                clear ex eu
                go_wp2
                go_meet
                exact ⟨rfl, rfl, rfl, rfl, hbw⟩
              · as_aux_lemma =>
                have q1 : (x.toList == [99, 97, 112, 116, 105, 111, 110]) = false := by rw [ex]; decide +kernel
                have q2 : (x.toList == [99, 111, 108, 103, 114, 111, 117, 112]) = false := by rw [ex]; decide +kernel
                have q3 : (x.toList == [116, 104, 101, 97, 100]) = true := by rw [ex]; decide +kernel
                have q4 : (u.toList == [116, 97, 98, 108, 101]) = true := by rw [eu]; decide +kernel
                have q5 : (u.toList != [116, 97, 98, 108, 101]) = false := by rw [eu]; decide +kernel
                clear ex eu
                go_wp2
                go_meet
                exact ⟨rfl, rfl, rfl, rfl, hbw⟩
              · as_aux_lemma =>
                have q1 : (x.toList == [99, 97, 112, 116, 105, 111, 110]) = false := by rw [ex]; decide +kernel
                have q2 : (x.toList == [99, 111, 108, 103, 114, 111, 117, 112]) = false := by rw [ex]; decide +kernel
                have q3 : (x.toList == [116, 104, 101, 97, 100]) = false := by rw [ex]; decide +kernel
                have q4 : (x.toList == [116, 98, 111, 100, 121]) = true := by rw [ex]; decide +kernel
                have q5 : (u.toList == [116, 97, 98, 108, 101]) = true := by rw [eu]; decide +kernel
                have q6 : (u.toList != [116, 97, 98, 108, 101]) = false := by rw [eu]; decide +kernel
                clear ex eu
                go_wp2
                go_meet
                exact ⟨rfl, rfl, rfl, rfl, hbw⟩
              · as_aux_lemma =>
                have q1 : (x.toList == [99, 97, 112, 116, 105, 111, 110]) = false := by rw [ex]; decide +kernel
                have q2 : (x.toList == [99, 111, 108, 103, 114, 111, 117, 112]) = false := by rw [ex]; decide +kernel
                have q3 : (x.toList == [116, 104, 101, 97, 100]) = false := by rw [ex]; decide +kernel
                have q4 : (x.toList == [116, 98, 111, 100, 121]) = false := by rw [ex]; decide +kernel
                have q5 : (x.toList == [116, 102, 111, 111, 116]) = true := by rw [ex]; decide +kernel
                have q6 : (u.toList == [116, 97, 98, 108, 101]) = true := by rw [eu]; decide +kernel
                have q7 : (u.toList != [116, 97, 98, 108, 101]) = false := by rw [eu]; decide +kernel
                clear ex eu
                go_wp2
                go_meet
                exact ⟨rfl, rfl, rfl, rfl, hbw⟩
              · as_aux_lemma =>
                have q1 : (x.toList == [99, 97, 112, 116, 105, 111, 110]) = false := by rw [ex]; decide +kernel
                have q2 : (x.toList == [99, 111, 108, 103, 114, 111, 117, 112]) = false := by rw [ex]; decide +kernel
                have q3 : (x.toList == [116, 104, 101, 97, 100]) = false := by rw [ex]; decide +kernel
                have q4 : (x.toList == [116, 98, 111, 100, 121]) = false := by rw [ex]; decide +kernel
                have q5 : (x.toList == [116, 102, 111, 111, 116]) = false := by rw [ex]; decide +kernel
                have q6 : (x.toList == [116, 114]) = true := by rw [ex]; decide +kernel
                have q7 : (u.toList == [116, 104, 101, 97, 100]) = true := by rw [eu]; decide +kernel
                have q8 : (u.toList != [116, 104, 101, 97, 100]) = false := by rw [eu]; decide +kernel
                clear ex eu
                go_wp2
                go_meet
                exact ⟨rfl, rfl, rfl, rfl, hbw⟩
              · as_aux_lemma =>
                have q1 : (x.toList == [99, 97, 112, 116, 105, 111, 110]) = false := by rw [ex]; decide +kernel
                have q2 : (x.toList == [99, 111, 108, 103, 114, 111, 117, 112]) = false := by rw [ex]; decide +kernel
                have q3 : (x.toList == [116, 104, 101, 97, 100]) = false := by rw [ex]; decide +kernel
                have q4 : (x.toList == [116, 98, 111, 100, 121]) = false := by rw [ex]; decide +kernel
                have q5 : (x.toList == [116, 102, 111, 111, 116]) = false := by rw [ex]; decide +kernel
                have q6 : (x.toList == [116, 114]) = true := by rw [ex]; decide +kernel
                have q7 : (u.toList == [116, 104, 101, 97, 100]) = false := by rw [eu]; decide +kernel
                have q8 : (u.toList != [116, 104, 101, 97, 100]) = true := by rw [eu]; decide +kernel
                have q9 : (u.toList == [116, 98, 111, 100, 121]) = true := by rw [eu]; decide +kernel
                have q10 : (u.toList != [116, 98, 111, 100, 121]) = false := by rw [eu]; decide +kernel
                clear ex eu
                go_wp2
                go_meet
                exact ⟨rfl, rfl, rfl, rfl, hbw⟩
              · as_aux_lemma =>
                have q1 : (x.toList == [99, 97, 112, 116, 105, 111, 110]) = false := by rw [ex]; decide +kernel
                have q2 : (x.toList == [99, 111, 108, 103, 114, 111, 117, 112]) = false := by rw [ex]; decide +kernel
                have q3 : (x.toList == [116, 104, 101, 97, 100]) = false := by rw [ex]; decide +kernel
                have q4 : (x.toList == [116, 98, 111, 100, 121]) = false := by rw [ex]; decide +kernel
                have q5 : (x.toList == [116, 102, 111, 111, 116]) = false := by rw [ex]; decide +kernel
                have q6 : (x.toList == [116, 114]) = true := by rw [ex]; decide +kernel
                have q7 : (u.toList == [116, 104, 101, 97, 100]) = false := by rw [eu]; decide +kernel
                have q8 : (u.toList != [116, 104, 101, 97, 100]) = true := by rw [eu]; decide +kernel
                have q9 : (u.toList == [116, 98, 111, 100, 121]) = false := by rw [eu]; decide +kernel
                have q10 : (u.toList != [116, 98, 111, 100, 121]) = true := by rw [eu]; decide +kernel
                have q11 : (u.toList == [116, 102, 111, 111, 116]) = true := by rw [eu]; decide +kernel
                have q12 : (u.toList != [116, 102, 111, 111, 116]) = false := by rw [eu]; decide +kernel
                clear ex eu
                go_wp2
                go_meet
                exact ⟨rfl, rfl, rfl, rfl, hbw⟩
              · as_aux_lemma =>
                have q1 : (x.toList == [99, 97, 112, 116, 105, 111, 110]) = false := by rw [ex]; decide +kernel
                have q2 : (x.toList == [99, 111, 108, 103, 114, 111, 117, 112]) = false := by rw [ex]; decide +kernel
                have q3 : (x.toList == [116, 104, 101, 97, 100]) = false := by rw [ex]; decide +kernel
                have q4 : (x.toList == [116, 98, 111, 100, 121]) = false := by rw [ex]; decide +kernel
                have q5 : (x.toList == [116, 102, 111, 111, 116]) = false := by rw [ex]; decide +kernel
                have q6 : (x.toList == [116, 114]) = false := by rw [ex]; decide +kernel
                have q7 : (x.toList == [116, 100]) = true := by rw [ex]; decide +kernel
                have q8 : (u.toList == [116, 114]) = true := by rw [eu]; decide +kernel
                have q9 : (u.toList != [116, 114]) = false := by rw [eu]; decide +kernel
                clear ex eu
                go_wp2
                go_meet
                exact ⟨rfl, rfl, rfl, rfl, hbw⟩
              · as_aux_lemma =>
                have q1 : (x.toList == [99, 97, 112, 116, 105, 111, 110]) = false := by rw [ex]; decide +kernel
                have q2 : (x.toList == [99, 111, 108, 103, 114, 111, 117, 112]) = false := by rw [ex]; decide +kernel
                have q3 : (x.toList == [116, 104, 101, 97, 100]) = false := by rw [ex]; decide +kernel
                have q4 : (x.toList == [116, 98, 111, 100, 121]) = false := by rw [ex]; decide +kernel
                have q5 : (x.toList == [116, 102, 111, 111, 116]) = false := by rw [ex]; decide +kernel
                have q6 : (x.toList == [116, 114]) = false := by rw [ex]; decide +kernel
                have q7 : (x.toList == [116, 100]) = false := by rw [ex]; decide +kernel
                have q8 : (x.toList == [116, 104]) = true := by rw [ex]; decide +kernel
                have q9 : (u.toList == [116, 114]) = true := by rw [eu]; decide +kernel
                have q10 : (u.toList != [116, 114]) = false := by rw [eu]; decide +kernel
                clear ex eu
                go_wp2
                go_meet
                exact ⟨rfl, rfl, rfl, rfl, hbw⟩
              · as_aux_lemma =>
                have q1 : (x.toList == [99, 97, 112, 116, 105, 111, 110]) = false := by rw [ex]; decide +kernel
                have q2 : (x.toList == [99, 111, 108, 103, 114, 111, 117, 112]) = false := by rw [ex]; decide +kernel
                have q3 : (x.toList == [116, 104, 101, 97, 100]) = false := by rw [ex]; decide +kernel
                have q4 : (x.toList == [116, 98, 111, 100, 121]) = false := by rw [ex]; decide +kernel
                have q5 : (x.toList == [116, 102, 111, 111, 116]) = false := by rw [ex]; decide +kernel
                have q6 : (x.toList == [116, 114]) = false := by rw [ex]; decide +kernel
                have q7 : (x.toList == [116, 100]) = false := by rw [ex]; decide +kernel
                have q8 : (x.toList == [116, 104]) = false := by rw [ex]; decide +kernel
                have q9 : (x.toList == [108, 105]) = true := by rw [ex]; decide +kernel
                have q10 : (u.toList == [117, 108]) = true := by rw [eu]; decide +kernel
                have q11 : (u.toList != [117, 108]) = false := by rw [eu]; decide +kernel
                clear ex eu
                go_wp2
                go_meet
                exact ⟨rfl, rfl, rfl, rfl, hbw⟩
              · as_aux_lemma =>
                have q1 : (x.toList == [99, 97, 112, 116, 105, 111, 110]) = false := by rw [ex]; decide +kernel
                have q2 : (x.toList == [99, 111, 108, 103, 114, 111, 117, 112]) = false := by rw [ex]; decide +kernel
                have q3 : (x.toList == [116, 104, 101, 97, 100]) = false := by rw [ex]; decide +kernel
                have q4 : (x.toList == [116, 98, 111, 100, 121]) = false := by rw [ex]; decide +kernel
                have q5 : (x.toList == [116, 102, 111, 111, 116]) = false := by rw [ex]; decide +kernel
                have q6 : (x.toList == [116, 114]) = false := by rw [ex]; decide +kernel
                have q7 : (x.toList == [116, 100]) = false := by rw [ex]; decide +kernel
                have q8 : (x.toList == [116, 104]) = false := by rw [ex]; decide +kernel
                have q9 : (x.toList == [108, 105]) = true := by rw [ex]; decide +kernel
                have q10 : (u.toList == [117, 108]) = false := by rw [eu]; decide +kernel
                have q11 : (u.toList != [117, 108]) = true := by rw [eu]; decide +kernel
                have q12 : (u.toList == [111, 108]) = true := by rw [eu]; decide +kernel
                have q13 : (u.toList != [111, 108]) = false := by rw [eu]; decide +kernel
                clear ex eu
                go_wp2
                go_meet
                exact ⟨rfl, rfl, rfl, rfl, hbw⟩
              · as_aux_lemma =>
                have q1 : (x.toList == [99, 97, 112, 116, 105, 111, 110]) = false := by rw [ex]; decide +kernel
                have q2 : (x.toList == [99, 111, 108, 103, 114, 111, 117, 112]) = false := by rw [ex]; decide +kernel
                have q3 : (x.toList == [116, 104, 101, 97, 100]) = false := by rw [ex]; decide +kernel
                have q4 : (x.toList == [116, 98, 111, 100, 121]) = false := by rw [ex]; decide +kernel
                have q5 : (x.toList == [116, 102, 111, 111, 116]) = false := by rw [ex]; decide +kernel
                have q6 : (x.toList == [116, 114]) = false := by rw [ex]; decide +kernel
                have q7 : (x.toList == [116, 100]) = false := by rw [ex]; decide +kernel
                have q8 : (x.toList == [116, 104]) = false := by rw [ex]; decide +kernel
                have q9 : (x.toList == [108, 105]) = true := by rw [ex]; decide +kernel
                have q10 : (u.toList == [117, 108]) = false := by rw [eu]; decide +kernel
                have q11 : (u.toList != [117, 108]) = true := by rw [eu]; decide +kernel
                have q12 : (u.toList == [111, 108]) = false := by rw [eu]; decide +kernel
                have q13 : (u.toList != [111, 108]) = true := by rw [eu]; decide +kernel
                have q14 : (u.toList == [109, 101, 110, 117]) = true := by rw [eu]; decide +kernel
                have q15 : (u.toList != [109, 101, 110, 117]) = false := by rw [eu]; decide +kernel
                clear ex eu
                go_wp2
                go_meet
                exact ⟨rfl, rfl, rfl, rfl, hbw⟩
              · as_aux_lemma =>
                have q1 : (x.toList == [99, 97, 112, 116, 105, 111, 110]) = false := by rw [ex]; decide +kernel
                have q2 : (x.toList == [99, 111, 108, 103, 114, 111, 117, 112]) = false := by rw [ex]; decide +kernel
                have q3 : (x.toList == [116, 104, 101, 97, 100]) = false := by rw [ex]; decide +kernel
                have q4 : (x.toList == [116, 98, 111, 100, 121]) = false := by rw [ex]; decide +kernel
                have q5 : (x.toList == [116, 102, 111, 111, 116]) = false := by rw [ex]; decide +kernel
                have q6 : (x.toList == [116, 114]) = false := by rw [ex]; decide +kernel
                have q7 : (x.toList == [116, 100]) = false := by rw [ex]; decide +kernel
                have q8 : (x.toList == [116, 104]) = false := by rw [ex]; decide +kernel
                have q9 : (x.toList == [108, 105]) = false := by rw [ex]; decide +kernel
                have q10 : (x.toList == [100, 116]) = true := by rw [ex]; decide +kernel
                have q11 : (u.toList == [100, 108]) = true := by rw [eu]; decide +kernel
                have q12 : (u.toList != [100, 108]) = false := by rw [eu]; decide +kernel
                clear ex eu
                go_wp2
                go_meet
                exact ⟨rfl, rfl, rfl, rfl, hbw⟩
              · as_aux_lemma =>
                have q1 : (x.toList == [99, 97, 112, 116, 105, 111, 110]) = false := by rw [ex]; decide +kernel
                have q2 : (x.toList == [99, 111, 108, 103, 114, 111, 117, 112]) = false := by rw [ex]; decide +kernel
                have q3 : (x.toList == [116, 104, 101, 97, 100]) = false := by rw [ex]; decide +kernel
                have q4 : (x.toList == [116, 98, 111, 100, 121]) = false := by rw [ex]; decide +kernel
                have q5 : (x.toList == [116, 102, 111, 111, 116]) = false := by rw [ex]; decide +kernel
                have q6 : (x.toList == [116, 114]) = false := by rw [ex]; decide +kernel
                have q7 : (x.toList == [116, 100]) = false := by rw [ex]; decide +kernel
                have q8 : (x.toList == [116, 104]) = false := by rw [ex]; decide +kernel
                have q9 : (x.toList == [108, 105]) = false := by rw [ex]; decide +kernel
                have q10 : (x.toList == [100, 116]) = false := by rw [ex]; decide +kernel
                have q11 : (x.toList == [100, 100]) = true := by rw [ex]; decide +kernel
                have q12 : (u.toList == [100, 108]) = true := by rw [eu]; decide +kernel
                have q13 : (u.toList != [100, 108]) = false := by rw [eu]; decide +kernel
                clear ex eu
                go_wp2
                go_meet
                exact ⟨rfl, rfl, rfl, rfl, hbw⟩
              · as_aux_lemma =>
                have nx_caption : (x.toList == [99, 97, 112, 116, 105, 111, 110]) = false := ne_b (by decide +kernel) hox.n_caption
                have nx_colgroup : (x.toList == [99, 111, 108, 103, 114, 111, 117, 112]) = false := ne_b (by decide +kernel) hox.n_colgroup
                have nx_thead : (x.toList == [116, 104, 101, 97, 100]) = false := ne_b (by decide +kernel) hox.n_thead
                have nx_tbody : (x.toList == [116, 98, 111, 100, 121]) = false := ne_b (by decide +kernel) hox.n_tbody
                have nx_tfoot : (x.toList == [116, 102, 111, 111, 116]) = false := ne_b (by decide +kernel) hox.n_tfoot
                have nx_tr : (x.toList == [116, 114]) = false := ne_b (by decide +kernel) hox.n_tr
                have nx_td : (x.toList == [116, 100]) = false := ne_b (by decide +kernel) hox.n_td
                have nx_th : (x.toList == [116, 104]) = false := ne_b (by decide +kernel) hox.n_th
                have nx_li : (x.toList == [108, 105]) = false := ne_b (by decide +kernel) hox.n_li
                have nx_dt : (x.toList == [100, 116]) = false := ne_b (by decide +kernel) hox.n_dt
                have nx_dd : (x.toList == [100, 100]) = false := ne_b (by decide +kernel) hox.n_dd
                clear hox hu1 hu2 hu3
                cases hxa : is_a x
                · as_aux_lemma =>
                  have nx_a : (x.toList == [97]) = false := hxa
                  go_wp2
                  go_meet
                  exact ⟨rfl, rfl, rfl, rfl, hbw⟩
                · have nx_a : (x.toList == [97]) = true := hxa
                  have hqa := HWA.out hxa
                  by_cases hka : 0 ≤ ka
                  · as_aux_lemma =>
                    go_upto_region 34 with (go_at_call 16; refine (HA.out w1 hbw).mono ?_; rintro e w2 ⟨rfl, hb2⟩)
                    have hbw2 := seq hbw hb2
                    go_wp2_with (go_at_call 16; refine (HC.out w2 hbw2).mono ?_; rintro e w3 ⟨rfl, hb3⟩)
                    go_meet
                    exact ⟨rfl, rfl, rfl, rfl, seq hbw2 hb3⟩
                  · as_aux_lemma =>
                    go_upto_region 34 with (go_at_call 16; refine (HA.out w1 hbw).mono ?_; rintro e w2 ⟨rfl, hb2⟩)
                    have hbw2 := seq hbw hb2
                    go_wp2
                    go_meet
                    exact ⟨rfl, rfl, rfl, rfl, hbw2⟩
            case rest =>
              obtain ⟨rfl, rfl, rfl, rfl, hbd⟩ := hcut
              clear hb1 hbw hbc
              have hbw := hbd
              go_upto_region 36 with fail
              go_cut [4, 5, 18, 114] (fun s4 s5 s18 s114 wx => s4 = .string x ∧ s5 = .string u ∧ s18 = .int .i64 j ∧ s114 = .bool false ∧ Below w.heap.size w wx)
              case first =>
                cases h6 : inS x 6 <;> cases h5 : inS x 5
                · skip
                  go_wp2_with (first | (go_at_call 17; refine (nIn x _ _ (HT.out _ hbw)).mono ?_; rintro e w6 ⟨rfl, hb6⟩; (first | rw [h6] | rw [h5]); have hbw := seq hbw hb6))
                  go_meet
                  exact ⟨rfl, rfl, rfl, by first | rfl | simp [*], hbw⟩
                · skip
                  have hq5 := HW5.out h5
                  go_wp2_with (first | (go_at_call 17; refine (nIn x _ _ (HT.out _ hbw)).mono ?_; rintro e w6 ⟨rfl, hb6⟩; (first | rw [h6] | rw [h5]); have hbw := seq hbw hb6) | (go_at_call 16; refine (HH.out w6 hbw).mono ?_; rintro e w9 ⟨rfl, hb9⟩; have hbw := seq hbw hb9))
                  go_meet
                  exact ⟨rfl, rfl, rfl, by first | rfl | simp [*], hbw⟩
                · skip
                  have hq6 := HW6.out h6
                  go_wp2_with (first | (go_at_call 17; refine (nIn x _ _ (HT.out _ hbw)).mono ?_; rintro e w6 ⟨rfl, hb6⟩; (first | rw [h6] | rw [h5]); have hbw := seq hbw hb6) | (go_at_call 16; refine (HP.out w6 hbw).mono ?_; rintro e w8 ⟨rfl, hb8⟩; have hbw := seq hbw hb8; have hdone := True.intro))
                  go_meet
                  exact ⟨rfl, rfl, rfl, by first | rfl | simp [*], hbw⟩
                · skip
                  have hq6 := HW6.out h6
                  have hq5 := HW5.out h5
                  go_wp2_with (first | (go_at_call 17; refine (nIn x _ _ (HT.out _ hbw)).mono ?_; rintro e w6 ⟨rfl, hb6⟩; (first | rw [h6] | rw [h5]); have hbw := seq hbw hb6) | (go_at_call 16; have _z := hdone; refine (HH.out w6 hbw).mono ?_; rintro e w9 ⟨rfl, hb9⟩; have hbw := seq hbw hb9) | (go_at_call 16; refine (HP.out w6 hbw).mono ?_; rintro e w8 ⟨rfl, hb8⟩; have hbw := seq hbw hb8; have hdone := True.intro))
                  go_meet
                  exact ⟨rfl, rfl, rfl, by first | rfl | simp [*], hbw⟩
              case rest =>
                obtain ⟨rfl, rfl, rfl, rfl, hbe⟩ := hcut
                clear hbw hbd
                have hbw := hbe
                rcases HCLS.out with ⟨ex, eu⟩ | ⟨ex, eu⟩ | ⟨ex, eu⟩ | ⟨ex, eu⟩ | ⟨ex, eu⟩ | ⟨ex, eu⟩ | ⟨ex, eu⟩ | ⟨ex, eu⟩ | ⟨ex, eu⟩ | ⟨ex, eu⟩ | ⟨ex, eu⟩ | ⟨ex, eu⟩ | ⟨ex, eu⟩ | ⟨ex, eu⟩ | ⟨ex, eu⟩ | ⟨hox, hu1, hu2, hu3⟩
                · as_aux_lemma =>
                  have q1 : (u.toList == [116, 97, 98, 108, 101]) = true := by rw [eu]; decide +kernel
                  have q2 : (x.toList == [99, 97, 112, 116, 105, 111, 110]) = true := by rw [ex]; decide +kernel
                  have q3 : (x.toList != [99, 97, 112, 116, 105, 111, 110]) = false := by rw [ex]; decide +kernel
                  have q4 : (u.toList == [116, 114]) = false := by rw [eu]; decide +kernel
                  have q5 : (u.toList == [116, 101, 120, 116, 97, 114, 101, 97]) = false := by rw [eu]; decide +kernel
                  clear ex eu
                  go_wp2_with (go_at_call 17; refine (nIn x 0 _ (HT.out _ hbw)).mono ?_; rintro e w0 ⟨rfl, hb0⟩; rw [h0]; have hbw := seq hbw hb0)
                  go_roundw
                  case rel =>
                    exact ⟨j + 1, by omega, by go_num, hbw⟩
                  case measure => simp [intOf] <;> omega
                · as_aux_lemma =>
                  have q1 : (u.toList == [116, 97, 98, 108, 101]) = true := by rw [eu]; decide +kernel
                  have q2 : (x.toList == [99, 97, 112, 116, 105, 111, 110]) = false := by rw [ex]; decide +kernel
                  have q3 : (x.toList != [99, 97, 112, 116, 105, 111, 110]) = true := by rw [ex]; decide +kernel
                  have q4 : (x.toList == [99, 111, 108, 103, 114, 111, 117, 112]) = true := by rw [ex]; decide +kernel
                  have q5 : (x.toList != [99, 111, 108, 103, 114, 111, 117, 112]) = false := by rw [ex]; decide +kernel
                  have q6 : (u.toList == [116, 114]) = false := by rw [eu]; decide +kernel
                  have q7 : (u.toList == [116, 101, 120, 116, 97, 114, 101, 97]) = false := by rw [eu]; decide +kernel
                  clear ex eu
                  go_wp2_with (go_at_call 17; refine (nIn x 0 _ (HT.out _ hbw)).mono ?_; rintro e w0 ⟨rfl, hb0⟩; rw [h0]; have hbw := seq hbw hb0)
                  go_roundw
                  case rel =>
                    exact ⟨j + 1, by omega, by go_num, hbw⟩
                  case measure => simp [intOf] <;> omega
                · as_aux_lemma =>
                  have q1 : (u.toList == [116, 97, 98, 108, 101]) = true := by rw [eu]; decide +kernel
                  have q2 : (x.toList == [99, 97, 112, 116, 105, 111, 110]) = false := by rw [ex]; decide +kernel
                  have q3 : (x.toList != [99, 97, 112, 116, 105, 111, 110]) = true := by rw [ex]; decide +kernel
                  have q4 : (x.toList == [99, 111, 108, 103, 114, 111, 117, 112]) = false := by rw [ex]; decide +kernel
                  have q5 : (x.toList != [99, 111, 108, 103, 114, 111, 117, 112]) = true := by rw [ex]; decide +kernel
                  have q6 : (x.toList == [116, 104, 101, 97, 100]) = true := by rw [ex]; decide +kernel
                  have q7 : (x.toList != [116, 104, 101, 97, 100]) = false := by rw [ex]; decide +kernel
                  have q8 : (u.toList == [116, 114]) = false := by rw [eu]; decide +kernel
                  have q9 : (u.toList == [116, 101, 120, 116, 97, 114, 101, 97]) = false := by rw [eu]; decide +kernel
                  clear ex eu
                  go_wp2_with (go_at_call 17; refine (nIn x 0 _ (HT.out _ hbw)).mono ?_; rintro e w0 ⟨rfl, hb0⟩; rw [h0]; have hbw := seq hbw hb0)
                  go_roundw
                  case rel =>
                    exact ⟨j + 1, by omega, by go_num, hbw⟩
                  case measure => simp [intOf] <;> omega
                · as_aux_lemma =>
                  have q1 : (u.toList == [116, 97, 98, 108, 101]) = true := by rw [eu]; decide +kernel
                  have q2 : (x.toList == [99, 97, 112, 116, 105, 111, 110]) = false := by rw [ex]; decide +kernel
                  have q3 : (x.toList != [99, 97, 112, 116, 105, 111, 110]) = true := by rw [ex]; decide +kernel
                  have q4 : (x.toList == [99, 111, 108, 103, 114, 111, 117, 112]) = false := by rw [ex]; decide +kernel
                  have q5 : (x.toList != [99, 111, 108, 103, 114, 111, 117, 112]) = true := by rw [ex]; decide +kernel
                  have q6 : (x.toList == [116, 104, 101, 97, 100]) = false := by rw [ex]; decide +kernel
                  have q7 : (x.toList != [116, 104, 101, 97, 100]) = true := by rw [ex]; decide +kernel
                  have q8 : (x.toList == [116, 98, 111, 100, 121]) = true := by rw [ex]; decide +kernel
                  have q9 : (x.toList != [116, 98, 111, 100, 121]) = false := by rw [ex]; decide +kernel
                  have q10 : (u.toList == [116, 114]) = false := by rw [eu]; decide +kernel
                  have q11 : (u.toList == [116, 101, 120, 116, 97, 114, 101, 97]) = false := by rw [eu]; decide +kernel
                  clear ex eu
                  go_wp2_with (go_at_call 17; refine (nIn x 0 _ (HT.out _ hbw)).mono ?_; rintro e w0 ⟨rfl, hb0⟩; rw [h0]; have hbw := seq hbw hb0)
                  go_roundw
                  case rel =>
                    exact ⟨j + 1, by omega, by go_num, hbw⟩
                  case measure => simp [intOf] <;> omega
                · as_aux_lemma =>
                  have q1 : (u.toList == [116, 97, 98, 108, 101]) = true := by rw [eu]; decide +kernel
                  have q2 : (x.toList == [99, 97, 112, 116, 105, 111, 110]) = false := by rw [ex]; decide +kernel
                  have q3 : (x.toList != [99, 97, 112, 116, 105, 111, 110]) = true := by rw [ex]; decide +kernel
                  have q4 : (x.toList == [99, 111, 108, 103, 114, 111, 117, 112]) = false := by rw [ex]; decide +kernel
                  have q5 : (x.toList != [99, 111, 108, 103, 114, 111, 117, 112]) = true := by rw [ex]; decide +kernel
                  have q6 : (x.toList == [116, 104, 101, 97, 100]) = false := by rw [ex]; decide +kernel
                  have q7 : (x.toList != [116, 104, 101, 97, 100]) = true := by rw [ex]; decide +kernel
                  have q8 : (x.toList == [116, 98, 111, 100, 121]) = false := by rw [ex]; decide +kernel
                  have q9 : (x.toList != [116, 98, 111, 100, 121]) = true := by rw [ex]; decide +kernel
                  have q10 : (x.toList == [116, 102, 111, 111, 116]) = true := by rw [ex]; decide +kernel
                  have q11 : (x.toList != [116, 102, 111, 111, 116]) = false := by rw [ex]; decide +kernel
                  have q12 : (u.toList == [116, 114]) = false := by rw [eu]; decide +kernel
                  have q13 : (u.toList == [116, 101, 120, 116, 97, 114, 101, 97]) = false := by rw [eu]; decide +kernel
                  clear ex eu
                  go_wp2_with (go_at_call 17; refine (nIn x 0 _ (HT.out _ hbw)).mono ?_; rintro e w0 ⟨rfl, hb0⟩; rw [h0]; have hbw := seq hbw hb0)
                  go_roundw
                  case rel =>
                    exact ⟨j + 1, by omega, by go_num, hbw⟩
                  case measure => simp [intOf] <;> omega
                · as_aux_lemma =>
                  have q1 : (u.toList == [116, 97, 98, 108, 101]) = false := by rw [eu]; decide +kernel
                  have q2 : (u.toList == [116, 114]) = false := by rw [eu]; decide +kernel
                  have q3 : (u.toList == [116, 101, 120, 116, 97, 114, 101, 97]) = false := by rw [eu]; decide +kernel
                  clear ex eu
                  go_wp2_with (go_at_call 17; refine (nIn x 0 _ (HT.out _ hbw)).mono ?_; rintro e w0 ⟨rfl, hb0⟩; rw [h0]; have hbw := seq hbw hb0)
                  go_roundw
                  case rel =>
                    exact ⟨j + 1, by omega, by go_num, hbw⟩
                  case measure => simp [intOf] <;> omega
                · as_aux_lemma =>
                  have q1 : (u.toList == [116, 97, 98, 108, 101]) = false := by rw [eu]; decide +kernel
                  have q2 : (u.toList == [116, 114]) = false := by rw [eu]; decide +kernel
                  have q3 : (u.toList == [116, 101, 120, 116, 97, 114, 101, 97]) = false := by rw [eu]; decide +kernel
                  clear ex eu
                  go_wp2_with (go_at_call 17; refine (nIn x 0 _ (HT.out _ hbw)).mono ?_; rintro e w0 ⟨rfl, hb0⟩; rw [h0]; have hbw := seq hbw hb0)
                  go_roundw
                  case rel =>
                    exact ⟨j + 1, by omega, by go_num, hbw⟩
                  case measure => simp [intOf] <;> omega
                · as_aux_lemma =>
                  have q1 : (u.toList == [116, 97, 98, 108, 101]) = false := by rw [eu]; decide +kernel
                  have q2 : (u.toList == [116, 114]) = false := by rw [eu]; decide +kernel
                  have q3 : (u.toList == [116, 101, 120, 116, 97, 114, 101, 97]) = false := by rw [eu]; decide +kernel
                  clear ex eu
                  go_wp2_with (go_at_call 17; refine (nIn x 0 _ (HT.out _ hbw)).mono ?_; rintro e w0 ⟨rfl, hb0⟩; rw [h0]; have hbw := seq hbw hb0)
                  go_roundw
                  case rel =>
                    exact ⟨j + 1, by omega, by go_num, hbw⟩
                  case measure => simp [intOf] <;> omega
                · as_aux_lemma =>
                  have q1 : (u.toList == [116, 97, 98, 108, 101]) = false := by rw [eu]; decide +kernel
                  have q2 : (u.toList == [116, 114]) = true := by rw [eu]; decide +kernel
                  have q3 : (x.toList == [116, 100]) = true := by rw [ex]; decide +kernel
                  have q4 : (x.toList != [116, 100]) = false := by rw [ex]; decide +kernel
                  have q5 : (u.toList == [116, 101, 120, 116, 97, 114, 101, 97]) = false := by rw [eu]; decide +kernel
                  clear ex eu
                  go_wp2_with (go_at_call 17; refine (nIn x 0 _ (HT.out _ hbw)).mono ?_; rintro e w0 ⟨rfl, hb0⟩; rw [h0]; have hbw := seq hbw hb0)
                  go_roundw
                  case rel =>
                    exact ⟨j + 1, by omega, by go_num, hbw⟩
                  case measure => simp [intOf] <;> omega
                · as_aux_lemma =>
                  have q1 : (u.toList == [116, 97, 98, 108, 101]) = false := by rw [eu]; decide +kernel
                  have q2 : (u.toList == [116, 114]) = true := by rw [eu]; decide +kernel
                  have q3 : (x.toList == [116, 100]) = false := by rw [ex]; decide +kernel
                  have q4 : (x.toList != [116, 100]) = true := by rw [ex]; decide +kernel
                  have q5 : (x.toList == [116, 104]) = true := by rw [ex]; decide +kernel
                  have q6 : (x.toList != [116, 104]) = false := by rw [ex]; decide +kernel
                  have q7 : (u.toList == [116, 101, 120, 116, 97, 114, 101, 97]) = false := by rw [eu]; decide +kernel
                  clear ex eu
                  go_wp2_with (go_at_call 17; refine (nIn x 0 _ (HT.out _ hbw)).mono ?_; rintro e w0 ⟨rfl, hb0⟩; rw [h0]; have hbw := seq hbw hb0)
                  go_roundw
                  case rel =>
                    exact ⟨j + 1, by omega, by go_num, hbw⟩
                  case measure => simp [intOf] <;> omega
                · as_aux_lemma =>
                  have q1 : (u.toList == [116, 97, 98, 108, 101]) = false := by rw [eu]; decide +kernel
                  have q2 : (u.toList == [116, 114]) = false := by rw [eu]; decide +kernel
                  have q3 : (u.toList == [116, 101, 120, 116, 97, 114, 101, 97]) = false := by rw [eu]; decide +kernel
                  clear ex eu
                  go_wp2_with (go_at_call 17; refine (nIn x 0 _ (HT.out _ hbw)).mono ?_; rintro e w0 ⟨rfl, hb0⟩; rw [h0]; have hbw := seq hbw hb0)
                  go_roundw
                  case rel =>
                    exact ⟨j + 1, by omega, by go_num, hbw⟩
                  case measure => simp [intOf] <;> omega
                · as_aux_lemma =>
                  have q1 : (u.toList == [116, 97, 98, 108, 101]) = false := by rw [eu]; decide +kernel
                  have q2 : (u.toList == [116, 114]) = false := by rw [eu]; decide +kernel
                  have q3 : (u.toList == [116, 101, 120, 116, 97, 114, 101, 97]) = false := by rw [eu]; decide +kernel
                  clear ex eu
                  go_wp2_with (go_at_call 17; refine (nIn x 0 _ (HT.out _ hbw)).mono ?_; rintro e w0 ⟨rfl, hb0⟩; rw [h0]; have hbw := seq hbw hb0)
                  go_roundw
                  case rel =>
                    exact ⟨j + 1, by omega, by go_num, hbw⟩
                  case measure => simp [intOf] <;> omega
                · as_aux_lemma =>
                  have q1 : (u.toList == [116, 97, 98, 108, 101]) = false := by rw [eu]; decide +kernel
                  have q2 : (u.toList == [116, 114]) = false := by rw [eu]; decide +kernel
                  have q3 : (u.toList == [116, 101, 120, 116, 97, 114, 101, 97]) = false := by rw [eu]; decide +kernel
                  clear ex eu
                  go_wp2_with (go_at_call 17; refine (nIn x 0 _ (HT.out _ hbw)).mono ?_; rintro e w0 ⟨rfl, hb0⟩; rw [h0]; have hbw := seq hbw hb0)
                  go_roundw
                  case rel =>
                    exact ⟨j + 1, by omega, by go_num, hbw⟩
                  case measure => simp [intOf] <;> omega
                · as_aux_lemma =>
                  have q1 : (u.toList == [116, 97, 98, 108, 101]) = false := by rw [eu]; decide +kernel
                  have q2 : (u.toList == [116, 114]) = false := by rw [eu]; decide +kernel
                  have q3 : (u.toList == [116, 101, 120, 116, 97, 114, 101, 97]) = false := by rw [eu]; decide +kernel
                  clear ex eu
                  go_wp2_with (go_at_call 17; refine (nIn x 0 _ (HT.out _ hbw)).mono ?_; rintro e w0 ⟨rfl, hb0⟩; rw [h0]; have hbw := seq hbw hb0)
                  go_roundw
                  case rel =>
                    exact ⟨j + 1, by omega, by go_num, hbw⟩
                  case measure => simp [intOf] <;> omega
                · as_aux_lemma =>
                  have q1 : (u.toList == [116, 97, 98, 108, 101]) = false := by rw [eu]; decide +kernel
                  have q2 : (u.toList == [116, 114]) = false := by rw [eu]; decide +kernel
                  have q3 : (u.toList == [116, 101, 120, 116, 97, 114, 101, 97]) = false := by rw [eu]; decide +kernel
                  clear ex eu
                  go_wp2_with (go_at_call 17; refine (nIn x 0 _ (HT.out _ hbw)).mono ?_; rintro e w0 ⟨rfl, hb0⟩; rw [h0]; have hbw := seq hbw hb0)
                  go_roundw
                  case rel =>
                    exact ⟨j + 1, by omega, by go_num, hbw⟩
                  case measure => simp [intOf] <;> omega
                · as_aux_lemma =>
                  have q1 : (u.toList == [116, 97, 98, 108, 101]) = false := ne_b (by decide +kernel) hu1
                  have q2 : (u.toList == [116, 114]) = false := ne_b (by decide +kernel) hu2
                  have q3 : (u.toList == [116, 101, 120, 116, 97, 114, 101, 97]) = false := ne_b (by decide +kernel) hu3
                  clear hox hu1 hu2 hu3
                  go_wp2_with (go_at_call 17; refine (nIn x 0 _ (HT.out _ hbw)).mono ?_; rintro e w0 ⟨rfl, hb0⟩; rw [h0]; have hbw := seq hbw hb0)
                  go_roundw
                  case rel =>
                    exact ⟨j + 1, by omega, by go_num, hbw⟩
                  case measure => simp [intOf] <;> omega
        · go_wp2_with (go_at_call 13; refine (awakeC _ (HT.out _ hnx)).mono ?_; rintro e wa ⟨rfl, hba⟩)
          go_ret
          exact ⟨rfl, seq hnx hba⟩
end Go.Proofs.YtddgpkdhakjjaaaDoor.nestTables
