/- nest: inner, in one contract; item. -/
import Derived.Test.YtddgpkdhakjjaaaDoorWp
set_option linter.unusedVariables false
set_option linter.unusedSimpArgs false
namespace Go.Proofs.YtddgpkdhakjjaaaDoor.Wi
open Go.RowKit Lb Fl Is Tp Np Wk Wp

theorem addN_T {y : ByteArray} (h : (y.toList == [116, 97, 98, 108, 101]) = true) : addN y = [s_tbody, s_tr, s_td] := by unfold addN is_table; rw [if_pos h]
theorem addN_G {y : ByteArray} (h : (y.toList == [116, 97, 98, 108, 101]) = false) (h2 : groupB y = true) : addN y = [s_tr, s_td] := by
  unfold addN is_table; rw [h, h2]; rfl
theorem addN_R {y : ByteArray} (h : (y.toList == [116, 97, 98, 108, 101]) = false) (h2 : groupB y = false) (h3 : (y.toList == [116, 114]) = true) : addN y = [s_td] := by
  unfold addN is_table is_tr; rw [h, h2, h3]; rfl
theorem addN_L {y : ByteArray} (h : (y.toList == [116, 97, 98, 108, 101]) = false) (h2 : groupB y = false) (h3 : (y.toList == [116, 114]) = false) (h4 : listB y = true) : addN y = [s_li] := by
  unfold addN is_table is_tr; rw [h, h2, h3, h4]; rfl
theorem addN_D {y : ByteArray} (h : (y.toList == [116, 97, 98, 108, 101]) = false) (h2 : groupB y = false) (h3 : (y.toList == [116, 114]) = false) (h4 : listB y = false) (h5 : (y.toList == [100, 108]) = true) : addN y = [s_dd] := by
  unfold addN is_table is_tr is_dl; rw [h, h2, h3, h4, h5]; rfl
theorem addN_O {y : ByteArray} (h : (y.toList == [116, 97, 98, 108, 101]) = false) (h2 : groupB y = false) (h3 : (y.toList == [116, 114]) = false) (h4 : listB y = false) (h5 : (y.toList == [100, 108]) = false) : addN y = [] := by
  unfold addN is_table is_tr is_dl; rw [h, h2, h3, h4, h5]; rfl
theorem addN_len (y : ByteArray) : (addN y).length ≤ 3 := by
  unfold addN
  repeat' split
  all_goals simp

theorem bun_of {w : World} {B g n c : Nat} {A : Option Addr} {s p : List ByteArray} {pv : Value} (hB : B ≤ w.heap.size) (h1 : Wrk w g (.slice A n c) pv) (h2 : Fl.Own w B pv p) (h3 : RdB w B A n s) : Bun pv.ownBlock w w B g A n c s pv p :=
  ⟨h1, h2, h3, hB, Below.refl _ _, fun _ _ _ _ => rfl, Nat.le_refl _, .inl rfl⟩

theorem innerC (w : World) (B g : Nat) (r : Option Nat) (s p : List ByteArray) (hB : B ≤ w.heap.size) (h : St w B g r s p) (hp : p.length ≤ 100000) :
    Calls Tryd.prog 56 #[.pointer (some ⟨g, 0, none⟩)] w (Wp.Ends w B g r (inS2 s p) (inP2 s p)) := by
  obtain ⟨A, n, c, pv, hw, hc, hc2, hr, ho, hg, hrow⟩ := h
  obtain ⟨A2, c2, rfl⟩ := ho.form
  have hu := bun_of hB hw ho hr
  rw [hrow] at hu
  have hn : n ≤ 9223372036854775807 := by omega
  by_cases hp0 : p = []
  · subst hp0
    rw [List.length_nil] at hu
    cases hcg : ((topS s).toList == [99, 111, 108, 103, 114, 111, 117, 112])
    · have eS : inS2 s [] = s := by unfold inS2 is_colgroup; rw [hcg]; simp
      have eP : inP2 s [] = addN (topS s) := by unfold inP2; rw [eS]; simp
      have FIN : ∀ l, addN (topS s) = l → ∀ w' pv, Bun r w w' B g A n c s pv l → Wp.Ends w B g r (inS2 s []) (inP2 s []) (.returned (.tuple #[])) w' := by
        rintro l rfl w' pv hb
        rw [eS, eP]
        exact hb.ends hg hc hc2
      cases h1 : ((topS s).toList == [116, 97, 98, 108, 101])
      · cases h2 : groupB (topS s)
        · cases h3 : ((topS s).toList == [116, 114])
          · cases h4 : listB (topS s)
            · cases h5 : ((topS s).toList == [100, 108])
              · exact inQ_O r w B g n c c2 A A2 s _ rfl hu hg hn hcg h1 h2 h3 h4 h5 _ (FIN _ (addN_O h1 h2 h3 h4 h5))
              · exact inQ_D r w B g n c c2 A A2 s _ rfl hu hg hn hcg h1 h2 h3 h4 h5 _ (FIN _ (addN_D h1 h2 h3 h4 h5))
            · exact inQ_L r w B g n c c2 A A2 s _ rfl hu hg hn hcg h1 h2 h3 h4 _ (FIN _ (addN_L h1 h2 h3 h4))
          · exact inQ_R r w B g n c c2 A A2 s _ rfl hu hg hn hcg h1 h2 h3 _ (FIN _ (addN_R h1 h2 h3))
        · exact inQ_G r w B g n c c2 A A2 s _ rfl hu hg hn hcg h1 h2 _ (FIN _ (addN_G h1 h2))
      · exact inQ_T r w B g n c c2 A A2 s _ rfl hu hg hn hcg h1 _ (FIN _ (addN_T h1))
    · have hn0 : 0 < n := by
        rcases Nat.eq_zero_or_pos n with h0 | h0
        · have hs : s = [] := List.eq_nil_of_length_eq_zero (by rw [← hr.1]; exact h0)
          rw [hs] at hcg
          rw [show topS [] = ⟨#[]⟩ from rfl, Lib.toList_data] at hcg
          exact absurd hcg (by decide)
        · exact h0
      obtain ⟨m, rfl⟩ : ∃ m, n = m + 1 := ⟨n - 1, by omega⟩
      have eS : inS2 s [] = s.dropLast := by unfold inS2 is_colgroup; rw [hcg]; simp
      have eP : inP2 s [] = addN (topS s.dropLast) := by unfold inP2; rw [eS]; simp
      have FIN : ∀ l, addN (topS s.dropLast) = l → ∀ w' pv, Bun r w w' B g A m c s.dropLast pv l → Wp.Ends w B g r (inS2 s []) (inP2 s []) (.returned (.tuple #[])) w' := by
        rintro l rfl w' pv hb
        rw [eS, eP]
        exact hb.ends hg (by omega) hc2
      cases h1 : ((topS s.dropLast).toList == [116, 97, 98, 108, 101])
      · cases h2 : groupB (topS s.dropLast)
        · cases h3 : ((topS s.dropLast).toList == [116, 114])
          · cases h4 : listB (topS s.dropLast)
            · cases h5 : ((topS s.dropLast).toList == [100, 108])
              · exact inR_O r w B g m c c2 A A2 s _ _ rfl rfl hu hg hc hn hcg h1 h2 h3 h4 h5 _ (FIN _ (addN_O h1 h2 h3 h4 h5))
              · exact inR_D r w B g m c c2 A A2 s _ _ rfl rfl hu hg hc hn hcg h1 h2 h3 h4 h5 _ (FIN _ (addN_D h1 h2 h3 h4 h5))
            · exact inR_L r w B g m c c2 A A2 s _ _ rfl rfl hu hg hc hn hcg h1 h2 h3 h4 _ (FIN _ (addN_L h1 h2 h3 h4))
          · exact inR_R r w B g m c c2 A A2 s _ _ rfl rfl hu hg hc hn hcg h1 h2 h3 _ (FIN _ (addN_R h1 h2 h3))
        · exact inR_G r w B g m c c2 A A2 s _ _ rfl rfl hu hg hc hn hcg h1 h2 _ (FIN _ (addN_G h1 h2))
      · exact inR_T r w B g m c c2 A A2 s _ _ rfl rfl hu hg hc hn hcg h1 _ (FIN _ (addN_T h1))
  · have hl : 0 < p.length := List.length_pos_iff.2 hp0
    obtain ⟨b, off, rfl, _, hcell⟩ := ho.get (j := p.length - 1) (by omega)
    have hcy := hcell w (Below.refl _ _)
    rw [← topS_at hl] at hcy
    have eS : inS2 s p = s := by unfold inS2; simp [hp0]
    have eP : inP2 s p = p ++ addN (topS p) := by unfold inP2; simp [hp0]
    obtain ⟨m, hm⟩ : ∃ m, p.length = m + 1 := ⟨p.length - 1, by omega⟩
    rw [hm, Nat.add_sub_cancel] at hcy
    rw [hm] at hu
    have FIN : ∀ l, addN (topS p) = l → ∀ w' pv, Bun r w w' B g A n c s pv (p ++ l) → Wp.Ends w B g r (inS2 s p) (inP2 s p) (.returned (.tuple #[])) w' := by
      rintro l rfl w' pv hb
      rw [eS, eP]
      exact hb.ends hg hc hc2
    have hm1 : m ≤ 100000 := by omega
    cases hcg : ((topS p).toList == [99, 111, 108, 103, 114, 111, 117, 112])
    · cases h1 : ((topS p).toList == [116, 97, 98, 108, 101])
      · cases h2 : groupB (topS p)
        · cases h3 : ((topS p).toList == [116, 114])
          · cases h4 : listB (topS p)
            · cases h5 : ((topS p).toList == [100, 108])
              · exact inP_O r w B g n c c2 m b off A s p _ hu hcy hg hn hm1 hp hcg h1 h2 h3 h4 h5 _ (FIN _ (addN_O h1 h2 h3 h4 h5))
              · exact inP_D r w B g n c c2 m b off A s p _ hu hcy hg hn hm1 hp hcg h1 h2 h3 h4 h5 _ (FIN _ (addN_D h1 h2 h3 h4 h5))
            · exact inP_L r w B g n c c2 m b off A s p _ hu hcy hg hn hm1 hp hcg h1 h2 h3 h4 _ (FIN _ (addN_L h1 h2 h3 h4))
          · exact inP_R r w B g n c c2 m b off A s p _ hu hcy hg hn hm1 hp hcg h1 h2 h3 _ (FIN _ (addN_R h1 h2 h3))
        · exact inP_G r w B g n c c2 m b off A s p _ hu hcy hg hn hm1 hp hcg h1 h2 _ (FIN _ (addN_G h1 h2))
      · exact inP_T r w B g n c c2 m b off A s p _ hu hcy hg hn hm1 hp hcg h1 _ (FIN _ (addN_T h1))
    · have hy : (topS p).toList = [99, 111, 108, 103, 114, 111, 117, 112] := by simpa using hcg
      have h1 : ((topS p).toList == [116, 97, 98, 108, 101]) = false := by rw [hy]; decide
      have h2 : groupB (topS p) = false := by unfold groupB is_thead is_tbody is_tfoot; rw [hy]; decide
      have h3 : ((topS p).toList == [116, 114]) = false := by rw [hy]; decide
      have h4 : listB (topS p) = false := by unfold listB is_ul is_ol is_menu; rw [hy]; decide
      have h5 : ((topS p).toList == [100, 108]) = false := by rw [hy]; decide
      exact inP_Oc r w B g n c c2 m b off A s p _ hu hcy hg hn hm1 hp hcg h1 h2 h3 h4 h5 _ (FIN _ (addN_O h1 h2 h3 h4 h5))

/-- what item and own leave: the stack cut behind a place -/
def cut1 (s : List ByteArray) (at_ : Int) : List ByteArray := s.take (at_ + 1).toNat
theorem tm_ge (p q : ByteArray → Bool) (l : List ByteArray) : -1 ≤ tm p q l := (tm_lt p q l.reverse).1
theorem tm_le (p q : ByteArray → Bool) (l : List ByteArray) : tm p q l < l.length := by
  have := (tm_lt p q l.reverse).2
  rwa [List.length_reverse] at this
theorem left_ends {w w1 : World} {B g : Nat} {r : Option Nat} {s p : List ByteArray} {e : Ending} {w' : World} (hB : B ≤ w.heap.size) (hb : Below w.heap.size w w1) (h : Wk.Left w1 B g r s p e w') : Wp.Ends w B g r s p e w' :=
  ⟨h.1, ⟨r, h.2.1, .inl rfl⟩, (hb.mono hB).trans h.2.2.1, fun k hk h1 _ => (h.2.2.2.2 k h1).trans (hb.block k hk), by have h3 := hb.size; have h4 := h.2.2.2.1; omega⟩
/-- a call on a work behind others that only made memory -/
theorem ends_seq {w w1 : World} {B g : Nat} {r : Option Nat} {s p : List ByteArray} {e : Ending} {w' : World} (hB : B ≤ w.heap.size) (hb : Below w.heap.size w w1) (h : Wp.Ends w1 B g r s p e w') : Wp.Ends w B g r s p e w' := by
  obtain ⟨h1, ⟨r', h2, h3⟩, h4, h5, h6⟩ := h
  have hs := hb.size
  refine ⟨h1, ⟨r', h2, ?_⟩, (hb.mono hB).trans h4, fun k hk h7 h8 => (h5 k (by omega) h7 h8).trans (hb.block k hk), by omega⟩
  rcases h3 with e | ⟨k, e, hk⟩
  · exact .inl e
  · exact .inr ⟨k, e, by omega⟩

/-- item -/
def itS (pr : ByteArray → Bool) (s p : List ByteArray) : List ByteArray := if 0 ≤ tm pr wallB s then s.take (tm pr wallB s + 1).toNat else inS2 s p
def itP (pr : ByteArray → Bool) (x : ByteArray) (s p : List ByteArray) : List ByteArray := if 0 ≤ tm pr wallB s then p else inP2 s p ++ [x]

set_option maxHeartbeats 1600000 in
set_option maxRecDepth 100000 in
theorem itemC (w : World) (B g : Nat) (r : Option Nat) (s p : List ByteArray) (k : FuncId) (lb : Array Value) (pr : ByteArray → Bool) (x : ByteArray) (hB : B ≤ w.heap.size) (h : St w B g r s p) (hp : p.length ≤ 1000) (hP : Pd w k lb pr) :
    Calls Tryd.prog 73 #[.pointer (some ⟨g, 0, none⟩), .func (.func k) #[] lb, .string x] w (Wp.Ends w B g r (itS pr s p) (itP pr x s p)) := by
  have H0 := Lib.hid h
  obtain ⟨A, n, c, pv, hw, hc, hc2, hr, ho, hg, hrow⟩ := h
  have e0 := hw.c0
  have hT := Lib.hid (topmost (c := c) w (hr.rd hB) (by omega) hP (wallP w))
  by_cases h0 : 0 ≤ tm pr wallB s
  · have FIN : ∀ e w1 w', Below w.heap.size w w1 → Wk.Left w1 B g r (s.take (tm pr wallB s + 1).toNat) p e w' → Wp.Ends w B g r (itS pr s p) (itP pr x s p) e w' := by
      intro e w1 w' hb h
      unfold itS itP
      rw [if_pos h0, if_pos h0]
      exact left_ends hB hb h
    have hTo := fun (w1 : World) (hb : Below w.heap.size w w1) => toC w1 B g r (tm pr wallB s) s p (by have := hb.size; omega) (H0.out.below hb hB) (tm_ge _ _ _) (tm_le _ _ _)
    generalize Wp.Ends w B g r (itS pr s p) (itP pr x s p) = Q at FIN ⊢
    generalize (tm pr wallB s) = t at *
    have HF := Lib.hid FIN
    have HTO := Lib.hid hTo
    clear FIN hTo hw hr ho hP H0
    go_enter Tryd.func73, Tryd.ntmps73
    go_wp2_with (first
      | (go_at_call 52; refine hT.out.mono ?_; rintro e w1 ⟨rfl, hb1⟩)
      | (go_at_call 68; refine (HTO.out _ hb1).mono ?_; rintro e w2 ⟨rfl, hb2⟩))
    go_end0
    exact HF.out _ _ _ hb1 ⟨rfl, hb2⟩
  · obtain ⟨i0, hi, hz0, hz1, hz2⟩ := info_parts infoStr
    have FIN : ∀ w1 w' A n c pv, Below w.heap.size w w1 → n ≤ c → c ≤ 9223372036854775807 → Bun r w1 w' B g A n c (inS2 s p) pv (inP2 s p ++ [x]) → Wp.Ends w B g r (itS pr s p) (itP pr x s p) (.returned (.tuple #[])) w' := by
      intro w1 w' A n c pv hb1 hc hc2 hb
      unfold itS itP
      rw [if_neg h0, if_neg h0]
      exact ends_seq hB hb1 (hb.ends hg hc hc2)
    have hIn := fun (w1 : World) (hb : Below w.heap.size w w1) => innerC w1 B g r s p (by have := hb.size; omega) (H0.out.below hb hB) (by omega)
    have hlen : (inP2 s p).length ≤ 2000 := by
      unfold inP2
      have := addN_len (if p = [] then topS (inS2 s p) else topS p)
      simp only [List.length_append]
      omega
    generalize Wp.Ends w B g r (itS pr s p) (itP pr x s p) = Q at FIN ⊢
    generalize (tm pr wallB s) = t at *
    generalize inS2 s p = s2 at *
    generalize inP2 s p = p2 at *
    have HF := Lib.hid FIN
    have HIN := Lib.hid hIn
    clear FIN hIn hw hr ho hP H0
    go_enter Tryd.func73, Tryd.ntmps73
    go_wp2_with (first
      | (go_at_call 52; refine hT.out.mono ?_; rintro e w1 ⟨rfl, hb1⟩)
      | (go_at_call 56; refine (HIN.out _ hb1).mono ?_; rintro e w2 ⟨rfl, ⟨r', ⟨A3, n3, c3, pv3, hw3, hc3, hc4, hr3, ho3, _, hrw⟩, hq⟩, hb2, hy, hm⟩; obtain ⟨A5, m5, c5, rfl⟩ := slice_of ho3; rw [← hrw] at hq; have hu : Bun r w1 w2 B g A3 n3 c3 s2 (.slice A5 m5 c5) p2 := ⟨hw3, ho3, hr3, by have h1 := hb1.size; omega, hb2, hy, hm, hq⟩; clear hq hrw hy hm; have f1 := hw3.c1; have ef1 := hw3.fz 1)
      | (at_builtin; refine wpList_append_src _ rfl (.tmp 24) (.tmp 26) 25 rfl B 9 i0 (.string ByteArray.empty) 1 16 Tryd.underlying25 hi hz0 hz1 hz2 rfl (by decide) _ _ _ rfl (hu.o.alloc _) (some ⟨_, 0, none⟩) 1 1 [.string x] rfl rfl (one_src _ _ _ _ (by simp)) (Lb.one_cell rfl) (len_max (by (try simp only [List.length_append, List.length_cons, List.length_nil]); omega)) (len_by (by (try simp only [List.length_append, List.length_cons, List.length_nil]); omega)) (le_alloc hu.z _) ?_; intro v' w1 hown' hgrow hrow; obtain ⟨A', m', c', rfl⟩ := slice_of hown'; obtain ⟨hw1, hu⟩ := hu.step hg hown' hgrow hrow; have e1 := hw1.c1; have ef1 := hw1.fz 1; have e2 := hu.k.c1; have ef2 := hu.k.fz 1; clear hown' hgrow hw1 hrow))
    go_end0
    exact HF.out _ _ _ _ _ _ hb1 hc3 hc4 hu
end Go.Proofs.YtddgpkdhakjjaaaDoor.Wi
