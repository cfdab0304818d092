/- Sizes of a policy in order: plain laws. -/
import Derived.Test.YteikagdinecfoaaGreatDoorPf
import Derived.Test.YteikagdinecfoaaGreatDoorBt
set_option linter.unusedVariables false
set_option linter.unusedSimpArgs false
namespace Go.Proofs.YteikagdinecfoaaGreatDoor.Bv
open Go.RowKit Lb Gr Pd Fl Ea Go.Proofs.YteikagdinecfoaaGreatDoor.Fd Pa Go.Proofs.YteikagdinecfoaaGreatDoor.Ck Go.Proofs.YteikagdinecfoaaGreatDoor.Lk Go.Proofs.YteikagdinecfoaaGreatDoor.Th Go.Proofs.YteikagdinecfoaaGreatDoor.So Go.Proofs.YteikagdinecfoaaGreatDoor.Rs Go.Proofs.YteikagdinecfoaaGreatDoor.Or Go.Proofs.YteikagdinecfoaaGreatDoor.Vd Go.Proofs.YteikagdinecfoaaGreatDoor.Ty Is Bt
theorem tidyW_sz {l : List ByteArray} (h : SzT l) : SzT (tidyW l) := ⟨by have := tidyW_len l; have := h.1; omega, fun s hs => by
  obtain ⟨w, hw, rfl⟩ := tidyW_mem.1 hs
  rw [lowS_size]; exact h.2 w hw⟩
theorem tidyR_gd {r : RuleD} (h : GdR r) : GdR (tidyR r) := ⟨h.1, h.2.1, h.2.2.1, tidyW_sz h.2.2.2⟩
theorem srt_sz {l : List ByteArray} (h : SzT l) : SzT (srt l) := ⟨by rw [(srt_perm l).length_eq]; exact h.1, fun s hs => h.2 s (srt_mem.1 hs)⟩
theorem gd_tidy {p : PolD} (h : GdP p) : GdP (tidyP p) := by
  obtain ⟨h1, h2, h3, h4, h5, h6, h7, h8⟩ := h
  refine ⟨?_, fun e he => ?_, ?_, fun r hr => ?_, srt_sz h5, srt_sz h6, h7, h8⟩
  · have e1 : (tidyP p).els.length = p.els.length := by show (ordBy ElD.name (p.els.map tidyE)).length = _; rw [ordBy_len, List.length_map]
    rw [e1]; exact h1
  · obtain ⟨e0, h0, rfl⟩ := tidyP_els.1 he
    obtain ⟨g1, g2, g3⟩ := h2 e0 h0
    refine ⟨g1, ?_, fun r hr => ?_⟩
    · show (tidyRs e0.rules).length * 48 ≤ _
      rw [tidyRs_len]; exact g2
    · obtain ⟨r0, hr0, rfl⟩ := tidyRs_mem.1 hr
      exact tidyR_gd (g3 r0 hr0)
  · show (tidyRs p.glob).length * 48 ≤ _
    rw [tidyRs_len]; exact h3
  · obtain ⟨r0, hr0, rfl⟩ := tidyRs_mem.1 hr
    exact tidyR_gd (h4 r0 hr0)
theorem bT_len : ∀ l : List ByteArray, l.length + 1 ≤ bT l
  | [] => by simp [bT]
  | s :: l => by
    have ih := bT_len l
    unfold bT at *
    simp only [List.map_cons, List.sum_cons, List.length_cons]
    omega
theorem sumR : ∀ l : List RuleD, l.length + wordsN l ≤ (l.map bR).sum
  | [] => by simp [wordsN]
  | r :: l => by
    have ih := sumR l
    have h := bT_len r.words
    unfold wordsN at *
    simp only [List.map_cons, List.sum_cons, List.length_cons]
    have hb : bR r = r.name.size + bT r.words + 3 := rfl
    omega
theorem sumE : ∀ l : List ElD, l.length + elsN l ≤ (l.map bE).sum
  | [] => by simp [elsN]
  | e :: l => by
    have ih := sumE l
    have h := sumR e.rules
    unfold elsN at *
    simp only [List.map_cons, List.sum_cons, List.length_cons]
    have hb : bE e = e.name.size + (e.rules.map bR).sum + 3 := rfl
    omega
theorem things_bP (p : PolD) : thingsN p ≤ bP p := by
  have h1 := sumE p.els
  have h2 := sumR p.glob
  have h3 := bT_len p.schemes
  have h4 := bT_len p.drop
  unfold thingsN bP
  omega
theorem ruD_tidy {p : PolD} (h : Valid p) (n a : ByteArray) : (ruD (tidyP p) n a).name = (ruD p n a).name ∧ (ruD (tidyP p) n a).kind = (ruD p n a).kind ∧ (ruleL (tidyP p) n a).isSome = (ruleL p n a).isSome := by
  unfold ruD
  rw [ruleL_tidy h]
  cases ruleL p n a with
  | none => exact ⟨rfl, rfl, rfl⟩
  | some r => exact ⟨rfl, rfl, rfl⟩
theorem fndE_some {p : PolD} (h : Valid p) (n : ByteArray) : (fndE (tidyP p).els n).isSome = (fndE p.els n).isSome := by
  rw [fndE_tidy h]
  cases fndE p.els n <;> rfl
theorem fndE_name {p : PolD} (h : Valid p) (n : ByteArray) : ((fndE (tidyP p).els n).getD el0).name = ((fndE p.els n).getD el0).name := by
  rw [fndE_tidy h]
  cases fndE p.els n <;> rfl
end Go.Proofs.YteikagdinecfoaaGreatDoor.Bv
