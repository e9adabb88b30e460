/-
  Contracts of the given functions, and the statement's own walk. No condition.
-/
import Derived.Test.YticnclmadldkkaaRos4
import Derived.Test.YticnclmadldkkaaRos6
import Derived.KernelRfl
namespace Go.Ros
open Go Go.Abs
set_option linter.unusedVariables false
/-! ### the document's ends, and the program's -/
def rosterAll (p : Int → Int → Int → Bool) : Bool := (List.range 4).all fun (F : Nat) => (List.range 5).all fun (G : Nat) => (List.range 9).all fun (C : Nat) => !right F G C || p F G C
theorem roster_all {p : Int → Int → Int → Bool} (h : rosterAll p = true) {F G C : Int} (hR : right F G C = true) : p F G C = true := by
  have hr := right_iff.1 hR
  unfold rosterAll at h
  have h1 := List.all_eq_true.1 (List.all_eq_true.1 (List.all_eq_true.1 h F.toNat (by rw [List.mem_range]; omega)) G.toNat (by rw [List.mem_range]; omega)) C.toNat (by rw [List.mem_range]; omega)
  rw [Int.toNat_of_nonneg (by omega), Int.toNat_of_nonneg (by omega), Int.toNat_of_nonneg (by omega), hR] at h1
  simpa using h1
def chkLen (F G C : Int) : Bool := ((endsRef F G C).length : Int) == endsM F G C
theorem chkLen_ok : rosterAll chkLen = true := by kernel_rfl
def chkGet (F G C : Int) : Bool := (List.range 100).all fun (k : Nat) => !decide (k < (endsRef F G C).length) || (endsRef F G C).getD k default == (partyM F G C k).1
theorem chkGet_ok : rosterAll chkGet = true := by kernel_rfl
def chkGrp (F G C : Int) : Bool := (List.range 5).all fun (g : Nat) => (List.range 11).all fun (n : Nat) => groupL F G C g ((n : Int) - 1) == groupR (endsRef F G C) g ((n : Int) - 1) (endsRef F G C).length
theorem chkGrp_ok : rosterAll chkGrp = true := by kernel_rfl
variable {F G C : Int}
theorem ref_len (hR : right F G C = true) : ((endsRef F G C).length : Int) = endsM F G C := by
  have := roster_all chkLen_ok hR; simpa [chkLen] using this
theorem ends_bd (hR : right F G C = true) : 1 ≤ endsM F G C ∧ endsM F G C ≤ 58 := by
  have hr := right_iff.1 hR
  have hE : endsM F G C = (3 * F + 1) * (G + 1) + C := by simp [endsM, onlyM, hR]
  have := mul_bd (G := G) hr.1 hr.2.1 (x := G + 1) (by omega) (by omega)
  omega
theorem ref_get (hR : right F G C = true) {e : Int} (h0 : 0 ≤ e) (h1 : e < endsM F G C) : (endsRef F G C).getD e.toNat default = (partyM F G C e).1 := by
  have h2 := roster_all chkGet_ok hR
  have h3 := ref_len hR
  have h4 := ends_bd hR
  have h5 := List.all_eq_true.1 h2 e.toNat (by rw [List.mem_range]; omega)
  rw [decide_eq_true (by omega), Int.toNat_of_nonneg h0] at h5
  simpa using h5
theorem party_in (hR : right F G C = true) {e : Int} (h0 : 0 ≤ e) (h1 : e < endsM F G C) : (partyM F G C e).2 = 0 := by
  unfold partyM
  rw [if_pos hR, if_neg (by omega)]
  split <;> rfl
theorem end_party (hR : right F G C = true) {g n : Int} (h : (endM F G C g n).2 = 0) : 0 ≤ (endM F G C g n).1 ∧ (endM F G C g n).1 < endsM F G C ∧ partyM F G C (endM F G C g n).1 = ((g, n), 0) := by
  have hr := right_iff.1 hR
  have hE : endsM F G C = (3 * F + 1) * (G + 1) + C := by simp [endsM, onlyM, hR]
  have hb := mul_bd (G := G) hr.1 hr.2.1 (x := G + 1) (by omega) (by omega)
  have hp : ∀ e, partyM F G C e = if e < 0 ∨ (3 * F + 1) * (G + 1) + C ≤ e then ((0, 0), 6) else if (3 * F + 1) * (G + 1) ≤ e then ((-1, e - (3 * F + 1) * (G + 1)), 0) else ((e / (3 * F + 1), e % (3 * F + 1)), 0) := fun e => by unfold partyM; rw [if_pos hR, hE]
  unfold endM at h ⊢
  rw [if_pos hR] at h ⊢
  split at h
  · rename_i hc
    rw [if_pos hc]
    dsimp only
    refine ⟨by omega, by omega, ?_⟩
    rw [hp, if_neg (by omega), if_pos (by omega), hc.1]
    congr 2; omega
  · rename_i hc
    rw [if_neg hc]
    split at h
    · rename_i hc2
      rw [if_pos hc2]
      dsimp only
      have hb2 := mul_bd (G := G) hr.1 hr.2.1 (x := g) (by omega) (by omega)
      have hmul : (3 * F + 1) * (g + 1) ≤ (3 * F + 1) * (G + 1) := Int.mul_le_mul_of_nonneg_left (by omega) (by omega)
      rw [Int.mul_add (3 * F + 1) g 1, Int.mul_one] at hmul
      refine ⟨by omega, by omega, ?_⟩
      rw [hp, if_neg (by omega), if_neg (by omega)]
      have e1 : ((3 * F + 1) * g + n) / (3 * F + 1) = g := by
        rw [Int.add_comm, Int.add_mul_ediv_left _ _ (by omega), Int.ediv_eq_zero_of_lt hc2.2.2.1 hc2.2.2.2, Int.zero_add]
      have e2 : ((3 * F + 1) * g + n) % (3 * F + 1) = n := by
        rw [Int.add_comm, Int.add_mul_emod_self_left, Int.emod_eq_of_lt hc2.2.2.1 hc2.2.2.2]
      rw [e1, e2]
    · simp at h
theorem end_none (hR : right F G C = true) {g n : Int} (h : (endM F G C g n).2 ≠ 0) : endM F G C g n = (0, 6) := by
  unfold endM at h ⊢
  rw [if_pos hR] at h ⊢
  split at h
  · exact absurd rfl h
  · rename_i hc
    rw [if_neg hc]
    split at h
    · exact absurd rfl h
    · rename_i hc2; rw [if_neg hc2]
theorem ref_ne (hR : right F G C = true) : endsRef F G C ≠ [] := fun h => by
  have h1 := ref_len hR; have h2 := ends_bd hR; rw [h] at h1; simp at h1; omega
theorem ref_wrong (hR : right F G C = false) : endsRef F G C = [] := by unfold endsRef; rw [if_neg (by simp [hR])]
theorem end_eq (g n : Int) : endR (endsRef F G C) (g, n) = endM F G C g n := by
  cases hR : right F G C with
  | false => rw [ref_wrong hR]; simp [endR, endM, hR]
  | true =>
    have hl := ref_len hR
    unfold endR
    rw [if_neg (ref_ne hR)]
    by_cases hm : (g, n) ∈ endsRef F G C
    · have hi := List.idxOf_lt_length_iff.2 hm
      rw [if_pos hi]
      have h1 := ref_get hR (e := ((endsRef F G C).idxOf (g, n) : Nat)) (by omega) (by omega)
      have h2 := party_in hR (e := ((endsRef F G C).idxOf (g, n) : Nat)) (by omega) (by omega)
      have h3 := back_end h2
      rw [← h1, Int.toNat_natCast, List.getD_eq_getElem?_getD, List.getElem?_eq_getElem hi, Option.getD_some, List.getElem_idxOf hi] at h3
      exact h3.symm
    · rw [if_neg (by rw [List.idxOf_lt_length_iff]; exact hm)]
      refine (end_none hR fun h => hm ?_).symm
      obtain ⟨h1, h2, h3⟩ := end_party hR h
      have h4 := ref_get hR h1 h2
      rw [h3] at h4
      have hlt : (endM F G C g n).1.toNat < (endsRef F G C).length := by omega
      rw [List.getD_eq_getElem?_getD, List.getElem?_eq_getElem hlt, Option.getD_some] at h4
      have h4 : (endsRef F G C)[(endM F G C g n).1.toNat] = (g, n) := h4
      rw [← h4]; exact List.getElem_mem hlt
theorem party_eq (e : Int) : partyR (endsRef F G C) e = partyM F G C e := by
  cases hR : right F G C with
  | false => rw [ref_wrong hR]; simp [partyR, partyM, hR]
  | true =>
    have hl := ref_len hR
    unfold partyR
    rw [if_neg (ref_ne hR), hl]
    by_cases h : e < 0 ∨ endsM F G C ≤ e
    · rw [if_pos h]; unfold partyM; rw [if_pos hR, if_pos h]
    · rw [if_neg h, ref_get hR (by omega) (by omega)]
      exact Prod.ext rfl (party_in hR (by omega) (by omega)).symm
theorem groupR_neg {l : List (Int × Int)} {g b : Int} {k : Nat} (h : g < 0) : groupR l g b k = [] := by
  unfold groupR
  rw [List.filterMap_eq_nil_iff]
  intro i _; rw [if_neg (by omega)]
theorem group_in (hR : right F G C = true) {g n : Int} (h0 : 0 ≤ g) (h1 : g ≤ G) (h2 : -1 ≤ n) (h3 : n ≤ 9) : groupL F G C g n = groupR (endsRef F G C) g n (endsRef F G C).length := by
  have hr := right_iff.1 hR
  have h4 := List.all_eq_true.1 (List.all_eq_true.1 (roster_all chkGrp_ok hR) g.toNat (by rw [List.mem_range]; omega)) (n + 1).toNat (by rw [List.mem_range]; omega)
  rw [Int.toNat_of_nonneg h0, Int.toNat_of_nonneg (by omega : 0 ≤ n + 1), show n + 1 - 1 = n by omega] at h4
  simpa using h4
theorem others_eq (g n : Int) : othersM F G C g n = if (endM F G C g n).2 = 0 then groupR (endsRef F G C) g n (endsRef F G C).length else [] := by
  unfold othersM
  by_cases h : (endM F G C g n).2 = 0
  · rw [if_pos h]
    by_cases hg : g < 0
    · rw [if_pos (.inr hg), groupR_neg hg]
    · rw [if_neg (by omega)]
      have hR : right F G C = true := by
        cases hR : right F G C with
        | false => simp [endM, hR] at h
        | true => rfl
      have hr := right_iff.1 hR
      have hx : g ≤ G ∧ 0 ≤ n ∧ n < 3 * F + 1 := by
        unfold endM at h; rw [if_pos hR] at h
        split at h
        · omega
        · split at h
          · omega
          · simp at h
      exact group_in hR (by omega) hx.1 (by omega) (by omega)
  · rw [if_neg h, if_pos (.inl h)]
theorem group_eq (e : Int) : (if e < 0 then [] else groupL F G C e (-1)) = groupR (endsRef F G C) e (-1) (endsRef F G C).length := by
  by_cases h : e < 0
  · rw [if_pos h, groupR_neg h]
  · rw [if_neg h]
    cases hR : right F G C with
    | false => rw [ref_wrong hR]; unfold groupL; rw [nM_wrong hR]; rfl
    | true =>
      by_cases hg : e ≤ G
      · exact group_in hR (by omega) hg (by omega) (by omega)
      · have hr := right_iff.1 hR
        have h1 : groupL F G C e (-1) = [] := by
          unfold groupL endsL
          rw [List.filterMap_eq_nil_iff]
          intro i _
          rw [if_neg]
          intro h2
          obtain ⟨h3, h4, h5⟩ := end_party hR h2.1
          have h6 := h2.1
          unfold endM at h6; rw [if_pos hR] at h6
          split at h6
          · omega
          · rw [if_neg (by omega)] at h6; simp at h6
        rw [h1]
        symm
        unfold groupR
        rw [List.filterMap_eq_nil_iff]
        intro i hi
        rw [List.mem_range] at hi
        have hl := ref_len hR
        rw [if_neg]
        intro h2
        have h3 := ref_get hR (e := (i : Int)) (by omega) (by omega)
        rw [Int.toNat_natCast] at h3
        have h4 := back_end (party_in hR (e := (i : Int)) (by omega) (by omega))
        have h5 : (endM F G C (partyM F G C i).1.1 (partyM F G C i).1.2).2 = 0 := by rw [h4]
        rw [h3] at h2
        unfold endM at h5; rw [if_pos hR] at h5
        split at h5
        · omega
        · rw [if_neg (by omega)] at h5; simp at h5
end Go.Ros
