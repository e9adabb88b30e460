/-
  Contracts of given functions, or plain laws that they need. No condition.
-/
import Derived.Test.YtbcgfjpgbhoaeaaDoorMemM
namespace Go.Memo
open Go Go.Eng Go.Nest
set_option linter.unusedVariables false
def oB : ByteArray := ⟨#[111, 114, 100, 101, 114]⟩
def sB : ByteArray := ⟨#[115, 101, 116, 116, 108, 101]⟩
def mB : ByteArray := ⟨#[109, 97, 114, 107]⟩
def memB : ByteArray := ⟨#[109, 101, 109, 111]⟩
def shiftM (w : ByteArray) (g v u : Int) (b : ByteArray) : ByteArray × Int :=
  if (0 ≤ g ∧ g ≤ 4) ∧ (0 ≤ v ∧ v ≤ 1099511627776) ∧ (1 ≤ u ∧ u ≤ 1099511627776) then (if 30000 < b.size ∨ 30000 < (packB [w, numJ g, numJ v, numJ u, b]).size then (ByteArray.empty, 2) else (packB [w, numJ g, numJ v, numJ u, b], 0)) else (ByteArray.empty, 1)
def markM (g u : Int) (b : ByteArray) : ByteArray × Int :=
  if (0 ≤ g ∧ g ≤ 4) ∧ (1 ≤ u ∧ u ≤ 1099511627776) then (if 30000 < b.size ∨ 30000 < (packB [mB, numJ g, numJ u, b]).size then (ByteArray.empty, 2) else (packB [mB, numJ g, numJ u, b], 0)) else (ByteArray.empty, 1)
def saidM (m : Mm) : ByteArray × Int :=
  if rightM m = 0 then
    if m.tag.size ≠ 0 ∧ chkM m ≠ 0 then (ByteArray.empty, 4)
    else if (flM m.k).2.2.2 = false then (ByteArray.empty, 6)
    else if m.k = 2 then shiftM oB m.g m.v m.u m.t
    else if m.k = 3 then shiftM sB m.g m.v m.u m.t
    else if m.k = 4 then markM m.g m.u m.t
    else if m.k = 10 ∨ m.k = 11 then (m.t, 0)
    else (packB [memB, numJ m.k, numJ m.g, numJ m.v, numJ m.u, m.t], 0)
  else (ByteArray.empty, rightM m)
def listM (m : Mm) : List ByteArray :=
  if m.k = 2 then [oB, numJ m.g, numJ m.v, numJ m.u, m.t]
  else if m.k = 3 then [sB, numJ m.g, numJ m.v, numJ m.u, m.t]
  else if m.k = 4 then [mB, numJ m.g, numJ m.u, m.t]
  else [memB, numJ m.k, numJ m.g, numJ m.v, numJ m.u, m.t]
theorem shift_zero {w : ByteArray} {g v u : Int} {b : ByteArray} (h : (shiftM w g v u b).2 = 0) : (shiftM w g v u b).1 = packB [w, numJ g, numJ v, numJ u, b] := by
  unfold shiftM at h ⊢
  split
  · rename_i h1
    rw [if_pos h1] at h
    split
    · rename_i h2; rw [if_pos h2] at h; cases h
    · rfl
  · rename_i h1; rw [if_neg h1] at h; cases h
theorem mark_zero {g u : Int} {b : ByteArray} (h : (markM g u b).2 = 0) : (markM g u b).1 = packB [mB, numJ g, numJ u, b] := by
  unfold markM at h ⊢
  split
  · rename_i h1
    rw [if_pos h1] at h
    split
    · rename_i h2; rw [if_pos h2] at h; cases h
    · rfl
  · rename_i h1; rw [if_neg h1] at h; cases h
theorem said_right {m : Mm} (h : (saidM m).2 = 0) : rightM m = 0 := by
  unfold saidM at h
  split at h
  · assumption
  · exact h
theorem said_list {m : Mm} (h : (saidM m).2 = 0) (hk : m.k ≤ 9) : (saidM m).1 = packB (listM m) := by
  have hr := said_right h
  unfold saidM at h ⊢
  unfold listM
  rw [if_pos hr] at h ⊢
  split
  · rename_i h1; rw [if_pos h1] at h; cases h
  · rename_i h1
    rw [if_neg h1] at h
    split
    · rename_i h2; rw [if_pos h2] at h; cases h
    · rename_i h2
      rw [if_neg h2] at h
      by_cases k2 : m.k = 2
      · rw [if_pos k2] at h ⊢; rw [if_pos k2]; exact shift_zero h
      · rw [if_neg k2] at h ⊢; rw [if_neg k2]
        by_cases k3 : m.k = 3
        · rw [if_pos k3] at h ⊢; rw [if_pos k3]; exact shift_zero h
        · rw [if_neg k3] at h ⊢; rw [if_neg k3]
          by_cases k4 : m.k = 4
          · rw [if_pos k4] at h ⊢; rw [if_pos k4]; exact mark_zero h
          · rw [if_neg k4] at h ⊢; rw [if_neg k4, if_neg (by omega)]
theorem numJ_inj {a b : Int} (ha : -9223372036854775808 ≤ a ∧ a < 9223372036854775808) (hb : -9223372036854775808 ≤ b ∧ b < 9223372036854775808) (h : numJ a = numJ b) : a = b := by
  have h1 := num_numJ ha
  rw [h, num_numJ hb] at h1
  exact (congrArg Prod.fst h1).symm
/-- The numbers of a memo that is right. -/
theorem right_nums {m : Mm} (h : rightM m = 0) : (1 ≤ m.k ∧ m.k ≤ 12) ∧ (-1 ≤ m.g ∧ m.g ≤ 4) ∧ (0 ≤ m.v ∧ m.v ≤ 1099511627776) ∧ (0 ≤ m.u ∧ m.u ≤ 1099511627776) ∧ m.t.size ≤ 524288 ∧ (m.k = 4 → m.v = 0) := by
  obtain ⟨h1, h2, h3, h4, h5⟩ := right_in h
  have hb : -1 ≤ m.g ∧ m.g ≤ 4 ∧ 0 ≤ m.n ∧ m.n ≤ 15 := of_decide_eq_true h2
  refine ⟨h1, ⟨hb.1, hb.2.1⟩, wit_in h3 (fl_ge _).1, wit_in h4 (fl_ge _).2, h5, fun h => ?_⟩
  have e : (flM m.k).1 = -1 := by rw [h]; decide
  rw [e] at h3
  unfold witM at h3
  rw [if_pos (by decide)] at h3
  exact of_decide_eq_true h3
theorem list_small {m : Mm} (h : rightM m = 0) : ∀ x ∈ listM m, x.size < 1000000000 := by
  obtain ⟨h1, h2, h3, h4, h5, -⟩ := right_nums h
  have a1 := itoa_len m.k (by omega)
  have a2 := itoa_len m.v (by omega)
  have a3 := itoa_len m.u (by omega)
  have a4 := itoa_len m.g (by omega)
  have b1 : oB.size = 5 := rfl
  have b2 : sB.size = 6 := rfl
  have b3 : mB.size = 4 := rfl
  have b4 : memB.size = 4 := rfl
  intro x hx
  unfold listM at hx
  split at hx
  · simp only [List.mem_cons, List.not_mem_nil, or_false] at hx; rcases hx with rfl | rfl | rfl | rfl | rfl <;> omega
  · split at hx
    · simp only [List.mem_cons, List.not_mem_nil, or_false] at hx; rcases hx with rfl | rfl | rfl | rfl | rfl <;> omega
    · split at hx
      · simp only [List.mem_cons, List.not_mem_nil, or_false] at hx; rcases hx with rfl | rfl | rfl | rfl <;> omega
      · simp only [List.mem_cons, List.not_mem_nil, or_false] at hx; rcases hx with rfl | rfl | rfl | rfl | rfl | rfl <;> omega
theorem list_inj {a b : Mm} (ha : rightM a = 0) (hb : rightM b = 0) (h : listM a = listM b) : a.k = b.k ∧ a.v = b.v ∧ a.u = b.u ∧ a.t = b.t := by
  obtain ⟨a1, a2, a3, a4, a5, a6⟩ := right_nums ha
  obtain ⟨b1, b2, b3, b4, b5, b6⟩ := right_nums hb
  have e1 : oB ≠ sB := by decide
  have e2 : oB ≠ mB := by decide
  have e3 : oB ≠ memB := by decide
  have e4 : sB ≠ mB := by decide
  have e5 : sB ≠ memB := by decide
  have e6 : mB ≠ memB := by decide
  have nk : numJ a.k = numJ b.k → a.k = b.k := numJ_inj (by omega) (by omega)
  have nv : numJ a.v = numJ b.v → a.v = b.v := numJ_inj (by omega) (by omega)
  have nu : numJ a.u = numJ b.u → a.u = b.u := numJ_inj (by omega) (by omega)
  unfold listM at h
  by_cases p2 : a.k = 2
  · rw [if_pos p2] at h
    by_cases q2 : b.k = 2
    · rw [if_pos q2] at h; simp only [List.cons.injEq, and_true, true_and] at h; exact ⟨by omega, nv h.2.1, nu h.2.2.1, h.2.2.2⟩
    · rw [if_neg q2] at h
      split at h
      · simp only [List.cons.injEq] at h; exact absurd h.1 e1
      · split at h
        · simp only [List.cons.injEq] at h; exact absurd h.1 e2
        · simp only [List.cons.injEq] at h; exact absurd h.1 e3
  · rw [if_neg p2] at h
    by_cases p3 : a.k = 3
    · rw [if_pos p3] at h
      by_cases q2 : b.k = 2
      · rw [if_pos q2] at h; simp only [List.cons.injEq] at h; exact absurd h.1.symm e1
      · rw [if_neg q2] at h
        by_cases q3 : b.k = 3
        · rw [if_pos q3] at h; simp only [List.cons.injEq, and_true, true_and] at h; exact ⟨by omega, nv h.2.1, nu h.2.2.1, h.2.2.2⟩
        · rw [if_neg q3] at h
          split at h
          · simp only [List.cons.injEq] at h; exact absurd h.1 e4
          · simp only [List.cons.injEq] at h; exact absurd h.1 e5
    · rw [if_neg p3] at h
      by_cases p4 : a.k = 4
      · rw [if_pos p4] at h
        by_cases q2 : b.k = 2
        · rw [if_pos q2] at h; simp only [List.cons.injEq] at h; exact absurd h.1.symm e2
        · rw [if_neg q2] at h
          by_cases q3 : b.k = 3
          · rw [if_pos q3] at h; simp only [List.cons.injEq] at h; exact absurd h.1.symm e4
          · rw [if_neg q3] at h
            by_cases q4 : b.k = 4
            · rw [if_pos q4] at h; simp only [List.cons.injEq, and_true, true_and] at h
              exact ⟨by omega, by rw [a6 p4, b6 q4], nu h.2.1, h.2.2⟩
            · rw [if_neg q4] at h; simp only [List.cons.injEq] at h; exact absurd h.1 e6
      · rw [if_neg p4] at h
        by_cases q2 : b.k = 2
        · rw [if_pos q2] at h; simp only [List.cons.injEq] at h; exact absurd h.1.symm e3
        · rw [if_neg q2] at h
          by_cases q3 : b.k = 3
          · rw [if_pos q3] at h; simp only [List.cons.injEq] at h; exact absurd h.1.symm e5
          · rw [if_neg q3] at h
            by_cases q4 : b.k = 4
            · rw [if_pos q4] at h; simp only [List.cons.injEq] at h; exact absurd h.1.symm e6
            · rw [if_neg q4] at h; simp only [List.cons.injEq, and_true, true_and] at h
              exact ⟨nk h.1, nv h.2.2.1, nu h.2.2.2.1, h.2.2.2.2⟩
theorem list_same {a b : Mm} (hg : a.g = b.g) (hk : a.k = b.k) (hv : a.v = b.v) (hu : a.u = b.u) (ht : a.t = b.t) : listM a = listM b := by
  unfold listM; rw [hg, hk, hv, hu, ht]
/-- What one kind's tag is of is never what another one's is of. -/
theorem apart {a b : Mm} (ha : (saidM a).2 = 0) (hb : (saidM b).2 = 0) (hka : a.k ≤ 9) (hkb : b.k ≤ 9) (hg : a.g = b.g) : (saidM a).1 = (saidM b).1 ↔ a.k = b.k ∧ a.v = b.v ∧ a.u = b.u ∧ a.t = b.t := by
  rw [said_list ha hka, said_list hb hkb]
  constructor
  · intro h
    exact list_inj (said_right ha) (said_right hb) (pack_inj h (list_small (said_right ha)) (list_small (said_right hb)))
  · rintro ⟨h1, h2, h3, h4⟩
    rw [list_same hg h1 h2 h3 h4]
end Go.Memo
