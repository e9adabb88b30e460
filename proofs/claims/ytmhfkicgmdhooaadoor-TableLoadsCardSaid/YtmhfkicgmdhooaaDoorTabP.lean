/-
  Contracts of given functions, or plain laws that they need. No condition.
-/
import Derived.Test.YtmhfkicgmdhooaaDoorTab2
namespace Go.Tab
open Go Go.Eng Go.Proofs
set_option linter.unusedVariables false
theorem sorted_of {l : List Rw} (h : ∀ i j, i < j → j < l.length → ltB (l.getD i (ByteArray.empty, ByteArray.empty)).1 (l.getD j (ByteArray.empty, ByteArray.empty)).1 = true) : Sorted l :=
  List.pairwise_iff_getElem.2 fun i j hi hj hij => by
    have := h i j hij hj
    rwa [getD_get hi, getD_get hj] at this
theorem getD_mem {l : List Rw} {i : Nat} (h : i < l.length) : l.getD i (ByteArray.empty, ByteArray.empty) ∈ l := by rw [getD_get h]; exact List.getElem_mem h
theorem put_tidy {l : List Rw} (h : Tidy l) {key val : ByteArray} (hk : 0 < key.size ∧ key.size ≤ 16) (hv : val.size ≤ 64) (hf : fullM l key = false) : Tidy (putM l key val) := by
  have hp := posM_le l key
  cases hh : hasM l key with
  | true =>
    obtain ⟨h1, h2⟩ := hasM_true h.sorted hh
    have e : putM l key val = l.set (posM l key) (key, val) := by unfold putM; rw [hh]; rfl
    have eg : ∀ i, ((l.set (posM l key) (key, val)).getD i (ByteArray.empty, ByteArray.empty)).1 = (l.getD i (ByteArray.empty, ByteArray.empty)).1 := fun i => by
      by_cases hi : i = posM l key
      · subst hi; rw [h2]; simp [List.getD, h1]
      · simp [List.getD, List.getElem?_set, Ne.symm hi]
    rw [e]
    refine ⟨sorted_of fun i j hij hj => ?_, by simpa using h.few, fun r hr => ?_⟩
    · rw [eg, eg]; exact sorted_lt h.sorted hij (by simpa using hj)
    · rcases List.mem_or_eq_of_mem_set hr with hr | rfl
      · exact h.sized r hr
      · exact ⟨hk.1, hk.2, hv⟩
  | false =>
    have hlen : l.length ≠ 16 := by unfold fullM at hf; rw [hh] at hf; simpa using hf
    have hfew := h.few
    have e : putM l key val = l.take (posM l key) ++ (key, val) :: l.drop (posM l key) := by unfold putM; rw [hh]; rfl
    rw [e]
    refine ⟨?_, by simp; omega, fun r hr => ?_⟩
    · have hgt : ∀ r ∈ l.drop (posM l key), ltB key r.1 = true := fun r hr => by
        obtain ⟨j, hj, rfl⟩ := List.getElem_of_mem hr
        rw [List.getElem_drop]
        have hjl : posM l key + j < l.length := by simp at hj; omega
        have h0 := posM_hi l key (by omega)
        have hne : (l.getD (posM l key) (ByteArray.empty, ByteArray.empty)).1 ≠ key := fun he => by
          rw [hasM_pos h.sorted, he] at hh
          have : posM l key < l.length := by omega
          simp [this] at hh
        have h3 : ltB key (l.getD (posM l key) (ByteArray.empty, ByteArray.empty)).1 = true := by
          cases hx : ltB key (l.getD (posM l key) (ByteArray.empty, ByteArray.empty)).1
          · exact absurd (ltB_tri h0 hx) hne
          · rfl
        cases j with
        | zero => rw [getD_get (by omega)] at h3; exact h3
        | succ j =>
          have := ltB_trans h3 (sorted_lt h.sorted (i := posM l key) (j := posM l key + (j + 1)) (by omega) hjl)
          rwa [getD_get hjl] at this
      have hlt : ∀ r ∈ l.take (posM l key), ltB r.1 key = true := fun r hr => by
        obtain ⟨j, hj, rfl⟩ := List.getElem_of_mem hr
        rw [List.getElem_take]
        have hjp : j < posM l key := by simp at hj; omega
        have := posM_lo l key j hjp
        rwa [getD_get (by omega)] at this
      refine List.pairwise_append.2 ⟨h.sorted.sublist (List.take_sublist _ _), List.pairwise_cons.2 ⟨hgt, h.sorted.sublist (List.drop_sublist _ _)⟩, fun a ha b hb => ?_⟩
      rcases List.mem_cons.1 hb with rfl | hb
      · exact hlt a ha
      · exact ltB_trans (hlt a ha) (hgt b hb)
    · rcases List.mem_append.1 hr with hr | hr
      · exact h.sized r (List.mem_of_mem_take hr)
      · rcases List.mem_cons.1 hr with rfl | hr
        · exact ⟨hk.1, hk.2, hv⟩
        · exact h.sized r (List.mem_of_mem_drop hr)
theorem erase_tidy {l : List Rw} (h : Tidy l) (i : Nat) : Tidy (l.eraseIdx i) :=
  ⟨h.sorted.sublist (List.eraseIdx_sublist _ _), Nat.le_trans (List.eraseIdx_sublist l i).length_le h.few, fun r hr => h.sized r ((List.eraseIdx_sublist l i).mem hr)⟩
theorem check_sizes {k : Int} {key val old : ByteArray} (h : checkM k key val old = 0) : (1 ≤ k ∧ k ≤ 5) ∧ (0 < key.size ∧ key.size ≤ 16) ∧ val.size ≤ 64 ∧ old.size ≤ 64 := by
  unfold checkM at h
  split at h
  · cases h
  · split at h
    · cases h
    · omega
theorem do_tidy {l : List Rw} (h : Tidy l) (k : Int) (key val old : ByteArray) : Tidy (doM l k key val old).2.2 := by
  unfold doM
  split
  · rename_i hc
    obtain ⟨_, hk, hv, _⟩ := check_sizes hc
    split
    · split
      · exact h
      · rename_i hf; exact put_tidy h hk hv (Bool.eq_false_iff.2 hf)
    · split
      · split
        · exact h
        · rename_i hf
          split
          · rename_i hs; exact put_tidy h hk hs (Bool.eq_false_iff.2 hf)
          · exact h
      · split
        · rename_i hh
          have hf : fullM l key = false := by unfold fullM; rw [hh]; rfl
          split
          · exact erase_tidy h _
          · split
            · split
              · exact put_tidy h hk hv hf
              · exact h
            · exact h
        · exact h
  · exact h
end Go.Tab

namespace Go.Tab
open Go Go.Eng
set_option linter.unusedVariables false
theorem hasM_append (a b : List Rw) (x : ByteArray) : hasM (a ++ b) x = (hasM a x || hasM b x) := by unfold hasM; rw [List.any_append]
theorem hasM_cons (r : Rw) (b : List Rw) (x : ByteArray) : hasM (r :: b) x = (decide (r.1 = x) || hasM b x) := by unfold hasM; rw [List.any_cons]
theorem hasM_put {l : List Rw} (h : Sorted l) (key val x : ByteArray) : hasM (putM l key val) x = (decide (key = x) || hasM l x) := by
  unfold putM
  split
  · rename_i hh
    obtain ⟨hp, hk⟩ := hasM_true h hh
    rw [List.set_eq_take_append_cons_drop, if_pos hp, hasM_append, hasM_cons]
    have e : l = l.take (posM l key) ++ (l.getD (posM l key) (ByteArray.empty, ByteArray.empty)) :: l.drop (posM l key + 1) := by
      rw [getD_get hp, ← List.drop_eq_getElem_cons hp, List.take_append_drop]
    have e2 : hasM l x = (hasM (l.take (posM l key)) x || (decide (key = x) || hasM (l.drop (posM l key + 1)) x)) := by
      rw [← hk]
      conv => lhs; rw [e]
      rw [hasM_append, hasM_cons]
      simp only [hk]
    rw [e2]
    cases hasM (l.take (posM l key)) x <;> cases decide (key = x) <;> cases hasM (l.drop (posM l key + 1)) x <;> rfl
  · rw [hasM_append, hasM_cons]
    have e2 : hasM l x = (hasM (l.take (posM l key)) x || hasM (l.drop (posM l key)) x) := by
      rw [← hasM_append, List.take_append_drop]
    rw [e2]
    show (_ || (decide (key = x) || _)) = _
    cases hasM (l.take (posM l key)) x <;> cases decide (key = x) <;> cases hasM (l.drop (posM l key)) x <;> rfl
/-- What a Put tells, and what is there behind it. -/
theorem put_law {l : List Rw} (ht : Tidy l) (key v : ByteArray) :
    ((doM l 2 key v ByteArray.empty).2.1 = if checkM 2 key v ByteArray.empty = 0 ∧ hasM l key = false ∧ l.length = 16 then 5 else checkM 2 key v ByteArray.empty)
    ∧ ((doM l 2 key v ByteArray.empty).2.1 = 0 → hasM l key = false → (doM l 2 key v ByteArray.empty).2.2.length = l.length + 1 ∧ ∀ x, hasM (doM l 2 key v ByteArray.empty).2.2 x = (decide (key = x) || hasM l x))
    ∧ (((doM l 2 key v ByteArray.empty).2.1 ≠ 0 ∨ hasM l key = true) → (doM l 2 key v ByteArray.empty).2.2.length = l.length ∧ ∀ x, hasM (doM l 2 key v ByteArray.empty).2.2 x = hasM l x) := by
  unfold doM
  by_cases hc : checkM 2 key v ByteArray.empty = 0
  · rw [if_pos hc, if_pos rfl]
    by_cases hf : fullM l key = true
    · rw [if_pos hf]
      unfold fullM at hf
      rw [Bool.and_eq_true] at hf
      have h1 : hasM l key = false := by simpa using hf.1
      have h2 : l.length = 16 := by simpa using hf.2
      rw [if_pos ⟨hc, h1, h2⟩]
      exact ⟨rfl, fun h => (by simp at h), fun _ => ⟨rfl, fun _ => rfl⟩⟩
    · rw [if_neg hf]
      have hf' : ¬ (checkM 2 key v ByteArray.empty = 0 ∧ hasM l key = false ∧ l.length = 16) := by
        rintro ⟨-, h1, h2⟩
        apply hf; unfold fullM; rw [h1, h2]; rfl
      rw [if_neg hf', hc]
      refine ⟨rfl, fun _ hh => ⟨?_, hasM_put ht.sorted _ _⟩, fun h => ?_⟩
      · show (putM l key v).length = _
        rw [putM_len, hh]; rfl
      · have hh : hasM l key = true := by rcases h with h | h; exact absurd rfl h; exact h
        refine ⟨?_, fun x => ?_⟩
        · show (putM l key v).length = _
          rw [putM_len, hh]; rfl
        · show hasM (putM l key v) x = _
          rw [hasM_put ht.sorted]
          by_cases e : key = x
          · subst e; rw [hh]; simp
          · simp [e]
  · rw [if_neg hc, if_neg (fun h => hc h.1)]
    exact ⟨rfl, fun h => absurd h hc, fun _ => ⟨rfl, fun _ => rfl⟩⟩
end Go.Tab
