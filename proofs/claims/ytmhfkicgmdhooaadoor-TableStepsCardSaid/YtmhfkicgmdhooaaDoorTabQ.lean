/-
  Contracts of given functions, or plain laws that they need. No condition.
-/
import Derived.Test.YtmhfkicgmdhooaaDoorTabP
namespace Go.Tab
open Go Go.Eng
set_option linter.unusedVariables false
theorem hasM_append (a b : List Rw) (x : ByteArray) : hasM (a ++ b) x = (hasM a x || hasM b x) := by unfold hasM; rw [List.any_append]
theorem hasM_cons (r : Rw) (b : List Rw) (x : ByteArray) : hasM (r :: b) x = (decide (r.1 = x) || hasM b x) := by unfold hasM; rw [List.any_cons]
theorem hasM_put {l : List Rw} (h : Sorted l) (key val x : ByteArray) : hasM (putM l key val) x = (decide (key = x) || hasM l x) := by
  unfold putM
  split
  · rename_i hh
    obtain ⟨hp, hk⟩ := hasM_true h hh
    rw [List.set_eq_take_append_cons_drop, if_pos hp, hasM_append, hasM_cons]
    have e : l = l.take (posM l key) ++ (l.getD (posM l key) (ByteArray.empty, ByteArray.empty)) :: l.drop (posM l key + 1) := by
      rw [getD_get hp, ← List.drop_eq_getElem_cons hp, List.take_append_drop]
    have e2 : hasM l x = (hasM (l.take (posM l key)) x || (decide (key = x) || hasM (l.drop (posM l key + 1)) x)) := by
      rw [← hk]
      conv => lhs; rw [e]
      rw [hasM_append, hasM_cons]
      simp only [hk]
    rw [e2]
    cases hasM (l.take (posM l key)) x <;> cases decide (key = x) <;> cases hasM (l.drop (posM l key + 1)) x <;> rfl
  · rw [hasM_append, hasM_cons]
    have e2 : hasM l x = (hasM (l.take (posM l key)) x || hasM (l.drop (posM l key)) x) := by
      rw [← hasM_append, List.take_append_drop]
    rw [e2]
    show (_ || (decide (key = x) || _)) = _
    cases hasM (l.take (posM l key)) x <;> cases decide (key = x) <;> cases hasM (l.drop (posM l key)) x <;> rfl
/-- What a Put tells, and what is there behind it. -/
theorem put_law {l : List Rw} (ht : Tidy l) (key v : ByteArray) :
    ((doM l 2 key v ByteArray.empty).2.1 = if checkM 2 key v ByteArray.empty = 0 ∧ hasM l key = false ∧ l.length = 16 then 5 else checkM 2 key v ByteArray.empty)
    ∧ ((doM l 2 key v ByteArray.empty).2.1 = 0 → hasM l key = false → (doM l 2 key v ByteArray.empty).2.2.length = l.length + 1 ∧ ∀ x, hasM (doM l 2 key v ByteArray.empty).2.2 x = (decide (key = x) || hasM l x))
    ∧ (((doM l 2 key v ByteArray.empty).2.1 ≠ 0 ∨ hasM l key = true) → (doM l 2 key v ByteArray.empty).2.2.length = l.length ∧ ∀ x, hasM (doM l 2 key v ByteArray.empty).2.2 x = hasM l x) := by
  unfold doM
  by_cases hc : checkM 2 key v ByteArray.empty = 0
  · rw [if_pos hc, if_pos rfl]
    by_cases hf : fullM l key = true
    · rw [if_pos hf]
      unfold fullM at hf
      rw [Bool.and_eq_true] at hf
      have h1 : hasM l key = false := by simpa using hf.1
      have h2 : l.length = 16 := by simpa using hf.2
      rw [if_pos ⟨hc, h1, h2⟩]
      exact ⟨rfl, fun h => (by simp at h), fun _ => ⟨rfl, fun _ => rfl⟩⟩
    · rw [if_neg hf]
      have hf' : ¬ (checkM 2 key v ByteArray.empty = 0 ∧ hasM l key = false ∧ l.length = 16) := by
        rintro ⟨-, h1, h2⟩
        apply hf; unfold fullM; rw [h1, h2]; rfl
      rw [if_neg hf', hc]
      refine ⟨rfl, fun _ hh => ⟨?_, hasM_put ht.sorted _ _⟩, fun h => ?_⟩
      · show (putM l key v).length = _
        rw [putM_len, hh]; rfl
      · have hh : hasM l key = true := by rcases h with h | h; exact absurd rfl h; exact h
        refine ⟨?_, fun x => ?_⟩
        · show (putM l key v).length = _
          rw [putM_len, hh]; rfl
        · show hasM (putM l key v) x = _
          rw [hasM_put ht.sorted]
          by_cases e : key = x
          · subst e; rw [hh]; simp
          · simp [e]
  · rw [if_neg hc, if_neg (fun h => hc h.1)]
    exact ⟨rfl, fun h => absurd h hc, fun _ => ⟨rfl, fun _ => rfl⟩⟩
end Go.Tab
