/-
  Contracts of given functions, or plain laws that they need. No condition.
-/
import Derived.Test.YtmhfkicgmdhooaaDoorTabQ
namespace Go.Tab
open Go Go.Eng
set_option linter.unusedVariables false
theorem sorted_uniq {l : List Rw} (h : Sorted l) {i j : Nat} (hi : i < l.length) (hj : j < l.length) (he : l[i].1 = l[j].1) : i = j := by
  have h1 := List.pairwise_iff_getElem.1 h
  rcases Nat.lt_trichotomy i j with hh | hh | hh
  · have := h1 i j hi hj hh
    unfold ltB at this; rw [he, bl_irrefl] at this; cases this
  · exact hh
  · have := h1 j i hj hi hh
    unfold ltB at this; rw [he, bl_irrefl] at this; cases this
theorem had_mem {l : List Rw} (h : Sorted l) {key v : ByteArray} (hm : (key, v) ∈ l) : hadM l key = v := by
  have hh : hasM l key = true := by unfold hasM; exact List.any_eq_true.2 ⟨_, hm, by simp⟩
  obtain ⟨hp, hk⟩ := hasM_true h hh
  obtain ⟨j, hj, e⟩ := List.getElem_of_mem hm
  unfold hadM; rw [if_pos hh]
  rw [getD_get hp] at hk ⊢
  have := sorted_uniq h hp hj (by rw [hk, e])
  subst this; rw [e]
theorem put_mem (l : List Rw) (hs : Sorted l) (key val : ByteArray) : (key, val) ∈ putM l key val := by
  unfold putM
  split
  · rename_i hh
    exact List.mem_set (hasM_true hs hh).1 _
  · exact List.mem_append_right _ (List.mem_cons_self ..)
theorem had_put {l : List Rw} (ht : Tidy l) {key val : ByteArray} (hk : 0 < key.size ∧ key.size ≤ 16) (hv : val.size ≤ 64) (hf : fullM l key = false) : hasM (putM l key val) key = true ∧ hadM (putM l key val) key = val :=
  ⟨by rw [hasM_put ht.sorted]; simp, had_mem (put_tidy ht hk hv hf).sorted (put_mem l ht.sorted key val)⟩
theorem has_erase {l : List Rw} (h : Sorted l) (key : ByteArray) (hh : hasM l key = true) : hasM (l.eraseIdx (posM l key)) key = false := by
  obtain ⟨hp, hk⟩ := hasM_true h hh
  cases hx : hasM (l.eraseIdx (posM l key)) key with
  | false => rfl
  | true =>
    unfold hasM at hx
    obtain ⟨r, hr, e⟩ := List.any_eq_true.1 hx
    have e : r.1 = key := of_decide_eq_true e
    obtain ⟨i, hi, hne, e2⟩ := List.mem_eraseIdx_iff_getElem.1 hr
    rw [getD_get hp] at hk
    exact absurd (sorted_uniq h hi hp (by rw [e2, e, hk])) hne
theorem do_err {l : List Rw} {k : Int} {key val old : ByteArray} (h : (doM l k key val old).2.1 ≠ 0) : (doM l k key val old).1 = ByteArray.empty ∧ (doM l k key val old).2.2 = l := by
  revert h
  unfold doM
  repeat' split
  all_goals intro h
  all_goals first
    | exact absurd rfl h
    | exact ⟨rfl, rfl⟩
theorem check_get {k : Int} {key val old : ByteArray} (h : checkM k key val old = 0) : checkM 1 key ByteArray.empty ByteArray.empty = 0 := by
  obtain ⟨_, h1, h2, h3⟩ := check_sizes h
  unfold checkM
  rw [if_neg (by omega), if_neg (by rintro (h | h | h | h); omega; omega; exact absurd h (by decide); exact absurd h (by decide)), if_neg (by rintro (⟨h, -⟩ | ⟨h, -⟩) <;> exact h rfl)]
theorem do_ok_check {l : List Rw} {k : Int} {key val old : ByteArray} (h : (doM l k key val old).2.1 = 0) : checkM k key val old = 0 := by
  unfold doM at h
  split at h
  · assumption
  · exact h
theorem get_eq (l : List Rw) {key : ByteArray} (h : checkM 1 key ByteArray.empty ByteArray.empty = 0) : doM l 1 key ByteArray.empty ByteArray.empty = if hasM l key then (hadM l key, 0, l) else (ByteArray.empty, 6, l) := by
  unfold doM
  rw [if_pos h, if_neg (show ¬((1 : Int) = 2) by decide), if_neg (show ¬((1 : Int) = 3) by decide), if_neg (show ¬((1 : Int) = 4) by decide), if_neg (show ¬((1 : Int) = 5) by decide)]
/-- What is read behind an operation that told no error. -/
theorem get_law {l : List Rw} (ht : Tidy l) {k : Int} {key val old : ByteArray} (h : (doM l k key val old).2.1 = 0) :
    (k = 1 → (doM (doM l k key val old).2.2 1 key ByteArray.empty ByteArray.empty) = ((doM l k key val old).1, 0, l) ∧ (doM l k key val old).2.2 = l)
    ∧ (k = 2 ∨ k = 5 → (doM (doM l k key val old).2.2 1 key ByteArray.empty ByteArray.empty).1 = val ∧ (doM (doM l k key val old).2.2 1 key ByteArray.empty ByteArray.empty).2.1 = 0)
    ∧ (k = 3 → (doM (doM l k key val old).2.2 1 key ByteArray.empty ByteArray.empty).1 = (doM l k key val old).1 ∧ (doM (doM l k key val old).2.2 1 key ByteArray.empty ByteArray.empty).2.1 = 0 ∧ ∃ x, (doM l k key val old).1 = x ++ val)
    ∧ (k ≠ 1 → k ≠ 2 → k ≠ 5 → k ≠ 3 → (doM (doM l k key val old).2.2 1 key ByteArray.empty ByteArray.empty).2.1 = 6) := by
  have hc := do_ok_check h
  obtain ⟨hk, hkey, hval, hold⟩ := check_sizes hc
  have hg := check_get hc
  rw [get_eq _ hg]
  unfold doM at h ⊢
  rw [if_pos hc] at h ⊢
  by_cases k2 : k = 2
  · subst k2
    rw [if_pos rfl] at h ⊢
    by_cases hf : fullM l key = true
    · rw [if_pos hf] at h; cases h
    · rw [if_neg hf] at h ⊢
      obtain ⟨a, b⟩ := had_put ht hkey hval (Bool.eq_false_iff.2 hf)
      refine ⟨fun h => absurd h (by decide), fun _ => ?_, fun h => absurd h (by decide), fun _ h => absurd rfl h⟩
      simp only [a, b, if_true]; exact ⟨trivial, trivial⟩
  · rw [if_neg k2] at h ⊢
    by_cases k3 : k = 3
    · subst k3
      rw [if_pos rfl] at h ⊢
      by_cases hf : fullM l key = true
      · rw [if_pos hf] at h; cases h
      · rw [if_neg hf] at h ⊢
        by_cases hs : (hadM l key ++ val).size ≤ 64
        · rw [if_pos hs] at h ⊢
          obtain ⟨a, b⟩ := had_put ht hkey hs (Bool.eq_false_iff.2 hf)
          refine ⟨fun h => absurd h (by decide), fun h => absurd h (by decide), fun _ => ?_, fun _ _ _ h => absurd rfl h⟩
          simp only [a, b, if_true]; exact ⟨trivial, trivial, _, rfl⟩
        · rw [if_neg hs] at h; cases h
    · rw [if_neg k3] at h ⊢
      by_cases hh : hasM l key = true
      · rw [if_pos hh] at h ⊢
        by_cases k4 : k = 4
        · subst k4
          rw [if_pos rfl]
          have := has_erase ht.sorted key hh
          refine ⟨fun h => absurd h (by decide), fun h => absurd h (by decide), fun h => absurd h (by decide), fun _ _ _ _ => ?_⟩
          simp [this]
        · rw [if_neg k4] at h ⊢
          by_cases k5 : k = 5
          · subst k5
            rw [if_pos rfl] at h ⊢
            by_cases ho : hadM l key = old
            · rw [if_pos ho] at h ⊢
              have hf : fullM l key = false := by unfold fullM; rw [hh]; rfl
              obtain ⟨a, b⟩ := had_put ht hkey hval hf
              refine ⟨fun h => absurd h (by decide), fun _ => ?_, fun h => absurd h (by decide), fun _ _ h => absurd rfl h⟩
              simp only [a, b, if_true]; exact ⟨trivial, trivial⟩
            · rw [if_neg ho] at h; cases h
          · rw [if_neg k5] at h ⊢
            have k1 : k = 1 := by omega
            subst k1
            refine ⟨fun _ => ?_, fun h => absurd h (by decide), fun h => absurd h (by decide), fun h => absurd rfl h⟩
            rw [if_pos hh]; exact ⟨rfl, rfl⟩
      · rw [if_neg hh] at h; cases h
theorem suffix_eq (x v : ByteArray) : (x ++ v).extract ((x ++ v).size - v.size) (x ++ v).size = v := by
  apply ext_ba
  rw [extract_ba, append_ba, ByteArray.size_append]
  rw [show x.size + v.size - v.size = x.size by omega, show x.size + v.size - x.size = v.size by omega, size_ba x, List.drop_left, size_ba v, List.take_length]
end Go.Tab
