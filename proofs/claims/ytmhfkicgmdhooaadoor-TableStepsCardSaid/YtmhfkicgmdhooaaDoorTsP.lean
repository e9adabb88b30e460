/-
  Contracts of given functions, or plain laws that they need. No condition.
-/
import Derived.Test.YtmhfkicgmdhooaaDoorTabRP
import Derived.Test.YtmhfkicgmdhooaaDoorTsC
namespace Go.Tab
open Go Go.Eng
set_option linter.unusedVariables false
theorem has_perm {l q : List Rw} (hp : l.Perm q) (key : ByteArray) : hasM q key = hasM l key := by
  unfold hasM
  rw [Bool.eq_iff_iff, List.any_eq_true, List.any_eq_true]
  exact ⟨fun ⟨r, h, e⟩ => ⟨r, hp.mem_iff.2 h, e⟩, fun ⟨r, h, e⟩ => ⟨r, hp.mem_iff.1 h, e⟩⟩
theorem split_perm {l : List Rw} {i : Nat} (h : i < l.length) : l.Perm (l[i] :: l.eraseIdx i) := by
  conv => lhs; rw [← List.take_append_drop i l, List.drop_eq_getElem_cons h]
  rw [List.eraseIdx_eq_take_drop_succ]
  exact List.perm_middle
theorem set_perm {l : List Rw} {i : Nat} (h : i < l.length) (x : Rw) : (l.set i x).Perm (x :: l.eraseIdx i) := by
  rw [List.set_eq_take_append_cons_drop, if_pos h, List.eraseIdx_eq_take_drop_succ]
  exact List.perm_middle
theorem rhad_mem {q : List Rw} {key : ByteArray} (h : hasM q key = true) : (key, rhad q key) ∈ q := by
  obtain ⟨h1, h2⟩ := hasM_idx h
  unfold rhad; rw [if_pos h]
  have := getD_mem h1
  rwa [show q.getD (idxR q key) (ByteArray.empty, ByteArray.empty) = (key, (q.getD (idxR q key) (ByteArray.empty, ByteArray.empty)).2) from Prod.ext h2 rfl] at this
theorem rhad_perm {l q : List Rw} (hp : l.Perm q) (ht : Tidy l) (key : ByteArray) : rhad q key = hadM l key := by
  cases h : hasM q key with
  | true => exact (had_mem ht.sorted (hp.mem_iff.2 (rhad_mem h))).symm
  | false =>
    have h2 := h
    rw [has_perm hp] at h2
    unfold rhad hadM; rw [h, h2]; rfl
theorem rest_perm {l q : List Rw} (hp : l.Perm q) (ht : Tidy l) {key : ByteArray} (h : hasM l key = true) : (l.eraseIdx (posM l key)).Perm (q.eraseIdx (idxR q key)) := by
  obtain ⟨h1, h2⟩ := hasM_true ht.sorted h
  have hq : hasM q key = true := by rw [has_perm hp]; exact h
  obtain ⟨h3, h4⟩ := hasM_idx hq
  have e1 : l[posM l key] = (key, hadM l key) := by
    unfold hadM; rw [if_pos h]
    rw [getD_get h1] at h2 ⊢
    exact Prod.ext h2 rfl
  have e2 : q[idxR q key] = (key, hadM l key) := by
    rw [← rhad_perm hp ht]
    unfold rhad; rw [if_pos hq]
    rw [getD_get h3] at h4 ⊢
    exact Prod.ext h4 rfl
  have h5 := split_perm h1
  have h6 := split_perm h3
  rw [e1] at h5; rw [e2] at h6
  exact (List.perm_cons _).1 (h5.symm.trans (hp.trans h6))
theorem put_perm {l q : List Rw} (hp : l.Perm q) (ht : Tidy l) (key now : ByteArray) : (putM l key now).Perm (rput q key now) := by
  unfold putM rput
  rw [has_perm hp]
  split
  · rename_i h
    have hq : hasM q key = true := by rw [has_perm hp]; exact h
    exact (set_perm (hasM_true ht.sorted h).1 _).trans ((List.Perm.cons _ (rest_perm hp ht h)).trans (set_perm (hasM_idx hq).1 _).symm)
  · have h1 : (l.take (posM l key) ++ (key, now) :: l.drop (posM l key)).Perm ((key, now) :: l) := by
      refine List.perm_middle.trans ?_
      rw [List.take_append_drop]
    exact h1.trans ((List.Perm.cons _ hp).trans (List.perm_append_singleton _ _).symm)
theorem del_perm {l q : List Rw} (hp : l.Perm q) (ht : Tidy l) {key : ByteArray} (h : hasM l key = true) : (l.eraseIdx (posM l key)).Perm (rdel q key) := by
  obtain ⟨h1, h2⟩ := hasM_true ht.sorted h
  have h5 := split_perm h1
  have hq := (h5.symm.trans hp).filter fun r => !decide (r.1 = key)
  rw [getD_get h1] at h2
  rw [List.filter_cons_of_neg (by rw [h2]; simp)] at hq
  have hh := has_erase ht.sorted key h
  have : (l.eraseIdx (posM l key)).filter (fun r => !decide (r.1 = key)) = l.eraseIdx (posM l key) := by
    rw [List.filter_eq_self]
    intro r hr
    cases hx : decide (r.1 = key) with
    | false => rfl
    | true =>
      have : hasM (l.eraseIdx (posM l key)) key = true := List.any_eq_true.2 ⟨r, hr, hx⟩
      rw [hh] at this; cases this
  rw [this] at hq
  exact hq
theorem do_perm {l q : List Rw} (hp : l.Perm q) (ht : Tidy l) (k : Int) (key val old : ByteArray) : (rdoM q k key val old).1 = (doM l k key val old).1 ∧ (rdoM q k key val old).2.1 = (doM l k key val old).2.1 ∧ (doM l k key val old).2.2.Perm (rdoM q k key val old).2.2 := by
  have hh := has_perm hp key
  have hd := rhad_perm hp ht key
  have hl := hp.length_eq
  have hfew := ht.few
  unfold rdoM doM rnow
  rw [hh, hd]
  by_cases hc : checkM k key val old = 0
  · rw [if_pos hc, if_pos hc]
    have hv := (check_sizes hc).2.2.1
    by_cases k2 : k = 2
    · subst k2
      have e : fullM l key = decide (hasM l key = false ∧ 16 ≤ q.length) := by
        unfold fullM
        rw [← hl]
        cases hasM l key
        · rw [Bool.eq_iff_iff]; simp; omega
        · simp
      rw [if_pos (.inl rfl), if_pos rfl, e, if_neg (show ¬((2 : Int) = 3) by decide), if_neg (show ¬((2 : Int) = 3) by decide), if_neg (show ¬ 64 < val.size by omega)]
      by_cases hf : hasM l key = false ∧ 16 ≤ q.length
      · rw [if_pos hf, if_pos (by simpa using hf)]; exact ⟨rfl, rfl, hp⟩
      · rw [if_neg hf, if_neg (by simpa using hf)]; exact ⟨rfl, rfl, put_perm hp ht _ _⟩
    · by_cases k3 : k = 3
      · subst k3
        have e : fullM l key = decide (hasM l key = false ∧ 16 ≤ q.length) := by
          unfold fullM
          rw [← hl]
          cases hasM l key
          · rw [Bool.eq_iff_iff]; simp; omega
          · simp
        simp only [if_neg k2, if_pos (show (3 : Int) = 2 ∨ (3 : Int) = 3 from .inr rfl), or_true, e, if_true]
        by_cases hf : hasM l key = false ∧ 16 ≤ q.length
        · simp only [if_pos hf, decide_eq_true hf, if_true]; exact ⟨trivial, trivial, hp⟩
        · simp only [if_neg hf, decide_eq_false hf, if_false, Bool.false_eq_true]
          by_cases hs : (hadM l key ++ val).size ≤ 64
          · rw [if_pos hs, if_neg (by omega)]; exact ⟨rfl, rfl, put_perm hp ht _ _⟩
          · rw [if_neg hs, if_pos (by omega)]; exact ⟨rfl, rfl, hp⟩
      · rw [if_neg (by rintro (h | h) <;> contradiction), if_neg k2, if_neg k3]
        by_cases hx : hasM l key = true
        · rw [if_pos hx, if_pos hx]
          by_cases k4 : k = 4
          · subst k4
            rw [if_neg (show ¬((4 : Int) = 5) by decide), if_pos rfl, if_pos rfl]
            exact ⟨rfl, rfl, del_perm hp ht hx⟩
          · rw [if_neg k4, if_neg k4]
            by_cases k5 : k = 5
            · rw [if_pos k5, if_pos k5]
              by_cases ho : hadM l key = old
              · rw [if_pos ho, if_pos ho]; exact ⟨rfl, rfl, put_perm hp ht _ _⟩
              · rw [if_neg ho, if_neg ho]; exact ⟨rfl, rfl, hp⟩
            · rw [if_neg k5, if_neg k5]; exact ⟨rfl, rfl, hp⟩
        · rw [if_neg hx, if_neg hx]; exact ⟨rfl, rfl, hp⟩
  · rw [if_neg hc, if_neg hc]; exact ⟨rfl, rfl, hp⟩
end Go.Tab
