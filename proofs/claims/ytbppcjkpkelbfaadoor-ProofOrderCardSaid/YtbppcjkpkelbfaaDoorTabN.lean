/-
  Contracts of given functions, or plain laws that they need. No condition.
-/
import Derived.Test.YtbppcjkpkelbfaaDoorTab3
import Derived.Test.YtbppcjkpkelbfaaDoorTab2
namespace Go.Tab
open Go Go.Eng Go.Proofs
set_option linter.unusedVariables false
set_option linter.unusedSimpArgs false
set_option maxRecDepth 100000
set_option maxHeartbeats 4000000
theorem sim_th {C : Cx} {E : Env} {s : St} {a : Act} {w : World} (hs : Sim C E s a w) {k : Nat} {t t' : Th} (hk : s.th k = some t) (h : ∀ (N : Nat → Prop) (v : Value), ThOK C.P E w N t v → ThOK C.P E w N t' v) : Sim C E (s.setTh k t') a w := by
  have st : Step C E E s (s.setTh k t') w w _ _ _ := Step.set' k t hk t' rfl rfl rfl (Nat.le_refl _) (fun _ _ _ => rfl)
  have hN : ∀ b, Stable C E s w b → Stable C E (s.setTh k t') w b := st.stable
  refine ⟨hs.fit.step st (fun x v hx => VA.mono hN (fun _ _ _ h => h) hx) (fun i t1 hi h1 => ?_), VAs.mono hN (fun _ _ _ h => h) hs.tm, hs.df⟩
  have e : i = k := by simpa [eqk] using hi
  subst e
  rw [St.setTh_th, if_pos rfl] at h1
  cases h1
  have h2 := (hs.fit.th i t hk).1
  have h3 : ThOK C.P E w (Stable C E (s.setTh i t') w) t (E i) := by
    have := h2.kept (f := fun x => x) hN (fun _ _ _ h => h) (fun _ _ => rfl) (fun x u hx => VA.mono hN (fun _ _ _ h => h) hx)
    rwa [Th.map_id] at this
  exact h _ _ h3
theorem new_says {C : Cx} (T R : TypeId) (el : Nat → D) : Says C ⟨0, [.ref 0 0], [(0, .obj T [.d (.raw (.slice none 0 0))])]⟩ ⟨0, [.ref 0 0], [(0, .obj T [.own 1]), (1, .row R 2 0 el)]⟩ := ⟨fun E a w hs => by
  obtain ⟨h1, h2, h3, h4⟩ := hs.fit.newTh (w' := w) none 1 (Nat.zero_le _) (.row R 2 0 el) (.slice none 0 0) rfl rfl rfl (Nat.le_refl _) (fun _ _ _ => rfl) (fun b hb => by cases hb)
    (fun {E' N'} _ _ _ _ => ⟨[], ⟨by simp, .inl ⟨rfl, rfl⟩⟩, fun i hi => absurd hi (by omega)⟩)
  have h5 : Sim C (E.set 1 (.slice none 0 0)) (St.newTh ⟨0, [.ref 0 0], [(0, .obj T [.d (.raw (.slice none 0 0))])]⟩ none 1 (.row R 2 0 el)) a w := ⟨h1, hs.newTh_tm h4, hs.df⟩
  exact ⟨_, sim_th h5 (k := 0) (t := .obj T [.d (.raw (.slice none 0 0))]) rfl (t' := .obj T [.own 1]) fun N v h => by
    obtain ⟨b, vs, e1, e2, e3⟩ := h
    refine ⟨b, vs, e1, e2, ?_⟩
    rw [VAs_cons] at e3 ⊢
    obtain ⟨x, xs, rfl, hx, hxs⟩ := e3
    refine ⟨x, xs, rfl, ?_, by unfold VAs at hxs ⊢; exact hxs⟩
    unfold VA at hx ⊢
    rw [(VD_raw_inv hx).1]
    exact ⟨by simp [Env.set], none, 0, 0, rfl⟩⟩⟩
theorem new_ok : Eng.Spec Tryd.prog g0 58 [] [] (.ref 0 0) (tab0 []) := by
  refine spec_fn Tryd.func58 rfl fun {w N E a} hsim => ?_
  let l : List Rw := []
  exact go_says C0_ok rfl rfl Tryd.func58 (sr' := ⟨0, [.ref 0 0], [(0, .obj 145 [.d (.raw (Value.slice none (0 : Nat) (0 : Nat)))])]⟩) (cs := []) [] true (by kernel_rfl) (by kernel_rfl) trivial (by exact new_says _ _ _) hsim
end Go.Tab

namespace Go.Tab
open Go Go.Eng Go.Proofs
set_option linter.unusedVariables false
theorem sorted_of {l : List Rw} (h : ∀ i j, i < j → j < l.length → ltB (l.getD i (ByteArray.empty, ByteArray.empty)).1 (l.getD j (ByteArray.empty, ByteArray.empty)).1 = true) : Sorted l :=
  List.pairwise_iff_getElem.2 fun i j hi hj hij => by
    have := h i j hij hj
    rwa [getD_get hi, getD_get hj] at this
theorem getD_mem {l : List Rw} {i : Nat} (h : i < l.length) : l.getD i (ByteArray.empty, ByteArray.empty) ∈ l := by rw [getD_get h]; exact List.getElem_mem h
theorem put_tidy {l : List Rw} (h : Tidy l) {key val : ByteArray} (hk : 0 < key.size ∧ key.size ≤ 16) (hv : val.size ≤ 64) (hf : fullM l key = false) : Tidy (putM l key val) := by
  have hp := posM_le l key
  cases hh : hasM l key with
  | true =>
    obtain ⟨h1, h2⟩ := hasM_true h.sorted hh
    have e : putM l key val = l.set (posM l key) (key, val) := by unfold putM; rw [hh]; rfl
    have eg : ∀ i, ((l.set (posM l key) (key, val)).getD i (ByteArray.empty, ByteArray.empty)).1 = (l.getD i (ByteArray.empty, ByteArray.empty)).1 := fun i => by
      by_cases hi : i = posM l key
      · subst hi; rw [h2]; simp [List.getD, h1]
      · simp [List.getD, List.getElem?_set, Ne.symm hi]
    rw [e]
    refine ⟨sorted_of fun i j hij hj => ?_, by simpa using h.few, fun r hr => ?_⟩
    · rw [eg, eg]; exact sorted_lt h.sorted hij (by simpa using hj)
    · rcases List.mem_or_eq_of_mem_set hr with hr | rfl
      · exact h.sized r hr
      · exact ⟨hk.1, hk.2, hv⟩
  | false =>
    have hlen : l.length ≠ 16 := by unfold fullM at hf; rw [hh] at hf; simpa using hf
    have hfew := h.few
    have e : putM l key val = l.take (posM l key) ++ (key, val) :: l.drop (posM l key) := by unfold putM; rw [hh]; rfl
    rw [e]
    refine ⟨?_, by simp; omega, fun r hr => ?_⟩
    · have hgt : ∀ r ∈ l.drop (posM l key), ltB key r.1 = true := fun r hr => by
        obtain ⟨j, hj, rfl⟩ := List.getElem_of_mem hr
        rw [List.getElem_drop]
        have hjl : posM l key + j < l.length := by simp at hj; omega
        have h0 := posM_hi l key (by omega)
        have hne : (l.getD (posM l key) (ByteArray.empty, ByteArray.empty)).1 ≠ key := fun he => by
          rw [hasM_pos h.sorted, he] at hh
          have : posM l key < l.length := by omega
          simp [this] at hh
        have h3 : ltB key (l.getD (posM l key) (ByteArray.empty, ByteArray.empty)).1 = true := by
          cases hx : ltB key (l.getD (posM l key) (ByteArray.empty, ByteArray.empty)).1
          · exact absurd (ltB_tri h0 hx) hne
          · rfl
        cases j with
        | zero => rw [getD_get (by omega)] at h3; exact h3
        | succ j =>
          have := ltB_trans h3 (sorted_lt h.sorted (i := posM l key) (j := posM l key + (j + 1)) (by omega) hjl)
          rwa [getD_get hjl] at this
      have hlt : ∀ r ∈ l.take (posM l key), ltB r.1 key = true := fun r hr => by
        obtain ⟨j, hj, rfl⟩ := List.getElem_of_mem hr
        rw [List.getElem_take]
        have hjp : j < posM l key := by simp at hj; omega
        have := posM_lo l key j hjp
        rwa [getD_get (by omega)] at this
      refine List.pairwise_append.2 ⟨h.sorted.sublist (List.take_sublist _ _), List.pairwise_cons.2 ⟨hgt, h.sorted.sublist (List.drop_sublist _ _)⟩, fun a ha b hb => ?_⟩
      rcases List.mem_cons.1 hb with rfl | hb
      · exact hlt a ha
      · exact ltB_trans (hlt a ha) (hgt b hb)
    · rcases List.mem_append.1 hr with hr | hr
      · exact h.sized r (List.mem_of_mem_take hr)
      · rcases List.mem_cons.1 hr with rfl | hr
        · exact ⟨hk.1, hk.2, hv⟩
        · exact h.sized r (List.mem_of_mem_drop hr)
theorem erase_tidy {l : List Rw} (h : Tidy l) (i : Nat) : Tidy (l.eraseIdx i) :=
  ⟨h.sorted.sublist (List.eraseIdx_sublist _ _), Nat.le_trans (List.eraseIdx_sublist l i).length_le h.few, fun r hr => h.sized r ((List.eraseIdx_sublist l i).mem hr)⟩
theorem check_sizes {k : Int} {key val old : ByteArray} (h : checkM k key val old = 0) : (1 ≤ k ∧ k ≤ 5) ∧ (0 < key.size ∧ key.size ≤ 16) ∧ val.size ≤ 64 ∧ old.size ≤ 64 := by
  unfold checkM at h
  split at h
  · cases h
  · split at h
    · cases h
    · omega
theorem do_tidy {l : List Rw} (h : Tidy l) (k : Int) (key val old : ByteArray) : Tidy (doM l k key val old).2.2 := by
  unfold doM
  split
  · rename_i hc
    obtain ⟨_, hk, hv, _⟩ := check_sizes hc
    split
    · split
      · exact h
      · rename_i hf; exact put_tidy h hk hv (Bool.eq_false_iff.2 hf)
    · split
      · split
        · exact h
        · rename_i hf
          split
          · rename_i hs; exact put_tidy h hk hs (Bool.eq_false_iff.2 hf)
          · exact h
      · split
        · rename_i hh
          have hf : fullM l key = false := by unfold fullM; rw [hh]; rfl
          split
          · exact erase_tidy h _
          · split
            · split
              · exact put_tidy h hk hv hf
              · exact h
            · exact h
        · exact h
  · exact h
end Go.Tab
