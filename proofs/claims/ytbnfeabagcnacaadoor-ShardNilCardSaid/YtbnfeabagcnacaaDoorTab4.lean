/-
  Contracts of given functions, or plain laws that they need. No condition.
-/
import Derived.Test.YtbnfeabagcnacaaDoorTab3
namespace Go.Tab
open Go Go.Eng Go.Proofs
set_option linter.unusedVariables false
set_option linter.unusedSimpArgs false
set_option maxRecDepth 100000
set_option maxHeartbeats 4000000
theorem sim_th {C : Cx} {E : Env} {s : St} {a : Act} {w : World} (hs : Sim C E s a w) {k : Nat} {t t' : Th} (hk : s.th k = some t) (h : ∀ (N : Nat → Prop) (v : Value), ThOK C.P E w N t v → ThOK C.P E w N t' v) : Sim C E (s.setTh k t') a w := by
  have st : Step C E E s (s.setTh k t') w w _ _ _ := Step.set' k t hk t' rfl rfl rfl (Nat.le_refl _) (fun _ _ _ => rfl)
  have hN : ∀ b, Stable C E s w b → Stable C E (s.setTh k t') w b := st.stable
  refine ⟨hs.fit.step st (fun x v hx => VA.mono hN (fun _ _ _ h => h) hx) (fun i t1 hi h1 => ?_), VAs.mono hN (fun _ _ _ h => h) hs.tm, hs.df⟩
  have e : i = k := by simpa [eqk] using hi
  subst e
  rw [St.setTh_th, if_pos rfl] at h1
  cases h1
  have h2 := (hs.fit.th i t hk).1
  have h3 : ThOK C.P E w (Stable C E (s.setTh i t') w) t (E i) := by
    have := h2.kept (f := fun x => x) hN (fun _ _ _ h => h) (fun _ _ => rfl) (fun x u hx => VA.mono hN (fun _ _ _ h => h) hx)
    rwa [Th.map_id] at this
  exact h _ _ h3
theorem new_says {C : Cx} (T R : TypeId) (el : Nat → D) : Says C ⟨0, [.ref 0 0], [(0, .obj T [.d (.raw (.slice none 0 0))])]⟩ ⟨0, [.ref 0 0], [(0, .obj T [.own 1]), (1, .row R 2 0 el)]⟩ := ⟨fun E a w hs => by
  obtain ⟨h1, h2, h3, h4⟩ := hs.fit.newTh (w' := w) none 1 (Nat.zero_le _) (.row R 2 0 el) (.slice none 0 0) rfl rfl rfl (Nat.le_refl _) (fun _ _ _ => rfl) (fun b hb => by cases hb)
    (fun {E' N'} _ _ _ _ => ⟨[], ⟨by simp, .inl ⟨rfl, rfl⟩⟩, fun i hi => absurd hi (by omega)⟩)
  have h5 : Sim C (E.set 1 (.slice none 0 0)) (St.newTh ⟨0, [.ref 0 0], [(0, .obj T [.d (.raw (.slice none 0 0))])]⟩ none 1 (.row R 2 0 el)) a w := ⟨h1, hs.newTh_tm h4, hs.df⟩
  exact ⟨_, sim_th h5 (k := 0) (t := .obj T [.d (.raw (.slice none 0 0))]) rfl (t' := .obj T [.own 1]) fun N v h => by
    obtain ⟨b, vs, e1, e2, e3⟩ := h
    refine ⟨b, vs, e1, e2, ?_⟩
    rw [VAs_cons] at e3 ⊢
    obtain ⟨x, xs, rfl, hx, hxs⟩ := e3
    refine ⟨x, xs, rfl, ?_, by unfold VAs at hxs ⊢; exact hxs⟩
    unfold VA at hx ⊢
    rw [(VD_raw_inv hx).1]
    exact ⟨by simp [Env.set], none, 0, 0, rfl⟩⟩⟩
theorem new_ok : Eng.Spec Tryd.prog g0 24 [] [] (.ref 0 0) (tab0 []) := by
  refine spec_fn Tryd.func24 rfl fun {w N E a} hsim => ?_
  let l : List Rw := []
  exact go_says C0_ok rfl rfl Tryd.func24 (sr' := ⟨0, [.ref 0 0], [(0, .obj 86 [.d (.raw (Value.slice none (0 : Nat) (0 : Nat)))])]⟩) (cs := []) [] true (by kernel_rfl) (by kernel_rfl) trivial (by exact new_says _ _ _) hsim
theorem text_nil_ok : Eng.Spec Tryd.prog g0 30 [.d (.raw (.pointer none))] [] (.d (.raw (.string ByteArray.empty))) [] := by
  refine spec_fn Tryd.func30 rfl fun {w N E a} hsim => ?_
  let l : List Rw := []
  exact go_ret C0_ok rfl rfl Tryd.func30 (sr' := ⟨0, [.d (.raw (.string (ByteArray.mk #[])))], []⟩) (cs := [((true) = true)]) [true] true (by kernel_rfl) (by kernel_rfl) ⟨rfl, trivial⟩ (by rfl) hsim
end Go.Tab
