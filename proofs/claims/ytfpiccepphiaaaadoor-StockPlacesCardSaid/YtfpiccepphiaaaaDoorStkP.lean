/-
  Contracts of given functions, or plain laws that they need. No condition.
-/
import Derived.Test.YtfpiccepphiaaaaDoorBlaG
import Derived.Test.YtfpiccepphiaaaaDoorBlaP
import Derived.Test.YtfpiccepphiaaaaDoorStmD
namespace Go.Stk
open Go Go.Eng Go.Proofs Go.Nest Go.RowKit Go.Memo Go.Sea Go.Plc
set_option linter.unusedVariables false
set_option linter.unusedSimpArgs false
set_option maxRecDepth 100000
set_option maxHeartbeats 4000000
theorem blaT : ∀ g cs, Go.Bla.gl g = some cs → glT g = some cs := fun g cs h => by unfold glT; rw [h]
theorem bla_pow : Go.Bla.gl 4 = none := by kernel_rfl
theorem pT : ∀ g cs, glP g = some cs → glT g = some cs := fun g cs h => by
  have e : g = 4 := by
    unfold glP at h
    split at h
    · assumption
    · cases h
  subst e
  unfold glT
  rw [bla_pow]
  exact h
theorem LP_ok (c : Int) : OrcOK Tryd.prog (LP c) := (((OrcOK.none _).add _ false (mPlc c) fun args H ret H' cs h hc => by
  unfold mPlc at h
  split at h
  · cases h; obtain ⟨rfl, hk, -⟩ := hc; exact (place_ok _ hk).mono blaT
  · cases h).add _ false (mPlc c) fun args H ret H' cs h hc => by
  unfold mPlc at h
  split at h
  · cases h; obtain ⟨rfl, hk, -⟩ := hc; exact (placeR_ok _ hk).mono blaT
  · cases h).add _ false mMoves' fun args H ret H' cs h hc => by
  unfold mMoves' at h
  split at h
  · cases h; exact moves_ok.mono pT
  · cases h
theorem law_places_ok (key : ByteArray) : Eng.Spec Tryd.prog glT 3 [.d (.raw (.string (key)))] [] (.d (.raw (.bool (true)))) [] := by
  refine spec_fn Tryd.func3 rfl fun {w N E act} hsim => ?_
  obtain ⟨c, hc⟩ : ∃ c, c = plc key := ⟨_, rfl⟩
  have hb := plc_bd key
  rw [← hc] at hb
  rcases Bool.eq_false_or_eq_true (decide ((↑key.size : Int) > (5000 : Int))) with hb1 | hb1
  · skip
    exact go_ret (LP_ok c) rfl rfl Tryd.func3 (sr' := ⟨0, [.d (.raw (.bool (true)))], []⟩) (cs := [((decide ((↑key.size : Int) > (5000 : Int))) = true)]) [true] true (by kernel_rfl) (by kernel_rfl) ⟨hb1, trivial⟩ (by first | rfl | (exfalso; clear hsim; simp_all; omega) | (exfalso; clear hsim; simp_all; done)) hsim
  · skip
    rcases Bool.eq_false_or_eq_true (c == c) with hb2 | hb2
    · skip
      rcases Bool.eq_false_or_eq_true (decide (c ≥ (0 : Int))) with hb3 | hb3
      · skip
        rcases Bool.eq_false_or_eq_true (decide (c < (4 : Int))) with hb4 | hb4
        · skip
          have q0_ : (c = plc key) := (by first | exact hc | (have h1 := of_decide_eq_false hb1; omega))
          have q1_ : (key.size ≤ (1073741824 : Nat)) := (by first | exact hc | (have h1 := of_decide_eq_false hb1; omega))
          exact go_ret (LP_ok c) rfl rfl Tryd.func3 (sr' := ⟨0, [.d (.raw (.bool (true)))], []⟩) (cs := ((fun (c0 c1 : Prop) => [((decide ((↑key.size : Int) > (5000 : Int))) = false), c0, c1, c0, c1, ((c == c) = true), ((decide (c ≥ (0 : Int))) = true), ((decide (c < (4 : Int))) = true)]) (c = plc key) (key.size ≤ (1073741824 : Nat)))) [false, true, true, true] true (by kernel_rfl) (by kernel_rfl) ⟨hb1, q0_, q1_, q0_, q1_, hb2, hb3, hb4, trivial⟩ (by first | rfl | (exfalso; clear hsim; simp_all; omega) | (exfalso; clear hsim; simp_all; done)) hsim
        · skip
          have q0_ : (c = plc key) := (by first | exact hc | (have h1 := of_decide_eq_false hb1; omega))
          have q1_ : (key.size ≤ (1073741824 : Nat)) := (by first | exact hc | (have h1 := of_decide_eq_false hb1; omega))
          exact go_ret (LP_ok c) rfl rfl Tryd.func3 (sr' := ⟨0, [.d (.raw (.bool (false)))], []⟩) (cs := ((fun (c0 c1 : Prop) => [((decide ((↑key.size : Int) > (5000 : Int))) = false), c0, c1, c0, c1, ((c == c) = true), ((decide (c ≥ (0 : Int))) = true), ((decide (c < (4 : Int))) = false)]) (c = plc key) (key.size ≤ (1073741824 : Nat)))) [false, true, true, false] true (by kernel_rfl) (by kernel_rfl) ⟨hb1, q0_, q1_, q0_, q1_, hb2, hb3, hb4, trivial⟩ (by first | rfl | (exfalso; clear hsim; simp_all; omega) | (exfalso; clear hsim; simp_all; done)) hsim
      · skip
        have q0_ : (c = plc key) := (by first | exact hc | (have h1 := of_decide_eq_false hb1; omega))
        have q1_ : (key.size ≤ (1073741824 : Nat)) := (by first | exact hc | (have h1 := of_decide_eq_false hb1; omega))
        exact go_ret (LP_ok c) rfl rfl Tryd.func3 (sr' := ⟨0, [.d (.raw (.bool (false)))], []⟩) (cs := ((fun (c0 c1 : Prop) => [((decide ((↑key.size : Int) > (5000 : Int))) = false), c0, c1, c0, c1, ((c == c) = true), ((decide (c ≥ (0 : Int))) = false)]) (c = plc key) (key.size ≤ (1073741824 : Nat)))) [false, true, false] true (by kernel_rfl) (by kernel_rfl) ⟨hb1, q0_, q1_, q0_, q1_, hb2, hb3, trivial⟩ (by first | rfl | (exfalso; clear hsim; simp_all; omega) | (exfalso; clear hsim; simp_all; done)) hsim
    · skip
      have q0_ : (c = plc key) := (by first | exact hc | (have h1 := of_decide_eq_false hb1; omega))
      have q1_ : (key.size ≤ (1073741824 : Nat)) := (by first | exact hc | (have h1 := of_decide_eq_false hb1; omega))
      exact go_ret (LP_ok c) rfl rfl Tryd.func3 (sr' := ⟨0, [.d (.raw (.bool (false)))], []⟩) (cs := ((fun (c0 c1 : Prop) => [((decide ((↑key.size : Int) > (5000 : Int))) = false), c0, c1, c0, c1, ((c == c) = false)]) (c = plc key) (key.size ≤ (1073741824 : Nat)))) [false, false] true (by kernel_rfl) (by kernel_rfl) ⟨hb1, q0_, q1_, q0_, q1_, hb2, trivial⟩ (by first | rfl | (exfalso; clear hsim; simp_all; omega) | (exfalso; clear hsim; simp_all; done)) hsim
end Go.Stk
