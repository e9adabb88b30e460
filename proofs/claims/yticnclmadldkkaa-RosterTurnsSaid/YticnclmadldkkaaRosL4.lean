/-
  Proved here: the given statement RosterTurnsSaid: whatever the input, the law RosterTurns returns true, and each argument reads behind the call as it read before. Conditions: none.
-/
import Derived.Test.YticnclmadldkkaaRosL
import Derived.Test.YticnclmadldkkaaTurB
namespace Go.Proofs.Yticnclmadldkkaa
open Go Go.Abs Go.Proofs Go.Ros
open Go.ChangeShapes Go.WideShapes Go.ChangeAt Go.RowKit
set_option linter.unusedVariables false
set_option maxRecDepth 100000 in
theorem lifted4 (os : Os) (started : os.Started) (H : Type) (enc : TypeId × Value → H) :
    ReturnsInHanded {} Try.checked os 4 .any (Rows.rosterTurnsSpec.pre6 enc Try.prog Try.f4 Rows.rosterTurnsRow.domain false) (Rows.rosterTurnsSpec.post enc Try.prog Try.f4 false true false false) := by
  refine returnsInHanded_of_change_sized (C := Try.checked) own started (by kernel_rfl) Try.func4
    (ChangeSpec.witness6 (enc := enc) (C := Try.checked) false ⟨#[], #[.agg #[.int .i64 0, .int .i64 0, .int .i64 0], .int .i64 0], []⟩ 8 (by kernel_rfl) (by kernel_rfl) (by kernel_rfl) (by kernel_rfl)) ?_
  intro W base args ds gs before hval0 hW hcnd hsz0 _
  have hval : ∀ (j : Nat) t v, Try.f4.params[j]? = some t → args[j]? = some v → Value.okWide Try.prog W .any base t v := hval0
  have hW' := hW
  obtain ⟨p, q, hA0, hV, rfl, hfz, hnd⟩ := hW
  have hA : DataW.TrodAll enc Try.prog W 0 (fun _ => true) true [23, 3] args.toList ds p := hA0
  obtain ⟨v0, vs0, d0, ds0, p0, q0, hargs, rfl, rfl, h0, r0⟩ := trodAll_cons hA
  obtain ⟨v1, vs1, d1, ds1, p1, q1, rfl, rfl, rfl, h1, r1⟩ := trodAll_cons r0
  obtain ⟨rfl, rfl, rfl⟩ := trodAll_nil r1
  obtain rfl : args = #[v0, v1] := by cases args; simp_all
  obtain ⟨rfl, rfl⟩ := trodVars_none hV
  obtain ⟨F0, G0, C0, e0⟩ := open_ros (hval 0 23 v0 rfl rfl) h0
  obtain ⟨a1, rfl, -, -, -⟩ := open_int ty3 (hval 1 3 v1 rfl rfl) h1
  refine (f4_ok F0 G0 C0 a1 W (fun _ => False) _ (fun _ h => h.elim) (vts_cons e0 (vts_cons (VD_raw rfl) vts_nil))).mono fun e W' ⟨v, he, hr, bel⟩ => ?_
  subst he
  obtain rfl := said_true (W := W) hr
  exact ⟨_, rfl, _, _, _, [], _, [], hW', trodAll_mk1 (shut_bool ty4 _), (trodAll_cons_mk (Below.trod laidOut (by kernel_rfl) (of_decide_eq_true (by kernel_rfl)) h0 bel (lt_heap h0)) (trodAll_cons_mk (Below.trod laidOut (by kernel_rfl) (of_decide_eq_true (by kernel_rfl)) h1 bel (lt_heap h1)) trodAll_mk0)), rfl, bel.frame _, fun h => by cases h⟩
theorem rosterTurns_holds : Rows.RosterTurnsSaid :=
  OpenClaim.holds_of_wide 4 Try.f4 rfl rfl rfl rfl rfl rfl rfl ⟨rfl, rfl, rfl, rfl, rfl⟩ rfl rfl rfl rfl rfl (by kernel_rfl) Try.func4 (by kernel_rfl)
    (of_decide_eq_true (by kernel_rfl)) (by unfold Func.isWrapper; first | (rw [if_pos (by decide +kernel)]; kernel_rfl) | (rw [if_neg (by decide +kernel)]; exact ⟨rfl, rfl⟩))
    (fun os started H enc _ => lifted4 os started H enc)
#print axioms rosterTurns_holds
end Go.Proofs.Yticnclmadldkkaa
