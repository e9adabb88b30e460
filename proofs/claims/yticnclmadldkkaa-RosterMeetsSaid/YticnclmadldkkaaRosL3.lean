/-
  Proved here: the given statement RosterMeetsSaid: whatever the input, the law RosterMeets returns true, and each argument reads behind the call as it read before. Conditions: none.
-/
import Derived.Test.YticnclmadldkkaaRos2
import Derived.Test.YticnclmadldkkaaRows
import Derived.WalkKit
import Derived.ProofKit
import Derived.OpenShut
import Derived.ShutString
import Derived.ChangeOld
import Derived.Below
import Derived.SizedLaws
import Derived.Carry
import Derived.Lib.SmallJoins
namespace Go.Proofs.Yticnclmadldkkaa
open Go Go.Abs Go.Proofs Go.Ros
open Go.ChangeShapes Go.WideShapes Go.ChangeAt Go.RowKit
set_option linter.unusedVariables false
theorem own : ownKnob Try.prog.godebug = none := by kernel_rfl
theorem laidOut : laidOutB Try.prog = true := by kernel_rfl
theorem ty3 : Try.prog.underlying 3 = some (.int .i64) := by kernel_rfl
theorem ty4 : Try.prog.underlying 4 = some .bool := by kernel_rfl
/-- A roster. -/
theorem open_ros {H : Type} {enc : TypeId × Value → H} {W : World} {b0 : Nat} {v : Value} {d : DataW H} {ps : List MemPlace} (hv : Value.okWide Try.prog W .any b0 23 v) (h : DataW.Trod enc Try.prog W 0 (fun _ => true) true 23 v d ps) :
    ∃ F G C : Int, VD W (fun _ => False) (ros F G C) v := by
  obtain ⟨v0, v1, v2, y0, y1, y2, n, rfl, rfl, rfl, h0, h1, h2⟩ := Joins.open_agg3 Try.underlying23 (by kernel_rfl) (by kernel_rfl) hv h
  obtain ⟨F, e0, -, -⟩ := DataW.trod_int ty3 h0
  obtain ⟨G, e1, -, -⟩ := DataW.trod_int ty3 h1
  obtain ⟨C, e2, -, -⟩ := DataW.trod_int ty3 h2
  cases e0; cases e1; cases e2
  refine ⟨F, G, C, _, rfl, ?_⟩
  simp [VC, VCs, I, D.one, Value.oneCell']
set_option maxRecDepth 100000 in
theorem lifted3 (os : Os) (started : os.Started) (H : Type) (enc : TypeId × Value → H) :
    ReturnsInHanded {} Try.checked os 3 .any (Rows.rosterMeetsSpec.pre6 enc Try.prog Try.f3 Rows.rosterMeetsRow.domain false) (Rows.rosterMeetsSpec.post enc Try.prog Try.f3 false true false false) := by
  refine returnsInHanded_of_change_sized (C := Try.checked) own started (by kernel_rfl) Try.func3
    (ChangeSpec.witness6 (enc := enc) (C := Try.checked) false ⟨#[], #[.agg #[.int .i64 0, .int .i64 0, .int .i64 0], .int .i64 0, .int .i64 0], []⟩ 8 (by kernel_rfl) (by kernel_rfl) (by kernel_rfl) (by kernel_rfl)) ?_
  intro W base args ds gs before hval0 hW hcnd hsz0 _
  have hval : ∀ (j : Nat) t v, Try.f3.params[j]? = some t → args[j]? = some v → Value.okWide Try.prog W .any base t v := hval0
  have hW' := hW
  obtain ⟨p, q, hA0, hV, rfl, hfz, hnd⟩ := hW
  have hA : DataW.TrodAll enc Try.prog W 0 (fun _ => true) true [23, 3, 3] args.toList ds p := hA0
  obtain ⟨v0, vs0, d0, ds0, p0, q0, hargs, rfl, rfl, h0, r0⟩ := trodAll_cons hA
  obtain ⟨v1, vs1, d1, ds1, p1, q1, rfl, rfl, rfl, h1, r1⟩ := trodAll_cons r0
  obtain ⟨v2, vs2, d2, ds2, p2, q2, rfl, rfl, rfl, h2, r2⟩ := trodAll_cons r1
  obtain ⟨rfl, rfl, rfl⟩ := trodAll_nil r2
  obtain rfl : args = #[v0, v1, v2] := by cases args; simp_all
  obtain ⟨rfl, rfl⟩ := trodVars_none hV
  obtain ⟨F, G, C, hv0⟩ := open_ros (hval 0 23 v0 rfl rfl) h0
  obtain ⟨a1, rfl, -, -, -⟩ := open_int ty3 (hval 1 3 v1 rfl rfl) h1
  obtain ⟨a2, rfl, -, -, -⟩ := open_int ty3 (hval 2 3 v2 rfl rfl) h2
  have lt : ∀ {t v d ps}, DataW.Trod enc Try.prog W 0 (fun _ => true) true t v d ps → ∀ x ∈ ps, x.block < W.heap.size := fun h => by obtain ⟨m, hm⟩ := h; exact DataW.trod_lt m _ _ _ hm
  have args : VTs W (fun _ => False) [ros F G C, I a1, I a2] [v0, .int .i64 a1, .int .i64 a2] := ⟨rfl, fun i x v hx hv => by
    match i with
    | 0 => cases hx; cases hv; exact hv0
    | 1 => cases hx; cases hv; exact VD_raw rfl
    | 2 => cases hx; cases hv; exact VD_raw rfl⟩
  refine (f3_ok F G C a1 a2 W _ _ (fun _ h => h.elim) args).mono fun e W' ⟨v, he, hr, bel⟩ => ?_
  subst he
  have hr' : VD W' (fun b => False ∨ (W.heap.size ≤ b ∧ b < W'.heap.size)) (Bo true) v := hr
  have hv := (VD_raw_inv hr').1
  subst hv
  exact ⟨_, rfl, _, _, _, [], _, [], hW', trodAll_mk1 (shut_bool ty4 _),
    (trodAll_cons_mk (Below.trod laidOut (by kernel_rfl) (of_decide_eq_true (by kernel_rfl)) h0 bel (lt h0)) (trodAll_cons_mk (Below.trod laidOut (by kernel_rfl) (of_decide_eq_true (by kernel_rfl)) h1 bel (lt h1)) (trodAll_cons_mk (Below.trod laidOut (by kernel_rfl) (of_decide_eq_true (by kernel_rfl)) h2 bel (lt h2)) trodAll_mk0))),
    rfl, bel.frame _, fun h => by cases h⟩
theorem over3 : Rows.rosterMeetsRow.holds Try.pinned (OpenSpec.ofChange Rows.rosterMeetsSpec) :=
  OpenClaim.holds_of_wide 3 Try.f3 rfl rfl rfl rfl rfl rfl rfl ⟨rfl, rfl, rfl, rfl, rfl⟩ rfl rfl rfl rfl rfl (by kernel_rfl) Try.func3 (by kernel_rfl)
    (of_decide_eq_true (by kernel_rfl)) (by unfold Func.isWrapper; first | (rw [if_pos (by decide +kernel)]; kernel_rfl) | (rw [if_neg (by decide +kernel)]; exact ⟨rfl, rfl⟩))
    (fun os started H enc _ => lifted3 os started H enc)
theorem rosterMeets_holds : Rows.RosterMeetsSaid := over3
#print axioms rosterMeets_holds
end Go.Proofs.Yticnclmadldkkaa
