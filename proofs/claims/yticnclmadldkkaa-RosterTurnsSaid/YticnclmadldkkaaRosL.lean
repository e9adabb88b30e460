/-
  Contracts of the given functions, and the statement's own walk. No condition.
-/
import Derived.Test.YticnclmadldkkaaRosM
import Derived.Test.YticnclmadldkkaaRows
import Derived.WalkKit
import Derived.ProofKit
import Derived.OpenShut
import Derived.ShutString
import Derived.ChangeOld
import Derived.Below
import Derived.SizedLaws
import Derived.Carry
import Derived.Lib.SmallJoins
namespace Go.Proofs.Yticnclmadldkkaa
open Go Go.Abs Go.Proofs Go.Ros
open Go.ChangeShapes Go.WideShapes Go.ChangeAt Go.RowKit
set_option linter.unusedVariables false
theorem own : ownKnob Try.prog.godebug = none := by kernel_rfl
theorem laidOut : laidOutB Try.prog = true := by kernel_rfl
theorem ty3 : Try.prog.underlying 3 = some (.int .i64) := by kernel_rfl
theorem ty4 : Try.prog.underlying 4 = some .bool := by kernel_rfl
/-- A roster. -/
theorem open_ros {H : Type} {enc : TypeId × Value → H} {W : World} {b0 : Nat} {v : Value} {d : DataW H} {ps : List MemPlace} (hv : Value.okWide Try.prog W .any b0 23 v) (h : DataW.Trod enc Try.prog W 0 (fun _ => true) true 23 v d ps) :
    ∃ F G C : Int, VD W (fun _ => False) (ros F G C) v := by
  obtain ⟨v0, v1, v2, y0, y1, y2, n, rfl, rfl, rfl, h0, h1, h2⟩ := Joins.open_agg3 Try.underlying23 (by kernel_rfl) (by kernel_rfl) hv h
  obtain ⟨F, e0, -, -⟩ := DataW.trod_int ty3 h0
  obtain ⟨G, e1, -, -⟩ := DataW.trod_int ty3 h1
  obtain ⟨C, e2, -, -⟩ := DataW.trod_int ty3 h2
  cases e0; cases e1; cases e2
  refine ⟨F, G, C, _, rfl, ?_⟩
  simp [VC, VCs, I, D.one, Value.oneCell']
/-- A party. -/
theorem open_pty {H : Type} {enc : TypeId × Value → H} {W : World} {b0 : Nat} {v : Value} {d : DataW H} {ps : List MemPlace} (hv : Value.okWide Try.prog W .any b0 40 v) (h : DataW.Trod enc Try.prog W 0 (fun _ => true) true 40 v d ps) :
    ∃ g n : Int, VD W (fun _ => False) (pty g n) v := by
  obtain ⟨v0, v1, y0, y1, n, rfl, rfl, rfl, h0, h1⟩ := Joins.open_agg2 Try.underlying40 (by kernel_rfl) (by kernel_rfl) hv h
  obtain ⟨F, e0, -, -⟩ := DataW.trod_int ty3 h0
  obtain ⟨G, e1, -, -⟩ := DataW.trod_int ty3 h1
  cases e0; cases e1
  refine ⟨F, G, _, rfl, ?_⟩
  simp [VC, VCs, I, D.one, Value.oneCell']
theorem lt_heap {H : Type} {enc : TypeId × Value → H} {W : World} {t : TypeId} {v : Value} {d : DataW H} {ps : List MemPlace} (h : DataW.Trod enc Try.prog W 0 (fun _ => true) true t v d ps) : ∀ x ∈ ps, x.block < W.heap.size := by
  obtain ⟨m, hm⟩ := h; exact DataW.trod_lt m _ _ _ hm
theorem vts_cons {w : World} {N : Nat → Prop} {x : D} {v : Value} {xs : List D} {vs : List Value} (h : VD w N x v) (hs : VTs w N xs vs) : VTs w N (x :: xs) (v :: vs) :=
  ⟨by simp [hs.1], fun i y u hx hu => by
    cases i with
    | zero => cases hx; cases hu; exact h
    | succ i => exact hs.2 i y u hx hu⟩
theorem vts_nil {w : World} {N : Nat → Prop} : VTs w N [] [] := ⟨rfl, fun i y u hx => by simp at hx⟩
theorem said_true {W W' : World} {N : Nat → Prop} {v : Value} (h : VRet W' N (.one (Bo true)) v) : v = .bool true := by
  have h' : VD W' N (Bo true) v := h
  exact (VD_raw_inv h').1
end Go.Proofs.Yticnclmadldkkaa
