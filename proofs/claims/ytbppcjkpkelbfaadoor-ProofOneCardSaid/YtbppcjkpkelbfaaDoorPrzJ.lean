/-
  Contracts of given functions, or plain laws that they need. No condition.
-/
import Derived.Test.YtbppcjkpkelbfaaDoorPrzG
import Derived.Test.YtbppcjkpkelbfaaDoorRowK
import Derived.Test.YtbppcjkpkelbfaaDoorRmT
import Derived.Test.YtbppcjkpkelbfaaDoorRoA
namespace Go.Prf
open Go Go.Eng Go.Proofs Go.RowKit Go.Tab Go.Plc
set_option linter.unusedVariables false
set_option maxRecDepth 100000
set_option maxHeartbeats 4000000
abbrev tyOp : Ty := .agg [.int .i64, .str, .str, .str]
abbrev tyAn : Ty := .agg [.int .i64, .str]
abbrev tyCa : Ty := .agg [.int .i64, .int .i64, tyOp, .int .i64, .int .i64, tyAn]
abbrev tyPt : Ty := .agg [.int .i64, .int .i64, .int .i64, tyAn]
theorem getD_map {α β : Type} (f : α → β) (l : List α) (a : α) (i : Nat) : f (l.getD i a) = (l.map f).getD i (f a) := by
  simp only [List.getD, List.getElem?_map]
  cases l[i]? <;> rfl
end Go.Prf

namespace Go.Prf
open Go Go.Eng Go.Proofs Go.RowKit Go.Tab Go.Plc
set_option linter.unusedVariables false
set_option maxRecDepth 100000
set_option maxHeartbeats 4000000
def toOp (x : tyOp.Val) : OpT := (x.1, x.2.1, x.2.2.1, x.2.2.2.1)
theorem opD_to (x : tyOp.Val) : tyOp.toD x = opD (toOp x) := rfl
theorem opsTo (l : List tyOp.Val) : (Ty.list tyOp).toD l = .list 4 (l.map toOp).length (opEl (l.map toOp)) := by
  have e : (fun i => tyOp.toD (List.getD (α := tyOp.Val) l i tyOp.dflt)) = opEl (l.map toOp) := by
    funext i
    exact (opD_to _).trans (congrArg opD (getD_map toOp l tyOp.dflt i))
  rw [← e, List.length_map]
  rfl
end Go.Prf

namespace Go.Prf
open Go Go.Eng Go.Proofs Go.RowKit Go.Tab Go.Plc
set_option linter.unusedVariables false
set_option maxRecDepth 100000
set_option maxHeartbeats 4000000
theorem law_one_row (l : List tyOp.Val) (wr : Int) : Eng.Spec Tryd.prog Go.Bla.gl 5 [.d ((Ty.list tyOp).toD l), .d (.raw (.int .i64 wr))] [] (.d (.raw (.bool true))) [] := by
  rw [opsTo]
  exact law_one_ok _ _
end Go.Prf
