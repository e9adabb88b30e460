/-
  Contracts of given functions, or plain laws that they need. No condition.
-/
import Derived.Test.YtbppcjkpkelbfaaDoorPldB
import Derived.Test.YtbppcjkpkelbfaaDoorRowS
namespace Go.Plj
open Go Go.Eng Go.Proofs Go.RowKit Go.Tab Go.Plc Go.Prf
set_option linter.unusedVariables false
set_option maxRecDepth 100000
set_option maxHeartbeats 4000000
abbrev tyOp : Ty := .agg [.int .i64, .str, .str, .str]
abbrev tyAn : Ty := .agg [.int .i64, .str]
abbrev tyCa : Ty := .agg [.int .i64, .int .i64, tyOp, .int .i64, .int .i64, tyAn]
abbrev tyPt : Ty := .agg [.int .i64, .int .i64, .int .i64, tyAn]
def toCa (x : tyCa.Val) : Ca := ⟨x.1, x.2.1, (x.2.2.1.1, x.2.2.1.2.1, x.2.2.1.2.2.1, x.2.2.1.2.2.2.1), x.2.2.2.1, x.2.2.2.2.1, (x.2.2.2.2.2.1.1, x.2.2.2.2.2.1.2.1)⟩
def toPt (x : tyPt.Val) : Pt := ⟨x.1, x.2.1, x.2.2.1, (x.2.2.2.1.1, x.2.2.2.1.2.1)⟩
theorem caD_to (x : tyCa.Val) : tyCa.toD x = caD (toCa x) := rfl
theorem ptD_to (x : tyPt.Val) : tyPt.toD x = ptD (toPt x) := rfl
theorem getD_map {α β : Type} (f : α → β) (l : List α) (a : α) (i : Nat) : f (l.getD i a) = (l.map f).getD i (f a) := by
  simp only [List.getD, List.getElem?_map]
  cases l[i]? <;> rfl
theorem cas_to (l : List tyCa.Val) : (Ty.list tyCa).toD l = .list 10 (l.map toCa).length (caEl (l.map toCa)) := by
  have e : (fun i => tyCa.toD (List.getD (α := tyCa.Val) l i tyCa.dflt)) = caEl (l.map toCa) := by
    funext i
    exact (caD_to _).trans (congrArg caD (getD_map toCa l tyCa.dflt i))
  rw [← e, List.length_map]
  rfl
theorem pts_to (l : List tyPt.Val) : (Ty.list tyPt).toD l = .list 5 (l.map toPt).length (ptEl (l.map toPt)) := by
  have e : (fun i => tyPt.toD (List.getD (α := tyPt.Val) l i tyPt.dflt)) = ptEl (l.map toPt) := by
    funext i
    exact (ptD_to _).trans (congrArg ptD (getD_map toPt l tyPt.dflt i))
  rw [← e, List.length_map]
  rfl
theorem strs_small (l : List tyCa.Val) (hk : (Ty.list tyCa).strs l) : SmallW (l.map toCa) := fun c hc => by
  obtain ⟨x, hx, rfl⟩ := List.mem_map.1 hc
  have h := hk x hx
  exact h.2.2.1.2.1
theorem law_splits_row (l : List tyCa.Val) (m : List tyPt.Val) (wf : (Ty.list tyCa).wf l) (hk : (Ty.list tyCa).strs l) : Eng.Spec Tryd.prog Go.Bla.gl 3 [.d ((Ty.list tyCa).toD l), .d ((Ty.list tyPt).toD m)] [] (.d (.raw (.bool true))) [] := by
  rw [cas_to, pts_to]
  exact law_splits_ok _ _ (by rw [List.length_map]; exact wf.1) (strs_small l hk)
end Go.Plj
