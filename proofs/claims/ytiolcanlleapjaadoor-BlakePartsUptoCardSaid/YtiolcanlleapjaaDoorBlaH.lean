/-
  Contracts of given functions, or plain laws that they need. No condition.
-/
import Derived.Test.YtiolcanlleapjaaDoorBlaG
namespace Go.Bla
open Go Go.Eng
set_option linter.unusedVariables false
set_option maxRecDepth 100000
def colM (v m : List W) (row : ByteArray) : List W :=
  putM (putM (putM (putM (v) 0 4 8 12 (m.getD (nib row 0) 0) (m.getD (nib row 1) 0)) 1 5 9 13 (m.getD (nib row 2) 0) (m.getD (nib row 3) 0)) 2 6 10 14 (m.getD (nib row 4) 0) (m.getD (nib row 5) 0)) 3 7 11 15 (m.getD (nib row 6) 0) (m.getD (nib row 7) 0)
def diaM (v m : List W) (row : ByteArray) : List W :=
  putM (putM (putM (putM (v) 0 5 10 15 (m.getD (nib row 8) 0) (m.getD (nib row 9) 0)) 1 6 11 12 (m.getD (nib row 10) 0) (m.getD (nib row 11) 0)) 2 7 8 13 (m.getD (nib row 12) 0) (m.getD (nib row 13) 0)) 3 4 9 14 (m.getD (nib row 14) 0) (m.getD (nib row 15) 0)
theorem len_colM (v m : List W) (row : ByteArray) : (colM v m row).length = v.length := by simp [colM, len_putM]
theorem len_diaM (v m : List W) (row : ByteArray) : (diaM v m row).length = v.length := by simp [diaM, len_putM]
/-- Sixteen cells. -/
def outW (l : List W) : List AV := [av (l.getD 0 0), av (l.getD 1 0), av (l.getD 2 0), av (l.getD 3 0), av (l.getD 4 0), av (l.getD 5 0), av (l.getD 6 0), av (l.getD 7 0), av (l.getD 8 0), av (l.getD 9 0), av (l.getD 10 0), av (l.getD 11 0), av (l.getD 12 0), av (l.getD 13 0), av (l.getD 14 0), av (l.getD 15 0)]
theorem outW_eq {l : List W} (h : l.length = 16) : words l = outW l := by
  match l, h with
  | [a0, a1, a2, a3, a4, a5, a6, a7, a8, a9, a10, a11, a12, a13, a14, a15], _ => rfl
/-- (turn) -/
def mTurn : List AV → List (Nat × Th) → Option (AV × List (Nat × Th) × List Prop)
  | [.ref 0 0, .ref 1 0, .d (.raw (.string row)), .d (.raw (.int .i64 at_)), .d (.raw (.int .i64 ap))], [(0, .obj T cs), (1, .obj U ds)] =>
    match numsOf cs, numsOf ds with
    | some ns, some ms =>
      match at_ == 0 && ap == 0, at_ == 8 && ap == 1 with
      | true, _ => some (.dead, [(0, .obj T (outW (colM (ns.map unw) (ms.map unw) row))), (1, .obj U ds)], [OkW ns, ns.length = 16, OkW ms, ms.length = 16, HexRow row])
      | _, true => some (.dead, [(0, .obj T (outW (diaM (ns.map unw) (ms.map unw) row))), (1, .obj U ds)], [OkW ns, ns.length = 16, OkW ms, ms.length = 16, HexRow row])
      | _, _ => none
    | _, _ => none
  | _, _ => none
def O4 : Orc := O3.add 14 false mTurn
def rowsD : List D := (gl 1).getD []
def rowB (r : Nat) : ByteArray := match rowsD[r]? with
  | some (.raw (.string b)) => b
  | _ => ByteArray.empty
/-- The state at the rows' loop. -/
def bst (T : Nat) (h : List W) (t : Int) (m v : List W) (i : Int) : St := mk 1 138 [(0, .ref 0 0), (8, .ref 1 0), (11, .ref 2 0), (99, .d (.agg rowsD)), (100, .d (I i))] [(0, .obj T (words h ++ [.d (.raw (.int .u64 t))])), (1, .obj 47 (words m)), (2, .obj 49 (words v))]
/-- Between a row's two turns. -/
def bst2 (T : Nat) (h : List W) (t : Int) (m v : List W) (i : Int) (row : ByteArray) : St := mk 1 138 [(0, .ref 0 0), (8, .ref 1 0), (11, .ref 2 0), (14, .d (.raw (.string row))), (99, .d (.agg rowsD)), (100, .d (I i))] [(0, .obj T (words h ++ [.d (.raw (.int .u64 t))])), (1, .obj 47 (words m)), (2, .obj 49 (words v))]
end Go.Bla
