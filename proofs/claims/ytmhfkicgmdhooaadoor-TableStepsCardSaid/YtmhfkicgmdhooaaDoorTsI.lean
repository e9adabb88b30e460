/-
  Contracts of given functions, or plain laws that they need. No condition.
-/
import Derived.Test.YtmhfkicgmdhooaaDoorTsH
namespace Go.Tab
open Go Go.Eng Go.Nest
set_option linter.unusedVariables false
def mRef : Mo
  | [.d (.agg [.raw (.int .i64 k), .raw (.string key), .raw (.string val), .raw (.string old)])], [] => some (.d (.agg [.raw (.int .i64 k), .raw (.string key), .raw (.string val), .raw (.string old)]), [], [])
  | _, _ => none
def mRDo (q : List Rw) : Mo
  | [.ref 0 0, .d (.agg [.raw (.int .i64 k), .raw (.string key), .raw (.string val), .raw (.string old)])], [(0, .obj T [.own 1]), (1, .row R 2 n el)] => some (.tup [.d (.raw (.string (rdoM q k key val old).1)), .d (.raw (.int .i64 (rdoM q k key val old).2.1))], rt2 (rdoM q k key val old).2.2, [T = 36, R = 65, n = q.length, el = rowEl q, q.length ≤ 16 ∧ ∀ r ∈ q, r.2.size ≤ 64])
  | _, _ => none
def mTextR (l q : List Rw) : Mo
  | [.ref 0 0], [(0, .obj T [.own 1]), (1, .row R 2 n el)] => some (.d (.raw (.string (packB (flatM l)))), rt0 q, [T = 36, R = 65, n = q.length, el = rowEl q, l.Perm q ∧ Tidy l])
  | _, _ => none
/-- The callees of TableSteps: the operation on the rows l and q, all else on l2 and q2. -/
def W1 (l q l2 q2 : List Rw) : Orc := ((((W0 l l2).add 14 false mRef).add 13 false (mRDo q)).add 16 false mCheck).add 17 false (mTextR l2 q2)
def st1 (ops : List OpV) (l q : List Rw) (n i : Int) : St := mk 0 80 [(3, .ref 0 0), (4, .ref 2 0), (26, .d (.list 4 (ops.length) (opEl ops))), (27, .d (.raw (.int .i64 n))), (28, .d (.raw (.int .i64 i)))] [(0, .obj 56 [.own 1]), (1, .row 60 2 l.length (rowEl l)), (2, .obj 36 [.own 3]), (3, .row 65 2 q.length (rowEl q))]
def opO (k : Int) (key val old : ByteArray) : Th := .obj 24 [.d (.raw (.int .i64 k)), .d (.raw (.string key)), .d (.raw (.string val)), .d (.raw (.string old))]
def st2 (ops : List OpV) (l q : List Rw) (n i k : Int) (key val old : ByteArray) : St := mk 0 80 [(3, .ref 0 0), (4, .ref 2 0), (6, .ref 4 0), (26, .d (.list 4 (ops.length) (opEl ops))), (27, .d (.raw (.int .i64 n))), (28, .d (.raw (.int .i64 i)))] [(0, .obj 56 [.own 1]), (1, .row 60 2 l.length (rowEl l)), (2, .obj 36 [.own 3]), (3, .row 65 2 q.length (rowEl q)), (4, opO k key val old)]
def st3 (ops : List OpV) (l q : List Rw) (n i k : Int) (key val old x y : ByteArray) (e f : Int) : St := mk 0 80 [(3, .ref 0 0), (4, .ref 2 0), (6, .ref 4 0), (7, .d (.raw (.string x))), (8, .d (.raw (.int .i64 e))), (9, .d (.raw (.string y))), (10, .d (.raw (.int .i64 f))), (26, .d (.list 4 (ops.length) (opEl ops))), (27, .d (.raw (.int .i64 n))), (28, .d (.raw (.int .i64 i)))] [(0, .obj 56 [.own 1]), (1, .row 60 2 l.length (rowEl l)), (2, .obj 36 [.own 3]), (3, .row 65 2 q.length (rowEl q)), (4, opO k key val old)]
def mCheckV (c : Int) : Mo
  | [.d (.agg [.raw (.int .i64 k), .raw (.string key), .raw (.string val), .raw (.string old)])], [] => some (.d (.raw (.int .i64 c)), [], [c = checkM k key val old])
  | _, _ => none
def mTextV (l : List Rw) (r : ByteArray) : Mo
  | [.ref 0 0], [(0, .obj T [.own 1]), (1, .row R 2 n el)] => some (.d (.raw (.string r)), [(0, .obj T [.own 1]), (1, .row R 2 n el)], [T = 56, R = 60, n = l.length, el = rowEl l, Tidy l ∧ r = packB (flatM l)])
  | _, _ => none
def mTextRV (l q : List Rw) (r : ByteArray) : Mo
  | [.ref 0 0], [(0, .obj T [.own 1]), (1, .row R 2 n el)] => some (.d (.raw (.string r)), [(0, .obj T [.own 1]), (1, .row R 2 n el)], [T = 36, R = 65, n = q.length, el = rowEl q, l.Perm q ∧ Tidy l ∧ r = packB (flatM l)])
  | _, _ => none
def mLenV (l : List Rw) (m : Int) : Mo
  | [.ref 0 0], [(0, .obj T [.own 1]), (1, .row R 2 n el)] => some (.d (.raw (.int .i64 m)), [(0, .obj T [.own 1]), (1, .row R 2 n el)], [T = 56, R = 60, n = l.length, el = rowEl l, m = (l.length : Int)])
  | _, _ => none
def W2 (l q : List Rw) (c m : Int) (r : ByteArray) : Orc := ((((((Orc.none (fun _ => none)).add 15 false (mCheckV c)).add 12 false (mTextV l r)).add 18 false (mLenV l m)).add 14 false mRef).add 16 false (mCheckV c)).add 17 false (mTextRV l q r)
def st3v (ops : List OpV) (nl nq : Nat) (el eq : Nat → D) (n i k : Int) (key val old x y : ByteArray) (e f : Int) : St := mk 0 80 [(3, .ref 0 0), (4, .ref 2 0), (6, .ref 4 0), (7, .d (.raw (.string x))), (8, .d (.raw (.int .i64 e))), (9, .d (.raw (.string y))), (10, .d (.raw (.int .i64 f))), (26, .d (.list 4 (ops.length) (opEl ops))), (27, .d (.raw (.int .i64 n))), (28, .d (.raw (.int .i64 i)))] [(0, .obj 56 [.own 1]), (1, .row 60 2 nl el), (2, .obj 36 [.own 3]), (3, .row 65 2 nq eq), (4, opO k key val old)]
end Go.Tab
