/-
  Contracts of given functions, or plain laws that they need. No condition.
-/
import Derived.Test.YtmhfkicgmdhooaaDoorTabRG
import Derived.Lib.ItoaNum
namespace Go.Tab
open Go Go.Eng Go.Nest
set_option linter.unusedVariables false
/-- The reference's rows, in the order in which they came. -/
def idxR (q : List Rw) (key : ByteArray) : Nat := q.findIdx fun r => decide (r.1 = key)
def atI (q : List Rw) (key : ByteArray) : Int := if hasM q key then (idxR q key : Int) else -1
def rhad (q : List Rw) (key : ByteArray) : ByteArray := if hasM q key then (q.getD (idxR q key) (ByteArray.empty, ByteArray.empty)).2 else ByteArray.empty
def rput (q : List Rw) (key now : ByteArray) : List Rw := if hasM q key then q.set (idxR q key) (key, now) else q ++ [(key, now)]
def rdel (q : List Rw) (key : ByteArray) : List Rw := q.filter fun r => !decide (r.1 = key)
def rnow (q : List Rw) (k : Int) (key val : ByteArray) : ByteArray := if k = 3 then rhad q key ++ val else val
def rdoM (q : List Rw) (k : Int) (key val old : ByteArray) : ByteArray × Int × List Rw :=
  if checkM k key val old = 0 then
    if k = 2 ∨ k = 3 then
      if hasM q key = false ∧ 16 ≤ q.length then (ByteArray.empty, 5, q)
      else if 64 < (rnow q k key val).size then (ByteArray.empty, 2, q)
      else (if k = 3 then rnow q k key val else rhad q key, 0, rput q key (rnow q k key val))
    else if hasM q key then
      if k = 5 then (if rhad q key = old then (rhad q key, 0, rput q key val) else (ByteArray.empty, 7, q))
      else if k = 4 then (rhad q key, 0, rdel q key)
      else (rhad q key, 0, q)
    else (ByteArray.empty, 6, q)
  else (ByteArray.empty, checkM k key val old, q)
def rt2 (q : List Rw) : List (Nat × Th) := [(0, .obj 36 [.own 2]), (2, .row 65 2 q.length (rowEl q))]
def rt0 (q : List Rw) : List (Nat × Th) := [(0, .obj 36 [.own 1]), (1, .row 65 2 q.length (rowEl q))]
def mAt (q : List Rw) : Mo
  | [.ref 0 0, .d (.raw (.string key))], [(0, .obj T [.own 1]), (1, .row R 2 n el)] => some (.d (.raw (.int .i64 (atI q key))), [(0, .obj T [.own 1]), (1, .row R 2 n el)], [T = 36, R = 65, n = q.length, el = rowEl q])
  | _, _ => none
def numB (n : Nat) : ByteArray := ⟨(Lib.decDigits n).toArray⟩
def mNumR : Mo
  | [.d (.raw (.int .i64 n))], [] => some (.d (.raw (.string (numB n.toNat))), [], [0 ≤ n ∧ n < 2 ^ 62])
  | _, _ => none
def R0 : Orc := (Orc.none (fun _ => none)).add 16 false mCheck
def R1 (q : List Rw) : Orc := R0.add 25 false (mAt q)
def R2 : Orc := (Orc.none (fun _ => none)).add 35 false mNumR
def mPackR (r : List ByteArray) : Mo
  | [.own 0], [(0, .row T 1 n el)] => some (.d (.raw (.string (packB r))), [(0, .row T 1 n el)], [T = 9, n = r.length, el = strEl r, (packL r).length ≤ 1099511627776])
  | _, _ => none
def R3 (r : List ByteArray) : Orc := (Orc.none (fun _ => none)).add 26 false (mPackR r)
/-- at, at its loop -/
def at1 (q : List Rw) (key : ByteArray) (n i : Int) : St := mk 2 23 [(1, .d (.raw (.string key))), (10, .own 1), (11, .d (.raw (.int .i64 n))), (12, .d (.raw (.int .i64 i)))] (rt0 q)
/-- Do, at its loop -/
def rd1l (q : List Rw) (k : Int) (key val old had : ByteArray) (r : List Rw) (n i : Int) : St := mk 2 143 [(0, .ref 0 0), (3, .ref 2 0), (11, .d (.raw (.string had))), (12, .own 3), (122, .own 1), (123, .d (.raw (.int .i64 n))), (124, .d (.raw (.int .i64 i)))] (rt0 q ++ [(2, .obj 39 [.d (.raw (.int .i64 k)), .d (.raw (.string key)), .d (.raw (.string val)), .d (.raw (.string old))]), (3, .row 65 2 r.length (rowEl r))])
end Go.Tab

namespace Go.Tab
open Go Go.Eng Go.Nest
set_option linter.unusedVariables false
def nu1 (n k : Int) (s : ByteArray) : St := mk 0 31 [(0, .d (.raw (.int .i64 n))), (3, .d (.raw (.string s))), (4, .d (.raw (.int .i64 k)))] []
def pk1 (r : List ByteArray) (out : ByteArray) (n i : Int) : St := mk 1 23 [(3, .d (.raw (.string out))), (6, .own 0), (7, .d (.raw (.int .i64 n))), (8, .d (.raw (.int .i64 i)))] [(0, .row 9 1 r.length (strEl r))]
def rx1 (q : List Rw) (r : List ByteArray) (last : ByteArray) (k : Int) : St := mk 2 57 [(0, .ref 0 0), (3, .own 2), (4, .d (.raw (.string last))), (5, .d (.raw (.int .i64 k)))] (rt0 q ++ [(2, .row 9 1 r.length (strEl r))])
def rx2 (q : List Rw) (r : List ByteArray) (last : ByteArray) (k : Int) (lk lv : ByteArray) (n i : Int) : St := mk 2 57 [(0, .ref 0 0), (3, .own 2), (4, .d (.raw (.string last))), (5, .d (.raw (.int .i64 k))), (6, .ref 3 0), (22, .own 1), (23, .d (.raw (.int .i64 n))), (24, .d (.raw (.int .i64 i)))] (rt0 q ++ [(2, .row 9 1 r.length (strEl r)), (3, .obj 65 [.d (.raw (.string lk)), .d (.raw (.string lv))])])
end Go.Tab

namespace Go.Tab
open Go Go.Eng Go.Nest
set_option linter.unusedVariables false
def mRef : Mo
  | [.d (.agg [.raw (.int .i64 k), .raw (.string key), .raw (.string val), .raw (.string old)])], [] => some (.d (.agg [.raw (.int .i64 k), .raw (.string key), .raw (.string val), .raw (.string old)]), [], [])
  | _, _ => none
def mRDo (q : List Rw) : Mo
  | [.ref 0 0, .d (.agg [.raw (.int .i64 k), .raw (.string key), .raw (.string val), .raw (.string old)])], [(0, .obj T [.own 1]), (1, .row R 2 n el)] => some (.tup [.d (.raw (.string (rdoM q k key val old).1)), .d (.raw (.int .i64 (rdoM q k key val old).2.1))], rt2 (rdoM q k key val old).2.2, [T = 36, R = 65, n = q.length, el = rowEl q, q.length ≤ 16 ∧ ∀ r ∈ q, r.2.size ≤ 64])
  | _, _ => none
def mTextR (l q : List Rw) : Mo
  | [.ref 0 0], [(0, .obj T [.own 1]), (1, .row R 2 n el)] => some (.d (.raw (.string (packB (flatM l)))), rt0 q, [T = 36, R = 65, n = q.length, el = rowEl q, l.Perm q ∧ Tidy l])
  | _, _ => none
/-- The callees of TableSteps: the operation on the rows l and q, all else on l2 and q2. -/
def W1 (l q l2 q2 : List Rw) : Orc := ((((W0 l l2).add 14 false mRef).add 13 false (mRDo q)).add 16 false mCheck).add 17 false (mTextR l2 q2)
def st1 (ops : List OpV) (l q : List Rw) (n i : Int) : St := mk 0 80 [(3, .ref 0 0), (4, .ref 2 0), (26, .d (.list 4 (ops.length) (opEl ops))), (27, .d (.raw (.int .i64 n))), (28, .d (.raw (.int .i64 i)))] [(0, .obj 56 [.own 1]), (1, .row 60 2 l.length (rowEl l)), (2, .obj 36 [.own 3]), (3, .row 65 2 q.length (rowEl q))]
def opO (k : Int) (key val old : ByteArray) : Th := .obj 24 [.d (.raw (.int .i64 k)), .d (.raw (.string key)), .d (.raw (.string val)), .d (.raw (.string old))]
def st2 (ops : List OpV) (l q : List Rw) (n i k : Int) (key val old : ByteArray) : St := mk 0 80 [(3, .ref 0 0), (4, .ref 2 0), (6, .ref 4 0), (26, .d (.list 4 (ops.length) (opEl ops))), (27, .d (.raw (.int .i64 n))), (28, .d (.raw (.int .i64 i)))] [(0, .obj 56 [.own 1]), (1, .row 60 2 l.length (rowEl l)), (2, .obj 36 [.own 3]), (3, .row 65 2 q.length (rowEl q)), (4, opO k key val old)]
def st3 (ops : List OpV) (l q : List Rw) (n i k : Int) (key val old x y : ByteArray) (e f : Int) : St := mk 0 80 [(3, .ref 0 0), (4, .ref 2 0), (6, .ref 4 0), (7, .d (.raw (.string x))), (8, .d (.raw (.int .i64 e))), (9, .d (.raw (.string y))), (10, .d (.raw (.int .i64 f))), (26, .d (.list 4 (ops.length) (opEl ops))), (27, .d (.raw (.int .i64 n))), (28, .d (.raw (.int .i64 i)))] [(0, .obj 56 [.own 1]), (1, .row 60 2 l.length (rowEl l)), (2, .obj 36 [.own 3]), (3, .row 65 2 q.length (rowEl q)), (4, opO k key val old)]
def mCheckV (c : Int) : Mo
  | [.d (.agg [.raw (.int .i64 k), .raw (.string key), .raw (.string val), .raw (.string old)])], [] => some (.d (.raw (.int .i64 c)), [], [c = checkM k key val old])
  | _, _ => none
def mTextV (l : List Rw) (r : ByteArray) : Mo
  | [.ref 0 0], [(0, .obj T [.own 1]), (1, .row R 2 n el)] => some (.d (.raw (.string r)), [(0, .obj T [.own 1]), (1, .row R 2 n el)], [T = 56, R = 60, n = l.length, el = rowEl l, Tidy l ∧ r = packB (flatM l)])
  | _, _ => none
def mTextRV (l q : List Rw) (r : ByteArray) : Mo
  | [.ref 0 0], [(0, .obj T [.own 1]), (1, .row R 2 n el)] => some (.d (.raw (.string r)), [(0, .obj T [.own 1]), (1, .row R 2 n el)], [T = 36, R = 65, n = q.length, el = rowEl q, l.Perm q ∧ Tidy l ∧ r = packB (flatM l)])
  | _, _ => none
def mLenV (l : List Rw) (m : Int) : Mo
  | [.ref 0 0], [(0, .obj T [.own 1]), (1, .row R 2 n el)] => some (.d (.raw (.int .i64 m)), [(0, .obj T [.own 1]), (1, .row R 2 n el)], [T = 56, R = 60, n = l.length, el = rowEl l, m = (l.length : Int)])
  | _, _ => none
def W2 (l q : List Rw) (c m : Int) (r : ByteArray) : Orc := ((((((Orc.none (fun _ => none)).add 15 false (mCheckV c)).add 12 false (mTextV l r)).add 18 false (mLenV l m)).add 14 false mRef).add 16 false (mCheckV c)).add 17 false (mTextRV l q r)
def st3v (ops : List OpV) (nl nq : Nat) (el eq : Nat → D) (n i k : Int) (key val old x y : ByteArray) (e f : Int) : St := mk 0 80 [(3, .ref 0 0), (4, .ref 2 0), (6, .ref 4 0), (7, .d (.raw (.string x))), (8, .d (.raw (.int .i64 e))), (9, .d (.raw (.string y))), (10, .d (.raw (.int .i64 f))), (26, .d (.list 4 (ops.length) (opEl ops))), (27, .d (.raw (.int .i64 n))), (28, .d (.raw (.int .i64 i)))] [(0, .obj 56 [.own 1]), (1, .row 60 2 nl el), (2, .obj 36 [.own 3]), (3, .row 65 2 nq eq), (4, opO k key val old)]
end Go.Tab
