/-
  Contracts of given functions, or plain laws that they need. No condition.
-/
import Derived.Test.YtbppcjkpkelbfaaDoorTabP
namespace Go.Prf
open Go Go.Eng Go.Tab Go.Plc
set_option linter.unusedVariables false
def idxR (q : List Rw) (key : ByteArray) : Nat := q.findIdx fun r => decide (r.1 = key)
def atI (q : List Rw) (key : ByteArray) : Int := if hasM q key then (idxR q key : Int) else -1
def rhad (q : List Rw) (key : ByteArray) : ByteArray := if hasM q key then (q.getD (idxR q key) (ByteArray.empty, ByteArray.empty)).2 else ByteArray.empty
def rput (q : List Rw) (key now : ByteArray) : List Rw := if hasM q key then q.set (idxR q key) (key, now) else q ++ [(key, now)]
def rdel (q : List Rw) (key : ByteArray) : List Rw := q.filter fun r => !decide (r.1 = key)
def rnow (q : List Rw) (k : Int) (key val : ByteArray) : ByteArray := if k = 3 then rhad q key ++ val else val
def rdoM (q : List Rw) (k : Int) (key val old : ByteArray) : ByteArray × Int × List Rw :=
  if checkM k key val old = 0 then
    if k = 2 ∨ k = 3 then
      if hasM q key = false ∧ 16 ≤ q.length then (ByteArray.empty, 5, q)
      else if 64 < (rnow q k key val).size then (ByteArray.empty, 2, q)
      else (if k = 3 then rnow q k key val else rhad q key, 0, rput q key (rnow q k key val))
    else if hasM q key then
      if k = 5 then (if rhad q key = old then (rhad q key, 0, rput q key val) else (ByteArray.empty, 7, q))
      else if k = 4 then (rhad q key, 0, rdel q key)
      else (rhad q key, 0, q)
    else (ByteArray.empty, 6, q)
  else (ByteArray.empty, checkM k key val old, q)
def rrow (l : List Rw) : Th := .row 142 2 l.length (rowEl l)
def rm0 (q x y z : List Rw) : List (Nat × Th) := [(0, .obj 107 [.own 1, .own 2, .own 3, .own 4]), (1, rrow q), (2, rrow x), (3, rrow y), (4, rrow z)]
def ru0 (q x y z : List Rw) : List (Nat × Th) := [(0, .obj 107 [.own 5, .own 6, .own 7, .own 8]), (5, rrow q), (6, rrow x), (7, rrow y), (8, rrow z)]
def mRAt0 (q x y z : List Rw) : Mo
  | [.ref 0 0, .d (.raw (.string key))], [(0, .obj M [.own 1, .own 2, .own 3, .own 4]), (1, .row R1 2 n1 l1), (2, .row R2 2 n2 l2), (3, .row R3 2 n3 l3), (4, .row R4 2 n4 l4)] => some (.d (.raw (.int .i64 (atI q key))), rm0 q x y z, [(M == 107 && R1 == 142 && R2 == R1 && R3 == R1 && R4 == R1) = true, n1 = q.length, l1 = rowEl q, n2 = x.length, l2 = rowEl x, n3 = y.length, l3 = rowEl y, n4 = z.length, l4 = rowEl z])
  | _, _ => none
def rm1 (q x y z : List Rw) : List (Nat × Th) := [(0, .obj 107 [.own 1, .own 2, .own 3, .own 4]), (1, rrow x), (2, rrow q), (3, rrow y), (4, rrow z)]
def ru1 (q x y z : List Rw) : List (Nat × Th) := [(0, .obj 107 [.own 5, .own 6, .own 7, .own 8]), (5, rrow x), (6, rrow q), (7, rrow y), (8, rrow z)]
def mRAt1 (q x y z : List Rw) : Mo
  | [.ref 0 1, .d (.raw (.string key))], [(0, .obj M [.own 1, .own 2, .own 3, .own 4]), (1, .row R1 2 n1 l1), (2, .row R2 2 n2 l2), (3, .row R3 2 n3 l3), (4, .row R4 2 n4 l4)] => some (.d (.raw (.int .i64 (atI q key))), rm1 q x y z, [(M == 107 && R1 == 142 && R2 == R1 && R3 == R1 && R4 == R1) = true, n1 = x.length, l1 = rowEl x, n2 = q.length, l2 = rowEl q, n3 = y.length, l3 = rowEl y, n4 = z.length, l4 = rowEl z])
  | _, _ => none
def rm2 (q x y z : List Rw) : List (Nat × Th) := [(0, .obj 107 [.own 1, .own 2, .own 3, .own 4]), (1, rrow x), (2, rrow y), (3, rrow q), (4, rrow z)]
def ru2 (q x y z : List Rw) : List (Nat × Th) := [(0, .obj 107 [.own 5, .own 6, .own 7, .own 8]), (5, rrow x), (6, rrow y), (7, rrow q), (8, rrow z)]
def mRAt2 (q x y z : List Rw) : Mo
  | [.ref 0 2, .d (.raw (.string key))], [(0, .obj M [.own 1, .own 2, .own 3, .own 4]), (1, .row R1 2 n1 l1), (2, .row R2 2 n2 l2), (3, .row R3 2 n3 l3), (4, .row R4 2 n4 l4)] => some (.d (.raw (.int .i64 (atI q key))), rm2 q x y z, [(M == 107 && R1 == 142 && R2 == R1 && R3 == R1 && R4 == R1) = true, n1 = x.length, l1 = rowEl x, n2 = y.length, l2 = rowEl y, n3 = q.length, l3 = rowEl q, n4 = z.length, l4 = rowEl z])
  | _, _ => none
def rm3 (q x y z : List Rw) : List (Nat × Th) := [(0, .obj 107 [.own 1, .own 2, .own 3, .own 4]), (1, rrow x), (2, rrow y), (3, rrow z), (4, rrow q)]
def ru3 (q x y z : List Rw) : List (Nat × Th) := [(0, .obj 107 [.own 5, .own 6, .own 7, .own 8]), (5, rrow x), (6, rrow y), (7, rrow z), (8, rrow q)]
def mRAt3 (q x y z : List Rw) : Mo
  | [.ref 0 3, .d (.raw (.string key))], [(0, .obj M [.own 1, .own 2, .own 3, .own 4]), (1, .row R1 2 n1 l1), (2, .row R2 2 n2 l2), (3, .row R3 2 n3 l3), (4, .row R4 2 n4 l4)] => some (.d (.raw (.int .i64 (atI q key))), rm3 q x y z, [(M == 107 && R1 == 142 && R2 == R1 && R3 == R1 && R4 == R1) = true, n1 = x.length, l1 = rowEl x, n2 = y.length, l2 = rowEl y, n3 = z.length, l3 = rowEl z, n4 = q.length, l4 = rowEl q])
  | _, _ => none
def Q0 : Orc := (Orc.none gz0).add 56 false mChk
def Q10 (q x y z : List Rw) : Orc := Q0.add 63 false (mRAt0 q x y z)
def ra0 (q x y z : List Rw) (key : ByteArray) (n i : Int) : St := mk 5 23 [(1, .d (.raw (.string key))), (10, .own 1), (11, .d (.raw (.int .i64 n))), (12, .d (.raw (.int .i64 i)))] (rm0 q x y z)
def rl0 (q x y z : List Rw) (k : Int) (key val old had : ByteArray) (r : List Rw) (n i : Int) : St := mk 5 143 [(0, .ref 0 0), (3, .ref 5 0), (11, .d (.raw (.string had))), (12, .own 6), (122, .own 1), (123, .d (.raw (.int .i64 n))), (124, .d (.raw (.int .i64 i)))] (rm0 q x y z ++ [(5, .obj 41 [.d (.raw (.int .i64 k)), .d (.raw (.string key)), .d (.raw (.string val)), .d (.raw (.string old))]), (6, rrow r)])
def Q11 (q x y z : List Rw) : Orc := Q0.add 63 false (mRAt1 q x y z)
def ra1 (q x y z : List Rw) (key : ByteArray) (n i : Int) : St := mk 5 23 [(1, .d (.raw (.string key))), (10, .own 2), (11, .d (.raw (.int .i64 n))), (12, .d (.raw (.int .i64 i)))] (rm1 q x y z)
def rl1 (q x y z : List Rw) (k : Int) (key val old had : ByteArray) (r : List Rw) (n i : Int) : St := mk 5 143 [(0, .ref 0 1), (3, .ref 5 0), (11, .d (.raw (.string had))), (12, .own 6), (122, .own 2), (123, .d (.raw (.int .i64 n))), (124, .d (.raw (.int .i64 i)))] (rm1 q x y z ++ [(5, .obj 41 [.d (.raw (.int .i64 k)), .d (.raw (.string key)), .d (.raw (.string val)), .d (.raw (.string old))]), (6, rrow r)])
def Q12 (q x y z : List Rw) : Orc := Q0.add 63 false (mRAt2 q x y z)
def ra2 (q x y z : List Rw) (key : ByteArray) (n i : Int) : St := mk 5 23 [(1, .d (.raw (.string key))), (10, .own 3), (11, .d (.raw (.int .i64 n))), (12, .d (.raw (.int .i64 i)))] (rm2 q x y z)
def rl2 (q x y z : List Rw) (k : Int) (key val old had : ByteArray) (r : List Rw) (n i : Int) : St := mk 5 143 [(0, .ref 0 2), (3, .ref 5 0), (11, .d (.raw (.string had))), (12, .own 6), (122, .own 3), (123, .d (.raw (.int .i64 n))), (124, .d (.raw (.int .i64 i)))] (rm2 q x y z ++ [(5, .obj 41 [.d (.raw (.int .i64 k)), .d (.raw (.string key)), .d (.raw (.string val)), .d (.raw (.string old))]), (6, rrow r)])
def Q13 (q x y z : List Rw) : Orc := Q0.add 63 false (mRAt3 q x y z)
def ra3 (q x y z : List Rw) (key : ByteArray) (n i : Int) : St := mk 5 23 [(1, .d (.raw (.string key))), (10, .own 4), (11, .d (.raw (.int .i64 n))), (12, .d (.raw (.int .i64 i)))] (rm3 q x y z)
def rl3 (q x y z : List Rw) (k : Int) (key val old had : ByteArray) (r : List Rw) (n i : Int) : St := mk 5 143 [(0, .ref 0 3), (3, .ref 5 0), (11, .d (.raw (.string had))), (12, .own 6), (122, .own 4), (123, .d (.raw (.int .i64 n))), (124, .d (.raw (.int .i64 i)))] (rm3 q x y z ++ [(5, .obj 41 [.d (.raw (.int .i64 k)), .d (.raw (.string key)), .d (.raw (.string val)), .d (.raw (.string old))]), (6, rrow r)])
end Go.Prf
