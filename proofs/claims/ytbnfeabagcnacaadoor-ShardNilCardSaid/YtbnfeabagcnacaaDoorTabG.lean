/-
  Contracts of given functions, or plain laws that they need. No condition.
-/
import Derived.Test.YtbnfeabagcnacaaDoorOrdB
import Derived.Test.YtbnfeabagcnacaaDoorProg
namespace Go.Tab
open Go Go.Eng
set_option linter.unusedVariables false
abbrev Rw := ByteArray × ByteArray
def rowEl (l : List Rw) (i : Nat) : D := .agg [.raw (.string (l.getD i (ByteArray.empty, ByteArray.empty)).1), .raw (.string (l.getD i (ByteArray.empty, ByteArray.empty)).2)]
def cmpI (a b : ByteArray) : Int := if Op.bytesLess a.toList b.toList then -1 else if Op.bytesLess b.toList a.toList then 1 else 0
def mCmp : List AV → List (Nat × Th) → Option (AV × List (Nat × Th) × List Prop)
  | [.d (.raw (.string a)), .d (.raw (.string b))], [] => some (.d (.raw (.int .i64 (cmpI a b))), [], [])
  | _, _ => none
def mFd1 : List AV → List (Nat × Th) → Option (AV × List (Nat × Th) × List Prop)
  | [.d (.agg [.raw (.string a), .raw (.string v)]), .d (.raw (.string b))], [] => some (.d (.raw (.int .i64 (cmpI a b))), [], [])
  | _, _ => none
def C1 : Orc := (Orc.none (fun _ => none)).add 59 false mCmp
def C2 : Orc := C1.add 58 true mFd1
/-- slices.BinarySearchFunc at its loop -/
def bs0 (l : List Rw) (key : ByteArray) (n i j : Int) : St := mk 1 49 [(0, .own 0), (1, .d (.raw (.string (key)))), (2, .d (.raw (.func (.func 58) #[] #[]))), (8, .d (.raw (.int .i64 n))), (9, .d (.raw (.int .i64 i))), (10, .d (.raw (.int .i64 j)))] [(0, .row 98 2 (l.length) (rowEl l))]
/-- Rows by their keys, as many as there may be. -/
def Sorted (l : List Rw) : Prop := l.Pairwise fun r q => ltB r.1 q.1 = true
structure Tidy (l : List Rw) : Prop where
  sorted : Sorted l
  few : l.length ≤ 16
  sized : ∀ r ∈ l, 0 < r.1.size ∧ r.1.size ≤ 16 ∧ r.2.size ≤ 64
def posM (l : List Rw) (key : ByteArray) : Nat := (l.takeWhile fun r => Op.bytesLess r.1.toList key.toList).length
def hasM (l : List Rw) (key : ByteArray) : Bool := l.any fun r => decide (r.1 = key)
def noVals : Array Value := #[]
def mBs (l : List Rw) : List AV → List (Nat × Th) → Option (AV × List (Nat × Th) × List Prop)
  | [.own 0, .d (.raw (.string key)), .d (.raw (.func (.func f) x y))], [(0, .row R 2 n el)] => some (.tup [.d (.raw (.int .i64 (posM l key))), .d (.raw (.bool (hasM l key)))], [(0, .row R 2 n el)], [f = 58, noVals = x, noVals = y, R = 98, n = l.length, el = rowEl l, Tidy l])
  | _, _ => none
def mFind (l : List Rw) : List AV → List (Nat × Th) → Option (AV × List (Nat × Th) × List Prop)
  | [.ref 0 0, .d (.raw (.string key))], [(0, .obj T [.own 1]), (1, .row R 2 n el)] => some (.tup [.d (.raw (.int .i64 (posM l key))), .d (.raw (.bool (hasM l key)))], [(0, .obj T [.own 1]), (1, .row R 2 n el)], [T = 86, R = 98, n = l.length, el = rowEl l, Tidy l])
  | _, _ => none
def mValue : List AV → List (Nat × Th) → Option (AV × List (Nat × Th) × List Prop)
  | [.d (.raw (.string s))], [] => some (.d (.raw (.bool (decide (s.size ≤ 64)))), [], [])
  | _, _ => none
def C0 : Orc := (Orc.none (fun _ => none)).add 49 false mValue
def C3 (l : List Rw) : Orc := C2.add 57 false (mBs l)
def C4 (l : List Rw) : Orc := C2.add 47 false (mFind l)
def tab0 (l : List Rw) : List (Nat × Th) := [(0, .obj 86 [.own 1]), (1, .row 98 2 l.length (rowEl l))]
def checkM (k : Int) (key val old : ByteArray) : Int :=
  if k < 1 ∨ 5 < k then 1
  else if key.size = 0 ∨ 16 < key.size ∨ 64 < val.size ∨ 64 < old.size then 130
  else if (val.size ≠ 0 ∧ (k = 1 ∨ k = 4)) ∨ (old.size ≠ 0 ∧ k ≠ 5) then 4
  else 0
def mCheck : List AV → List (Nat × Th) → Option (AV × List (Nat × Th) × List Prop)
  | [.d (.agg [.raw (.int .i64 k), .raw (.string key), .raw (.string val), .raw (.string old)])], [] => some (.d (.raw (.int .i64 (checkM k key val old))), [], [])
  | _, _ => none
def putM (l : List Rw) (key val : ByteArray) : List Rw := if hasM l key then l.set (posM l key) (key, val) else l.take (posM l key) ++ (key, val) :: l.drop (posM l key)
def fullM (l : List Rw) (key : ByteArray) : Bool := !hasM l key && l.length == 16
def setM (l : List Rw) (key val : ByteArray) : List Rw := if fullM l key then l else putM l key val
def tab2 (l : List Rw) : List (Nat × Th) := [(0, .obj 86 [.own 2]), (2, .row 98 2 l.length (rowEl l))]
def mSet (l : List Rw) : List AV → List (Nat × Th) → Option (AV × List (Nat × Th) × List Prop)
  | [.ref 0 0, .d (.raw (.string key)), .d (.raw (.string val))], [(0, .obj T [.own 1]), (1, .row R 2 n el)] => some (.d (.raw (.int .i64 (if fullM l key then 5 else 0))), tab2 (setM l key val), [T = 86, R = 98, n = l.length, el = rowEl l, Tidy l])
  | _, _ => none
def C5 (l : List Rw) : Orc := (((C0.add 46 false mCheck).add 47 false (mFind l))).add 48 false (mSet l)
def hadM (l : List Rw) (key : ByteArray) : ByteArray := if hasM l key then (l.getD (posM l key) (ByteArray.empty, ByteArray.empty)).2 else ByteArray.empty
/-- What an operation tells, its error, and the rows behind it. -/
def doM (l : List Rw) (k : Int) (key val old : ByteArray) : ByteArray × Int × List Rw :=
  if checkM k key val old = 0 then
    if k = 2 then (if fullM l key then (ByteArray.empty, 5, l) else (hadM l key, 0, putM l key val))
    else if k = 3 then (if fullM l key then (ByteArray.empty, 5, l) else if (hadM l key ++ val).size ≤ 64 then (hadM l key ++ val, 0, putM l key (hadM l key ++ val)) else (ByteArray.empty, 2, l))
    else if hasM l key then
      if k = 4 then (hadM l key, 0, l.eraseIdx (posM l key))
      else if k = 5 then (if hadM l key = old then (hadM l key, 0, putM l key val) else (ByteArray.empty, 7, l))
      else (hadM l key, 0, l)
    else (ByteArray.empty, 6, l)
  else (ByteArray.empty, checkM k key val old, l)
end Go.Tab

namespace Go.Tab
open Go Go.Eng Go.Nest
set_option linter.unusedVariables false
/-- Keys and values, one behind the other. -/
def flatM : List Rw → List ByteArray
  | [] => []
  | r :: l => r.1 :: r.2 :: flatM l
def T1 (r : List ByteArray) : Orc := (Orc.none (fun _ => none)).add 32 true (mPack r)
def tx1 (l : List Rw) (r : List ByteArray) (n i : Int) : St := mk 2 27 [(3, .own 2), (11, .own 1), (12, .d (.raw (.int .i64 n))), (13, .d (.raw (.int .i64 i)))] [(0, .obj 86 [.own 1]), (1, .row 98 2 l.length (rowEl l)), (2, .row 9 1 r.length (strEl r))]
end Go.Tab
