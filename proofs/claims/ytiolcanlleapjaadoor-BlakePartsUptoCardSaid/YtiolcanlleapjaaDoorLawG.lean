/-
  Contracts of given functions, or plain laws that they need. No condition.
-/
import Derived.Test.YtiolcanlleapjaaDoorRefI
namespace Go.Bla
open Go Go.Eng
set_option linter.unusedVariables false
def sumR (key text : ByteArray) : ByteArray := if key.size ≤ 32 then sumM key text else ByteArray.empty
def sumE (key : ByteArray) : Int := if key.size ≤ 32 then 0 else 2
/-- (Sum; the reference's Sum) -/
def mSum : List AV → List (Nat × Th) → Option (AV × List (Nat × Th) × List Prop)
  | [.d (.raw (.string key)), .d (.raw (.string text))], [] => some (.tup [.d (.raw (.string (sumR key text))), .d (I (sumE key))], [], [])
  | _, _ => none
def mRSum : List AV → List (Nat × Th) → Option (AV × List (Nat × Th) × List Prop)
  | [.d (.raw (.string key)), .d (.raw (.string text))], [] => some (.tup [.d (.raw (.string (sumR key text))), .d (I (sumE key))], [], [text.size ≤ 140737488351232])
  | _, _ => none
/-- (Sum, where what it gives has a name) -/
def mSumV (r : ByteArray) : List AV → List (Nat × Th) → Option (AV × List (Nat × Th) × List Prop)
  | [.d (.raw (.string key)), .d (.raw (.string text))], [] => some (.tup [.d (.raw (.string r)), .d (I 0)], [], [r = sumM key text, key.size ≤ 32])
  | _, _ => none
def mAbc : List AV → List (Nat × Th) → Option (AV × List (Nat × Th) × List Prop)
  | [], [] => some (.d (.raw (.bool true)), [], [])
  | _, _ => none
def V1 (r : ByteArray) : Orc := (Orc.none gl).add 6 false (mSumV r)
def K1 : Orc := (Orc.none gl).add 6 false mSum
def K2 : Orc := K1.add 7 false mRSum
def K3 : Orc := K2.add 8 false mAbc
end Go.Bla
