/-
  Contracts of given functions, or plain laws that they need. No condition.
-/
import Derived.Test.YtiolcanlleapjaaDoorLawG
import Derived.Test.YtiolcanlleapjaaDoorJoi
namespace Go.Bla
open Go Go.Eng
set_option linter.unusedVariables false
def strsEl (l : List ByteArray) (i : Nat) : D := .raw (.string (l.getD i ByteArray.empty))
def catL : List ByteArray → ByteArray
  | [] => ByteArray.empty
  | x :: xs => x ++ catL xs
/-- (strings.Join at no separator; blake.Parts) -/
def mJoin (l : List ByteArray) : List AV → List (Nat × Th) → Option (AV × List (Nat × Th) × List Prop)
  | [.d (.list 1 n el), .d (.raw (.string sep))], [] => some (.d (.raw (.string (catL l))), [], [n = l.length, el = strsEl l, sep = ⟨#[]⟩, l.length ≤ 1000, (catL l).size ≤ 140737488351232])
  | _, _ => none
def mParts (l : List ByteArray) : List AV → List (Nat × Th) → Option (AV × List (Nat × Th) × List Prop)
  | [.d (.raw (.string key)), .d (.list 1 n el)], [] => some (.tup [.d (.raw (.string (sumR key (catL l)))), .d (I (sumE key))], [], [n = l.length, el = strsEl l, l.length ≤ 1000, (catL l).size ≤ 140737488351232])
  | _, _ => none
def R1 (l : List ByteArray) : Orc := K3.add 13 true (mJoin l)
def R2 (l : List ByteArray) : Orc := K3.add 9 true (mParts l)
def pp1 (key : ByteArray) (l : List ByteArray) (all : ByteArray) (i : Int) : St := mk 0 53 [(0, .d (.raw (.string (key)))), (1, .d (.list 1 (l.length) (strsEl l))), (5, .d (.raw (.string all))), (16, .d (.list 1 (l.length) (strsEl l))), (17, .d (.raw (.int .i64 ((l.length : Int))))), (18, .d (.raw (.int .i64 i)))] []
end Go.Bla
