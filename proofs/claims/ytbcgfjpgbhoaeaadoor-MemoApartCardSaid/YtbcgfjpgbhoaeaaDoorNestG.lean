/-
  Contracts of given functions, or plain laws that they need. No condition.
-/
import Derived.Test.YtbcgfjpgbhoaeaaDoorOrdB
import Derived.Lib.ItoaNum
namespace Go.Nest
open Go Go.Eng
set_option linter.unusedVariables false
/-- A list's text. -/
def packL : List ByteArray → List UInt8
  | [] => []
  | x :: xs => Lib.decDigits x.size ++ [58] ++ x.data.toList ++ [44] ++ packL xs
def packB (xs : List ByteArray) : ByteArray := ⟨(packL xs).toArray⟩
def strEl (l : List ByteArray) (i : Nat) : D := .raw (.string (l.getD i ByteArray.empty))
def mPack (r : List ByteArray) : List AV → List (Nat × Th) → Option (AV × List (Nat × Th) × List Prop)
  | [.d (.list 1 n el)], [] => some (.d (.raw (.string (packB r))), [], [n = r.length, el = strEl r, ∀ x ∈ r, x.size < 100, r.length ≤ 1000])
  | _, _ => none
end Go.Nest
