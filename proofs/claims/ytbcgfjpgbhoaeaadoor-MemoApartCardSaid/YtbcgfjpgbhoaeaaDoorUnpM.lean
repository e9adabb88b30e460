/-
  Contracts of given functions, or plain laws that they need. No condition.
-/
import Derived.Test.YtbcgfjpgbhoaeaaDoorPackB
import Derived.Test.YtbcgfjpgbhoaeaaDoorOrdB
import Derived.Lib.AtoiAllMem
import Derived.Lib.AtoiAllCases
import Derived.Lib.ItoaNum
import Derived.Lib.IndexMore
import Derived.Lib.AppendIntMem
namespace Go.Nest
open Go Go.Eng
set_option linter.unusedVariables false
/-- What ToNum answers. -/
def numM (s : ByteArray) : Int × Int := match Lib.atoiAll s.data.toList with
  | .ok v => if (!Lib.itoa v == s.toList) = true then (0, 4) else (v, 0)
  | _ => (0, 4)
def headM (s : ByteArray) : ByteArray := ⟨(Lib.cut s.data.toList [58]).1.toArray⟩
def restM (s : ByteArray) : ByteArray := ⟨(Lib.cut s.data.toList [58]).2.1.toArray⟩
def foundM (s : ByteArray) : Bool := (Lib.cut s.data.toList [58]).2.2
/-- What Take answers. -/
def takeM (s : ByteArray) : ByteArray × ByteArray × Int :=
  if foundM s = true ∧ (numM (headM s)).2 = 0 ∧ (headM s).size ≤ 9 ∧ 0 ≤ (numM (headM s)).1 ∧ (numM (headM s)).1 < ((restM s).size : Int) ∧ byteAt (restM s) (numM (headM s)).1.toNat = 44
  then ((restM s).extract 0 (numM (headM s)).1.toNat, (restM s).extract ((numM (headM s)).1.toNat + 1) (restM s).size, 0) else (ByteArray.empty, ByteArray.empty, 4)
/-- The texts of a text. -/
def unpF : Nat → ByteArray → Option (List ByteArray)
  | 0, s => if s.size = 0 then some [] else none
  | k + 1, s => if s.size = 0 then some [] else if (takeM s).2.2 = 0 then (unpF k (takeM s).2.1).map ((takeM s).1 :: ·) else none
/-- What Unpack answers. -/
def unpR (s : ByteArray) : List ByteArray × Int := match unpF s.size s with
  | some xs => (xs, 0)
  | none => ([], 4)
/-- The numeral of any number. -/
def numJ (n : Int) : ByteArray := ⟨(Lib.itoa n).toArray⟩
end Go.Nest
