/-
  Contracts of given functions, or plain laws that they need. No condition.
-/
import Derived.Test.YtmhfkicgmdhooaaDoorNestG
import Derived.Lib.AtoiAllMem
import Derived.Lib.AtoiAllCases
import Derived.Lib.ItoaNum
import Derived.Lib.IndexMore
import Derived.Lib.AppendIntMem
import Derived.Test.YtmhfkicgmdhooaaDoorProg
namespace Go.Nest
open Go Go.Eng
set_option linter.unusedVariables false
/-- What ToNum answers. -/
def numM (s : ByteArray) : Int × Int := match Lib.atoiAll s.data.toList with
  | .ok v => if (!Lib.itoa v == s.toList) = true then (0, 4) else (v, 0)
  | _ => (0, 4)
def headM (s : ByteArray) : ByteArray := ⟨(Lib.cut s.data.toList [58]).1.toArray⟩
def restM (s : ByteArray) : ByteArray := ⟨(Lib.cut s.data.toList [58]).2.1.toArray⟩
def foundM (s : ByteArray) : Bool := (Lib.cut s.data.toList [58]).2.2
/-- What Take answers. -/
def takeM (s : ByteArray) : ByteArray × ByteArray × Int :=
  if foundM s = true ∧ (numM (headM s)).2 = 0 ∧ (headM s).size ≤ 9 ∧ 0 ≤ (numM (headM s)).1 ∧ (numM (headM s)).1 < ((restM s).size : Int) ∧ byteAt (restM s) (numM (headM s)).1.toNat = 44
  then ((restM s).extract 0 (numM (headM s)).1.toNat, (restM s).extract ((numM (headM s)).1.toNat + 1) (restM s).size, 0) else (ByteArray.empty, ByteArray.empty, 4)
/-- The library's variables: bytealg.MaxLen, strconv's two errors, its table. -/
def glU (m : Int) (e1 e2 : Value) : Nat → Option (List D) := fun g =>
  if g = 0 then some [.raw (.int .i64 m)] else if g = 2 then some [.raw e1] else if g = 3 then some [.raw e2]
  else if g = 1 then some (Lib.pow10Tab.map fun z => .raw (.int .u64 z)) else none
abbrev Mo := List AV → List (Nat × Th) → Option (AV × List (Nat × Th) × List Prop)
/-- The texts of a text. -/
def unpF : Nat → ByteArray → Option (List ByteArray)
  | 0, s => if s.size = 0 then some [] else none
  | k + 1, s => if s.size = 0 then some [] else if (takeM s).2.2 = 0 then (unpF k (takeM s).2.1).map ((takeM s).1 :: ·) else none
/-- What Unpack answers. -/
def unpR (s : ByteArray) : List ByteArray × Int := match unpF s.size s with
  | some xs => (xs, 0)
  | none => ([], 4)
def mUnpV (r : List ByteArray) (f : Int) : Mo
  | [.d (.raw (.string s))], [] => some (.tup [.d (.list 1 r.length (strEl r)), .d (.raw (.int .i64 f))], [], [s.size ≤ 1073741824, r = (unpR s).1, f = (unpR s).2])
  | _, _ => none
def mCutV (hd rs : ByteArray) (fd : Bool) : Mo
  | [.d (.raw (.string s)), .d (.raw (.string sep))], [] => some (.tup [.d (.raw (.string hd)), .d (.raw (.string rs)), .d (.raw (.bool fd))], [], [sep = ⟨#[58]⟩, s.size ≤ 1073741824, hd = headM s, rs = restM s, fd = foundM s])
  | _, _ => none
def mNumV (n f : Int) : Mo
  | [.d (.raw (.string t))], [] => some (.tup [.d (.raw (.int .i64 n)), .d (.raw (.int .i64 f))], [], [t.size ≤ 1073741824, n = (numM t).1, f = (numM t).2])
  | _, _ => none
def UT (m : Int) (e1 e2 : Value) (hd rs : ByteArray) (fd : Bool) (n f : Int) : Orc := ((Orc.none (glU m e1 e2)).add 47 false (mCutV hd rs fd)).add 48 false (mNumV n f)
end Go.Nest
