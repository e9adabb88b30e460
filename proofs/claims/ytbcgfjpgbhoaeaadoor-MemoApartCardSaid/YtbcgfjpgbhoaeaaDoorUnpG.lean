/-
  Contracts of given functions, or plain laws that they need. No condition.
-/
import Derived.Test.YtbcgfjpgbhoaeaaDoorUnpM
import Derived.Test.YtbcgfjpgbhoaeaaDoorProg
namespace Go.Nest
open Go Go.Eng
set_option linter.unusedVariables false
/-- The library's variables: bytealg.MaxLen, strconv's two errors, its table. -/
def glU (m : Int) (e1 e2 : Value) : Nat → Option (List D) := fun g =>
  if g = 3 then some [.raw (.int .i64 m)] else if g = 0 then some [.raw e1] else if g = 1 then some [.raw e2]
  else if g = 2 then some (Lib.pow10Tab.map fun z => .raw (.int .u64 z)) else none
abbrev Mo := List AV → List (Nat × Th) → Option (AV × List (Nat × Th) × List Prop)
def mUnpV (r : List ByteArray) (f : Int) : Mo
  | [.d (.raw (.string s))], [] => some (.tup [.d (.list 1 r.length (strEl r)), .d (.raw (.int .i64 f))], [], [s.size ≤ 1073741824, r = (unpR s).1, f = (unpR s).2])
  | _, _ => none
def mCutV (hd rs : ByteArray) (fd : Bool) : Mo
  | [.d (.raw (.string s)), .d (.raw (.string sep))], [] => some (.tup [.d (.raw (.string hd)), .d (.raw (.string rs)), .d (.raw (.bool fd))], [], [sep = ⟨#[58]⟩, s.size ≤ 1073741824, hd = headM s, rs = restM s, fd = foundM s])
  | _, _ => none
def mNumV (n f : Int) : Mo
  | [.d (.raw (.string t))], [] => some (.tup [.d (.raw (.int .i64 n)), .d (.raw (.int .i64 f))], [], [t.size ≤ 1073741824, n = (numM t).1, f = (numM t).2])
  | _, _ => none
def UT (m : Int) (e1 e2 : Value) (hd rs : ByteArray) (fd : Bool) (n f : Int) : Orc := ((Orc.none (glU m e1 e2)).add 54 false (mCutV hd rs fd)).add 21 false (mNumV n f)
end Go.Nest
