/-
  Contracts of given functions, or plain laws that they need. No condition.
-/
import Derived.Test.YtmgfgcoeflanmaaDoorOrdB
import Derived.Test.YtmgfgcoeflanmaaDoorProg
namespace Go.Nest
open Go Go.Eng
set_option linter.unusedVariables false
/-- The library's variables: bytealg.MaxLen, strconv's two errors, its table. -/
def glU (m : Int) (e1 e2 : Value) : Nat → Option (List D) := fun g =>
  if g = 5 then some [.raw (.int .i64 m)] else if g = 2 then some [.raw e1] else if g = 3 then some [.raw e2]
  else if g = 4 then some (Lib.pow10Tab.map fun z => .raw (.int .u64 z)) else none
abbrev Mo := List AV → List (Nat × Th) → Option (AV × List (Nat × Th) × List Prop)
/-- Of these the table alone, which numerals need. -/
def glP : Nat → Option (List D) := fun g => if g = 4 then some (Lib.pow10Tab.map fun z => .raw (.int .u64 z)) else none
theorem pU (m : Int) (e1 e2 : Value) : ∀ g cs, glP g = some cs → glU m e1 e2 g = some cs := fun g cs h => by
  unfold glP at h
  split at h
  · rename_i hg; subst hg; exact h
  · cases h
def mUnpV (r : List ByteArray) (f : Int) : Mo
  | [.d (.raw (.string s))], [] => some (.tup [.d (.list 1 r.length (strEl r)), .d (.raw (.int .i64 f))], [], [s.size ≤ 1073741824, r = (unpR s).1, f = (unpR s).2])
  | _, _ => none
def mCutV (hd rs : ByteArray) (fd : Bool) : Mo
  | [.d (.raw (.string s)), .d (.raw (.string sep))], [] => some (.tup [.d (.raw (.string hd)), .d (.raw (.string rs)), .d (.raw (.bool fd))], [], [sep = ⟨#[58]⟩, s.size ≤ 1073741824, hd = headM s, rs = restM s, fd = foundM s])
  | _, _ => none
def mNumV (n f : Int) : Mo
  | [.d (.raw (.string t))], [] => some (.tup [.d (.raw (.int .i64 n)), .d (.raw (.int .i64 f))], [], [t.size ≤ 1073741824, n = (numM t).1, f = (numM t).2])
  | _, _ => none
def UT (m : Int) (e1 e2 : Value) (hd rs : ByteArray) (fd : Bool) (n f : Int) : Orc := ((Orc.none (glU m e1 e2)).add 57 false (mCutV hd rs fd)).add 32 false (mNumV n f)
end Go.Nest

namespace Go.Nest
open Go Go.Eng
set_option linter.unusedVariables false
abbrev g0 : Nat → Option (List D) := fun _ => none
def R00 : Orc := Orc.none (fun _ => none)
def numB (n : Nat) : ByteArray := ⟨(Lib.decDigits n).toArray⟩
def mNumR : Mo
  | [.d (.raw (.int .i64 n))], [] => some (.d (.raw (.string (numB n.toNat))), [], [0 ≤ n ∧ n < 2 ^ 62])
  | _, _ => none
def R2 : Orc := (Orc.none (fun _ => none)).add 30 false mNumR
def nu1 (n k : Int) (s : ByteArray) : St := mk 0 31 [(0, .d (.raw (.int .i64 n))), (3, .d (.raw (.string s))), (4, .d (.raw (.int .i64 k)))] []
def pk1 (r : List ByteArray) (out : ByteArray) (n i : Int) : St := mk 1 23 [(3, .d (.raw (.string out))), (6, .own 0), (7, .d (.raw (.int .i64 n))), (8, .d (.raw (.int .i64 i)))] [(0, .row 9 1 r.length (strEl r))]
def mNumJ (q : ByteArray) : Mo
  | [.d (.raw (.int .i64 n))], [] => some (.d (.raw (.string q)), [], [q = numJ n, -9223372036854775808 ≤ n ∧ n < 9223372036854775808])
  | _, _ => none
def UN (q : ByteArray) : Orc := (Orc.none (fun _ => none)).add 30 false (mNumJ q)
def tn1 (s d : ByteArray) (n i : Int) : St := mk 0 62 [(0, .d (.raw (.string s))), (4, .d (.raw (.string d))), (5, .d (.raw (.int .i64 n))), (6, .d (.raw (.int .i64 i)))] []
def mToNumR (n f : Int) : Mo
  | [.d (.raw (.string t))], [] => some (.tup [.d (.raw (.int .i64 n)), .d (.raw (.int .i64 f))], [], [t.size ≤ 1073741824, n = (numM t).1, f = (numM t).2])
  | _, _ => none
def UK (n f : Int) : Orc := (Orc.none (fun _ => none)).add 52 false (mToNumR n f)
def tk1 (s : ByteArray) (i : Int) : St := mk 0 67 [(0, .d (.raw (.string s))), (5, .d (.raw (.int .i64 i)))] []
def mTakeV (a b : ByteArray) (f : Int) : Mo
  | [.d (.raw (.string s))], [] => some (.tup [.d (.raw (.string a)), .d (.raw (.string b)), .d (.raw (.int .i64 f))], [], [s.size ≤ 1073741824, a = (takeM s).1, b = (takeM s).2.1, f = (takeM s).2.2])
  | _, _ => none
def UV (a b : ByteArray) (f : Int) : Orc := (Orc.none (fun _ => none)).add 42 false (mTakeV a b f)
def un1 (r : List ByteArray) (rest : ByteArray) : St := mk 0 26 [(4, .own 0), (5, .d (.raw (.string rest)))] [(0, .row 9 1 r.length (strEl r))]
end Go.Nest
