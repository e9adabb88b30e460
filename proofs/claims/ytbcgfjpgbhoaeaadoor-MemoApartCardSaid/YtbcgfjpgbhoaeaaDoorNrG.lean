/-
  Contracts of given functions, or plain laws that they need. No condition.
-/
import Derived.Test.YtbcgfjpgbhoaeaaDoorUnpG
import Derived.Test.YtbcgfjpgbhoaeaaDoorOrdB
namespace Go.Nest
open Go Go.Eng
set_option linter.unusedVariables false
abbrev g0 : Nat → Option (List D) := fun _ => none
def R00 : Orc := Orc.none (fun _ => none)
def numB (n : Nat) : ByteArray := ⟨(Lib.decDigits n).toArray⟩
def mNumR : Mo
  | [.d (.raw (.int .i64 n))], [] => some (.d (.raw (.string (numB n.toNat))), [], [0 ≤ n ∧ n < 2 ^ 62])
  | _, _ => none
def R2 : Orc := (Orc.none (fun _ => none)).add 19 false mNumR
def nu1 (n k : Int) (s : ByteArray) : St := mk 0 31 [(0, .d (.raw (.int .i64 n))), (3, .d (.raw (.string s))), (4, .d (.raw (.int .i64 k)))] []
def pk1 (r : List ByteArray) (out : ByteArray) (n i : Int) : St := mk 1 23 [(3, .d (.raw (.string out))), (6, .own 0), (7, .d (.raw (.int .i64 n))), (8, .d (.raw (.int .i64 i)))] [(0, .row 9 1 r.length (strEl r))]
def mNumJ (q : ByteArray) : Mo
  | [.d (.raw (.int .i64 n))], [] => some (.d (.raw (.string q)), [], [q = numJ n, -9223372036854775808 ≤ n ∧ n < 9223372036854775808])
  | _, _ => none
def UN (q : ByteArray) : Orc := (Orc.none (fun _ => none)).add 19 false (mNumJ q)
def tn1 (s d : ByteArray) (n i : Int) : St := mk 0 62 [(0, .d (.raw (.string s))), (4, .d (.raw (.string d))), (5, .d (.raw (.int .i64 n))), (6, .d (.raw (.int .i64 i)))] []
def mToNumR (n f : Int) : Mo
  | [.d (.raw (.string t))], [] => some (.tup [.d (.raw (.int .i64 n)), .d (.raw (.int .i64 f))], [], [t.size ≤ 1073741824, n = (numM t).1, f = (numM t).2])
  | _, _ => none
def UK (n f : Int) : Orc := (Orc.none (fun _ => none)).add 24 false (mToNumR n f)
def tk1 (s : ByteArray) (i : Int) : St := mk 0 67 [(0, .d (.raw (.string s))), (5, .d (.raw (.int .i64 i)))] []
def mTakeV (a b : ByteArray) (f : Int) : Mo
  | [.d (.raw (.string s))], [] => some (.tup [.d (.raw (.string a)), .d (.raw (.string b)), .d (.raw (.int .i64 f))], [], [s.size ≤ 1073741824, a = (takeM s).1, b = (takeM s).2.1, f = (takeM s).2.2])
  | _, _ => none
def UV (a b : ByteArray) (f : Int) : Orc := (Orc.none (fun _ => none)).add 40 false (mTakeV a b f)
def un1 (r : List ByteArray) (rest : ByteArray) : St := mk 0 26 [(4, .own 0), (5, .d (.raw (.string rest)))] [(0, .row 9 1 r.length (strEl r))]
end Go.Nest
