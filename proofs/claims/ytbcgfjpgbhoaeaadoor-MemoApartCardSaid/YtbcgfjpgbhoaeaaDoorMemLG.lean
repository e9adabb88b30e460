/-
  Contracts of given functions, or plain laws that they need. No condition.
-/
import Derived.Test.YtbcgfjpgbhoaeaaDoorMemG
namespace Go.Memo
open Go Go.Eng Go.Nest
set_option linter.unusedVariables false
def eB (k g n v u : Int) (t tag : ByteArray) : ByteArray := (encM ⟨k, g, n, v, u, t, tag⟩).1
def eC (k g n v u : Int) (t tag : ByteArray) : Int := (encM ⟨k, g, n, v, u, t, tag⟩).2
def dF (s : ByteArray) : Int := (decM s).2
def dk (s : ByteArray) : Int := (decM s).1.k
def dg (s : ByteArray) : Int := (decM s).1.g
def dn (s : ByteArray) : Int := (decM s).1.n
def dv (s : ByteArray) : Int := (decM s).1.v
def du (s : ByteArray) : Int := (decM s).1.u
def dt (s : ByteArray) : ByteArray := (decM s).1.t
def dtag (s : ByteArray) : ByteArray := (decM s).1.tag
def mEncL : Mo
  | [.d (.agg [.raw (.int .i64 k), .raw (.int .i64 g), .raw (.int .i64 n), .raw (.int .i64 v), .raw (.int .i64 u), .raw (.string t), .raw (.string tag)])], [] => some (.tup [.d (.raw (.string (eB k g n v u t tag))), .d (.raw (.int .i64 (eC k g n v u t tag)))], [], [])
  | _, _ => none
def mDecL : Mo
  | [.d (.raw (.string s))], [] => some (.tup [.d (memD (dk s) (dg s) (dn s) (dv s) (du s) (dt s) (dtag s)), .d (.raw (.int .i64 (dF s)))], [], [s.size < 1000000000])
  | _, _ => none
def mRefL : Mo
  | [.d (.agg [.raw (.int .i64 k), .raw (.int .i64 g), .raw (.int .i64 n), .raw (.int .i64 v), .raw (.int .i64 u), .raw (.string t), .raw (.string tag)])], [] => some (.d (.agg [.raw (.int .i64 k), .raw (.int .i64 g), .raw (.int .i64 n), .raw (.int .i64 v), .raw (.int .i64 u), .raw (.string t), .raw (.string tag)]), [], [])
  | _, _ => none
def mWants : Mo
  | [], [] => some (.d (.raw (.bool true)), [], [])
  | _, _ => none
def L0 (m : Int) (e1 e2 : Value) : Orc := ((Orc.none (glU m e1 e2)).add 6 false mEncL).add 9 false mDecL
def L1 (m : Int) (e1 e2 : Value) : Orc := ((((L0 m e1 e2).add 7 false mEncL).add 10 false mDecL).add 8 false mRefL).add 5 false mWants
end Go.Memo
