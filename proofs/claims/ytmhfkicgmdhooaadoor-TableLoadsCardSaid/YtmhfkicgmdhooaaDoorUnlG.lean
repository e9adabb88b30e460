/-
  Contracts of given functions, or plain laws that they need. No condition.
-/
import Derived.Test.YtmhfkicgmdhooaaDoorTabL
import Derived.Test.YtmhfkicgmdhooaaDoorUnpG
import Derived.Test.YtmhfkicgmdhooaaDoorTsG
namespace Go.Tab
open Go Go.Eng Go.Nest
set_option linter.unusedVariables false
/-- The callees of Load. -/
def LO (m : Int) (e1 e2 : Value) (r : List ByteArray) (f : Int) : Orc := (((Orc.none (glU m e1 e2)).add 27 false (mUnpV r f)).add 9 false mNew).add 15 false mCheck
def ld1 (r : List ByteArray) (l : List Rw) (i : Int) : St := mk 0 81 [(4, .d (.list 1 r.length (strEl r))), (6, .ref 0 0), (7, .d (.raw (.int .i64 i)))] (tab0 l)
end Go.Tab

namespace Go.Tab
open Go Go.Eng Go.Nest
set_option linter.unusedVariables false
def mLoadT (l : List Rw) (t : ByteArray) : Mo
  | [.d (.raw (.string s))], [] => some (.tup [.ref 0 0, .d (.raw (.int .i64 0))], tab0 l, [s = t, t = packB (flatM l), Tidy l])
  | _, _ => none
/-- The callees of TableBack: Do on the rows l, Text and Load on these rows. -/
def W4 (m : Int) (e1 e2 : Value) (l : List Rw) (t : ByteArray) : Orc := (((((Orc.none (glU m e1 e2)).add 9 false mNew).add 11 false (mDo l)).add 12 false (mTextV l t)).add 19 false (mLoadT l t)).add 10 false mFour
def bk1 (aa bs : List OpV) (l : List Rw) (n i : Int) : St := mk 0 91 [(1, .d (.list 4 (bs.length) (opEl bs))), (5, .ref 0 0), (34, .d (.list 4 (aa.length) (opEl aa))), (35, .d (.raw (.int .i64 n))), (36, .d (.raw (.int .i64 i)))] (tab0 l)
def bk2 (bs : List OpV) (l : List Rw) (n i : Int) : St := mk 0 91 [(5, .ref 0 0), (8, .ref 2 0), (56, .d (.list 4 (bs.length) (opEl bs))), (57, .d (.raw (.int .i64 n))), (58, .d (.raw (.int .i64 i)))] (tab0 l ++ [(2, .obj 56 [.own 3]), (3, .row 60 2 l.length (rowEl l))])
def bk3 (bs : List OpV) (nl : Nat) (el : Nat → D) (n i : Int) (x y : ByteArray) (e f : Int) : St := mk 0 91 [(5, .ref 0 0), (8, .ref 2 0), (12, .d (.raw (.string x))), (13, .d (.raw (.int .i64 e))), (14, .d (.raw (.string y))), (15, .d (.raw (.int .i64 f))), (56, .d (.list 4 (bs.length) (opEl bs))), (57, .d (.raw (.int .i64 n))), (58, .d (.raw (.int .i64 i)))] [(0, .obj 56 [.own 1]), (1, .row 60 2 nl el), (2, .obj 56 [.own 3]), (3, .row 60 2 nl el)]
end Go.Tab

namespace Go.Nest
open Go Go.Eng
set_option linter.unusedVariables false
def numJ (n : Int) : ByteArray := ⟨(Lib.itoa n).toArray⟩
def mNumJ (q : ByteArray) : Mo
  | [.d (.raw (.int .i64 n))], [] => some (.d (.raw (.string q)), [], [q = numJ n, -9223372036854775808 < n ∧ n < 9223372036854775808])
  | _, _ => none
def UN (q : ByteArray) : Orc := (Orc.none (fun _ => none)).add 35 false (mNumJ q)
def tn1 (s d : ByteArray) (n i : Int) : St := mk 0 62 [(0, .d (.raw (.string s))), (4, .d (.raw (.string d))), (5, .d (.raw (.int .i64 n))), (6, .d (.raw (.int .i64 i)))] []
def mToNumR (n f : Int) : Mo
  | [.d (.raw (.string t))], [] => some (.tup [.d (.raw (.int .i64 n)), .d (.raw (.int .i64 f))], [], [t.size ≤ 9, n = (numM t).1, f = (numM t).2])
  | _, _ => none
def UK (n f : Int) : Orc := (Orc.none (fun _ => none)).add 43 false (mToNumR n f)
def tk1 (s : ByteArray) (i : Int) : St := mk 0 67 [(0, .d (.raw (.string s))), (5, .d (.raw (.int .i64 i)))] []
end Go.Nest

namespace Go.Nest
open Go Go.Eng
set_option linter.unusedVariables false
def mTakeV (a b : ByteArray) (f : Int) : Mo
  | [.d (.raw (.string s))], [] => some (.tup [.d (.raw (.string a)), .d (.raw (.string b)), .d (.raw (.int .i64 f))], [], [s.size ≤ 1073741824, a = (takeM s).1, b = (takeM s).2.1, f = (takeM s).2.2])
  | _, _ => none
def UV (a b : ByteArray) (f : Int) : Orc := (Orc.none (fun _ => none)).add 37 false (mTakeV a b f)
def un1 (r : List ByteArray) (rest : ByteArray) : St := mk 0 26 [(4, .own 0), (5, .d (.raw (.string rest)))] [(0, .row 9 1 r.length (strEl r))]
end Go.Nest

namespace Go.Tab
open Go Go.Eng Go.Nest
set_option linter.unusedVariables false
def LR (r : List ByteArray) (f : Int) : Orc := ((Orc.none (fun _ => none)).add 28 false (mUnpV r f)).add 16 false mCheck
def lr1 (r : List ByteArray) (l : List Rw) (i : Int) : St := mk 0 78 [(2, .ref 0 0), (4, .d (.list 1 r.length (strEl r))), (6, .ref 1 0), (7, .d (.raw (.int .i64 i)))] [(0, .obj 36 [.d (.raw (.slice none 0 0))]), (1, .obj 36 [.own 2]), (2, .row 65 2 l.length (rowEl l))]
end Go.Tab

namespace Go.Tab
open Go Go.Eng Go.Nest
set_option linter.unusedVariables false
/-- Load, of a text that is the rows l's; the reference's; of another text. -/
def mLoadG (t : ByteArray) (l : List Rw) (P : Prop) : Mo
  | [.d (.raw (.string s))], [] => some (.tup [.ref 0 0, .d (.raw (.int .i64 0))], tab0 l, [s = t, P])
  | _, _ => none
def mLoadRG (t : ByteArray) (l : List Rw) (P : Prop) : Mo
  | [.d (.raw (.string s))], [] => some (.tup [.d (.agg [.list 2 l.length (rowEl l)]), .d (.raw (.int .i64 0))], [], [s = t, P])
  | _, _ => none
def mLoadB (t : ByteArray) (P : Prop) : Mo
  | [.d (.raw (.string s))], [] => some (.tup [.d (.raw (.pointer none)), .d (.raw (.int .i64 4))], [], [s = t, P])
  | _, _ => none
def mLoadRB (t : ByteArray) (P : Prop) : Mo
  | [.d (.raw (.string s))], [] => some (.tup [.d (.agg [.raw (.slice none 0 0)]), .d (.raw (.int .i64 4))], [], [s = t, P])
  | _, _ => none
def W5 (m : Int) (e1 e2 : Value) (t : ByteArray) (l : List Rw) (P : Prop) : Orc := (((((Orc.none (glU m e1 e2)).add 19 false (mLoadG t l P)).add 20 false (mLoadRG t l P)).add 12 false (mTextV l t)).add 18 false (mLen l)).add 10 false mFour
def W6 (m : Int) (e1 e2 : Value) (t : ByteArray) (P : Prop) : Orc := (((Orc.none (glU m e1 e2)).add 19 false (mLoadB t P)).add 20 false (mLoadRB t P)).add 10 false mFour
end Go.Tab
