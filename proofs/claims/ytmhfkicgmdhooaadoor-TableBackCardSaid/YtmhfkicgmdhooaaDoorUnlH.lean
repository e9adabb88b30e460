/-
  Contracts of given functions, or plain laws that they need. No condition.
-/
import Derived.Test.YtmhfkicgmdhooaaDoorTsG
import Derived.Test.YtmhfkicgmdhooaaDoorUnlG
namespace Go.Tab
open Go Go.Eng Go.Nest
set_option linter.unusedVariables false
def mLoadT (l : List Rw) (t : ByteArray) : Mo
  | [.d (.raw (.string s))], [] => some (.tup [.ref 0 0, .d (.raw (.int .i64 0))], tab0 l, [s = t, t = packB (flatM l), Tidy l])
  | _, _ => none
/-- The callees of TableBack: Do on the rows l, Text and Load on these rows. -/
def W4 (m : Int) (e1 e2 : Value) (l : List Rw) (t : ByteArray) : Orc := (((((Orc.none (glU m e1 e2)).add 9 false mNew).add 11 false (mDo l)).add 12 false (mTextV l t)).add 19 false (mLoadT l t)).add 10 false mFour
def bk1 (aa bs : List OpV) (l : List Rw) (n i : Int) : St := mk 0 91 [(1, .d (.list 4 (bs.length) (opEl bs))), (5, .ref 0 0), (34, .d (.list 4 (aa.length) (opEl aa))), (35, .d (.raw (.int .i64 n))), (36, .d (.raw (.int .i64 i)))] (tab0 l)
def bk2 (bs : List OpV) (l : List Rw) (n i : Int) : St := mk 0 91 [(5, .ref 0 0), (8, .ref 2 0), (56, .d (.list 4 (bs.length) (opEl bs))), (57, .d (.raw (.int .i64 n))), (58, .d (.raw (.int .i64 i)))] (tab0 l ++ [(2, .obj 56 [.own 3]), (3, .row 60 2 l.length (rowEl l))])
def bk3 (bs : List OpV) (nl : Nat) (el : Nat → D) (n i : Int) (x y : ByteArray) (e f : Int) : St := mk 0 91 [(5, .ref 0 0), (8, .ref 2 0), (12, .d (.raw (.string x))), (13, .d (.raw (.int .i64 e))), (14, .d (.raw (.string y))), (15, .d (.raw (.int .i64 f))), (56, .d (.list 4 (bs.length) (opEl bs))), (57, .d (.raw (.int .i64 n))), (58, .d (.raw (.int .i64 i)))] [(0, .obj 56 [.own 1]), (1, .row 60 2 nl el), (2, .obj 56 [.own 3]), (3, .row 60 2 nl el)]
end Go.Tab
