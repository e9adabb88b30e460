/-
  Contracts of given functions, or plain laws that they need. No condition.
-/
import Derived.Test.YtbcgfjpgbhoaeaaDoorMemLG
import Derived.Test.YtbcgfjpgbhoaeaaDoorMemN
namespace Go.Memo
open Go Go.Eng Go.Nest
set_option linter.unusedVariables false
def mWit3 : Mo
  | [.d (.raw (.int .i64 n)), .d (.raw (.int .i64 l)), .d (.raw (.int .i64 h))], [] => some (.d (.raw (.bool (decide (l ≤ n ∧ n ≤ h)))), [], [])
  | _, _ => none
def mGrp : Mo
  | [.d (.raw (.int .i64 g))], [] => some (.d (.raw (.bool (decide (0 ≤ g ∧ g ≤ 4)))), [], [])
  | _, _ => none
def mTextS (x : ByteArray) (c : Int) : Mo
  | [.d (.agg [.raw (.string w), .raw (.int .i64 g), .raw (.int .i64 v), .raw (.int .i64 u), .raw (.string b)])], [] => some (.tup [.d (.raw (.string x)), .d (.raw (.int .i64 c))], [], [x = (shiftM w g v u b).1, c = (shiftM w g v u b).2, w.size ≤ 100])
  | _, _ => none
def mOrd (w : ByteArray) (x : ByteArray) (c : Int) : Mo
  | [.d (.raw (.int .i64 g)), .d (.raw (.int .i64 v)), .d (.raw (.int .i64 u)), .d (.raw (.string b))], [] => some (.tup [.d (.raw (.string x)), .d (.raw (.int .i64 c))], [], [x = (shiftM w g v u b).1, c = (shiftM w g v u b).2])
  | _, _ => none
def mMark (x : ByteArray) (c : Int) : Mo
  | [.d (.raw (.int .i64 g)), .d (.raw (.int .i64 u)), .d (.raw (.string b))], [] => some (.tup [.d (.raw (.string x)), .d (.raw (.int .i64 c))], [], [x = (markM g u b).1, c = (markM g u b).2])
  | _, _ => none
def P0 (m : Int) (e1 e2 : Value) (p : ByteArray) : Orc := ((((Orc.none (glU m e1 e2)).add 15 false mNum).add 14 true (mPackV p)).add 51 false mWit3).add 43 false mGrp
def P1 (m : Int) (e1 e2 : Value) (x : ByteArray) (c : Int) : Orc := (Orc.none (glU m e1 e2)).add 42 false (mTextS x c)
def P2 (m : Int) (e1 e2 : Value) (p : ByteArray) (c d : Int) (sv su : Int) (tx tg : Bool) (x : ByteArray) (f : Int) (y : ByteArray) (h : Int) (z : ByteArray) (i : Int) : Orc := ((((((((Orc.none (glU m e1 e2)).add 26 false (mRight c)).add 12 false (mChk d)).add 27 false (mFl sv su tx tg)).add 28 false (mOrd oB x f)).add 29 false (mOrd sB y h)).add 30 false (mMark z i)).add 15 false mNum).add 14 true (mPackV p)
def stB (k g n v u : Int) (t tag : ByteArray) : ByteArray := (saidM ⟨k, g, n, v, u, t, tag⟩).1
def stC (k g n v u : Int) (t tag : ByteArray) : Int := (saidM ⟨k, g, n, v, u, t, tag⟩).2
def mSaidL : Mo
  | [.d (.agg [.raw (.int .i64 k), .raw (.int .i64 g), .raw (.int .i64 n), .raw (.int .i64 v), .raw (.int .i64 u), .raw (.string t), .raw (.string tag)])], [] => some (.tup [.d (.raw (.string (stB k g n v u t tag))), .d (.raw (.int .i64 (stC k g n v u t tag)))], [], [])
  | _, _ => none
def P3 (m : Int) (e1 e2 : Value) : Orc := ((Orc.none (glU m e1 e2)).add 11 false mSaidL).add 5 false mWants
end Go.Memo
