/-
  Contracts of given functions, or plain laws that they need. No condition.
-/
import Derived.Test.YtbcgfjpgbhoaeaaDoorMemG
namespace Go.Memo
open Go Go.Eng Go.Nest
set_option linter.unusedVariables false
def mPackR (r : List ByteArray) (q : ByteArray) : Mo
  | [.own 0], [(0, .row T 1 n el)] => some (.d (.raw (.string q)), [(0, .row T 1 n (strEl r))], [T = 9, n = r.length ∧ (∀ i, i < n → el i = strEl r i) ∧ q = packB r ∧ (packL r).length ≤ 1073741824])
  | _, _ => none
abbrev gz : Nat → Option (List D) := fun _ => none
def RN1 (r : List ByteArray) (q : ByteArray) : Orc := (((Orc.none gz).add 19 false mNum).add 37 false mIs).add 18 false (mPackR r q)
def RN2 (q : ByteArray) (e : Int) : Orc := (Orc.none gz).add 17 false (mName q e)
def pr1 (s : ByteArray) (g : Int) : St := mk 0 30 [(0, .d (.raw (.string s))), (2, .ref 0 0), (4, .d (.raw (.int .i64 g)))] [(0, .obj 23 [.d (.raw (.int .i64 0)), .d (.raw (.int .i64 0))])]
def pr2 (s : ByteArray) (g n : Int) : St := mk 0 30 [(0, .d (.raw (.string s))), (2, .ref 0 0), (4, .d (.raw (.int .i64 g))), (5, .d (.raw (.int .i64 n)))] [(0, .obj 23 [.d (.raw (.int .i64 0)), .d (.raw (.int .i64 0))])]
def mRow (r : ByteArray) : Mo
  | [.d (.raw (.int .i64 k))], [] => some (.d (.raw (.string r)), [], [1 ≤ k ∧ k ≤ 12, r = rowM k])
  | _, _ => none
def mWitR : Mo
  | [.d (.raw (.int .i64 n)), .d (.raw (.int .u8 c))], [] => some (.d (.raw (.bool (witR n c))), [], [0 ≤ c ∧ c < 256])
  | _, _ => none
def RM1 (r : ByteArray) : Orc := (((Orc.none gz).add 37 false mIs).add 36 false (mRow r)).add 46 false mWitR
def RM2 (r : ByteArray) (c : Int) : Orc := ((Orc.none gz).add 35 false (mRight c)).add 36 false (mRow r)
def RM3 (r : List ByteArray) (q p : ByteArray) (e c : Int) : Orc := ((((Orc.none gz).add 16 false (mChk c)).add 17 false (mName q e)).add 19 false mNum).add 18 false (mPackR r p)
def RM4 (r : List ByteArray) (f g n h : Int) (c : Int) : Orc := ((((Orc.none gz).add 23 false (mUnpV r f)).add 24 false mToNum).add 25 false (mParty g n h)).add 16 false (mChk c)
end Go.Memo
