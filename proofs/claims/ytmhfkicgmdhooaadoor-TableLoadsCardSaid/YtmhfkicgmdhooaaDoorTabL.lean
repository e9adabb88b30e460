/-
  Contracts of given functions, or plain laws that they need. No condition.
-/
import Derived.Test.YtmhfkicgmdhooaaDoorTabH
namespace Go.Tab
open Go Go.Eng Go.Nest
set_option linter.unusedVariables false
abbrev Mo := List AV → List (Nat × Th) → Option (AV × List (Nat × Th) × List Prop)
def mNew : Mo
  | [], [] => some (.ref 0 0, tab0 [], [])
  | _, _ => none
/-- Do on the rows l: l given -/
def mDo (l : List Rw) : Mo
  | [.ref 0 0, .d (.agg [.raw (.int .i64 k), .raw (.string key), .raw (.string val), .raw (.string old)])], [(0, .obj T [.own 1]), (1, .row R 2 n el)] => some (.tup [.d (.raw (.string (doM l k key val old).1)), .d (.raw (.int .i64 (doM l k key val old).2.1))], tab2 (doM l k key val old).2.2, [T = 56, R = 60, n = l.length, el = rowEl l, Tidy l])
  | _, _ => none
def mDoNil : Mo
  | [.d (.raw (.pointer none)), .d (.agg [.raw (.int .i64 k), .raw (.string key), .raw (.string val), .raw (.string old)])], [] => some (.tup [.d (.raw (.string ByteArray.empty)), .d (.raw (.int .i64 (if checkM k key val old = 0 then 7 else checkM k key val old)))], [], [])
  | _, _ => none
def mText (l : List Rw) : Mo
  | [.ref 0 0], [(0, .obj T [.own 1]), (1, .row R 2 n el)] => some (.d (.raw (.string (packB (flatM l)))), tab0 l, [T = 56, R = 60, n = l.length, el = rowEl l, Tidy l])
  | _, _ => none
def mTextNil : Mo
  | [.d (.raw (.pointer none))], [] => some (.d (.raw (.string ByteArray.empty)), [], [])
  | _, _ => none
def mLenNil : Mo
  | [.d (.raw (.pointer none))], [] => some (.d (.raw (.int .i64 0)), [], [])
  | _, _ => none
def kB : ByteArray := ⟨#[107]⟩
def aB : ByteArray := ⟨#[97]⟩
def bB : ByteArray := ⟨#[98]⟩
def abB : ByteArray := ⟨#[97, 98]⟩
def cB : ByteArray := ⟨#[99]⟩
def tB : ByteArray := ⟨#[49, 58, 107, 44, 49, 58, 99, 44]⟩
/-- four's four operations -/
def mDo4 : Mo
  | [.ref 0 0, .d (.agg [.raw (.int .i64 k), .raw (.string key), .raw (.string val), .raw (.string old)])], [(0, .obj T [.own 1]), (1, .row R 2 n el)] =>
    if k = 2 then some (.tup [.d (.raw (.string ByteArray.empty)), .d (.raw (.int .i64 0))], tab2 [(kB, aB)], [T = 56, R = 60, n = 0, el = rowEl [], key = kB, val = aB, old = ByteArray.empty])
    else if k = 3 then some (.tup [.d (.raw (.string abB)), .d (.raw (.int .i64 0))], tab2 [(kB, abB)], [T = 56, R = 60, n = 1, el = rowEl [(kB, aB)], key = kB, val = bB, old = ByteArray.empty])
    else if k = 5 then some (.tup [.d (.raw (.string abB)), .d (.raw (.int .i64 0))], tab2 [(kB, cB)], [T = 56, R = 60, n = 1, el = rowEl [(kB, abB)], key = kB, val = cB, old = abB])
    else some (.tup [.d (.raw (.string cB)), .d (.raw (.int .i64 0))], tab2 [(kB, cB)], [T = 56, R = 60, n = 1, el = rowEl [(kB, cB)], k = 1, key = kB, val = ByteArray.empty, old = ByteArray.empty])
  | _, _ => none
def mText4 : Mo
  | [.ref 0 0], [(0, .obj T [.own 1]), (1, .row R 2 n el)] => some (.d (.raw (.string tB)), tab0 [(kB, cB)], [T = 56, R = 60, n = 1, el = rowEl [(kB, cB)]])
  | _, _ => none
def mFour : Mo
  | [], [] => some (.d (.raw (.bool true)), [], [])
  | _, _ => none
def F0 : Orc := (((Orc.none (fun _ => none)).add 9 false mNew).add 11 false mDo4).add 12 false mText4
def F1 : Orc := (((((Orc.none (fun _ => none)).add 11 false mDoNil).add 15 false mCheck).add 12 false mTextNil).add 18 false mLenNil).add 10 false mFour
def mLen (l : List Rw) : Mo
  | [.ref 0 0], [(0, .obj T [.own 1]), (1, .row R 2 n el)] => some (.d (.raw (.int .i64 (l.length : Int))), tab0 l, [T = 56, R = 60, n = l.length, el = rowEl l])
  | _, _ => none
/-- The law's callees; Do on the rows l, Len and Text on the rows l2. -/
def W0 (l l2 : List Rw) : Orc := ((((((Orc.none (fun _ => none)).add 9 false mNew).add 11 false (mDo l)).add 15 false mCheck).add 12 false (mText l2)).add 18 false (mLen l2)).add 10 false mFour
/-- TableFull at its outer loop, at its inner one -/
def fu1 (ks : List ByteArray) (v : ByteArray) (l : List Rw) (hv : List ByteArray) (n i : Int) : St := mk 0 90 [(1, .d (.raw (.string (v)))), (5, .ref 0 0), (6, .own 2), (28, .d (.list 1 (ks.length) (strEl ks))), (29, .d (.raw (.int .i64 n))), (30, .d (.raw (.int .i64 i)))] [(0, .obj 56 [.own 1]), (1, .row 60 2 l.length (rowEl l)), (2, .row 9 1 hv.length (strEl hv))]
def fu2 (ks : List ByteArray) (v : ByteArray) (l : List Rw) (hv : List ByteArray) (n i : Int) (key : ByteArray) (b : Bool) (m j : Int) : St := mk 0 90 [(1, .d (.raw (.string (v)))), (5, .ref 0 0), (6, .own 2), (8, .d (.raw (.string key))), (9, .d (.raw (.bool b))), (28, .d (.list 1 (ks.length) (strEl ks))), (29, .d (.raw (.int .i64 n))), (30, .d (.raw (.int .i64 i))), (34, .own 2), (35, .d (.raw (.int .i64 m))), (36, .d (.raw (.int .i64 j)))] [(0, .obj 56 [.own 1]), (1, .row 60 2 l.length (rowEl l)), (2, .row 9 1 hv.length (strEl hv))]
end Go.Tab
