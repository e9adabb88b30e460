/-
  Contracts of given functions, or plain laws that they need. No condition.
-/
import Derived.Test.YtbnfeabagcnacaaDoorTabG
import Derived.Test.YtbnfeabagcnacaaDoorMemM
namespace Go.Shd
open Go Go.Eng Go.Nest Go.Tab Go.Memo
set_option linter.unusedVariables false
/-- A client's number, error and value. -/
abbrev La := Int × Int × ByteArray
def laCs (f : Nat → La) : List AV := [.d (.raw (.int .i64 (f 0).1)), .d (.raw (.int .i64 (f 0).2.1)), .d (.raw (.string (f 0).2.2)), .d (.raw (.int .i64 (f 1).1)), .d (.raw (.int .i64 (f 1).2.1)), .d (.raw (.string (f 1).2.2)), .d (.raw (.int .i64 (f 2).1)), .d (.raw (.int .i64 (f 2).2.1)), .d (.raw (.string (f 2).2.2)), .d (.raw (.int .i64 (f 3).1)), .d (.raw (.int .i64 (f 3).2.1)), .d (.raw (.string (f 3).2.2)), .d (.raw (.int .i64 (f 4).1)), .d (.raw (.int .i64 (f 4).2.1)), .d (.raw (.string (f 4).2.2)), .d (.raw (.int .i64 (f 5).1)), .d (.raw (.int .i64 (f 5).2.1)), .d (.raw (.string (f 5).2.2)), .d (.raw (.int .i64 (f 6).1)), .d (.raw (.int .i64 (f 6).2.1)), .d (.raw (.string (f 6).2.2)), .d (.raw (.int .i64 (f 7).1)), .d (.raw (.int .i64 (f 7).2.1)), .d (.raw (.string (f 7).2.2))]
def shO (st : Int) (f : Nat → La) : Th := .obj 63 (.d (.raw (.int .i64 st)) :: .ref 1 0 :: laCs f)
/-- A shard with its table: things 0, 1, and the table's rows 2 (behind an operation: 3). -/
def sh0 (st : Int) (f : Nat → La) (l : List Rw) : List (Nat × Th) := [(0, shO st f), (1, .obj 86 [.own 2]), (2, .row 98 2 l.length (rowEl l))]
def sh3 (st : Int) (f : Nat → La) (l : List Rw) : List (Nat × Th) := [(0, shO st f), (1, .obj 86 [.own 3]), (3, .row 98 2 l.length (rowEl l))]
def noLa : La := (0, 0, ByteArray.empty)
def noF : Nat → La := fun _ => noLa
def mNew : Mo
  | [], [] => some (.ref 0 0, tab0 [], [])
  | _, _ => none
def mDoV (l : List Rw) (v : ByteArray) (e : Int) (l2 : List Rw) : Mo
  | [.ref 0 0, .d (.agg [.raw (.int .i64 k), .raw (.string key), .raw (.string val), .raw (.string old)])], [(0, .obj T [.own 1]), (1, .row R 2 n el)] => some (.tup [.d (.raw (.string v)), .d (.raw (.int .i64 e))], tab2 l2, [T = 86, R = 98, n = l.length, el = rowEl l, Tidy l ∧ v = (doM l k key val old).1 ∧ e = (doM l k key val old).2.1 ∧ l2 = (doM l k key val old).2.2])
  | _, _ => none
/-- Status -/
def mSt (f : Nat → La) (l : List Rw) : Mo
  | [.ref 0 0], [(0, .obj T (.d (.raw (.int .i64 st)) :: .ref 1 0 :: cs)), (1, .obj U [.own 2]), (2, .row R 2 n el)] => some (.d (.raw (.int .i64 st)), [(0, .obj T (.d (.raw (.int .i64 st)) :: .ref 1 0 :: cs)), (1, .obj U [.own 2]), (2, .row R 2 n el)], [T = 63, U = 86, R = 98, cs = laCs f, n = l.length, el = rowEl l])
  | [.d (.raw (.pointer none))], [] => some (.d (.raw (.int .i64 0)), [], [])
  | _, _ => none
def S0 (f : Nat → La) (l : List Rw) (v : ByteArray) (e : Int) (l2 : List Rw) : Orc := (((Orc.none (fun _ => none)).add 24 false mNew).add 33 false (mDoV l v e l2)).add 16 false (mSt f l)
def upd (f : Nat → La) (c : Nat) (x : La) : Nat → La := fun i => if i = c then x else f i
/-- turn -/
def mTurn (f : Nat → La) (l : List Rw) : Mo
  | [.ref 0 0, .d (.raw (.int .i64 a)), .d (.raw (.int .i64 b))], [(0, .obj T (.d (.raw (.int .i64 st)) :: .ref 1 0 :: cs)), (1, .obj U [.own 2]), (2, .row R 2 n el)] => some (.d (.raw (.int .i64 (if st = a then 0 else 7))), [(0, .obj T (.d (.raw (.int .i64 (if st = a then b else st))) :: .ref 1 0 :: cs)), (1, .obj U [.own 2]), (2, .row R 2 n el)], [T = 63, U = 86, R = 98, cs = laCs f, n = l.length, el = rowEl l])
  | [.d (.raw (.pointer none)), .d (.raw (.int .i64 a)), .d (.raw (.int .i64 b))], [] => some (.d (.raw (.int .i64 7)), [], [])
  | _, _ => none
def S1 (f : Nat → La) (l : List Rw) : Orc := (Orc.none (fun _ => none)).add 28 false (mTurn f l)
/-- A nil shard's turns. -/
def mNil : Mo
  | [.d (.raw (.pointer none))], [] => some (.d (.raw (.int .i64 7)), [], [])
  | _, _ => none
def mInsN : Mo
  | [.d (.raw (.pointer none)), .d (.raw (.string s))], [] => some (.d (.raw (.int .i64 7)), [], [])
  | _, _ => none
def rightB (c n : Int) : Bool := decide (0 ≤ c ∧ c ≤ 7 ∧ 1 ≤ n ∧ n ≤ 1099511627776)
def mDoN : Mo
  | [.d (.raw (.pointer none)), .d (.raw (.int .i64 c)), .d (.raw (.int .i64 n)), .d (.agg [.raw (.int .i64 k), .raw (.string key), .raw (.string val), .raw (.string old)])], [] => some (.tup [.d (.agg [.raw (.int .i64 0), .raw (.string ByteArray.empty)]), .d (.raw (.bool false)), .d (.raw (.int .i64 (if rightB c n = true then 7 else 1)))], [], [])
  | _, _ => none
def mConN : Mo
  | [.d (.raw (.pointer none))], [] => some (.d (.raw (.string ByteArray.empty)), [], [])
  | _, _ => none
def mCon0 : Mo
  | [.ref 0 0], [(0, .obj T (.d (.raw (.int .i64 st)) :: .ref 1 0 :: cs)), (1, .obj U [.own 2]), (2, .row R 2 n el)] => some (.d (.raw (.string ByteArray.empty)), [(0, .obj T (.d (.raw (.int .i64 st)) :: .ref 1 0 :: cs)), (1, .obj U [.own 2]), (2, .row R 2 n el)], [T = 63, U = 86, R = 98, st = 0, cs = laCs noF, n = 0, el = rowEl []])
  | [.d (.raw (.pointer none))], [] => some (.d (.raw (.string ByteArray.empty)), [], [])
  | _, _ => none
def textA : ByteArray := packB [numJ 0, ByteArray.empty]
/-- Text, of nil or a new one -/
def S2 (p : ByteArray) : Orc := ((((Orc.none glP).add 31 false mNum).add 32 true (mPackV p)).add 16 false (mSt noF [])).add 18 false mCon0
def mTxt (p : ByteArray) : Mo
  | [.ref 0 0], [(0, .obj T (.d (.raw (.int .i64 st)) :: .ref 1 0 :: cs)), (1, .obj U [.own 2]), (2, .row R 2 n el)] => some (.d (.raw (.string p)), [(0, .obj T (.d (.raw (.int .i64 st)) :: .ref 1 0 :: cs)), (1, .obj U [.own 2]), (2, .row R 2 n el)], [T = 63, U = 86, R = 98, st = 0, cs = laCs noF, n = 0, el = rowEl [], p = textA])
  | [.d (.raw (.pointer none))], [] => some (.d (.raw (.string p)), [], [p = textA])
  | _, _ => none
def mNewS : Mo
  | [], [] => some (.ref 0 0, sh0 0 noF [], [])
  | _, _ => none
def kB : ByteArray := ⟨#[107]⟩
def aB : ByteArray := ⟨#[97]⟩
def bB : ByteArray := ⟨#[98]⟩
def F1 : Nat → La := upd noF 0 (5, 0, ByteArray.empty)
/-- serves' operations -/
def mDoS : Mo
  | [.ref 0 0, .d (.raw (.int .i64 c)), .d (.raw (.int .i64 m)), .d (.agg [.raw (.int .i64 k), .raw (.string key), .raw (.string val), .raw (.string old)])], [(0, .obj T (.d (.raw (.int .i64 st)) :: .ref 1 0 :: cs)), (1, .obj U [.own 2]), (2, .row R 2 n el)] =>
    if n = 0 then some (.tup [.d (.agg [.raw (.int .i64 0), .raw (.string ByteArray.empty)]), .d (.raw (.bool true)), .d (.raw (.int .i64 0))], sh3 1 F1 [(kB, aB)], [T = 63, U = 86, R = 98, st = 1, cs = laCs noF, n = 0, el = rowEl [], c = 0, m = 5, k = 2, key = kB, val = aB, old = ByteArray.empty])
    else if st = 1 then some (.tup [.d (.agg [.raw (.int .i64 0), .raw (.string ByteArray.empty)]), .d (.raw (.bool false)), .d (.raw (.int .i64 0))], sh0 1 F1 [(kB, aB)], [T = 63, U = 86, R = 98, cs = laCs F1, n = 1, el = rowEl [(kB, aB)], c = 0, m = 5])
    else some (.tup [.d (.agg [.raw (.int .i64 0), .raw (.string ByteArray.empty)]), .d (.raw (.bool false)), .d (.raw (.int .i64 7))], sh0 2 F1 [(kB, aB)], [T = 63, U = 86, R = 98, st = 2, cs = laCs F1, n = 1, el = rowEl [(kB, aB)], c = 0, m = 6])
  | _, _ => none
def mBegS : Mo
  | [.ref 0 0], [(0, .obj T (.d (.raw (.int .i64 st)) :: .ref 1 0 :: cs)), (1, .obj U [.own 2]), (2, .row R 2 n el)] => some (.d (.raw (.int .i64 0)), sh0 1 noF [], [T = 63, U = 86, R = 98, st = 0, cs = laCs noF, n = 0, el = rowEl []])
  | _, _ => none
def mFrzS : Mo
  | [.ref 0 0], [(0, .obj T (.d (.raw (.int .i64 st)) :: .ref 1 0 :: cs)), (1, .obj U [.own 2]), (2, .row R 2 n el)] => some (.d (.raw (.int .i64 0)), sh0 2 F1 [(kB, aB)], [T = 63, U = 86, R = 98, st = 1, cs = laCs F1, n = 1, el = rowEl [(kB, aB)]])
  | _, _ => none
def S3 : Orc := (((((Orc.none (fun _ => none)).add 8 false mNewS).add 11 false mBegS).add 13 false mFrzS).add 19 false mDoS).add 16 false (mSt F1 [(kB, aB)])
def mServes : Mo
  | [], [] => some (.d (.raw (.bool true)), [], [])
  | _, _ => none
def S4 (p : ByteArray) : Orc := ((((((((((Orc.none glP).add 8 false mNewS).add 11 false mNil).add 13 false mNil).add 12 false mNil).add 14 false mNil).add 15 false mInsN).add 19 false mDoN).add 16 false (mSt noF [])).add 18 false mConN).add 20 false (mTxt p)
def S5 (p : ByteArray) : Orc := (S4 p).add 9 false mServes
end Go.Shd
