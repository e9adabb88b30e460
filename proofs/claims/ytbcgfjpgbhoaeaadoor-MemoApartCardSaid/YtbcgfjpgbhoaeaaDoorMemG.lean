/-
  Contracts of given functions, or plain laws that they need. No condition.
-/
import Derived.Test.YtbcgfjpgbhoaeaaDoorUnpG
import Derived.Test.YtbcgfjpgbhoaeaaDoorNrG
import Derived.Test.YtbcgfjpgbhoaeaaDoorMemM
namespace Go.Memo
open Go Go.Eng Go.Nest
set_option linter.unusedVariables false
abbrev MoOK (P : Program) (gl : Nat → Option (List D)) (f : FuncId) (mo : Mo) : Prop := ∀ args H r H' cs, mo args H = some (r, H', cs) → Conds cs → Eng.Spec P gl f args H r H'
theorem MoOK.any {P : Program} {gl : Nat → Option (List D)} {f : FuncId} {mo : Mo} (h : MoOK P (fun _ => none) f mo) : MoOK P gl f mo := fun args H r H' cs h1 h2 => Spec.glAny (h args H r H' cs h1 h2)
theorem all2 {el : Nat → D} {r : List ByteArray} (h0 : el 0 = strEl r 0) (h1 : el 1 = strEl r 1) : ∀ i, i < 2 → el i = strEl r i
  | 0, _ => h0 | 1, _ => h1
  | i + 2, h => absurd h (by omega)
theorem all4 {el : Nat → D} {r : List ByteArray} (h0 : el 0 = strEl r 0) (h1 : el 1 = strEl r 1) (h2 : el 2 = strEl r 2) (h3 : el 3 = strEl r 3) : ∀ i, i < 4 → el i = strEl r i
  | 0, _ => h0 | 1, _ => h1 | 2, _ => h2 | 3, _ => h3
  | i + 4, h => absurd h (by omega)
theorem all5 {el : Nat → D} {r : List ByteArray} (h0 : el 0 = strEl r 0) (h1 : el 1 = strEl r 1) (h2 : el 2 = strEl r 2) (h3 : el 3 = strEl r 3) (h4 : el 4 = strEl r 4) : ∀ i, i < 5 → el i = strEl r i
  | 0, _ => h0 | 1, _ => h1 | 2, _ => h2 | 3, _ => h3 | 4, _ => h4
  | i + 5, h => absurd h (by omega)
theorem all6 {el : Nat → D} {r : List ByteArray} (h0 : el 0 = strEl r 0) (h1 : el 1 = strEl r 1) (h2 : el 2 = strEl r 2) (h3 : el 3 = strEl r 3) (h4 : el 4 = strEl r 4) (h5 : el 5 = strEl r 5) : ∀ i, i < 6 → el i = strEl r i
  | 0, _ => h0 | 1, _ => h1 | 2, _ => h2 | 3, _ => h3 | 4, _ => h4 | 5, _ => h5
  | i + 6, h => absurd h (by omega)
def mNum : Mo
  | [.d (.raw (.int .i64 n))], [] => some (.d (.raw (.string (numJ n))), [], [-9223372036854775808 ≤ n ∧ n < 9223372036854775808])
  | _, _ => none
/-- Pack of a list of known texts. -/
def mPackV (q : ByteArray) : Mo
  | [.d (.list 1 n el)], [] => some (.d (.raw (.string q)), [], [∃ r : List ByteArray, n = r.length ∧ (∀ i, i < n → el i = strEl r i) ∧ q = packB r ∧ (packL r).length ≤ 1073741824])
  | _, _ => none
def mPackRV (q : ByteArray) : Mo
  | [.own 0], [(0, .row T 1 n el)] => some (.d (.raw (.string q)), [(0, .row T 1 n el)], [T = 9, ∃ r : List ByteArray, n = r.length ∧ (∀ i, i < n → el i = strEl r i) ∧ q = packB r ∧ (packL r).length ≤ 1073741824])
  | _, _ => none
def mIs : Mo
  | [.d (.agg [.raw (.int .i64 g), .raw (.int .i64 n)])], [] => some (.d (.raw (.bool (isM g n))), [], [])
  | _, _ => none
def mName (q : ByteArray) (e : Int) : Mo
  | [.d (.agg [.raw (.int .i64 g), .raw (.int .i64 n)])], [] => some (.tup [.d (.raw (.string q)), .d (.raw (.int .i64 e))], [], [q = (nameM g n).1, e = (nameM g n).2])
  | _, _ => none
def mToNum : Mo
  | [.d (.raw (.string t))], [] => some (.tup [.d (.raw (.int .i64 (numM t).1)), .d (.raw (.int .i64 (numM t).2))], [], [t.size ≤ 1073741824])
  | _, _ => none
def mParty (g n f : Int) : Mo
  | [.d (.raw (.string t))], [] => some (.tup [.d (.agg [.raw (.int .i64 g), .raw (.int .i64 n)]), .d (.raw (.int .i64 f))], [], [t.size ≤ 1073741824, g = (partyM t).1, n = (partyM t).2.1, f = (partyM t).2.2])
  | _, _ => none
/-- The callees of the names' functions. -/
def N0 (m : Int) (e1 e2 : Value) : Orc := ((Orc.none (glU m e1 e2)).add 15 false mNum).add 31 false mIs
def N1 (m : Int) (e1 e2 : Value) (q : ByteArray) : Orc := (N0 m e1 e2).add 14 true (mPackV q)
def N2 (m : Int) (e1 e2 : Value) (r : List ByteArray) (f : Int) : Orc := ((N0 m e1 e2).add 20 false (mUnpV r f)).add 21 false mToNum
def mFl (sv su : Int) (tx tg : Bool) : Mo
  | [.d (.raw (.int .i64 k))], [] => some (.tup [.d (.agg [.raw (.int .i64 sv), .raw (.int .i64 su)]), .d (.raw (.bool tx)), .d (.raw (.bool tg))], [], [flM k = (sv, su, tx, tg)])
  | _, _ => none
def mWit : Mo
  | [.d (.raw (.int .i64 n)), .d (.raw (.int .i64 l))], [] => some (.d (.raw (.bool (witM n l))), [], [])
  | _, _ => none
abbrev memD (k g n v u : Int) (t tag : ByteArray) : D := .agg [.raw (.int .i64 k), .raw (.int .i64 g), .raw (.int .i64 n), .raw (.int .i64 v), .raw (.int .i64 u), .raw (.string t), .raw (.string tag)]
def mRight (c : Int) : Mo
  | [.d (.agg [.raw (.int .i64 k), .raw (.int .i64 g), .raw (.int .i64 n), .raw (.int .i64 v), .raw (.int .i64 u), .raw (.string t), .raw (.string tag)])], [] => some (.d (.raw (.int .i64 c)), [], [c = rightM ⟨k, g, n, v, u, t, tag⟩])
  | _, _ => none
def mChk (c : Int) : Mo
  | [.d (.agg [.raw (.int .i64 k), .raw (.int .i64 g), .raw (.int .i64 n), .raw (.int .i64 v), .raw (.int .i64 u), .raw (.string t), .raw (.string tag)])], [] => some (.d (.raw (.int .i64 c)), [], [c = chkM ⟨k, g, n, v, u, t, tag⟩])
  | _, _ => none
def mEnc (q : ByteArray) (c : Int) : Mo
  | [.d (.agg [.raw (.int .i64 k), .raw (.int .i64 g), .raw (.int .i64 n), .raw (.int .i64 v), .raw (.int .i64 u), .raw (.string t), .raw (.string tag)])], [] => some (.tup [.d (.raw (.string q)), .d (.raw (.int .i64 c))], [], [q = (encM ⟨k, g, n, v, u, t, tag⟩).1, c = (encM ⟨k, g, n, v, u, t, tag⟩).2])
  | _, _ => none
def M1 (m : Int) (e1 e2 : Value) (q : ByteArray) (e : Int) (sv su : Int) (tx tg : Bool) : Orc := (((Orc.none (glU m e1 e2)).add 13 false (mName q e)).add 27 false (mFl sv su tx tg)).add 41 false mWit
def M2 (m : Int) (e1 e2 : Value) (sv su : Int) (tx tg : Bool) (c : Int) : Orc := ((Orc.none (glU m e1 e2)).add 26 false (mRight c)).add 27 false (mFl sv su tx tg)
def M3 (m : Int) (e1 e2 : Value) (q p : ByteArray) (e c : Int) : Orc := ((((Orc.none (glU m e1 e2)).add 12 false (mChk c)).add 13 false (mName q e)).add 15 false mNum).add 14 true (mPackV p)
def M4 (m : Int) (e1 e2 : Value) (r : List ByteArray) (f g n h : Int) (q : ByteArray) (c : Int) : Orc := ((((Orc.none (glU m e1 e2)).add 20 false (mUnpV r f)).add 21 false mToNum).add 22 false (mParty g n h)).add 6 false (mEnc q c)
end Go.Memo
