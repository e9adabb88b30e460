/-
  Contracts of given functions, or plain laws that they need. No condition.
-/
import Derived.Test.YtfpiccepphiaaaaDoorStmG
namespace Go.Stk
open Go Go.Eng Go.Nest Go.Memo
set_option linter.unusedVariables false
def stkB (el : Nat → D) : List (Nat × Th) := [(0, .obj 69 [.ref 1 0, .ref 3 0, .ref 5 0, .ref 7 0, .d (.raw (.int .i64 1)), .d (.raw (.int .i64 2)), .own 10, .d (.raw (.int .i64 2)), .d (.raw (.int .i64 2)), .d (.raw (.int .i64 1)), .d (.raw (.int .i64 1))]), (1, shT 2 2), (2, taT), (3, shT 2 4), (4, taT), (5, shT 1 6), (6, taT), (7, shT 1 8), (8, taT), (9, .row 3 1 1 el), (10, .row 3 1 2 (intEl [1, 2]))]
def mNewK : Mo
  | [.d (.raw (.int .i64 g))], [] => some (.tup [.ref 0 0, .d (.raw (.int .i64 0))], stk s0, [(g == 1) = true])
  | _, _ => none
def mAdv : Mo
  | [.ref 0 0, .d (.agg [.raw (.int .i64 n), .list 1 k el, .raw (.int .i64 o1), .raw (.int .i64 o2), .raw (.int .i64 o3), .raw (.int .i64 o4)])], H => match spOf H with
    | some (p, b) => match p.gr with
      | none => some (.d (.raw (.int .i64 0)), stk (s1 (intEl [1])), [(b && eqS p s0 && n == 1 && k == 1 && o1 == 1 && o2 == 1 && o3 == 1 && o4 == 1) = true, ∀ i, i < 1 → el i = intEl [1] i])
      | some (c, eg) => some (.d (.raw (.int .i64 0)), stkB eg, [(b && eqS p (s1 eg) && c == 1 && n == 2 && k == 2 && o1 == 2 && o2 == 2 && o3 == 1 && o4 == 1) = true, ∀ i, i < 2 → el i = intEl [1, 2] i])
    | none => none
  | _, _ => none
/-- Two states in which a shard's status is asked. -/
def mStK : Mo
  | [.ref 0 0, .d (.raw (.int .i64 i))], H => match spOf H with
    | some (p, b) => match p.gr with
      | some (c, eg) => if p.num = 1 then some (.d (.raw (.int .i64 1)), H, [(b && c == 1 && eqS p (s1 eg) && i == 3) = true]) else some (.d (.raw (.int .i64 (if i = 0 then 2 else 1))), H, [(b && c == 2 && eqS p (s2 eg) && (i == 0 || i == 3)) = true])
      | none => none
    | none => none
  | _, _ => none
def V0 : Orc := ((Orc.none gz0).add 32 false mAt).add 36 false mSt1
def V1 (q : ByteArray) : Orc := (((Orc.none glP).add 32 false mAt).add 37 false (mCon1 q)).add 15 false mStK
def mHand (q : ByteArray) : Mo
  | [.ref 0 0, .d (.raw (.int .i64 i))], H => match spOf H with
    | some (p, b) => match p.gr with
      | some (c, eg) => some (.tup [.d (.agg [.raw (.bool false), .raw (.int .i64 2), .raw (.int .i64 0), .raw (.string q)]), .d (.raw (.bool true))], H, [(b && c == 2 && eqS p (s2 eg) && i == 0) = true, q = conB])
      | none => none
    | none => none
  | _, _ => none
def V2 (q : ByteArray) : Orc := ((((Orc.none glP).add 13 false mNewK).add 14 true mAdv).add 15 false mStK).add 16 false (mHand q)
end Go.Stk
