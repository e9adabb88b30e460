/-
  Contracts of the given functions, and the statement's own walk. No condition.
-/
import Derived.Test.YticnclmadldkkaaRosM
namespace Go.Ros
open Go Go.Abs
/-- Primary, where the answer is known: c. -/
def m13c (c : Int) : List D → Option (Ret × List Prop)
  | [.agg [.raw (.int .i64 F), .raw (.int .i64 G), .raw (.int .i64 C)], .raw (.int .i64 v)] => some (.tup [I c, I 0], [primM F G C v = (c, 0)])
  | _ => none
def O13c (c : Int) : Orc := O9.add 13 (m13c c)
/-- RosterTurns at its loop -/
def tu1 (F G C v i : Int) (b0 b1 b2 b3 b4 b5 b6 b7 b8 b9 : Bool) : St :=
  mk 55 [(1, .d (I v)), (2, .ref 2 0), (5, .ref 5 0), (6, .d (I i))] [(2, ⟨23, [.d (I F), .d (I G), .d (I C)]⟩), (5, ⟨30, [.d (Bo b0), .d (Bo b1), .d (Bo b2), .d (Bo b3), .d (Bo b4), .d (Bo b5), .d (Bo b6), .d (Bo b7), .d (Bo b8), .d (Bo b9)]⟩)] []
end Go.Ros
