/-
  Contracts of given functions, or plain laws that they need. No condition.
-/
import Derived.Test.YtbppcjkpkelbfaaDoorPlaG
import Derived.Test.YtbppcjkpkelbfaaDoorPlbB
namespace Go.Prf
open Go Go.Eng Go.Tab Go.Plc
set_option linter.unusedVariables false
def pC : Ca := ⟨0, 1, (2, ⟨#[107]⟩, ⟨#[]⟩, ⟨#[]⟩), 2, -1, (0, ⟨#[]⟩)⟩
def lgF : Int → List Ca → Bool → Bool
  | _, [], b => b
  | m, c :: r, b => if m + c.o.2.1.size > 5000 then true else lgF (m + c.o.2.1.size) r b
def lgM (cs : List Ca) (ps : List Pt) : Bool := lgF 0 cs (decide ((cs.length : Int) > 80) || decide ((ps.length : Int) > 80))
def SmallW (L : List Ca) : Prop := ∀ c ∈ L, c.o.2.1.size ≤ 140737488351232
def mCall : Mo
  | [.d (.agg [.raw (.int .i64 cl), .raw (.int .i64 nu), .raw (.int .i64 k), .raw (.string key), .raw (.string val), .raw (.string old), .raw (.int .i64 fr), .raw (.int .i64 to), .raw (.int .i64 er), .raw (.string v)])], [] => some (.d (.agg [.raw (.int .i64 cl), .raw (.int .i64 nu), .raw (.int .i64 k), .raw (.string key), .raw (.string val), .raw (.string old), .raw (.int .i64 fr), .raw (.int .i64 to), .raw (.int .i64 er), .raw (.string v)]), [], [])
  | _, _ => none
def mPoint : Mo
  | [.d (.agg [.raw (.int .i64 at_), .raw (.int .i64 cl), .raw (.int .i64 nu), .raw (.int .i64 er), .raw (.string v)])], [] => some (.d (.agg [.raw (.int .i64 at_), .raw (.int .i64 cl), .raw (.int .i64 nu), .raw (.int .i64 er), .raw (.string v)]), [], [])
  | _, _ => none
def mLong : Mo
  | [.d (.agg [.raw (.int .i64 cl), .raw (.int .i64 nu), .raw (.int .i64 k), .raw (.string key), .raw (.string val), .raw (.string old), .raw (.int .i64 fr), .raw (.int .i64 to), .raw (.int .i64 er), .raw (.string v)]), .d (.raw (.int .i64 now))], [] => some (.d (.raw (.int .i64 7)), [], [(cl == 0 && nu == 1 && k == 2 && fr == 2 && to == -1 && er == 0 && now == 9) = true, key = pC.o.2.1, val = pC.o.2.2.1, old = pC.o.2.2.2, v = pC.a.2])
  | _, _ => none
def mIdC2 (cs : List Ca) : Mo
  | [.d (.list s k el)], [] => some (.d (.list 10 cs.length (caEl cs)), [], [s = 10, k = cs.length, el = caEl cs, cs.length ≤ 1000000])
  | _, _ => none
def mIdP2 (ps : List Pt) : Mo
  | [.d (.list s k el)], [] => some (.d (.list 5 ps.length (ptEl ps)), [], [s = 5, k = ps.length, el = ptEl ps, ps.length ≤ 1000000])
  | _, _ => none
def mSplP (l : List PartT) : Mo
  | [.d (.list z k el), .d (.raw (.slice none 0 0))], [] => some (.tup [.d (.list 2 4 (paEl l)), .d (.raw (.int .i64 0))], [], [z = 10 ∧ k = 1, el 0 = caD pC, l = partsF [pC] [] (pmOf [pC])])
  | _, _ => none
def mLgst : Mo
  | [.d (.list z k el), .d (.raw (.int .i64 n))], [] => some (.tup [.d (.raw (.int .i64 0)), .d (.raw (.int .i64 7))], [], [z = 10 ∧ k = 1 ∧ n = 9, el 0 = caD pC])
  | _, _ => none
def mOpen : Mo
  | [.d (.list z k el)], [] => some (.d (.list 1 1 (fun _ => .raw (.int .i64 0))), [], [z = 10 ∧ k = 1, el 0 = caD pC])
  | _, _ => none
def mSpl (cs : List Ca) (ps : List Pt) (l : List PartT) : Mo
  | [.d (.list z k el), .d (.list z2 k2 el2)], [] => some (.tup [.d (.list 2 4 (paEl l)), .d (.raw (.int .i64 0))], [], [z = 10, k = cs.length, el = caEl cs, z2 = 5, k2 = ps.length, el2 = ptEl ps, cs.length ≤ 2000 ∧ ps.length ≤ 2000 ∧ SmallK cs ∧ l = rpartsF cs ps])
  | _, _ => none
def mRSpl (cs : List Ca) (ps : List Pt) (l : List PartT) : Mo
  | [.d (.list z k el), .d (.list z2 k2 el2)], [] => some (.d (.list 2 4 (paEl l)), [], [z = 10, k = cs.length, el = caEl cs, z2 = 5, k2 = ps.length, el2 = ptEl ps, cs.length ≤ 2000 ∧ ps.length ≤ 2000 ∧ SmallK cs ∧ l = rpartsF cs ps])
  | _, _ => none
def mLarge (cs : List Ca) (ps : List Pt) (r : Bool) : Mo
  | [.d (.list z k el), .d (.list z2 k2 el2)], [] => some (.d (.raw (.bool r)), [], [z = 10, k = cs.length, el = caEl cs, z2 = 5, k2 = ps.length, el2 = ptEl ps, SmallW cs ∧ cs.length ≤ 9223372036854775807 ∧ lgM cs ps = r])
  | _, _ => none
def mParts : Mo
  | [], [] => some (.d (.raw (.bool true)), [], [])
  | _, _ => none
def O1 : Orc := (Orc.none gB).add 16 false mCall
def O2 : Orc := (Orc.none gB).add 17 false mPoint
def O3 : Orc := (Orc.none gB).add 52 false mLong
def O4 (l : List PartT) (c : Int) : Orc := ((((Orc.none gB).add 12 true (mSplP l)).add 31 true mLgst).add 32 true mOpen).add 33 false (mPlcV c)
def O5 (cs : List Ca) (ps : List Pt) (l : List PartT) (r : Bool) : Orc := ((((((((Orc.none gB).add 12 false (mSpl cs ps l)).add 13 false (mRSpl cs ps l)).add 10 false (mLarge cs ps r)).add 14 false (mIdC2 cs)).add 15 false (mIdP2 ps)).add 11 false mParts).add 16 false mCall).add 17 false mPoint
def cl1 (cs acc : List Ca) (n i : Int) : St := mk 0 19 [(3, .own 0), (6, .d (.list 10 cs.length (caEl cs))), (7, .d (.raw (.int .i64 (n)))), (8, .d (.raw (.int .i64 (i))))] [(0, .row 45 10 acc.length (caEl acc))]
def pl1 (ps acc : List Pt) (n i : Int) : St := mk 0 19 [(3, .own 0), (6, .d (.list 5 ps.length (ptEl ps))), (7, .d (.raw (.int .i64 (n)))), (8, .d (.raw (.int .i64 (i))))] [(0, .row 53 5 acc.length (ptEl acc))]
def lg1 (cs : List Ca) (ps : List Pt) (m n i : Int) : St := mk 0 31 [(0, .d (.list 10 cs.length (caEl cs))), (1, .d (.list 5 ps.length (ptEl ps))), (5, .d (.raw (.int .i64 (m)))), (8, .d (.list 10 cs.length (caEl cs))), (9, .d (.raw (.int .i64 (n)))), (10, .d (.raw (.int .i64 (i))))] []
def ls1 (l : List PartT) (i : Int) : St := mk 0 124 [(5, .d (.list 2 4 (paEl l))), (7, .d (.list 2 4 (paEl l))), (34, .d (.raw (.int .i64 (4)))), (35, .d (.raw (.int .i64 (i))))] []
def ls2 (l : List PartT) (i m j : Int) : St := mk 0 124 [(5, .d (.list 2 4 (paEl l))), (7, .d (.list 2 4 (paEl l))), (8, .d (.raw (.int .i64 (i)))), (34, .d (.raw (.int .i64 (4)))), (35, .d (.raw (.int .i64 (i)))), (71, .d (.raw (.int .i64 (m)))), (72, .d (.raw (.int .i64 (j))))] []
def ls3 (l : List PartT) (i m j : Int) : St := mk 0 124 [(5, .d (.list 2 4 (paEl l))), (7, .d (.list 2 4 (paEl l))), (8, .d (.raw (.int .i64 (i)))), (34, .d (.raw (.int .i64 (4)))), (35, .d (.raw (.int .i64 (i)))), (99, .d (.raw (.int .i64 (m)))), (100, .d (.raw (.int .i64 (j))))] []
end Go.Prf
