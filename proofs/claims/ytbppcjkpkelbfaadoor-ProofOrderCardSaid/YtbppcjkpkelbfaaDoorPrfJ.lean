/-
  Contracts of given functions, or plain laws that they need. No condition.
-/
import Derived.Test.YtbppcjkpkelbfaaDoorBlaG
import Derived.Test.YtbppcjkpkelbfaaDoorPrfE
namespace Go.Prf
open Go Go.Eng Go.Tab Go.Plc
set_option linter.unusedVariables false
def mFormed (cs : List Ca) (r : Int) : Mo
  | [.d (.list s k el)], [] => some (.d (.raw (.int .i64 r)), [], [s = 10, k = cs.length, el = caEl cs, cs.length ≤ 1099511627776 ∧ r = fmF [] cs 0])
  | _, _ => none
def mOrdered (L : List Ca) (ps : List Pt) (r : Int) : Mo
  | [.mp 0, .d (.list s k el)], [(0, .mp M)] => some (.d (.raw (.int .i64 r)), [(0, .mp (knowMp L))], [s = 5, k = ps.length, el = ptEl ps, M = knowMp L, ps.length ≤ 1099511627776 ∧ r = orF L [] 0 ps 0])
  | _, _ => none
def mTold (L : List Ca) (ps : List Pt) (r : Int) : Mo
  | [.mp 0, .d (.list s k el)], [(0, .mp M)] => some (.d (.raw (.int .i64 r)), [(0, .mp (knowMp L))], [s = 5, k = ps.length, el = ptEl ps, M = knowMp L, ps.length ≤ 1099511627776 ∧ SmallC L ∧ r = tdF L T0 ps 0])
  | _, _ => none
def mAnswered (cs : List Ca) (ps : List Pt) (r : Int) : Mo
  | [.d (.list s k el), .d (.list s2 k2 el2)], [] => some (.d (.raw (.int .i64 r)), [], [s = 10, k = cs.length, el = caEl cs, s2 = 5, k2 = ps.length, el2 = ptEl ps, cs.length ≤ 1099511627776 ∧ ps.length ≤ 1099511627776 ∧ r = awF (ps.reverse ++ []) cs 0])
  | _, _ => none
def K0 (cs L : List Ca) (ps : List Pt) (r1 r2 r3 r4 : Int) : Orc := ((((((Orc.none gB).add 40 false (mFormed cs r1)).add 42 false (mOrdered L ps r2)).add 43 false (mAnswered cs ps r3)).add 44 false (mTold L ps r4))).add 41 false mNmC
def ck1M (cs : List Ca) (ps : List Pt) (M : MapD) (n i : Int) : St := mk 0 57 [(0, .d (.list 10 cs.length (caEl cs))), (1, .d (.list 5 ps.length (ptEl ps))), (8, .mp 0), (28, .d (.list 10 cs.length (caEl cs))), (29, .d (.raw (.int .i64 n))), (30, .d (.raw (.int .i64 i)))] [(0, .mp M)]
def ck1 (cs L : List Ca) (ps : List Pt) (n i : Int) : St := ck1M cs ps (knowMp L) n i
end Go.Prf
