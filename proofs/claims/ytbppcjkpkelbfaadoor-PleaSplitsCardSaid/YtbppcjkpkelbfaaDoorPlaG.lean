/-
  Contracts of given functions, or plain laws that they need. No condition.
-/
import Derived.Test.YtbppcjkpkelbfaaDoorBlaG
import Derived.Test.YtbppcjkpkelbfaaDoorRowS
import Derived.Test.YtbppcjkpkelbfaaDoorEng0
namespace Go.Prf
open Go Go.Eng Go.Tab Go.Plc
set_option linter.unusedVariables false
def inS (s : Int) (c : Ca) : Bool := plc c.o.2.1 == s
structure Pm where
  h : D → Bool
  v : D → Int
  n : Nat
def plMp (m : Pm) : MapD := ⟨85, m.h, fun d => .raw (.int .i64 (m.v d)), m.n⟩
def pm0 : Pm := ⟨fun _ => false, fun _ => 0, 0⟩
def pmPut (m : Pm) (k : D) (x : Int) : Pm := ⟨fun d => keyEq d k || m.h d, fun d => match keyEq d k with | true => x | false => m.v d, match m.h k with | true => m.n | false => m.n + 1⟩
def pmStep (m : Pm) (c : Ca) : Pm := if m.h (nmD c.cl c.n) = true then m else pmPut m (nmD c.cl c.n) (plc c.o.2.1)
def pmGet (m : Pm) (cl nu : Int) : Int := if m.h (nmD cl nu) = true then m.v (nmD cl nu) else 0
def inP (m : Pm) (s : Int) (p : Pt) : Bool := pmGet m p.cl p.n == s
abbrev PartT := List Ca × List Pt
def paD (x : PartT) : D := .agg [.list 10 x.1.length (caEl x.1), .list 5 x.2.length (ptEl x.2)]
def paEl (l : List PartT) (i : Nat) : D := paD (l.getD i ([], []))
def partF (cs : List Ca) (ps : List Pt) (m : Pm) (s : Nat) : PartT := (cs.filter (inS s), ps.filter (inP m s))
def SmallK (L : List Ca) : Prop := ∀ c ∈ L, c.o.2.1.size ≤ 1073741824
def mPlcV (c : Int) : Mo
  | [.d (.raw (.string key))], [] => some (.d (.raw (.int .i64 c)), [], [plc key = c ∧ key.size ≤ 1073741824])
  | _, _ => none
def mS1 (r : Bool) : Mo
  | [.d (.agg [.raw (.int .i64 cl), .raw (.int .i64 nu), .raw (.int .i64 k), .raw (.string key), .raw (.string val), .raw (.string old), .raw (.int .i64 fr), .raw (.int .i64 to), .raw (.int .i64 er), .raw (.string v)]), .ref 0 0], [(0, .obj T [.d (.raw (.int .i64 s))])] => some (.d (.raw (.bool r)), [(0, .obj 3 [.d (.raw (.int .i64 s))])], [T = 3, (plc key == s) = r ∧ key.size ≤ 1073741824])
  | _, _ => none
def mS2 (m : Pm) (r : Bool) : Mo
  | [.d (.agg [.raw (.int .i64 at_), .raw (.int .i64 cl), .raw (.int .i64 nu), .raw (.int .i64 er), .raw (.string v)]), .ref 0 0, .ref 2 0], [(0, .obj A [.mp 1]), (1, .mp M), (2, .obj B [.d (.raw (.int .i64 s))])] => some (.d (.raw (.bool r)), [(0, .obj 83 [.mp 1]), (1, .mp (plMp m)), (2, .obj 3 [.d (.raw (.int .i64 s))])], [A = 83, M = plMp m, B = 3, (pmGet m cl nu == s) = r])
  | _, _ => none
def mPk1 (cs xs : List Ca) : Mo
  | [.d (.list z k el), .fn (.func f) [] [.ref 0 0]], [(0, .obj T [.d (.raw (.int .i64 s))])] => some (.d (.list 10 xs.length (caEl xs)), [(0, .obj 3 [.d (.raw (.int .i64 s))])], [z = 10, k = cs.length, el = caEl cs, f = 36, T = 3, cs.length ≤ 1000000 ∧ SmallK cs ∧ xs = cs.filter (inS s)])
  | _, _ => none
def mPk2 (ps xs : List Pt) (m : Pm) : Mo
  | [.d (.list z k el), .fn (.func f) [] [.ref 0 0, .ref 2 0]], [(0, .obj A [.mp 1]), (1, .mp M), (2, .obj B [.d (.raw (.int .i64 s))])] => some (.d (.list 5 xs.length (ptEl xs)), [(0, .obj 83 [.mp 1]), (1, .mp (plMp m)), (2, .obj 3 [.d (.raw (.int .i64 s))])], [z = 5, k = ps.length, el = ptEl ps, f = 38, A = 83, M = plMp m, B = 3, ps.length ≤ 1000000 ∧ xs = ps.filter (inP m s)])
  | _, _ => none
def L0 (c : Int) : Orc := (Orc.none Go.Bla.gl).add 34 false (mPlcV c)
def L1 (r : Bool) : Orc := (Orc.none Go.Bla.gl).add 36 false (mS1 r)
def L2 (m : Pm) (r : Bool) : Orc := (Orc.none Go.Bla.gl).add 38 false (mS2 m r)
def L3 (c : Int) (cs xs : List Ca) (ps ys : List Pt) (m : Pm) : Orc := ((L0 c).add 35 false (mPk1 cs xs)).add 37 false (mPk2 ps ys m)
def pk1 (cs acc : List Ca) (s n i : Int) : St := mk 1 23 [(1, .fn (.func 36) [] [.ref 0 0]), (5, .own 1), (8, .d (.list 10 cs.length (caEl cs))), (9, .d (.raw (.int .i64 (n)))), (10, .d (.raw (.int .i64 (i))))] [(0, .obj 3 [.d (.raw (.int .i64 s))]), (1, .row 51 10 acc.length (caEl acc))]
def pk2 (ps acc : List Pt) (m : Pm) (s n i : Int) : St := mk 3 23 [(1, .fn (.func 38) [] [.ref 0 0, .ref 2 0]), (5, .own 3), (8, .d (.list 5 ps.length (ptEl ps))), (9, .d (.raw (.int .i64 (n)))), (10, .d (.raw (.int .i64 (i))))] [(0, .obj 83 [.mp 1]), (1, .mp (plMp m)), (2, .obj 3 [.d (.raw (.int .i64 s))]), (3, .row 56 5 acc.length (ptEl acc))]
def sp1 (cs : List Ca) (ps : List Pt) (m : Pm) (n i : Int) : St := mk 0 64 [(0, .d (.list 10 cs.length (caEl cs))), (1, .d (.list 5 ps.length (ptEl ps))), (6, .ref 0 0), (23, .d (.list 10 cs.length (caEl cs))), (24, .d (.raw (.int .i64 (n)))), (25, .d (.raw (.int .i64 (i))))] [(0, .obj 83 [.mp 1]), (1, .mp (plMp m))]
def sp1M (cs : List Ca) (ps : List Pt) (M : MapD) (n i : Int) : St := mk 0 64 [(0, .d (.list 10 cs.length (caEl cs))), (1, .d (.list 5 ps.length (ptEl ps))), (6, .ref 0 0), (23, .d (.list 10 cs.length (caEl cs))), (24, .d (.raw (.int .i64 (n)))), (25, .d (.raw (.int .i64 (i))))] [(0, .obj 83 [.mp 1]), (1, .mp M)]
def sp2 (cs : List Ca) (ps : List Pt) (m : Pm) (acc : List PartT) (i : Int) : St := mk 0 64 [(0, .d (.list 10 cs.length (caEl cs))), (1, .d (.list 5 ps.length (ptEl ps))), (6, .ref 0 0), (12, .own 2), (49, .d (.raw (.int .i64 (i))))] [(0, .obj 83 [.mp 1]), (1, .mp (plMp m)), (2, .row 37 2 acc.length (paEl acc))]
end Go.Prf

namespace Go.Prf
open Go Go.Eng Go.Tab Go.Plc
set_option linter.unusedVariables false
def placeF (cl nu : Int) : List Ca → Int
  | [] => 0
  | c :: r => if (c.cl == cl && c.n == nu) = true then plc c.o.2.1 else placeF cl nu r
def inR (cs : List Ca) (s : Int) (p : Pt) : Bool := placeF p.cl p.n cs == s
def rpartF (cs : List Ca) (ps : List Pt) (s : Nat) : PartT := (cs.filter (inS s), ps.filter (inR cs s))
def ptC' (p : Pt) : List AV := [.d (.raw (.int .i64 p.at')), .d (.raw (.int .i64 p.cl)), .d (.raw (.int .i64 p.n)), .d (.raw (.int .i64 p.a.1)), .d (.raw (.string p.a.2))]
def mPlR (cs : List Ca) (d : Int) : Mo
  | [.d (.list z k el), .d (.agg [.raw (.int .i64 at_), .raw (.int .i64 cl), .raw (.int .i64 nu), .raw (.int .i64 er), .raw (.string v)])], [] => some (.d (.raw (.int .i64 d)), [], [z = 10, k = cs.length, el = caEl cs, cs.length ≤ 1000000 ∧ SmallK cs ∧ placeF cl nu cs = d])
  | _, _ => none
def M0 (c : Int) : Orc := (Orc.none Go.Bla.gl).add 33 false (mPlcV c)
def M1 (cs : List Ca) (c d : Int) : Orc := (M0 c).add 39 false (mPlR cs d)
def rp1 (p : Pt) (cs : List Ca) (n i : Int) : St := mk 0 30 [(3, .ref 0 0), (7, .d (.list 10 cs.length (caEl cs))), (8, .d (.raw (.int .i64 (n)))), (9, .d (.raw (.int .i64 (i))))] [(0, .obj 53 (ptC' p))]
def ru1 (cs : List Ca) (ps : List Pt) (acc : List PartT) (s : Int) : St := mk 0 59 [(0, .d (.list 10 cs.length (caEl cs))), (1, .d (.list 5 ps.length (ptEl ps))), (5, .own 0), (6, .d (.raw (.int .i64 (s))))] [(0, .row 39 2 acc.length (paEl acc))]
def ru2 (cs : List Ca) (ps : List Pt) (acc : List PartT) (s : Int) (xa : List Ca) (xb : List Pt) (n i : Int) : St := mk 0 59 [(0, .d (.list 10 cs.length (caEl cs))), (1, .d (.list 5 ps.length (ptEl ps))), (5, .own 0), (6, .d (.raw (.int .i64 (s)))), (7, .ref 1 0), (12, .d (.raw (.int .i64 (s)))), (17, .d (.list 10 cs.length (caEl cs))), (18, .d (.raw (.int .i64 (n)))), (19, .d (.raw (.int .i64 (i))))] [(0, .row 39 2 acc.length (paEl acc)), (1, .obj 39 [.own 2, .own 3]), (2, .row 45 10 xa.length (caEl xa)), (3, .row 53 5 xb.length (ptEl xb))]
def ru3 (cs : List Ca) (ps : List Pt) (acc : List PartT) (s : Int) (xa : List Ca) (xb : List Pt) (n i : Int) : St := mk 0 59 [(0, .d (.list 10 cs.length (caEl cs))), (1, .d (.list 5 ps.length (ptEl ps))), (5, .own 0), (6, .d (.raw (.int .i64 (s)))), (7, .ref 1 0), (12, .d (.raw (.int .i64 (s)))), (36, .d (.list 5 ps.length (ptEl ps))), (37, .d (.raw (.int .i64 (n)))), (38, .d (.raw (.int .i64 (i))))] [(0, .row 39 2 acc.length (paEl acc)), (1, .obj 39 [.own 2, .own 3]), (2, .row 45 10 xa.length (caEl xa)), (3, .row 53 5 xb.length (ptEl xb))]
end Go.Prf

namespace Go.Bla
open Go
abbrev tN (x : W) : Int := (x.toNat : Int)
abbrev tL (x0 x1 x2 x3 x4 x5 x6 x7 x8 x9 x10 x11 x12 x13 x14 x15 : W) : List Int := [tN x0, tN x1, tN x2, tN x3, tN x4, tN x5, tN x6, tN x7, tN x8, tN x9, tN x10, tN x11, tN x12, tN x13, tN x14, tN x15]
abbrev b64 (b : Nat → Int) : List Go.Eng.D := [Go.Eng.D.raw (Value.int IntKind.u8 (b 0)), Go.Eng.D.raw (Value.int IntKind.u8 (b 1)), Go.Eng.D.raw (Value.int IntKind.u8 (b 2)), Go.Eng.D.raw (Value.int IntKind.u8 (b 3)), Go.Eng.D.raw (Value.int IntKind.u8 (b 4)), Go.Eng.D.raw (Value.int IntKind.u8 (b 5)), Go.Eng.D.raw (Value.int IntKind.u8 (b 6)), Go.Eng.D.raw (Value.int IntKind.u8 (b 7)), Go.Eng.D.raw (Value.int IntKind.u8 (b 8)), Go.Eng.D.raw (Value.int IntKind.u8 (b 9)), Go.Eng.D.raw (Value.int IntKind.u8 (b 10)), Go.Eng.D.raw (Value.int IntKind.u8 (b 11)), Go.Eng.D.raw (Value.int IntKind.u8 (b 12)), Go.Eng.D.raw (Value.int IntKind.u8 (b 13)), Go.Eng.D.raw (Value.int IntKind.u8 (b 14)), Go.Eng.D.raw (Value.int IntKind.u8 (b 15)), Go.Eng.D.raw (Value.int IntKind.u8 (b 16)), Go.Eng.D.raw (Value.int IntKind.u8 (b 17)), Go.Eng.D.raw (Value.int IntKind.u8 (b 18)), Go.Eng.D.raw (Value.int IntKind.u8 (b 19)), Go.Eng.D.raw (Value.int IntKind.u8 (b 20)), Go.Eng.D.raw (Value.int IntKind.u8 (b 21)), Go.Eng.D.raw (Value.int IntKind.u8 (b 22)), Go.Eng.D.raw (Value.int IntKind.u8 (b 23)), Go.Eng.D.raw (Value.int IntKind.u8 (b 24)), Go.Eng.D.raw (Value.int IntKind.u8 (b 25)), Go.Eng.D.raw (Value.int IntKind.u8 (b 26)), Go.Eng.D.raw (Value.int IntKind.u8 (b 27)), Go.Eng.D.raw (Value.int IntKind.u8 (b 28)), Go.Eng.D.raw (Value.int IntKind.u8 (b 29)), Go.Eng.D.raw (Value.int IntKind.u8 (b 30)), Go.Eng.D.raw (Value.int IntKind.u8 (b 31)), Go.Eng.D.raw (Value.int IntKind.u8 (b 32)), Go.Eng.D.raw (Value.int IntKind.u8 (b 33)), Go.Eng.D.raw (Value.int IntKind.u8 (b 34)), Go.Eng.D.raw (Value.int IntKind.u8 (b 35)), Go.Eng.D.raw (Value.int IntKind.u8 (b 36)), Go.Eng.D.raw (Value.int IntKind.u8 (b 37)), Go.Eng.D.raw (Value.int IntKind.u8 (b 38)), Go.Eng.D.raw (Value.int IntKind.u8 (b 39)), Go.Eng.D.raw (Value.int IntKind.u8 (b 40)), Go.Eng.D.raw (Value.int IntKind.u8 (b 41)), Go.Eng.D.raw (Value.int IntKind.u8 (b 42)), Go.Eng.D.raw (Value.int IntKind.u8 (b 43)), Go.Eng.D.raw (Value.int IntKind.u8 (b 44)), Go.Eng.D.raw (Value.int IntKind.u8 (b 45)), Go.Eng.D.raw (Value.int IntKind.u8 (b 46)), Go.Eng.D.raw (Value.int IntKind.u8 (b 47)), Go.Eng.D.raw (Value.int IntKind.u8 (b 48)), Go.Eng.D.raw (Value.int IntKind.u8 (b 49)), Go.Eng.D.raw (Value.int IntKind.u8 (b 50)), Go.Eng.D.raw (Value.int IntKind.u8 (b 51)), Go.Eng.D.raw (Value.int IntKind.u8 (b 52)), Go.Eng.D.raw (Value.int IntKind.u8 (b 53)), Go.Eng.D.raw (Value.int IntKind.u8 (b 54)), Go.Eng.D.raw (Value.int IntKind.u8 (b 55)), Go.Eng.D.raw (Value.int IntKind.u8 (b 56)), Go.Eng.D.raw (Value.int IntKind.u8 (b 57)), Go.Eng.D.raw (Value.int IntKind.u8 (b 58)), Go.Eng.D.raw (Value.int IntKind.u8 (b 59)), Go.Eng.D.raw (Value.int IntKind.u8 (b 60)), Go.Eng.D.raw (Value.int IntKind.u8 (b 61)), Go.Eng.D.raw (Value.int IntKind.u8 (b 62)), Go.Eng.D.raw (Value.int IntKind.u8 (b 63))]
abbrev bI (x : Int) : BitVec 32 := BitVec.ofInt 32 x
abbrev wU (x : Int) : Int := IntKind.u32.wrap x
abbrev tH (h0 h1 h2 h3 h4 h5 h6 h7 : W) : List W := List.map unw [tN h0, tN h1, tN h2, tN h3, tN h4, tN h5, tN h6, tN h7]
end Go.Bla
