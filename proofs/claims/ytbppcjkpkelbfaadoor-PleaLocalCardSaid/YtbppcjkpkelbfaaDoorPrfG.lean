/-
  Contracts of given functions, plain laws. No condition.
-/
import Derived.Test.YtbppcjkpkelbfaaDoorRowS
import Derived.Test.YtbppcjkpkelbfaaDoorEng0
import Derived.Test.YtbppcjkpkelbfaaDoorProg
namespace Go.Prf
open Go Go.Eng Go.Tab Go.Plc
abbrev Mo := List AV → List (Nat × Th) → Option (AV × List (Nat × Th) × List Prop)
abbrev gz0 : Nat → Option (List D) := fun _ => none
abbrev OpT := Int × ByteArray × ByteArray × ByteArray
def opD (o : OpT) : D := .agg [.raw (.int .i64 o.1), .raw (.string o.2.1), .raw (.string o.2.2.1), .raw (.string o.2.2.2)]
def noOp : OpT := (0, ByteArray.empty, ByteArray.empty, ByteArray.empty)
abbrev An := Int × ByteArray
def anD (a : An) : D := .agg [.raw (.int .i64 a.1), .raw (.string a.2)]
structure Ca where
 cl : Int
 n : Int
 o : OpT
 fr : Int
 to : Int
 a : An
def noCa : Ca := ⟨0, 0, noOp, 0, 0, (0, ByteArray.empty)⟩
def caD (c : Ca) : D := .agg [.raw (.int .i64 c.cl), .raw (.int .i64 c.n), .raw (.int .i64 c.o.1), .raw (.string c.o.2.1), .raw (.string c.o.2.2.1), .raw (.string c.o.2.2.2), .raw (.int .i64 c.fr), .raw (.int .i64 c.to), .raw (.int .i64 c.a.1), .raw (.string c.a.2)]
def caEl (l : List Ca) (i : Nat) : D := caD (l.getD i noCa)
structure Pt where
 at' : Int
 cl : Int
 n : Int
 a : An
def noPt : Pt := ⟨0, 0, 0, (0, ByteArray.empty)⟩
def ptD (p : Pt) : D := .agg [.raw (.int .i64 p.at'), .raw (.int .i64 p.cl), .raw (.int .i64 p.n), .raw (.int .i64 p.a.1), .raw (.string p.a.2)]
def ptEl (l : List Pt) (i : Nat) : D := ptD (l.getD i noPt)
structure T4 where
 a : List Rw
 b : List Rw
 c : List Rw
 d : List Rw
def rfs : AV := .agg [.ref 0 0, .ref 2 0, .ref 4 0, .ref 6 0]
def tobj (k : Nat) : Th := .obj 145 [.own k]
def trow (l : List Rw) : Th := .row 148 2 l.length (rowEl l)
def tabs (T : T4) : List (Nat × Th) := [(0, tobj 1), (1, trow T.a), (2, tobj 3), (3, trow T.b), (4, tobj 5), (5, trow T.c), (6, tobj 7), (7, trow T.d)]
def mTN : Mo
 | [], [] => some (.ref 0 0, tab0 [], [])
 | _, _ => none
def mDoV (l : List Rw) (v : ByteArray) (e : Int) (l2 : List Rw) : Mo
 | [.ref 0 0, .d (.agg [.raw (.int .i64 k), .raw (.string key), .raw (.string val), .raw (.string old)])], [(0, .obj T [.own 1]), (1, .row R 2 n el)] => some (.tup [.d (.raw (.string v)), .d (.raw (.int .i64 e))], tab2 l2, [T = 145, R = 148, n = l.length, el = rowEl l, Tidy l ∧ v = (doM l k key val old).1 ∧ e = (doM l k key val old).2.1 ∧ l2 = (doM l k key val old).2.2])
 | _, _ => none
def mPlcC (c : Int) : Mo
 | [.d (.raw (.string key))], [] => some (.d (.raw (.int .i64 c)), [], [plc key = c ∧ key.size ≤ 1073741824])
 | _, _ => none
def A0 : Orc := (Orc.none gz0).add 58 false mTN
def A1 (c : Int) (l : List Rw) (v : ByteArray) (e : Int) (l2 : List Rw) : Orc := ((Orc.none Go.Bla.gl).add 34 false (mPlcC c)).add 59 false (mDoV l v e l2)
def pickT (T : T4) (c : Int) : List Rw := if c = 0 then T.a else if c = 1 then T.b else if c = 2 then T.c else T.d
def putT (T : T4) (c : Int) (l : List Rw) : T4 := if c = 0 then ⟨l, T.b, T.c, T.d⟩ else if c = 1 then ⟨T.a, l, T.c, T.d⟩ else if c = 2 then ⟨T.a, T.b, l, T.d⟩ else ⟨T.a, T.b, T.c, l⟩
def resM (T : T4) (o : OpT) : ByteArray × Int × List Rw := doM (pickT T (plc o.2.1)) o.1 o.2.1 o.2.2.1 o.2.2.2
def tellM (T : T4) (o : OpT) : An := ((resM T o).2.1, (resM T o).1)
def nextT (T : T4) (o : OpT) : T4 := putT T (plc o.2.1) (resM T o).2.2
structure TidyT (T : T4) : Prop where
 a : Tidy T.a
 b : Tidy T.b
 c : Tidy T.c
 d : Tidy T.d
def tabsU (T : T4) : List (Nat × Th) := [(0, tobj 8), (2, tobj 9), (4, tobj 10), (6, tobj 11), (8, trow T.a), (9, trow T.b), (10, trow T.c), (11, trow T.d)]
def T0 : T4 := ⟨[], [], [], []⟩
def mNT : Mo
 | [], [] => some (rfs, tabs T0, [])
 | _, _ => none
def mTell (T T' : T4) (e : Int) (v : ByteArray) : Mo
 | [.agg [.ref 0 0, .ref 2 0, .ref 4 0, .ref 6 0], .d (.agg [.raw (.int .i64 k), .raw (.string key), .raw (.string val), .raw (.string old)])], [(0, .obj C1 [.own 1]), (1, .row R1 2 n1 l1), (2, .obj C2 [.own 3]), (3, .row R2 2 n2 l2), (4, .obj C3 [.own 5]), (5, .row R3 2 n3 l3), (6, .obj C4 [.own 7]), (7, .row R4 2 n4 l4)] =>
  some (.d (.agg [.raw (.int .i64 e), .raw (.string v)]), tabsU T', [(C1 == 145 && C2 == C1 && C3 == C1 && C4 == C1 && R1 == 148 && R2 == R1 && R3 == R1 && R4 == R1) = true, n1 = T.a.length, l1 = rowEl T.a, n2 = T.b.length, l2 = rowEl T.b, n3 = T.c.length, l3 = rowEl T.c, n4 = T.d.length, l4 = rowEl T.d, TidyT T ∧ (e, v) = tellM T (k, key, val, old) ∧ T' = nextT T (k, key, val, old) ∧ key.size ≤ 1073741824])
 | _, _ => none
def gB : Nat → Option (List D) := Go.Bla.gl
def A2 (T T' : T4) (e : Int) (v : ByteArray) : Orc := ((Orc.none Go.Bla.gl).add 50 false mNT).add 51 false (mTell T T' e v)
def nmD (c n : Int) : D := .agg [.raw (.int .i64 c), .raw (.int .i64 n)]
def hasC (L : List Ca) (d : D) : Bool := L.any fun c => keyEq d (.raw (.int .i64 c.cl))
def getC (L : List Ca) (d : D) : Ca := (L.find? fun c => keyEq d (.raw (.int .i64 c.cl))).getD noCa
def lenC : List Ca → Nat
 | [] => 0
 | c :: r => match hasC r (.raw (.int .i64 c.cl)) with | true => lenC r | false => lenC r + 1
def lastMp (L : List Ca) : MapD := ⟨3, fun d => hasC L d, fun d => caD (getC L d), lenC L⟩
def hasN (L : List Ca) (d : D) : Bool := L.any fun c => keyEq d (nmD c.cl c.n)
def getN (L : List Ca) (d : D) : Ca := (L.find? fun c => keyEq d (nmD c.cl c.n)).getD noCa
def lenN : List Ca → Nat
 | [] => 0
 | c :: r => match hasN r (nmD c.cl c.n) with | true => lenN r | false => lenN r + 1
def knowMp (L : List Ca) : MapD := ⟨95, fun d => hasN L d, fun d => caD (getN L d), lenN L⟩
def hasS (L : List Pt) (d : D) : Bool := L.any fun c => keyEq d (nmD c.cl c.n)
def lenS : List Pt → Nat
 | [] => 0
 | c :: r => match hasS r (nmD c.cl c.n) with | true => lenS r | false => lenS r + 1
def seenMp (L : List Pt) : MapD := ⟨95, fun d => hasS L d, fun _ => .raw (.bool true), lenS L⟩
def mChk : Mo
 | [.d (.agg [.raw (.int .i64 k), .raw (.string key), .raw (.string val), .raw (.string old)])], [] => some (.d (.raw (.int .i64 (checkM k key val old))), [], [])
 | _, _ => none
def mNmC : Mo
 | [.d (.agg [.raw (.int .i64 c), .raw (.int .i64 n), .raw (.int .i64 k), .raw (.string key), .raw (.string val), .raw (.string old), .raw (.int .i64 fr), .raw (.int .i64 to), .raw (.int .i64 er), .raw (.string v)])], [] => some (.d (nmD c n), [], [])
 | _, _ => none
def mNmP : Mo
 | [.d (.agg [.raw (.int .i64 m), .raw (.int .i64 c), .raw (.int .i64 n), .raw (.int .i64 er), .raw (.string v)])], [] => some (.d (nmD c n), [], [])
 | _, _ => none
def B0 : Orc := (Orc.none gz0).add 23 false mChk
def B1 : Orc := ((Orc.none gz0).add 41 false mNmC).add 55 false mNmP
def B2 (T T' : T4) (e : Int) (v : ByteArray) : Orc := (A2 T T' e v).add 55 false mNmP
end Go.Prf

namespace Go.Prf
open Go Go.Eng Go.Tab Go.Plc
def inS (s : Int) (c : Ca) : Bool := plc c.o.2.1 == s
structure Pm where
 h : D → Bool
 v : D → Int
 n : Nat
def plMp (m : Pm) : MapD := ⟨85, m.h, fun d => .raw (.int .i64 (m.v d)), m.n⟩
def pm0 : Pm := ⟨fun _ => false, fun _ => 0, 0⟩
def pmPut (m : Pm) (k : D) (x : Int) : Pm := ⟨fun d => keyEq d k || m.h d, fun d => match keyEq d k with | true => x | false => m.v d, match m.h k with | true => m.n | false => m.n + 1⟩
def pmStep (m : Pm) (c : Ca) : Pm := if m.h (nmD c.cl c.n) = true then m else pmPut m (nmD c.cl c.n) (plc c.o.2.1)
def pmGet (m : Pm) (cl nu : Int) : Int := if m.h (nmD cl nu) = true then m.v (nmD cl nu) else 0
def inP (m : Pm) (s : Int) (p : Pt) : Bool := pmGet m p.cl p.n == s
abbrev PartT := List Ca × List Pt
def paD (x : PartT) : D := .agg [.list 10 x.1.length (caEl x.1), .list 5 x.2.length (ptEl x.2)]
def paEl (l : List PartT) (i : Nat) : D := paD (l.getD i ([], []))
def partF (cs : List Ca) (ps : List Pt) (m : Pm) (s : Nat) : PartT := (cs.filter (inS s), ps.filter (inP m s))
def SmallK (L : List Ca) : Prop := ∀ c ∈ L, c.o.2.1.size ≤ 1073741824
def mPlcV (c : Int) : Mo
 | [.d (.raw (.string key))], [] => some (.d (.raw (.int .i64 c)), [], [plc key = c ∧ key.size ≤ 1073741824])
 | _, _ => none
def mS1 (r : Bool) : Mo
 | [.d (.agg [.raw (.int .i64 cl), .raw (.int .i64 nu), .raw (.int .i64 k), .raw (.string key), .raw (.string val), .raw (.string old), .raw (.int .i64 fr), .raw (.int .i64 to), .raw (.int .i64 er), .raw (.string v)]), .ref 0 0], [(0, .obj T [.d (.raw (.int .i64 s))])] => some (.d (.raw (.bool r)), [(0, .obj 3 [.d (.raw (.int .i64 s))])], [T = 3, (plc key == s) = r ∧ key.size ≤ 1073741824])
 | _, _ => none
def mS2 (m : Pm) (r : Bool) : Mo
 | [.d (.agg [.raw (.int .i64 at_), .raw (.int .i64 cl), .raw (.int .i64 nu), .raw (.int .i64 er), .raw (.string v)]), .ref 0 0, .ref 2 0], [(0, .obj A [.mp 1]), (1, .mp M), (2, .obj B [.d (.raw (.int .i64 s))])] => some (.d (.raw (.bool r)), [(0, .obj 83 [.mp 1]), (1, .mp (plMp m)), (2, .obj 3 [.d (.raw (.int .i64 s))])], [A = 83, M = plMp m, B = 3, (pmGet m cl nu == s) = r])
 | _, _ => none
def mPk1 (cs xs : List Ca) : Mo
 | [.d (.list z k el), .fn (.func f) [] [.ref 0 0]], [(0, .obj T [.d (.raw (.int .i64 s))])] => some (.d (.list 10 xs.length (caEl xs)), [(0, .obj 3 [.d (.raw (.int .i64 s))])], [z = 10, k = cs.length, el = caEl cs, f = 36, T = 3, cs.length ≤ 1000000 ∧ SmallK cs ∧ xs = cs.filter (inS s)])
 | _, _ => none
def mPk2 (ps xs : List Pt) (m : Pm) : Mo
 | [.d (.list z k el), .fn (.func f) [] [.ref 0 0, .ref 2 0]], [(0, .obj A [.mp 1]), (1, .mp M), (2, .obj B [.d (.raw (.int .i64 s))])] => some (.d (.list 5 xs.length (ptEl xs)), [(0, .obj 83 [.mp 1]), (1, .mp (plMp m)), (2, .obj 3 [.d (.raw (.int .i64 s))])], [z = 5, k = ps.length, el = ptEl ps, f = 38, A = 83, M = plMp m, B = 3, ps.length ≤ 1000000 ∧ xs = ps.filter (inP m s)])
 | _, _ => none
def L0 (c : Int) : Orc := (Orc.none Go.Bla.gl).add 34 false (mPlcV c)
def L1 (r : Bool) : Orc := (Orc.none Go.Bla.gl).add 36 false (mS1 r)
def L2 (m : Pm) (r : Bool) : Orc := (Orc.none Go.Bla.gl).add 38 false (mS2 m r)
def L3 (c : Int) (cs xs : List Ca) (ps ys : List Pt) (m : Pm) : Orc := ((L0 c).add 35 false (mPk1 cs xs)).add 37 false (mPk2 ps ys m)
def pk1 (cs acc : List Ca) (s n i : Int) : St := mk 1 23 [(1, .fn (.func 36) [] [.ref 0 0]), (5, .own 1), (8, .d (.list 10 cs.length (caEl cs))), (9, .d (.raw (.int .i64 (n)))), (10, .d (.raw (.int .i64 (i))))] [(0, .obj 3 [.d (.raw (.int .i64 s))]), (1, .row 51 10 acc.length (caEl acc))]
def pk2 (ps acc : List Pt) (m : Pm) (s n i : Int) : St := mk 3 23 [(1, .fn (.func 38) [] [.ref 0 0, .ref 2 0]), (5, .own 3), (8, .d (.list 5 ps.length (ptEl ps))), (9, .d (.raw (.int .i64 (n)))), (10, .d (.raw (.int .i64 (i))))] [(0, .obj 83 [.mp 1]), (1, .mp (plMp m)), (2, .obj 3 [.d (.raw (.int .i64 s))]), (3, .row 56 5 acc.length (ptEl acc))]
def sp1 (cs : List Ca) (ps : List Pt) (m : Pm) (n i : Int) : St := mk 0 64 [(0, .d (.list 10 cs.length (caEl cs))), (1, .d (.list 5 ps.length (ptEl ps))), (6, .ref 0 0), (23, .d (.list 10 cs.length (caEl cs))), (24, .d (.raw (.int .i64 (n)))), (25, .d (.raw (.int .i64 (i))))] [(0, .obj 83 [.mp 1]), (1, .mp (plMp m))]
def sp1M (cs : List Ca) (ps : List Pt) (M : MapD) (n i : Int) : St := mk 0 64 [(0, .d (.list 10 cs.length (caEl cs))), (1, .d (.list 5 ps.length (ptEl ps))), (6, .ref 0 0), (23, .d (.list 10 cs.length (caEl cs))), (24, .d (.raw (.int .i64 (n)))), (25, .d (.raw (.int .i64 (i))))] [(0, .obj 83 [.mp 1]), (1, .mp M)]
def sp2 (cs : List Ca) (ps : List Pt) (m : Pm) (acc : List PartT) (i : Int) : St := mk 0 64 [(0, .d (.list 10 cs.length (caEl cs))), (1, .d (.list 5 ps.length (ptEl ps))), (6, .ref 0 0), (12, .own 2), (49, .d (.raw (.int .i64 (i))))] [(0, .obj 83 [.mp 1]), (1, .mp (plMp m)), (2, .row 37 2 acc.length (paEl acc))]
end Go.Prf

namespace Go.Prf
open Go Go.Eng Go.Tab Go.Plc
def placeF (cl nu : Int) : List Ca → Int
 | [] => 0
 | c :: r => if (c.cl == cl && c.n == nu) = true then plc c.o.2.1 else placeF cl nu r
def inR (cs : List Ca) (s : Int) (p : Pt) : Bool := placeF p.cl p.n cs == s
def rpartF (cs : List Ca) (ps : List Pt) (s : Nat) : PartT := (cs.filter (inS s), ps.filter (inR cs s))
end Go.Prf

namespace Go.Bla
open Go
abbrev tN (x : W) : Int := (x.toNat : Int)
abbrev tL (x0 x1 x2 x3 x4 x5 x6 x7 x8 x9 x10 x11 x12 x13 x14 x15 : W) : List Int := [tN x0, tN x1, tN x2, tN x3, tN x4, tN x5, tN x6, tN x7, tN x8, tN x9, tN x10, tN x11, tN x12, tN x13, tN x14, tN x15]
abbrev b64 (b : Nat → Int) : List Go.Eng.D := [Go.Eng.D.raw (Value.int IntKind.u8 (b 0)), Go.Eng.D.raw (Value.int IntKind.u8 (b 1)), Go.Eng.D.raw (Value.int IntKind.u8 (b 2)), Go.Eng.D.raw (Value.int IntKind.u8 (b 3)), Go.Eng.D.raw (Value.int IntKind.u8 (b 4)), Go.Eng.D.raw (Value.int IntKind.u8 (b 5)), Go.Eng.D.raw (Value.int IntKind.u8 (b 6)), Go.Eng.D.raw (Value.int IntKind.u8 (b 7)), Go.Eng.D.raw (Value.int IntKind.u8 (b 8)), Go.Eng.D.raw (Value.int IntKind.u8 (b 9)), Go.Eng.D.raw (Value.int IntKind.u8 (b 10)), Go.Eng.D.raw (Value.int IntKind.u8 (b 11)), Go.Eng.D.raw (Value.int IntKind.u8 (b 12)), Go.Eng.D.raw (Value.int IntKind.u8 (b 13)), Go.Eng.D.raw (Value.int IntKind.u8 (b 14)), Go.Eng.D.raw (Value.int IntKind.u8 (b 15)), Go.Eng.D.raw (Value.int IntKind.u8 (b 16)), Go.Eng.D.raw (Value.int IntKind.u8 (b 17)), Go.Eng.D.raw (Value.int IntKind.u8 (b 18)), Go.Eng.D.raw (Value.int IntKind.u8 (b 19)), Go.Eng.D.raw (Value.int IntKind.u8 (b 20)), Go.Eng.D.raw (Value.int IntKind.u8 (b 21)), Go.Eng.D.raw (Value.int IntKind.u8 (b 22)), Go.Eng.D.raw (Value.int IntKind.u8 (b 23)), Go.Eng.D.raw (Value.int IntKind.u8 (b 24)), Go.Eng.D.raw (Value.int IntKind.u8 (b 25)), Go.Eng.D.raw (Value.int IntKind.u8 (b 26)), Go.Eng.D.raw (Value.int IntKind.u8 (b 27)), Go.Eng.D.raw (Value.int IntKind.u8 (b 28)), Go.Eng.D.raw (Value.int IntKind.u8 (b 29)), Go.Eng.D.raw (Value.int IntKind.u8 (b 30)), Go.Eng.D.raw (Value.int IntKind.u8 (b 31)), Go.Eng.D.raw (Value.int IntKind.u8 (b 32)), Go.Eng.D.raw (Value.int IntKind.u8 (b 33)), Go.Eng.D.raw (Value.int IntKind.u8 (b 34)), Go.Eng.D.raw (Value.int IntKind.u8 (b 35)), Go.Eng.D.raw (Value.int IntKind.u8 (b 36)), Go.Eng.D.raw (Value.int IntKind.u8 (b 37)), Go.Eng.D.raw (Value.int IntKind.u8 (b 38)), Go.Eng.D.raw (Value.int IntKind.u8 (b 39)), Go.Eng.D.raw (Value.int IntKind.u8 (b 40)), Go.Eng.D.raw (Value.int IntKind.u8 (b 41)), Go.Eng.D.raw (Value.int IntKind.u8 (b 42)), Go.Eng.D.raw (Value.int IntKind.u8 (b 43)), Go.Eng.D.raw (Value.int IntKind.u8 (b 44)), Go.Eng.D.raw (Value.int IntKind.u8 (b 45)), Go.Eng.D.raw (Value.int IntKind.u8 (b 46)), Go.Eng.D.raw (Value.int IntKind.u8 (b 47)), Go.Eng.D.raw (Value.int IntKind.u8 (b 48)), Go.Eng.D.raw (Value.int IntKind.u8 (b 49)), Go.Eng.D.raw (Value.int IntKind.u8 (b 50)), Go.Eng.D.raw (Value.int IntKind.u8 (b 51)), Go.Eng.D.raw (Value.int IntKind.u8 (b 52)), Go.Eng.D.raw (Value.int IntKind.u8 (b 53)), Go.Eng.D.raw (Value.int IntKind.u8 (b 54)), Go.Eng.D.raw (Value.int IntKind.u8 (b 55)), Go.Eng.D.raw (Value.int IntKind.u8 (b 56)), Go.Eng.D.raw (Value.int IntKind.u8 (b 57)), Go.Eng.D.raw (Value.int IntKind.u8 (b 58)), Go.Eng.D.raw (Value.int IntKind.u8 (b 59)), Go.Eng.D.raw (Value.int IntKind.u8 (b 60)), Go.Eng.D.raw (Value.int IntKind.u8 (b 61)), Go.Eng.D.raw (Value.int IntKind.u8 (b 62)), Go.Eng.D.raw (Value.int IntKind.u8 (b 63))]
abbrev bI (x : Int) : BitVec 32 := BitVec.ofInt 32 x
abbrev wU (x : Int) : Int := IntKind.u32.wrap x
abbrev tH (h0 h1 h2 h3 h4 h5 h6 h7 : W) : List W := List.map unw [tN h0, tN h1, tN h2, tN h3, tN h4, tN h5, tN h6, tN h7]
end Go.Bla

namespace Go.Bla
open Go Go.Eng Go.Proofs
set_option maxRecDepth 100000
theorem rot_ok (x : W) (k : Int) (n : Nat) (hk : (k = -16 ∧ n = 16) ∨ (k = -12 ∧ n = 12) ∨ (k = -8 ∧ n = 8) ∨ (k = -7 ∧ n = 7)) : Eng.Spec Tryd.prog gl 77 [av x, .d (I k)] [] (av (x.rotateRight n)) [] := by
 refine spec_fn Tryd.func77 rfl fun {w N E a} hsim => ?_
 exact gr (OrcOK.none gl) Tryd.func77 (sr' := let za := (↑(BitVec.ofInt 64 (IntKind.u64.wrap k) &&& BitVec.ofInt 64 (31 : Int)).toNat : Int); ⟨0, [.d (.raw (.int .u32 (IntKind.u32.wrap (↑(BitVec.ofInt 32 (IntKind.u32.wrap ((↑(BitVec.toNat x) : Int) * (2 : Int) ^ min (IntKind.u64.wrap za).toNat 32)) ||| BitVec.ofInt 32 ((↑(BitVec.toNat x) : Int).fdiv ((2 : Int) ^ min (IntKind.u64.wrap ((32 : Int) - IntKind.u64.wrap za)).toNat 32))).toNat : Int))))], []⟩) (cs := [((0 : Int) ≤ IntKind.u64.wrap (↑(BitVec.ofInt 64 (IntKind.u64.wrap k) &&& BitVec.ofInt 64 (31 : Int)).toNat : Int)), ((0 : Int) ≤ IntKind.u64.wrap ((32 : Int) - IntKind.u64.wrap (↑(BitVec.ofInt 64 (IntKind.u64.wrap k) &&& BitVec.ofInt 64 (31 : Int)).toNat : Int)))]) [] true ⟨(by rw [wrap_u64]; omega), (by rw [wrap_u64]; omega), trivial⟩ (by rcases hk with ⟨rfl, rfl⟩ | ⟨rfl, rfl⟩ | ⟨rfl, rfl⟩ | ⟨rfl, rfl⟩ <;> exact Eq.trans (by kernel_rfl) (congrArg (fun z => (⟨0, [.d (.raw (.int .u32 z))], []⟩ : St)) (rot_eq x _ (by decide)))) hsim
theorem O1_ok : OrcOK Tryd.prog O1 := (OrcOK.none gl).add _ false mRot fun args H r H' cs h hc => by
 unfold mRot at h
 split at h
 ·
  rename_i x k
  cases h
  obtain ⟨h1, h2, _⟩ := hc
  have := rot_ok (unw x) k (-k).toNat (by omega)
  refine this.args fun hv => VAs_imp_cons (fun v hx => ?_) (fun vs h => VAs_imp_cons (fun v hx => ?_) (fun _ h => h) h) hv
  · rw [h1] at hx; exact hx
  · exact hx
 · cases h
theorem half_ok (a b c d w' : W) (p q : Int) (hpq : (p = 16 ∧ q = 12) ∨ (p = 8 ∧ q = 7)) : Eng.Spec Tryd.prog gl 73 [.d (lane (a, b, c, d)), av w', .d (I p), .d (I q)] [] (.d (lane (half a b c d w' p.toNat q.toNat))) [] := by
 refine spec_fn Tryd.func73 rfl fun {w N E a0} hsim => ?_
 exact gr O1_ok Tryd.func73 (sr' := let zb := IntKind.u32.wrap (IntKind.u32.wrap ((↑(BitVec.toNat a) : Int) + (↑(BitVec.toNat b) : Int)) + (↑(BitVec.toNat w') : Int)); let za := (↑(BitVec.rotateRight (unw (IntKind.u32.wrap (↑(BitVec.ofInt 32 (↑(BitVec.toNat d) : Int) ^^^ BitVec.ofInt 32 zb).toNat : Int))) (-wI ((0 : Int) - p)).toNat).toNat : Int); ⟨0, [.d (.agg [.raw (.int .u32 zb), .raw (.int .u32 ((↑(BitVec.rotateRight (unw (IntKind.u32.wrap (↑(BitVec.ofInt 32 (↑(BitVec.toNat b) : Int) ^^^ BitVec.ofInt 32 (IntKind.u32.wrap ((↑(BitVec.toNat c) : Int) + za))).toNat : Int))) (-wI ((0 : Int) - q)).toNat).toNat : Int))), .raw (.int .u32 (IntKind.u32.wrap ((↑(BitVec.toNat c) : Int) + za))), .raw (.int .u32 (za))])], []⟩) (cs := [(Ix 0 4), (Ix 1 4), (Ix 3 4), (IntKind.u32.wrap (↑(BitVec.ofInt 32 (↑(BitVec.toNat d) : Int) ^^^ BitVec.ofInt 32 (IntKind.u32.wrap (IntKind.u32.wrap ((↑(BitVec.toNat a) : Int) + (↑(BitVec.toNat b) : Int)) + (↑(BitVec.toNat w') : Int)))).toNat : Int) = (↑(BitVec.toNat (unw (IntKind.u32.wrap (↑(BitVec.ofInt 32 (↑(BitVec.toNat d) : Int) ^^^ BitVec.ofInt 32 (IntKind.u32.wrap (IntKind.u32.wrap ((↑(BitVec.toNat a) : Int) + (↑(BitVec.toNat b) : Int)) + (↑(BitVec.toNat w') : Int)))).toNat : Int)))) : Int)), (IntKind.i64.wrap ((0 : Int) - p) = (-16 : Int) ∨ IntKind.i64.wrap ((0 : Int) - p) = (-12 : Int) ∨ IntKind.i64.wrap ((0 : Int) - p) = (-8 : Int) ∨ IntKind.i64.wrap ((0 : Int) - p) = (-7 : Int)), (Ix 2 4), (Ix 1 4), (IntKind.u32.wrap (↑(BitVec.ofInt 32 (↑(BitVec.toNat b) : Int) ^^^ BitVec.ofInt 32 (IntKind.u32.wrap ((↑(BitVec.toNat c) : Int) + (↑(BitVec.rotateRight (unw (IntKind.u32.wrap (↑(BitVec.ofInt 32 (↑(BitVec.toNat d) : Int) ^^^ BitVec.ofInt 32 (IntKind.u32.wrap (IntKind.u32.wrap ((↑(BitVec.toNat a) : Int) + (↑(BitVec.toNat b) : Int)) + (↑(BitVec.toNat w') : Int)))).toNat : Int))) (-IntKind.i64.wrap ((0 : Int) - p)).toNat).toNat : Int)))).toNat : Int) = (↑(BitVec.toNat (unw (IntKind.u32.wrap (↑(BitVec.ofInt 32 (↑(BitVec.toNat b) : Int) ^^^ BitVec.ofInt 32 (IntKind.u32.wrap ((↑(BitVec.toNat c) : Int) + (↑(BitVec.rotateRight (unw (IntKind.u32.wrap (↑(BitVec.ofInt 32 (↑(BitVec.toNat d) : Int) ^^^ BitVec.ofInt 32 (IntKind.u32.wrap (IntKind.u32.wrap ((↑(BitVec.toNat a) : Int) + (↑(BitVec.toNat b) : Int)) + (↑(BitVec.toNat w') : Int)))).toNat : Int))) (-IntKind.i64.wrap ((0 : Int) - p)).toNat).toNat : Int)))).toNat : Int)))) : Int)), (IntKind.i64.wrap ((0 : Int) - q) = (-16 : Int) ∨ IntKind.i64.wrap ((0 : Int) - q) = (-12 : Int) ∨ IntKind.i64.wrap ((0 : Int) - q) = (-8 : Int) ∨ IntKind.i64.wrap ((0 : Int) - q) = (-7 : Int))]) ((List.replicate 5 true)) true ⟨(by decide), (by decide), (by decide), (by (first | (simp only [add_eq, xor_eq, unw_w]; done) | (rcases hpq with ⟨rfl, rfl⟩ | ⟨rfl, rfl⟩ <;> decide))), (by (first | (simp only [add_eq, xor_eq, unw_w]; done) | (rcases hpq with ⟨rfl, rfl⟩ | ⟨rfl, rfl⟩ <;> decide))), (by decide), (by decide), (by (first | (simp only [add_eq, xor_eq, unw_w]; done) | (rcases hpq with ⟨rfl, rfl⟩ | ⟨rfl, rfl⟩ <;> decide))), (by (first | (simp only [add_eq, xor_eq, unw_w]; done) | (rcases hpq with ⟨rfl, rfl⟩ | ⟨rfl, rfl⟩ <;> decide))), trivial⟩ (by rcases hpq with ⟨rfl, rfl⟩ | ⟨rfl, rfl⟩ <;> simp only [add_eq, xor_eq, unw_w] <;> rfl) hsim
theorem O2_ok : OrcOK Tryd.prog O2 := O1_ok.add _ false mHalf fun args H r H' cs h hc => by
 unfold mHalf at h
 split at h
 ·
  rename_i a b c d w p q
  cases h
  obtain ⟨h1, h2, h3, h4, h5, h6, _⟩ := hc
  have := half_ok (unw a) (unw b) (unw c) (unw d) (unw w) p q h6
  refine this.args fun hv => ?_
  rw [h1, h2, h3, h4, h5] at hv
  exact hv
 · cases h
end Go.Bla

namespace Go.Bla
open Go Go.Eng Go.Proofs
set_option maxRecDepth 100000
set_option maxHeartbeats 4000000
theorem nib_of {row : ByteArray} {j : Nat} (h : HexRow row) (hj : j < 16) : (decide (IntKind.u8.wrap (byteAt row j - 48) > 9) = true → (IntKind.u8.wrap (IntKind.u8.wrap (byteAt row j - 97) + 10)).toNat = nib row j ∧ 0 ≤ IntKind.u8.wrap (IntKind.u8.wrap (byteAt row j - 97) + 10) ∧ IntKind.u8.wrap (IntKind.u8.wrap (byteAt row j - 97) + 10) < 16) ∧
  (decide (IntKind.u8.wrap (byteAt row j - 48) > 9) = false → (IntKind.u8.wrap (byteAt row j - 48)).toNat = nib row j ∧ 0 ≤ IntKind.u8.wrap (byteAt row j - 48) ∧ IntKind.u8.wrap (byteAt row j - 48) < 16) := by
 have := h.2 j hj
 unfold nib
 simp only [wrap_u8, decide_eq_true_eq, decide_eq_false_iff_not]
 constructor
 ·
  intro h1
  rw [if_pos h1]
  refine ⟨?_, by omega, by omega⟩
  have e : ((byteAt row j - 97) % 256 + 10) % 256 = (byteAt row j - 97) % 256 + 10 := by omega
  rw [e]; omega
 ·
  intro h1
  rw [if_neg h1]
  refine ⟨rfl, by omega, by omega⟩
theorem getD_av (l : List W) (k : Nat) : (l.map fun x => (x.toNat : Int)).getD k 0 = ((l.getD k 0).toNat : Int) := by
 rw [List.getD_eq_getElem?_getD, List.getD_eq_getElem?_getD, List.getElem?_map]
 cases l[k]? <;> simp
theorem dig_ok (m0 m1 m2 m3 m4 m5 m6 m7 m8 m9 m10 m11 m12 m13 m14 m15 : W) (T : Nat) (row : ByteArray) (j : Int) (hr : HexRow row) (hj : 0 ≤ j ∧ j < 16) : Eng.Spec Tryd.prog gl 74 [.ref 0 0, .d (.raw (.string row)), .d (I j)] [(0, .obj T (words [m0, m1, m2, m3, m4, m5, m6, m7, m8, m9, m10, m11, m12, m13, m14, m15]))] (av ([m0, m1, m2, m3, m4, m5, m6, m7, m8, m9, m10, m11, m12, m13, m14, m15].getD (nib row j.toNat) 0)) [(0, .obj T (words [m0, m1, m2, m3, m4, m5, m6, m7, m8, m9, m10, m11, m12, m13, m14, m15]))] := by
 refine spec_fn Tryd.func74 rfl fun {w N E a0} hsim => ?_
 have hn := nib_of hr (j := j.toNat) (by omega)
 have hsz := hr.1
 have hg := fun k => getD_av [m0, m1, m2, m3, m4, m5, m6, m7, m8, m9, m10, m11, m12, m13, m14, m15] k
 simp only [List.map_cons, List.map_nil] at hg
 rcases bd (decide (IntKind.u8.wrap (byteAt row j.toNat - (48 : Int)) > (9 : Int))) with hb1 | hb1
 ·
  have q0_ : ((0 : Int) ≤ j ∧ j < (↑row.size : Int)) := (by first | omega | exact hr | (have := hn.1 ‹_›; omega) | (have := hn.2 ‹_›; omega))
  exact gr O2_ok Tryd.func74 (sr' := ⟨1, [.d (.raw (.int .u32 ([(↑(BitVec.toNat m0) : Int), (↑(BitVec.toNat m1) : Int), (↑(BitVec.toNat m2) : Int), (↑(BitVec.toNat m3) : Int), (↑(BitVec.toNat m4) : Int), (↑(BitVec.toNat m5) : Int), (↑(BitVec.toNat m6) : Int), (↑(BitVec.toNat m7) : Int), (↑(BitVec.toNat m8) : Int), (↑(BitVec.toNat m9) : Int), (↑(BitVec.toNat m10) : Int), (↑(BitVec.toNat m11) : Int), (↑(BitVec.toNat m12) : Int), (↑(BitVec.toNat m13) : Int), (↑(BitVec.toNat m14) : Int), (↑(BitVec.toNat m15) : Int)].getD (IntKind.u8.wrap (IntKind.u8.wrap (byteAt row j.toNat - 97) + 10)).toNat (0 : Int))))], [(0, .obj T [.d (.raw (.int .u32 ((↑(BitVec.toNat m0) : Int)))), .d (.raw (.int .u32 ((↑(BitVec.toNat m1) : Int)))), .d (.raw (.int .u32 ((↑(BitVec.toNat m2) : Int)))), .d (.raw (.int .u32 ((↑(BitVec.toNat m3) : Int)))), .d (.raw (.int .u32 ((↑(BitVec.toNat m4) : Int)))), .d (.raw (.int .u32 ((↑(BitVec.toNat m5) : Int)))), .d (.raw (.int .u32 ((↑(BitVec.toNat m6) : Int)))), .d (.raw (.int .u32 ((↑(BitVec.toNat m7) : Int)))), .d (.raw (.int .u32 ((↑(BitVec.toNat m8) : Int)))), .d (.raw (.int .u32 ((↑(BitVec.toNat m9) : Int)))), .d (.raw (.int .u32 ((↑(BitVec.toNat m10) : Int)))), .d (.raw (.int .u32 ((↑(BitVec.toNat m11) : Int)))), .d (.raw (.int .u32 ((↑(BitVec.toNat m12) : Int)))), .d (.raw (.int .u32 ((↑(BitVec.toNat m13) : Int)))), .d (.raw (.int .u32 ((↑(BitVec.toNat m14) : Int)))), .d (.raw (.int .u32 ((↑(BitVec.toNat m15) : Int))))])]⟩) (cs := ((fun (c0 : Prop) => [c0, _, c0, ((0 : Int) ≤ IntKind.u8.wrap (IntKind.u8.wrap (byteAt row j.toNat - 97) + 10) ∧ IntKind.u8.wrap (IntKind.u8.wrap (byteAt row j.toNat - 97) + 10) < (16 : Int)), ((IntKind.u8.wrap (IntKind.u8.wrap (byteAt row j.toNat - 97) + 10)).toNat < 16)]) _)) [true, false] true ⟨q0_, hb1, q0_, (by first | omega | exact hr | (have := hn.1 ‹_›; omega) | (have := hn.2 ‹_›; omega)), (by first | omega | exact hr | (have := hn.1 ‹_›; omega) | (have := hn.2 ‹_›; omega)), trivial⟩ (by first | (rw [(hn.1 hb1).1, hg]; rfl) | (rw [(hn.2 hb1).1, hg]; rfl)) hsim
 ·
  exact gr O2_ok Tryd.func74 (sr' := ⟨1, [.d (.raw (.int .u32 ([(↑(BitVec.toNat m0) : Int), (↑(BitVec.toNat m1) : Int), (↑(BitVec.toNat m2) : Int), (↑(BitVec.toNat m3) : Int), (↑(BitVec.toNat m4) : Int), (↑(BitVec.toNat m5) : Int), (↑(BitVec.toNat m6) : Int), (↑(BitVec.toNat m7) : Int), (↑(BitVec.toNat m8) : Int), (↑(BitVec.toNat m9) : Int), (↑(BitVec.toNat m10) : Int), (↑(BitVec.toNat m11) : Int), (↑(BitVec.toNat m12) : Int), (↑(BitVec.toNat m13) : Int), (↑(BitVec.toNat m14) : Int), (↑(BitVec.toNat m15) : Int)].getD (IntKind.u8.wrap (byteAt row j.toNat - 48)).toNat (0 : Int))))], [(0, .obj T [.d (.raw (.int .u32 ((↑(BitVec.toNat m0) : Int)))), .d (.raw (.int .u32 ((↑(BitVec.toNat m1) : Int)))), .d (.raw (.int .u32 ((↑(BitVec.toNat m2) : Int)))), .d (.raw (.int .u32 ((↑(BitVec.toNat m3) : Int)))), .d (.raw (.int .u32 ((↑(BitVec.toNat m4) : Int)))), .d (.raw (.int .u32 ((↑(BitVec.toNat m5) : Int)))), .d (.raw (.int .u32 ((↑(BitVec.toNat m6) : Int)))), .d (.raw (.int .u32 ((↑(BitVec.toNat m7) : Int)))), .d (.raw (.int .u32 ((↑(BitVec.toNat m8) : Int)))), .d (.raw (.int .u32 ((↑(BitVec.toNat m9) : Int)))), .d (.raw (.int .u32 ((↑(BitVec.toNat m10) : Int)))), .d (.raw (.int .u32 ((↑(BitVec.toNat m11) : Int)))), .d (.raw (.int .u32 ((↑(BitVec.toNat m12) : Int)))), .d (.raw (.int .u32 ((↑(BitVec.toNat m13) : Int)))), .d (.raw (.int .u32 ((↑(BitVec.toNat m14) : Int)))), .d (.raw (.int .u32 ((↑(BitVec.toNat m15) : Int))))])]⟩) (cs := [(0 ≤ j ∧ j < row.size), _, ((0 : Int) ≤ IntKind.u8.wrap (byteAt row j.toNat - 48) ∧ IntKind.u8.wrap (byteAt row j.toNat - 48) < (16 : Int)), ((IntKind.u8.wrap (byteAt row j.toNat - 48)).toNat < 16)]) [false, false] true ⟨(by first | omega | exact hr | (have := hn.1 ‹_›; omega) | (have := hn.2 ‹_›; omega)), hb1, (by first | omega | exact hr | (have := hn.1 ‹_›; omega) | (have := hn.2 ‹_›; omega)), (by first | omega | exact hr | (have := hn.1 ‹_›; omega) | (have := hn.2 ‹_›; omega)), trivial⟩ (by first | (rw [(hn.1 hb1).1, hg]; rfl) | (rw [(hn.2 hb1).1, hg]; rfl)) hsim
theorem O3_ok : OrcOK Tryd.prog O3 := O2_ok.add _ false mDig fun args H r H' cs h hc => by
 unfold mDig at h
 split at h
 ·
  rename_i row j T cs
  split at h
  ·
   rename_i ns hns
   cases h
   obtain ⟨h1, h2, h3, h4, _⟩ := hc
   rw [words_of hns h1]
   generalize hm : ns.map unw = m at *
   have hl : m.length = 16 := by rw [← hm]; simpa using h2
   match m, hl with
   | [m0, m1, m2, m3, m4, m5, m6, m7, m8, m9, m10, m11, m12, m13, m14, m15], _ => exact dig_ok m0 m1 m2 m3 m4 m5 m6 m7 m8 m9 m10 m11 m12 m13 m14 m15 T row j h3 h4
  · cases h
 · cases h
end Go.Bla
