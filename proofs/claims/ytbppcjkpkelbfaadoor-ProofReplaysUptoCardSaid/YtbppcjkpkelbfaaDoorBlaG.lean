/-
  Contracts of given functions, or plain laws that they need. No condition.
-/
import Derived.Test.YtbppcjkpkelbfaaDoorTabP
import Derived.Test.YtbppcjkpkelbfaaDoorEng19
import Derived.Test.YtbppcjkpkelbfaaDoorRowB
import Derived.Lib.ItoaNum
import Derived.Test.YtbppcjkpkelbfaaDoorRowK
import Derived.Lib.AtoiAllMem
import Derived.Lib.AtoiAllCases
import Derived.Lib.IndexMore
import Derived.Lib.AppendIntMem
import Derived.Lib.IndexBytes
import Derived.Test.YtbppcjkpkelbfaaDoorEng0
namespace Go.Bla
open Go Go.Eng
set_option maxRecDepth 100000
def gl : Nat → Option (List D) := fun g =>
  if g == 0 then some (ivM.map wd)
  else if g == 1 then some [.raw (.string ⟨#[48, 49, 50, 51, 52, 53, 54, 55, 56, 57, 97, 98, 99, 100, 101, 102]⟩), .raw (.string ⟨#[101, 97, 52, 56, 57, 102, 100, 54, 49, 99, 48, 50, 98, 55, 53, 51]⟩), .raw (.string ⟨#[98, 56, 99, 48, 53, 50, 102, 100, 97, 101, 51, 54, 55, 49, 57, 52]⟩), .raw (.string ⟨#[55, 57, 51, 49, 100, 99, 98, 101, 50, 54, 53, 97, 52, 48, 102, 56]⟩), .raw (.string ⟨#[57, 48, 53, 55, 50, 52, 97, 102, 101, 49, 98, 99, 54, 56, 51, 100]⟩), .raw (.string ⟨#[50, 99, 54, 97, 48, 98, 56, 51, 52, 100, 55, 53, 102, 101, 49, 57]⟩), .raw (.string ⟨#[99, 53, 49, 102, 101, 100, 52, 97, 48, 55, 54, 51, 57, 50, 56, 98]⟩), .raw (.string ⟨#[100, 98, 55, 101, 99, 49, 51, 57, 53, 48, 102, 52, 56, 54, 50, 97]⟩), .raw (.string ⟨#[54, 102, 101, 57, 98, 51, 48, 56, 99, 50, 100, 55, 49, 52, 97, 53]⟩), .raw (.string ⟨#[97, 50, 56, 52, 55, 54, 49, 53, 102, 98, 57, 101, 51, 99, 100, 48]⟩)]
  else none
def O1 : Orc := (Orc.none gl).add 77 false mRot
def O2 : Orc := O1.add 73 false mHalf
def O3 : Orc := O2.add 74 false mDig
end Go.Bla

namespace Go.Bla
open Go Go.Eng
set_option linter.unusedVariables false
set_option maxRecDepth 100000
def colM (v m : List W) (row : ByteArray) : List W :=
  putM (putM (putM (putM (v) 0 4 8 12 (m.getD (nib row 0) 0) (m.getD (nib row 1) 0)) 1 5 9 13 (m.getD (nib row 2) 0) (m.getD (nib row 3) 0)) 2 6 10 14 (m.getD (nib row 4) 0) (m.getD (nib row 5) 0)) 3 7 11 15 (m.getD (nib row 6) 0) (m.getD (nib row 7) 0)
def diaM (v m : List W) (row : ByteArray) : List W :=
  putM (putM (putM (putM (v) 0 5 10 15 (m.getD (nib row 8) 0) (m.getD (nib row 9) 0)) 1 6 11 12 (m.getD (nib row 10) 0) (m.getD (nib row 11) 0)) 2 7 8 13 (m.getD (nib row 12) 0) (m.getD (nib row 13) 0)) 3 4 9 14 (m.getD (nib row 14) 0) (m.getD (nib row 15) 0)
theorem len_colM (v m : List W) (row : ByteArray) : (colM v m row).length = v.length := by simp [colM, len_putM]
theorem len_diaM (v m : List W) (row : ByteArray) : (diaM v m row).length = v.length := by simp [diaM, len_putM]
def outW (l : List W) : List AV := [av (l.getD 0 0), av (l.getD 1 0), av (l.getD 2 0), av (l.getD 3 0), av (l.getD 4 0), av (l.getD 5 0), av (l.getD 6 0), av (l.getD 7 0), av (l.getD 8 0), av (l.getD 9 0), av (l.getD 10 0), av (l.getD 11 0), av (l.getD 12 0), av (l.getD 13 0), av (l.getD 14 0), av (l.getD 15 0)]
theorem outW_eq {l : List W} (h : l.length = 16) : words l = outW l := by
  match l, h with
  | [a0, a1, a2, a3, a4, a5, a6, a7, a8, a9, a10, a11, a12, a13, a14, a15], _ => rfl
def mTurn : List AV → List (Nat × Th) → Option (AV × List (Nat × Th) × List Prop)
  | [.ref 0 0, .ref 1 0, .d (.raw (.string row)), .d (.raw (.int .i64 at_)), .d (.raw (.int .i64 ap))], [(0, .obj T cs), (1, .obj U ds)] =>
    match numsOf cs, numsOf ds with
    | some ns, some ms =>
      match at_ == 0 && ap == 0, at_ == 8 && ap == 1 with
      | true, _ => some (.dead, [(0, .obj T (outW (colM (ns.map unw) (ms.map unw) row))), (1, .obj U ds)], [OkW ns, ns.length = 16, OkW ms, ms.length = 16, HexRow row])
      | _, true => some (.dead, [(0, .obj T (outW (diaM (ns.map unw) (ms.map unw) row))), (1, .obj U ds)], [OkW ns, ns.length = 16, OkW ms, ms.length = 16, HexRow row])
      | _, _ => none
    | _, _ => none
  | _, _ => none
def O4 : Orc := O3.add 68 false mTurn
def rowsD : List D := (gl 1).getD []
def rowB (r : Nat) : ByteArray := match rowsD[r]? with
  | some (.raw (.string b)) => b
  | _ => ByteArray.empty
def bst (T : Nat) (h : List W) (t : Int) (m v : List W) (i : Int) : St := mk 1 138 [(0, .ref 0 0), (8, .ref 1 0), (11, .ref 2 0), (99, .d (.agg rowsD)), (100, .d (I i))] [(0, .obj T (words h ++ [.d (.raw (.int .u64 t))])), (1, .obj 152 (words m)), (2, .obj 154 (words v))]
def bst2 (T : Nat) (h : List W) (t : Int) (m v : List W) (i : Int) (row : ByteArray) : St := mk 1 138 [(0, .ref 0 0), (8, .ref 1 0), (11, .ref 2 0), (14, .d (.raw (.string row))), (99, .d (.agg rowsD)), (100, .d (I i))] [(0, .obj T (words h ++ [.d (.raw (.int .u64 t))])), (1, .obj 152 (words m)), (2, .obj 154 (words v))]
end Go.Bla

namespace Go.Bla
open Go Go.Eng
set_option linter.unusedVariables false
def bs0 (T : Nat) (h : List W) (t n : Int) (last : Bool) (b : Nat → Int) (cells : List AV) (i : Int) : St := mk 1 138 [(0, .ref 0 0), (2, .d (I n)), (3, .d (.raw (.bool last))), (8, .ref 1 0), (16, .d (.agg ((List.range 64).map fun i => .raw (.int .u8 (b i))))), (17, .d (I i))] [(0, .obj T (words h ++ [.d (.raw (.int .u64 t))])), (1, .obj 152 cells)]
end Go.Bla

namespace Go.Bla
open Go Go.Eng
set_option linter.unusedVariables false
def wd4 (a b c d : Int) : W := unw (a + 256 * b + 65536 * c + 16777216 * d)
def mW (b : Nat → Int) : List W := (List.range 16).map fun i => wd4 (b (4 * i)) (b (4 * i + 1)) (b (4 * i + 2)) (b (4 * i + 3))
def outN (n : Nat) (l : List W) : List AV := (List.range n).map fun i => av (l.getD i 0)
def tadd (t n : Int) : Nat := (IntKind.u64.wrap (t + IntKind.u64.wrap n)).toNat
def OkB (ds : List D) : Prop := ∃ f : Nat → Int, (∀ i, 0 ≤ f i ∧ f i < 256) ∧ ds = (List.range 64).map fun i => .raw (.int .u8 (f i))
def fnB (ds : List D) (i : Nat) : Int := unI (ds.getD i default)
def mBlock : List AV → List (Nat × Th) → Option (AV × List (Nat × Th) × List Prop)
  | [.ref 0 0, .d (.agg ds), .d (.raw (.int .i64 n)), .d (.raw (.bool last))], [(0, .obj T [.d (.raw (.int .u32 a0)), .d (.raw (.int .u32 a1)), .d (.raw (.int .u32 a2)), .d (.raw (.int .u32 a3)), .d (.raw (.int .u32 a4)), .d (.raw (.int .u32 a5)), .d (.raw (.int .u32 a6)), .d (.raw (.int .u32 a7)), .d (.raw (.int .u64 t))])] =>
    some (.dead, [(0, .obj T (outN 8 (blockM ([a0, a1, a2, a3, a4, a5, a6, a7].map unw) (mW (fnB ds)) (BitVec.ofNat 32 (tadd t n)) (BitVec.ofNat 32 (tadd t n / 4294967296)) last) ++ [.d (.raw (.int .u64 (tadd t n)))]))], [OkW [a0, a1, a2, a3, a4, a5, a6, a7], OkB ds])
  | _, _ => none
def O5 : Orc := O4.add 62 false mBlock
def sst (key text : ByteArray) (first : Bool) (h : List W) (t : Int) : St := mk 0 82 [(0, .d (.raw (.string key))), (1, .d (.raw (.string text))), (6, .ref 0 0), (8, .d (.raw (.bool first)))] [(0, .obj 136 (words h ++ [.d (.raw (.int .u64 t))]))]
def bytes64 (b : Nat → Int) : List AV := (List.range 64).map fun i => .d (.raw (.int .u8 (b i)))
def sstK (key text : ByteArray) (h : List W) (t : Int) (b : Nat → Int) : St := mk 0 82 [(0, .d (.raw (.string key))), (1, .d (.raw (.string text))), (6, .ref 0 0), (7, .ref 1 0)] [(0, .obj 136 (words h ++ [.d (.raw (.int .u64 t))])), (1, .obj 137 (bytes64 b))]
def sstB (key text : ByteArray) (h : List W) (t : Int) (b : Nat → Int) (k : Int) : St := mk 0 82 [(0, .d (.raw (.string key))), (1, .d (.raw (.string text))), (6, .ref 0 0), (9, .ref 1 0), (10, .d (I k))] [(0, .obj 136 (words h ++ [.d (.raw (.int .u64 t))])), (1, .obj 137 (bytes64 b))]
def goM : Nat → Bool → ByteArray → List W → Int → List W
  | 0, _, _, h, _ => h
  | n + 1, first, text, h, t =>
    if first || !(text.toList == ByteArray.empty.toList) then
      let k := Nat.min text.size 64
      let rest := text.extract k text.size
      goM n false rest (blockM h (mW (byteAt text)) (BitVec.ofNat 32 (tadd t k)) (BitVec.ofNat 32 (tadd t k / 4294967296)) (rest.toList == ByteArray.empty.toList)) (tadd t k)
    else h
def outM (h : List W) : ByteArray := ⟨((List.range 32).map fun i => UInt8.ofNat (((h.getD (i / 4) 0).toNat / 2 ^ (8 * (i % 4))) % 256)).toArray⟩
def h0M (n : Nat) : List W := ivM.set 0 (0x6A09E667#32 ^^^ (0x01010020#32 ^^^ BitVec.ofNat 32 (n * 256)))
def sumM (key text : ByteArray) : ByteArray :=
  let h := h0M key.size
  if key.toList == ByteArray.empty.toList then outM (goM (text.size + 2) true text h 0)
  else outM (goM (text.size + 2) false text (blockM h (mW (byteAt key)) (BitVec.ofNat 32 (tadd 0 64)) (BitVec.ofNat 32 (tadd 0 64 / 4294967296)) (text.toList == ByteArray.empty.toList)) (tadd 0 64))
end Go.Bla

namespace Go.Nest
open Go Go.Eng
set_option linter.unusedVariables false
end Go.Nest

namespace Go.Nest
open Go Go.Eng
set_option linter.unusedVariables false
end Go.Nest

namespace Go.Nest
open Go Go.Eng
set_option linter.unusedVariables false
end Go.Nest

namespace Go.Nest
open Go Go.Eng Go.Proofs
set_option linter.unusedVariables false
theorem wrapE (x : Int) : IntKind.i64.wrap x = (x + 9223372036854775808) % 18446744073709551616 - 9223372036854775808 := by
  have : IntKind.i64.wrap x = if 9223372036854775808 ≤ x % 18446744073709551616 then x % 18446744073709551616 - 18446744073709551616 else x % 18446744073709551616 := by
    set_option maxRecDepth 10000 in simp [IntKind.wrap, IntKind.bits, IntKind.signed]
  rw [this]; split <;> omega
end Go.Nest

namespace Go.Plc
open Go Go.Eng
set_option linter.unusedVariables false
abbrev Mo := List AV → List (Nat × Th) → Option (AV × List (Nat × Th) × List Prop)
def mSumV (q : ByteArray) : Mo
  | [.d (.raw (.string k)), .d (.raw (.string t))], [] => some (.tup [.d (.raw (.string q)), .d (.raw (.int .i64 0))], [], [k = ByteArray.empty, q = Go.Bla.sumM k t, t.size ≤ 1073741824])
  | _, _ => none
def plc (key : ByteArray) : Int := byteAt (Go.Bla.sumM ByteArray.empty key) 0 % 4
def X0 (q : ByteArray) : Orc := (Orc.none Go.Bla.gl).add 54 false (mSumV q)
def X1 (q : ByteArray) : Orc := (Orc.none Go.Bla.gl).add 53 false (mSumV q)
end Go.Plc

namespace Go.Prf
open Go Go.Eng Go.Tab Go.Plc
set_option linter.unusedVariables false
abbrev Mo := List AV → List (Nat × Th) → Option (AV × List (Nat × Th) × List Prop)
abbrev gz0 : Nat → Option (List D) := fun _ => none
abbrev OpT := Int × ByteArray × ByteArray × ByteArray
def opD (o : OpT) : D := .agg [.raw (.int .i64 o.1), .raw (.string o.2.1), .raw (.string o.2.2.1), .raw (.string o.2.2.2)]
def noOp : OpT := (0, ByteArray.empty, ByteArray.empty, ByteArray.empty)
def opEl (l : List OpT) (i : Nat) : D := opD (l.getD i noOp)
abbrev An := Int × ByteArray
def anD (a : An) : D := .agg [.raw (.int .i64 a.1), .raw (.string a.2)]
def anEl (l : List An) (i : Nat) : D := anD (l.getD i (0, ByteArray.empty))
structure Ca where
  cl : Int
  n : Int
  o : OpT
  fr : Int
  to : Int
  a : An
def noCa : Ca := ⟨0, 0, noOp, 0, 0, (0, ByteArray.empty)⟩
def caD (c : Ca) : D := .agg [.raw (.int .i64 c.cl), .raw (.int .i64 c.n), .raw (.int .i64 c.o.1), .raw (.string c.o.2.1), .raw (.string c.o.2.2.1), .raw (.string c.o.2.2.2), .raw (.int .i64 c.fr), .raw (.int .i64 c.to), .raw (.int .i64 c.a.1), .raw (.string c.a.2)]
def caEl (l : List Ca) (i : Nat) : D := caD (l.getD i noCa)
structure Pt where
  at' : Int
  cl : Int
  n : Int
  a : An
def noPt : Pt := ⟨0, 0, 0, (0, ByteArray.empty)⟩
def ptD (p : Pt) : D := .agg [.raw (.int .i64 p.at'), .raw (.int .i64 p.cl), .raw (.int .i64 p.n), .raw (.int .i64 p.a.1), .raw (.string p.a.2)]
def ptEl (l : List Pt) (i : Nat) : D := ptD (l.getD i noPt)
structure T4 where
  a : List Rw
  b : List Rw
  c : List Rw
  d : List Rw
def rfs : AV := .agg [.ref 0 0, .ref 2 0, .ref 4 0, .ref 6 0]
def tobj (k : Nat) : Th := .obj 145 [.own k]
def trow (l : List Rw) : Th := .row 148 2 l.length (rowEl l)
def tabs (T : T4) : List (Nat × Th) := [(0, tobj 1), (1, trow T.a), (2, tobj 3), (3, trow T.b), (4, tobj 5), (5, trow T.c), (6, tobj 7), (7, trow T.d)]
def mTN : Mo
  | [], [] => some (.ref 0 0, tab0 [], [])
  | _, _ => none
def mDoV (l : List Rw) (v : ByteArray) (e : Int) (l2 : List Rw) : Mo
  | [.ref 0 0, .d (.agg [.raw (.int .i64 k), .raw (.string key), .raw (.string val), .raw (.string old)])], [(0, .obj T [.own 1]), (1, .row R 2 n el)] => some (.tup [.d (.raw (.string v)), .d (.raw (.int .i64 e))], tab2 l2, [T = 145, R = 148, n = l.length, el = rowEl l, Tidy l ∧ v = (doM l k key val old).1 ∧ e = (doM l k key val old).2.1 ∧ l2 = (doM l k key val old).2.2])
  | _, _ => none
def mPlcC (c : Int) : Mo
  | [.d (.raw (.string key))], [] => some (.d (.raw (.int .i64 c)), [], [plc key = c ∧ key.size ≤ 1073741824])
  | _, _ => none
def A0 : Orc := (Orc.none gz0).add 58 false mTN
def A1 (c : Int) (l : List Rw) (v : ByteArray) (e : Int) (l2 : List Rw) : Orc := ((Orc.none Go.Bla.gl).add 34 false (mPlcC c)).add 59 false (mDoV l v e l2)
def pickT (T : T4) (c : Int) : List Rw := if c = 0 then T.a else if c = 1 then T.b else if c = 2 then T.c else T.d
def putT (T : T4) (c : Int) (l : List Rw) : T4 := if c = 0 then ⟨l, T.b, T.c, T.d⟩ else if c = 1 then ⟨T.a, l, T.c, T.d⟩ else if c = 2 then ⟨T.a, T.b, l, T.d⟩ else ⟨T.a, T.b, T.c, l⟩
def resM (T : T4) (o : OpT) : ByteArray × Int × List Rw := doM (pickT T (plc o.2.1)) o.1 o.2.1 o.2.2.1 o.2.2.2
def tellM (T : T4) (o : OpT) : An := ((resM T o).2.1, (resM T o).1)
def nextT (T : T4) (o : OpT) : T4 := putT T (plc o.2.1) (resM T o).2.2
structure TidyT (T : T4) : Prop where
  a : Tidy T.a
  b : Tidy T.b
  c : Tidy T.c
  d : Tidy T.d
def tabsU (T : T4) : List (Nat × Th) := [(0, tobj 8), (2, tobj 9), (4, tobj 10), (6, tobj 11), (8, trow T.a), (9, trow T.b), (10, trow T.c), (11, trow T.d)]
def T0 : T4 := ⟨[], [], [], []⟩
def mNT : Mo
  | [], [] => some (rfs, tabs T0, [])
  | _, _ => none
def mTell (T T' : T4) (e : Int) (v : ByteArray) : Mo
  | [.agg [.ref 0 0, .ref 2 0, .ref 4 0, .ref 6 0], .d (.agg [.raw (.int .i64 k), .raw (.string key), .raw (.string val), .raw (.string old)])], [(0, .obj C1 [.own 1]), (1, .row R1 2 n1 l1), (2, .obj C2 [.own 3]), (3, .row R2 2 n2 l2), (4, .obj C3 [.own 5]), (5, .row R3 2 n3 l3), (6, .obj C4 [.own 7]), (7, .row R4 2 n4 l4)] =>
    some (.d (.agg [.raw (.int .i64 e), .raw (.string v)]), tabsU T', [(C1 == 145 && C2 == C1 && C3 == C1 && C4 == C1 && R1 == 148 && R2 == R1 && R3 == R1 && R4 == R1) = true, n1 = T.a.length, l1 = rowEl T.a, n2 = T.b.length, l2 = rowEl T.b, n3 = T.c.length, l3 = rowEl T.c, n4 = T.d.length, l4 = rowEl T.d, TidyT T ∧ (e, v) = tellM T (k, key, val, old) ∧ T' = nextT T (k, key, val, old) ∧ key.size ≤ 1073741824])
  | _, _ => none
def gB : Nat → Option (List D) := Go.Bla.gl
def A2 (T T' : T4) (e : Int) (v : ByteArray) : Orc := ((Orc.none Go.Bla.gl).add 50 false mNT).add 51 false (mTell T T' e v)
def nmD (c n : Int) : D := .agg [.raw (.int .i64 c), .raw (.int .i64 n)]
def hasC (L : List Ca) (d : D) : Bool := L.any fun c => keyEq d (.raw (.int .i64 c.cl))
def getC (L : List Ca) (d : D) : Ca := (L.find? fun c => keyEq d (.raw (.int .i64 c.cl))).getD noCa
def lenC : List Ca → Nat
  | [] => 0
  | c :: r => match hasC r (.raw (.int .i64 c.cl)) with | true => lenC r | false => lenC r + 1
def lastMp (L : List Ca) : MapD := ⟨3, fun d => hasC L d, fun d => caD (getC L d), lenC L⟩
def hasN (L : List Ca) (d : D) : Bool := L.any fun c => keyEq d (nmD c.cl c.n)
def getN (L : List Ca) (d : D) : Ca := (L.find? fun c => keyEq d (nmD c.cl c.n)).getD noCa
def lenN : List Ca → Nat
  | [] => 0
  | c :: r => match hasN r (nmD c.cl c.n) with | true => lenN r | false => lenN r + 1
def knowMp (L : List Ca) : MapD := ⟨95, fun d => hasN L d, fun d => caD (getN L d), lenN L⟩
def hasS (L : List Pt) (d : D) : Bool := L.any fun c => keyEq d (nmD c.cl c.n)
def lenS : List Pt → Nat
  | [] => 0
  | c :: r => match hasS r (nmD c.cl c.n) with | true => lenS r | false => lenS r + 1
def seenMp (L : List Pt) : MapD := ⟨95, fun d => hasS L d, fun _ => .raw (.bool true), lenS L⟩
def mChk : Mo
  | [.d (.agg [.raw (.int .i64 k), .raw (.string key), .raw (.string val), .raw (.string old)])], [] => some (.d (.raw (.int .i64 (checkM k key val old))), [], [])
  | _, _ => none
def mNmC : Mo
  | [.d (.agg [.raw (.int .i64 c), .raw (.int .i64 n), .raw (.int .i64 k), .raw (.string key), .raw (.string val), .raw (.string old), .raw (.int .i64 fr), .raw (.int .i64 to), .raw (.int .i64 er), .raw (.string v)])], [] => some (.d (nmD c n), [], [])
  | _, _ => none
def mNmP : Mo
  | [.d (.agg [.raw (.int .i64 m), .raw (.int .i64 c), .raw (.int .i64 n), .raw (.int .i64 er), .raw (.string v)])], [] => some (.d (nmD c n), [], [])
  | _, _ => none
def B0 : Orc := (Orc.none gz0).add 23 false mChk
def B1 : Orc := ((Orc.none gz0).add 41 false mNmC).add 55 false mNmP
def B2 (T T' : T4) (e : Int) (v : ByteArray) : Orc := (A2 T T' e v).add 55 false mNmP
end Go.Prf

namespace Go.Prf
open Go Go.Eng Go.Tab Go.Plc
set_option linter.unusedVariables false
def tbB (k : Nat) (T : T4) : List (Nat × Th) := [(k, .obj 112 [.ref (k + 1) 0, .ref (k + 3) 0, .ref (k + 5) 0, .ref (k + 7) 0]), (k + 1, tobj (k + 2)), (k + 2, trow T.a), (k + 3, tobj (k + 4)), (k + 4, trow T.b), (k + 5, tobj (k + 6)), (k + 6, trow T.c), (k + 7, tobj (k + 8)), (k + 8, trow T.d)]
def rp1 (l : List OpT) (T : T4) (acc : List An) (n i : Int) : St := mk 0 22 [(3, .ref 0 0), (4, .own 9), (8, .d (.list 4 l.length (opEl l))), (9, .d (.raw (.int .i64 n))), (10, .d (.raw (.int .i64 i)))] (tbB 0 T ++ [(9, .row 49 2 acc.length (anEl acc))])
def fm1 (L cs : List Ca) (n i : Int) : St := mk 0 102 [(3, .mp 0), (9, .d (.list 10 cs.length (caEl cs))), (10, .d (.raw (.int .i64 n))), (11, .d (.raw (.int .i64 i)))] [(0, .mp (lastMp L))]
def or1 (L : List Ca) (ps S : List Pt) (now n i : Int) : St := mk 1 66 [(0, .mp 0), (5, .mp 1), (6, .d (.raw (.int .i64 now))), (12, .d (.list 5 ps.length (ptEl ps))), (13, .d (.raw (.int .i64 n))), (14, .d (.raw (.int .i64 i)))] [(0, .mp (knowMp L)), (1, .mp (seenMp S))]
def aw1 (cs : List Ca) (ps S : List Pt) (n i : Int) : St := mk 0 40 [(0, .d (.list 10 cs.length (caEl cs))), (5, .mp 0), (11, .d (.list 5 ps.length (ptEl ps))), (12, .d (.raw (.int .i64 n))), (13, .d (.raw (.int .i64 i)))] [(0, .mp (seenMp S))]
def td1 (L : List Ca) (ps : List Pt) (T : T4) (n i : Int) : St := mk 1 43 [(0, .mp 0), (5, .ref 1 0), (11, .d (.list 5 ps.length (ptEl ps))), (12, .d (.raw (.int .i64 n))), (13, .d (.raw (.int .i64 i)))] ([(0, .mp (knowMp L))] ++ tbB 1 T)
end Go.Prf

namespace Go.Bla
open Go
abbrev tN (x : W) : Int := (x.toNat : Int)
abbrev tL (x0 x1 x2 x3 x4 x5 x6 x7 x8 x9 x10 x11 x12 x13 x14 x15 : W) : List Int := [tN x0, tN x1, tN x2, tN x3, tN x4, tN x5, tN x6, tN x7, tN x8, tN x9, tN x10, tN x11, tN x12, tN x13, tN x14, tN x15]
abbrev b64 (b : Nat → Int) : List Go.Eng.D := [Go.Eng.D.raw (Value.int IntKind.u8 (b 0)), Go.Eng.D.raw (Value.int IntKind.u8 (b 1)), Go.Eng.D.raw (Value.int IntKind.u8 (b 2)), Go.Eng.D.raw (Value.int IntKind.u8 (b 3)), Go.Eng.D.raw (Value.int IntKind.u8 (b 4)), Go.Eng.D.raw (Value.int IntKind.u8 (b 5)), Go.Eng.D.raw (Value.int IntKind.u8 (b 6)), Go.Eng.D.raw (Value.int IntKind.u8 (b 7)), Go.Eng.D.raw (Value.int IntKind.u8 (b 8)), Go.Eng.D.raw (Value.int IntKind.u8 (b 9)), Go.Eng.D.raw (Value.int IntKind.u8 (b 10)), Go.Eng.D.raw (Value.int IntKind.u8 (b 11)), Go.Eng.D.raw (Value.int IntKind.u8 (b 12)), Go.Eng.D.raw (Value.int IntKind.u8 (b 13)), Go.Eng.D.raw (Value.int IntKind.u8 (b 14)), Go.Eng.D.raw (Value.int IntKind.u8 (b 15)), Go.Eng.D.raw (Value.int IntKind.u8 (b 16)), Go.Eng.D.raw (Value.int IntKind.u8 (b 17)), Go.Eng.D.raw (Value.int IntKind.u8 (b 18)), Go.Eng.D.raw (Value.int IntKind.u8 (b 19)), Go.Eng.D.raw (Value.int IntKind.u8 (b 20)), Go.Eng.D.raw (Value.int IntKind.u8 (b 21)), Go.Eng.D.raw (Value.int IntKind.u8 (b 22)), Go.Eng.D.raw (Value.int IntKind.u8 (b 23)), Go.Eng.D.raw (Value.int IntKind.u8 (b 24)), Go.Eng.D.raw (Value.int IntKind.u8 (b 25)), Go.Eng.D.raw (Value.int IntKind.u8 (b 26)), Go.Eng.D.raw (Value.int IntKind.u8 (b 27)), Go.Eng.D.raw (Value.int IntKind.u8 (b 28)), Go.Eng.D.raw (Value.int IntKind.u8 (b 29)), Go.Eng.D.raw (Value.int IntKind.u8 (b 30)), Go.Eng.D.raw (Value.int IntKind.u8 (b 31)), Go.Eng.D.raw (Value.int IntKind.u8 (b 32)), Go.Eng.D.raw (Value.int IntKind.u8 (b 33)), Go.Eng.D.raw (Value.int IntKind.u8 (b 34)), Go.Eng.D.raw (Value.int IntKind.u8 (b 35)), Go.Eng.D.raw (Value.int IntKind.u8 (b 36)), Go.Eng.D.raw (Value.int IntKind.u8 (b 37)), Go.Eng.D.raw (Value.int IntKind.u8 (b 38)), Go.Eng.D.raw (Value.int IntKind.u8 (b 39)), Go.Eng.D.raw (Value.int IntKind.u8 (b 40)), Go.Eng.D.raw (Value.int IntKind.u8 (b 41)), Go.Eng.D.raw (Value.int IntKind.u8 (b 42)), Go.Eng.D.raw (Value.int IntKind.u8 (b 43)), Go.Eng.D.raw (Value.int IntKind.u8 (b 44)), Go.Eng.D.raw (Value.int IntKind.u8 (b 45)), Go.Eng.D.raw (Value.int IntKind.u8 (b 46)), Go.Eng.D.raw (Value.int IntKind.u8 (b 47)), Go.Eng.D.raw (Value.int IntKind.u8 (b 48)), Go.Eng.D.raw (Value.int IntKind.u8 (b 49)), Go.Eng.D.raw (Value.int IntKind.u8 (b 50)), Go.Eng.D.raw (Value.int IntKind.u8 (b 51)), Go.Eng.D.raw (Value.int IntKind.u8 (b 52)), Go.Eng.D.raw (Value.int IntKind.u8 (b 53)), Go.Eng.D.raw (Value.int IntKind.u8 (b 54)), Go.Eng.D.raw (Value.int IntKind.u8 (b 55)), Go.Eng.D.raw (Value.int IntKind.u8 (b 56)), Go.Eng.D.raw (Value.int IntKind.u8 (b 57)), Go.Eng.D.raw (Value.int IntKind.u8 (b 58)), Go.Eng.D.raw (Value.int IntKind.u8 (b 59)), Go.Eng.D.raw (Value.int IntKind.u8 (b 60)), Go.Eng.D.raw (Value.int IntKind.u8 (b 61)), Go.Eng.D.raw (Value.int IntKind.u8 (b 62)), Go.Eng.D.raw (Value.int IntKind.u8 (b 63))]
abbrev bI (x : Int) : BitVec 32 := BitVec.ofInt 32 x
abbrev wU (x : Int) : Int := IntKind.u32.wrap x
abbrev tH (h0 h1 h2 h3 h4 h5 h6 h7 : W) : List W := List.map unw [tN h0, tN h1, tN h2, tN h3, tN h4, tN h5, tN h6, tN h7]
end Go.Bla
