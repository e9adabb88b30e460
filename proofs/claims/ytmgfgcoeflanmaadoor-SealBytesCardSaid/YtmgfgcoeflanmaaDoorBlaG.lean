/-
  Contracts of given functions, or plain laws that they need. No condition.
-/
import Derived.Test.YtmgfgcoeflanmaaDoorBlaM
import Derived.Test.YtmgfgcoeflanmaaDoorEng20
namespace Go.Bla
open Go Go.Eng
set_option maxRecDepth 100000
def gl : Nat → Option (List D) := fun g =>
  if g == 0 then some (ivM.map wd)
  else if g == 1 then some [.raw (.string ⟨#[48, 49, 50, 51, 52, 53, 54, 55, 56, 57, 97, 98, 99, 100, 101, 102]⟩), .raw (.string ⟨#[101, 97, 52, 56, 57, 102, 100, 54, 49, 99, 48, 50, 98, 55, 53, 51]⟩), .raw (.string ⟨#[98, 56, 99, 48, 53, 50, 102, 100, 97, 101, 51, 54, 55, 49, 57, 52]⟩), .raw (.string ⟨#[55, 57, 51, 49, 100, 99, 98, 101, 50, 54, 53, 97, 52, 48, 102, 56]⟩), .raw (.string ⟨#[57, 48, 53, 55, 50, 52, 97, 102, 101, 49, 98, 99, 54, 56, 51, 100]⟩), .raw (.string ⟨#[50, 99, 54, 97, 48, 98, 56, 51, 52, 100, 55, 53, 102, 101, 49, 57]⟩), .raw (.string ⟨#[99, 53, 49, 102, 101, 100, 52, 97, 48, 55, 54, 51, 57, 50, 56, 98]⟩), .raw (.string ⟨#[100, 98, 55, 101, 99, 49, 51, 57, 53, 48, 102, 52, 56, 54, 50, 97]⟩), .raw (.string ⟨#[54, 102, 101, 57, 98, 51, 48, 56, 99, 50, 100, 55, 49, 52, 97, 53]⟩), .raw (.string ⟨#[97, 50, 56, 52, 55, 54, 49, 53, 102, 98, 57, 101, 51, 99, 100, 48]⟩)]
  else none
def O1 : Orc := (Orc.none gl).add 74 false mRot
def O2 : Orc := O1.add 63 false mHalf
def O3 : Orc := O2.add 64 false mDig
end Go.Bla

namespace Go.Bla
open Go Go.Eng
set_option linter.unusedVariables false
set_option maxRecDepth 100000
def colM (v m : List W) (row : ByteArray) : List W :=
  putM (putM (putM (putM (v) 0 4 8 12 (m.getD (nib row 0) 0) (m.getD (nib row 1) 0)) 1 5 9 13 (m.getD (nib row 2) 0) (m.getD (nib row 3) 0)) 2 6 10 14 (m.getD (nib row 4) 0) (m.getD (nib row 5) 0)) 3 7 11 15 (m.getD (nib row 6) 0) (m.getD (nib row 7) 0)
def diaM (v m : List W) (row : ByteArray) : List W :=
  putM (putM (putM (putM (v) 0 5 10 15 (m.getD (nib row 8) 0) (m.getD (nib row 9) 0)) 1 6 11 12 (m.getD (nib row 10) 0) (m.getD (nib row 11) 0)) 2 7 8 13 (m.getD (nib row 12) 0) (m.getD (nib row 13) 0)) 3 4 9 14 (m.getD (nib row 14) 0) (m.getD (nib row 15) 0)
theorem len_colM (v m : List W) (row : ByteArray) : (colM v m row).length = v.length := by simp [colM, len_putM]
theorem len_diaM (v m : List W) (row : ByteArray) : (diaM v m row).length = v.length := by simp [diaM, len_putM]
/-- Sixteen cells. -/
def outW (l : List W) : List AV := [av (l.getD 0 0), av (l.getD 1 0), av (l.getD 2 0), av (l.getD 3 0), av (l.getD 4 0), av (l.getD 5 0), av (l.getD 6 0), av (l.getD 7 0), av (l.getD 8 0), av (l.getD 9 0), av (l.getD 10 0), av (l.getD 11 0), av (l.getD 12 0), av (l.getD 13 0), av (l.getD 14 0), av (l.getD 15 0)]
theorem outW_eq {l : List W} (h : l.length = 16) : words l = outW l := by
  match l, h with
  | [a0, a1, a2, a3, a4, a5, a6, a7, a8, a9, a10, a11, a12, a13, a14, a15], _ => rfl
/-- (turn) -/
def mTurn : List AV → List (Nat × Th) → Option (AV × List (Nat × Th) × List Prop)
  | [.ref 0 0, .ref 1 0, .d (.raw (.string row)), .d (.raw (.int .i64 at_)), .d (.raw (.int .i64 ap))], [(0, .obj T cs), (1, .obj U ds)] =>
    match numsOf cs, numsOf ds with
    | some ns, some ms =>
      match at_ == 0 && ap == 0, at_ == 8 && ap == 1 with
      | true, _ => some (.dead, [(0, .obj T (outW (colM (ns.map unw) (ms.map unw) row))), (1, .obj U ds)], [OkW ns, ns.length = 16, OkW ms, ms.length = 16, HexRow row])
      | _, true => some (.dead, [(0, .obj T (outW (diaM (ns.map unw) (ms.map unw) row))), (1, .obj U ds)], [OkW ns, ns.length = 16, OkW ms, ms.length = 16, HexRow row])
      | _, _ => none
    | _, _ => none
  | _, _ => none
def O4 : Orc := O3.add 53 false mTurn
def rowsD : List D := (gl 1).getD []
def rowB (r : Nat) : ByteArray := match rowsD[r]? with
  | some (.raw (.string b)) => b
  | _ => ByteArray.empty
/-- The state at the rows' loop. -/
def bst (T : Nat) (h : List W) (t : Int) (m v : List W) (i : Int) : St := mk 1 138 [(0, .ref 0 0), (8, .ref 1 0), (11, .ref 2 0), (99, .d (.agg rowsD)), (100, .d (I i))] [(0, .obj T (words h ++ [.d (.raw (.int .u64 t))])), (1, .obj 109 (words m)), (2, .obj 111 (words v))]
/-- Between a row's two turns. -/
def bst2 (T : Nat) (h : List W) (t : Int) (m v : List W) (i : Int) (row : ByteArray) : St := mk 1 138 [(0, .ref 0 0), (8, .ref 1 0), (11, .ref 2 0), (14, .d (.raw (.string row))), (99, .d (.agg rowsD)), (100, .d (I i))] [(0, .obj T (words h ++ [.d (.raw (.int .u64 t))])), (1, .obj 109 (words m)), (2, .obj 111 (words v))]
end Go.Bla

namespace Go.Bla
open Go Go.Eng
set_option linter.unusedVariables false
/-- The state at block's bytes' loop. -/
def bs0 (T : Nat) (h : List W) (t n : Int) (last : Bool) (b : Nat → Int) (cells : List AV) (i : Int) : St := mk 1 138 [(0, .ref 0 0), (2, .d (I n)), (3, .d (.raw (.bool last))), (8, .ref 1 0), (16, .d (.agg ((List.range 64).map fun i => .raw (.int .u8 (b i))))), (17, .d (I i))] [(0, .obj T (words h ++ [.d (.raw (.int .u64 t))])), (1, .obj 109 cells)]
end Go.Bla

namespace Go.Bla
open Go Go.Eng
set_option linter.unusedVariables false
/-- Four bytes as a word. -/
def wd4 (a b c d : Int) : W := unw (a + 256 * b + 65536 * c + 16777216 * d)
def mW (b : Nat → Int) : List W := (List.range 16).map fun i => wd4 (b (4 * i)) (b (4 * i + 1)) (b (4 * i + 2)) (b (4 * i + 3))
def outN (n : Nat) (l : List W) : List AV := (List.range n).map fun i => av (l.getD i 0)
/-- So many bytes more. -/
def tadd (t n : Int) : Nat := (IntKind.u64.wrap (t + IntKind.u64.wrap n)).toNat
def OkB (ds : List D) : Prop := ∃ f : Nat → Int, (∀ i, 0 ≤ f i ∧ f i < 256) ∧ ds = (List.range 64).map fun i => .raw (.int .u8 (f i))
def fnB (ds : List D) (i : Nat) : Int := unI (ds.getD i default)
/-- (block) -/
def mBlock : List AV → List (Nat × Th) → Option (AV × List (Nat × Th) × List Prop)
  | [.ref 0 0, .d (.agg ds), .d (.raw (.int .i64 n)), .d (.raw (.bool last))], [(0, .obj T [.d (.raw (.int .u32 a0)), .d (.raw (.int .u32 a1)), .d (.raw (.int .u32 a2)), .d (.raw (.int .u32 a3)), .d (.raw (.int .u32 a4)), .d (.raw (.int .u32 a5)), .d (.raw (.int .u32 a6)), .d (.raw (.int .u32 a7)), .d (.raw (.int .u64 t))])] =>
    some (.dead, [(0, .obj T (outN 8 (blockM ([a0, a1, a2, a3, a4, a5, a6, a7].map unw) (mW (fnB ds)) (BitVec.ofNat 32 (tadd t n)) (BitVec.ofNat 32 (tadd t n / 4294967296)) last) ++ [.d (.raw (.int .u64 (tadd t n)))]))], [OkW [a0, a1, a2, a3, a4, a5, a6, a7], OkB ds])
  | _, _ => none
def O5 : Orc := O4.add 43 false mBlock
/-- The state at Sum's loop. -/
def sst (key text : ByteArray) (first : Bool) (h : List W) (t : Int) : St := mk 0 82 [(0, .d (.raw (.string key))), (1, .d (.raw (.string text))), (6, .ref 0 0), (8, .d (.raw (.bool first)))] [(0, .obj 96 (words h ++ [.d (.raw (.int .u64 t))]))]
def bytes64 (b : Nat → Int) : List AV := (List.range 64).map fun i => .d (.raw (.int .u8 (b i)))
/-- Ahead of Sum's calls of block. -/
def sstK (key text : ByteArray) (h : List W) (t : Int) (b : Nat → Int) : St := mk 0 82 [(0, .d (.raw (.string key))), (1, .d (.raw (.string text))), (6, .ref 0 0), (7, .ref 1 0)] [(0, .obj 96 (words h ++ [.d (.raw (.int .u64 t))])), (1, .obj 97 (bytes64 b))]
def sstB (key text : ByteArray) (h : List W) (t : Int) (b : Nat → Int) (k : Int) : St := mk 0 82 [(0, .d (.raw (.string key))), (1, .d (.raw (.string text))), (6, .ref 0 0), (9, .ref 1 0), (10, .d (I k))] [(0, .obj 96 (words h ++ [.d (.raw (.int .u64 t))])), (1, .obj 97 (bytes64 b))]
/-- Sum's blocks. -/
def goM : Nat → Bool → ByteArray → List W → Int → List W
  | 0, _, _, h, _ => h
  | n + 1, first, text, h, t =>
    if first || !(text.toList == ByteArray.empty.toList) then
      let k := Nat.min text.size 64
      let rest := text.extract k text.size
      goM n false rest (blockM h (mW (byteAt text)) (BitVec.ofNat 32 (tadd t k)) (BitVec.ofNat 32 (tadd t k / 4294967296)) (rest.toList == ByteArray.empty.toList)) (tadd t k)
    else h
def outM (h : List W) : ByteArray := ⟨((List.range 32).map fun i => UInt8.ofNat (((h.getD (i / 4) 0).toNat / 2 ^ (8 * (i % 4))) % 256)).toArray⟩
def h0M (n : Nat) : List W := ivM.set 0 (0x6A09E667#32 ^^^ (0x01010020#32 ^^^ BitVec.ofNat 32 (n * 256)))
/-- Sum, of a key that is not too long. -/
def sumM (key text : ByteArray) : ByteArray :=
  let h := h0M key.size
  if key.toList == ByteArray.empty.toList then outM (goM (text.size + 2) true text h 0)
  else outM (goM (text.size + 2) false text (blockM h (mW (byteAt key)) (BitVec.ofNat 32 (tadd 0 64)) (BitVec.ofNat 32 (tadd 0 64 / 4294967296)) (text.toList == ByteArray.empty.toList)) (tadd 0 64))
end Go.Bla
