/-
  Contracts of given functions, or plain laws that they need. No condition.
-/
import Derived.Test.YtiolcanlleapjaaDoorBlaI
import Derived.Test.YtiolcanlleapjaaDoorEng20
namespace Go.Bla
open Go Go.Eng
set_option linter.unusedVariables false
/-- Four bytes as a word. -/
def wd4 (a b c d : Int) : W := unw (a + 256 * b + 65536 * c + 16777216 * d)
def mW (b : Nat → Int) : List W := (List.range 16).map fun i => wd4 (b (4 * i)) (b (4 * i + 1)) (b (4 * i + 2)) (b (4 * i + 3))
def outN (n : Nat) (l : List W) : List AV := (List.range n).map fun i => av (l.getD i 0)
/-- So many bytes more. -/
def tadd (t n : Int) : Nat := (IntKind.u64.wrap (t + IntKind.u64.wrap n)).toNat
def OkB (ds : List D) : Prop := ∃ f : Nat → Int, (∀ i, 0 ≤ f i ∧ f i < 256) ∧ ds = (List.range 64).map fun i => .raw (.int .u8 (f i))
def fnB (ds : List D) (i : Nat) : Int := unI (ds.getD i default)
/-- (block) -/
def mBlock : List AV → List (Nat × Th) → Option (AV × List (Nat × Th) × List Prop)
  | [.ref 0 0, .d (.agg ds), .d (.raw (.int .i64 n)), .d (.raw (.bool last))], [(0, .obj T [.d (.raw (.int .u32 a0)), .d (.raw (.int .u32 a1)), .d (.raw (.int .u32 a2)), .d (.raw (.int .u32 a3)), .d (.raw (.int .u32 a4)), .d (.raw (.int .u32 a5)), .d (.raw (.int .u32 a6)), .d (.raw (.int .u32 a7)), .d (.raw (.int .u64 t))])] =>
    some (.dead, [(0, .obj T (outN 8 (blockM ([a0, a1, a2, a3, a4, a5, a6, a7].map unw) (mW (fnB ds)) (BitVec.ofNat 32 (tadd t n)) (BitVec.ofNat 32 (tadd t n / 4294967296)) last) ++ [.d (.raw (.int .u64 (tadd t n)))]))], [OkW [a0, a1, a2, a3, a4, a5, a6, a7], OkB ds])
  | _, _ => none
def O5 : Orc := O4.add 10 false mBlock
/-- The state at Sum's loop. -/
def sst (key text : ByteArray) (first : Bool) (h : List W) (t : Int) : St := mk 0 82 [(0, .d (.raw (.string key))), (1, .d (.raw (.string text))), (6, .ref 0 0), (8, .d (.raw (.bool first)))] [(0, .obj 37 (words h ++ [.d (.raw (.int .u64 t))]))]
def bytes64 (b : Nat → Int) : List AV := (List.range 64).map fun i => .d (.raw (.int .u8 (b i)))
/-- Ahead of Sum's calls of block. -/
def sstK (key text : ByteArray) (h : List W) (t : Int) (b : Nat → Int) : St := mk 0 82 [(0, .d (.raw (.string key))), (1, .d (.raw (.string text))), (6, .ref 0 0), (7, .ref 1 0)] [(0, .obj 37 (words h ++ [.d (.raw (.int .u64 t))])), (1, .obj 39 (bytes64 b))]
def sstB (key text : ByteArray) (h : List W) (t : Int) (b : Nat → Int) (k : Int) : St := mk 0 82 [(0, .d (.raw (.string key))), (1, .d (.raw (.string text))), (6, .ref 0 0), (9, .ref 1 0), (10, .d (I k))] [(0, .obj 37 (words h ++ [.d (.raw (.int .u64 t))])), (1, .obj 39 (bytes64 b))]
/-- Sum's blocks. -/
def goM : Nat → Bool → ByteArray → List W → Int → List W
  | 0, _, _, h, _ => h
  | n + 1, first, text, h, t =>
    if first || !(text.toList == ByteArray.empty.toList) then
      let k := Nat.min text.size 64
      let rest := text.extract k text.size
      goM n false rest (blockM h (mW (byteAt text)) (BitVec.ofNat 32 (tadd t k)) (BitVec.ofNat 32 (tadd t k / 4294967296)) (rest.toList == ByteArray.empty.toList)) (tadd t k)
    else h
def outM (h : List W) : ByteArray := ⟨((List.range 32).map fun i => UInt8.ofNat (((h.getD (i / 4) 0).toNat / 2 ^ (8 * (i % 4))) % 256)).toArray⟩
def h0M (n : Nat) : List W := ivM.set 0 (0x6A09E667#32 ^^^ (0x01010020#32 ^^^ BitVec.ofNat 32 (n * 256)))
/-- Sum, of a key that is not too long. -/
def sumM (key text : ByteArray) : ByteArray :=
  let h := h0M key.size
  if key.toList == ByteArray.empty.toList then outM (goM (text.size + 2) true text h 0)
  else outM (goM (text.size + 2) false text (blockM h (mW (byteAt key)) (BitVec.ofNat 32 (tadd 0 64)) (BitVec.ofNat 32 (tadd 0 64 / 4294967296)) (text.toList == ByteArray.empty.toList)) (tadd 0 64))
end Go.Bla
