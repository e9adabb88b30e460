/-
  Contracts of given functions, or plain laws that they need. No condition.
-/
import Derived.Test.YtmgfgcoeflanmaaDoorPkG
import Derived.Test.YtmgfgcoeflanmaaDoorEng19
namespace Go.Bla
open Go Go.Eng
set_option maxRecDepth 100000
def gl : Nat → Option (List D) := fun g =>
  if g == 0 then some (ivM.map wd)
  else if g == 1 then some [.raw (.string ⟨#[48, 49, 50, 51, 52, 53, 54, 55, 56, 57, 97, 98, 99, 100, 101, 102]⟩), .raw (.string ⟨#[101, 97, 52, 56, 57, 102, 100, 54, 49, 99, 48, 50, 98, 55, 53, 51]⟩), .raw (.string ⟨#[98, 56, 99, 48, 53, 50, 102, 100, 97, 101, 51, 54, 55, 49, 57, 52]⟩), .raw (.string ⟨#[55, 57, 51, 49, 100, 99, 98, 101, 50, 54, 53, 97, 52, 48, 102, 56]⟩), .raw (.string ⟨#[57, 48, 53, 55, 50, 52, 97, 102, 101, 49, 98, 99, 54, 56, 51, 100]⟩), .raw (.string ⟨#[50, 99, 54, 97, 48, 98, 56, 51, 52, 100, 55, 53, 102, 101, 49, 57]⟩), .raw (.string ⟨#[99, 53, 49, 102, 101, 100, 52, 97, 48, 55, 54, 51, 57, 50, 56, 98]⟩), .raw (.string ⟨#[100, 98, 55, 101, 99, 49, 51, 57, 53, 48, 102, 52, 56, 54, 50, 97]⟩), .raw (.string ⟨#[54, 102, 101, 57, 98, 51, 48, 56, 99, 50, 100, 55, 49, 52, 97, 53]⟩), .raw (.string ⟨#[97, 50, 56, 52, 55, 54, 49, 53, 102, 98, 57, 101, 51, 99, 100, 48]⟩)]
  else none
def O1 : Orc := (Orc.none gl).add 74 false mRot
def O2 : Orc := O1.add 63 false mHalf
def O3 : Orc := O2.add 64 false mDig
end Go.Bla

namespace Go.Bla
open Go Go.Eng
set_option linter.unusedVariables false
set_option maxRecDepth 100000
def colM (v m : List W) (row : ByteArray) : List W :=
  putM (putM (putM (putM (v) 0 4 8 12 (m.getD (nib row 0) 0) (m.getD (nib row 1) 0)) 1 5 9 13 (m.getD (nib row 2) 0) (m.getD (nib row 3) 0)) 2 6 10 14 (m.getD (nib row 4) 0) (m.getD (nib row 5) 0)) 3 7 11 15 (m.getD (nib row 6) 0) (m.getD (nib row 7) 0)
def diaM (v m : List W) (row : ByteArray) : List W :=
  putM (putM (putM (putM (v) 0 5 10 15 (m.getD (nib row 8) 0) (m.getD (nib row 9) 0)) 1 6 11 12 (m.getD (nib row 10) 0) (m.getD (nib row 11) 0)) 2 7 8 13 (m.getD (nib row 12) 0) (m.getD (nib row 13) 0)) 3 4 9 14 (m.getD (nib row 14) 0) (m.getD (nib row 15) 0)
theorem len_colM (v m : List W) (row : ByteArray) : (colM v m row).length = v.length := by simp [colM, len_putM]
theorem len_diaM (v m : List W) (row : ByteArray) : (diaM v m row).length = v.length := by simp [diaM, len_putM]
/-- Sixteen cells. -/
def outW (l : List W) : List AV := [av (l.getD 0 0), av (l.getD 1 0), av (l.getD 2 0), av (l.getD 3 0), av (l.getD 4 0), av (l.getD 5 0), av (l.getD 6 0), av (l.getD 7 0), av (l.getD 8 0), av (l.getD 9 0), av (l.getD 10 0), av (l.getD 11 0), av (l.getD 12 0), av (l.getD 13 0), av (l.getD 14 0), av (l.getD 15 0)]
theorem outW_eq {l : List W} (h : l.length = 16) : words l = outW l := by
  match l, h with
  | [a0, a1, a2, a3, a4, a5, a6, a7, a8, a9, a10, a11, a12, a13, a14, a15], _ => rfl
/-- (turn) -/
def mTurn : List AV → List (Nat × Th) → Option (AV × List (Nat × Th) × List Prop)
  | [.ref 0 0, .ref 1 0, .d (.raw (.string row)), .d (.raw (.int .i64 at_)), .d (.raw (.int .i64 ap))], [(0, .obj T cs), (1, .obj U ds)] =>
    match numsOf cs, numsOf ds with
    | some ns, some ms =>
      match at_ == 0 && ap == 0, at_ == 8 && ap == 1 with
      | true, _ => some (.dead, [(0, .obj T (outW (colM (ns.map unw) (ms.map unw) row))), (1, .obj U ds)], [OkW ns, ns.length = 16, OkW ms, ms.length = 16, HexRow row])
      | _, true => some (.dead, [(0, .obj T (outW (diaM (ns.map unw) (ms.map unw) row))), (1, .obj U ds)], [OkW ns, ns.length = 16, OkW ms, ms.length = 16, HexRow row])
      | _, _ => none
    | _, _ => none
  | _, _ => none
def O4 : Orc := O3.add 53 false mTurn
def rowsD : List D := (gl 1).getD []
def rowB (r : Nat) : ByteArray := match rowsD[r]? with
  | some (.raw (.string b)) => b
  | _ => ByteArray.empty
/-- The state at the rows' loop. -/
def bst (T : Nat) (h : List W) (t : Int) (m v : List W) (i : Int) : St := mk 1 138 [(0, .ref 0 0), (8, .ref 1 0), (11, .ref 2 0), (99, .d (.agg rowsD)), (100, .d (I i))] [(0, .obj T (words h ++ [.d (.raw (.int .u64 t))])), (1, .obj 109 (words m)), (2, .obj 111 (words v))]
/-- Between a row's two turns. -/
def bst2 (T : Nat) (h : List W) (t : Int) (m v : List W) (i : Int) (row : ByteArray) : St := mk 1 138 [(0, .ref 0 0), (8, .ref 1 0), (11, .ref 2 0), (14, .d (.raw (.string row))), (99, .d (.agg rowsD)), (100, .d (I i))] [(0, .obj T (words h ++ [.d (.raw (.int .u64 t))])), (1, .obj 109 (words m)), (2, .obj 111 (words v))]
end Go.Bla

namespace Go.Bla
open Go Go.Eng
set_option linter.unusedVariables false
/-- The state at block's bytes' loop. -/
def bs0 (T : Nat) (h : List W) (t n : Int) (last : Bool) (b : Nat → Int) (cells : List AV) (i : Int) : St := mk 1 138 [(0, .ref 0 0), (2, .d (I n)), (3, .d (.raw (.bool last))), (8, .ref 1 0), (16, .d (.agg ((List.range 64).map fun i => .raw (.int .u8 (b i))))), (17, .d (I i))] [(0, .obj T (words h ++ [.d (.raw (.int .u64 t))])), (1, .obj 109 cells)]
end Go.Bla

namespace Go.Bla
open Go Go.Eng
set_option linter.unusedVariables false
/-- Four bytes as a word. -/
def wd4 (a b c d : Int) : W := unw (a + 256 * b + 65536 * c + 16777216 * d)
def mW (b : Nat → Int) : List W := (List.range 16).map fun i => wd4 (b (4 * i)) (b (4 * i + 1)) (b (4 * i + 2)) (b (4 * i + 3))
def outN (n : Nat) (l : List W) : List AV := (List.range n).map fun i => av (l.getD i 0)
/-- So many bytes more. -/
def tadd (t n : Int) : Nat := (IntKind.u64.wrap (t + IntKind.u64.wrap n)).toNat
def OkB (ds : List D) : Prop := ∃ f : Nat → Int, (∀ i, 0 ≤ f i ∧ f i < 256) ∧ ds = (List.range 64).map fun i => .raw (.int .u8 (f i))
def fnB (ds : List D) (i : Nat) : Int := unI (ds.getD i default)
/-- (block) -/
def mBlock : List AV → List (Nat × Th) → Option (AV × List (Nat × Th) × List Prop)
  | [.ref 0 0, .d (.agg ds), .d (.raw (.int .i64 n)), .d (.raw (.bool last))], [(0, .obj T [.d (.raw (.int .u32 a0)), .d (.raw (.int .u32 a1)), .d (.raw (.int .u32 a2)), .d (.raw (.int .u32 a3)), .d (.raw (.int .u32 a4)), .d (.raw (.int .u32 a5)), .d (.raw (.int .u32 a6)), .d (.raw (.int .u32 a7)), .d (.raw (.int .u64 t))])] =>
    some (.dead, [(0, .obj T (outN 8 (blockM ([a0, a1, a2, a3, a4, a5, a6, a7].map unw) (mW (fnB ds)) (BitVec.ofNat 32 (tadd t n)) (BitVec.ofNat 32 (tadd t n / 4294967296)) last) ++ [.d (.raw (.int .u64 (tadd t n)))]))], [OkW [a0, a1, a2, a3, a4, a5, a6, a7], OkB ds])
  | _, _ => none
def O5 : Orc := O4.add 43 false mBlock
/-- The state at Sum's loop. -/
def sst (key text : ByteArray) (first : Bool) (h : List W) (t : Int) : St := mk 0 82 [(0, .d (.raw (.string key))), (1, .d (.raw (.string text))), (6, .ref 0 0), (8, .d (.raw (.bool first)))] [(0, .obj 96 (words h ++ [.d (.raw (.int .u64 t))]))]
def bytes64 (b : Nat → Int) : List AV := (List.range 64).map fun i => .d (.raw (.int .u8 (b i)))
/-- Ahead of Sum's calls of block. -/
def sstK (key text : ByteArray) (h : List W) (t : Int) (b : Nat → Int) : St := mk 0 82 [(0, .d (.raw (.string key))), (1, .d (.raw (.string text))), (6, .ref 0 0), (7, .ref 1 0)] [(0, .obj 96 (words h ++ [.d (.raw (.int .u64 t))])), (1, .obj 97 (bytes64 b))]
def sstB (key text : ByteArray) (h : List W) (t : Int) (b : Nat → Int) (k : Int) : St := mk 0 82 [(0, .d (.raw (.string key))), (1, .d (.raw (.string text))), (6, .ref 0 0), (9, .ref 1 0), (10, .d (I k))] [(0, .obj 96 (words h ++ [.d (.raw (.int .u64 t))])), (1, .obj 97 (bytes64 b))]
/-- Sum's blocks. -/
def goM : Nat → Bool → ByteArray → List W → Int → List W
  | 0, _, _, h, _ => h
  | n + 1, first, text, h, t =>
    if first || !(text.toList == ByteArray.empty.toList) then
      let k := Nat.min text.size 64
      let rest := text.extract k text.size
      goM n false rest (blockM h (mW (byteAt text)) (BitVec.ofNat 32 (tadd t k)) (BitVec.ofNat 32 (tadd t k / 4294967296)) (rest.toList == ByteArray.empty.toList)) (tadd t k)
    else h
def outM (h : List W) : ByteArray := ⟨((List.range 32).map fun i => UInt8.ofNat (((h.getD (i / 4) 0).toNat / 2 ^ (8 * (i % 4))) % 256)).toArray⟩
def h0M (n : Nat) : List W := ivM.set 0 (0x6A09E667#32 ^^^ (0x01010020#32 ^^^ BitVec.ofNat 32 (n * 256)))
/-- Sum, of a key that is not too long. -/
def sumM (key text : ByteArray) : ByteArray :=
  let h := h0M key.size
  if key.toList == ByteArray.empty.toList then outM (goM (text.size + 2) true text h 0)
  else outM (goM (text.size + 2) false text (blockM h (mW (byteAt key)) (BitVec.ofNat 32 (tadd 0 64)) (BitVec.ofNat 32 (tadd 0 64 / 4294967296)) (text.toList == ByteArray.empty.toList)) (tadd 0 64))
end Go.Bla

namespace Go.Sea
open Go Go.Eng Go.Nest Go.Memo
set_option linter.unusedVariables false
/-- The library's variables, and blake's. -/
def glS (m : Int) (e1 e2 : Value) : Nat → Option (List D) := fun g => match Go.Bla.gl g with
  | some x => some x
  | none => glU m e1 e2 g
/-- Of these what is needed without a text's numbers. -/
def glT : Nat → Option (List D) := fun g => match Go.Bla.gl g with
  | some x => some x
  | none => glP g
def sumB (k t : ByteArray) : ByteArray := if k.size ≤ 32 then Go.Bla.sumM k t else ByteArray.empty
def sumE (k : ByteArray) : Int := if k.size ≤ 32 then 0 else 2
def mSum : Mo
  | [.d (.raw (.string k)), .d (.raw (.string t))], [] => some (.tup [.d (.raw (.string (sumB k t))), .d (.raw (.int .i64 (sumE k)))], [], [])
  | _, _ => none
def keyB (seed : ByteArray) (g n : Int) : ByteArray := sumB seed (nameM g n).1
/-- A party's tag of a text: all 32 bytes of the sum. -/
def tagS (seed : ByteArray) (g n : Int) (t : ByteArray) : ByteArray := sumB (keyB seed g n) t
def zer16 : ByteArray := ⟨#[0, 0, 0, 0, 0, 0, 0, 0, 0, 0, 0, 0, 0, 0, 0, 0]⟩
/-- A party's tag. -/
def tag16 (seed : ByteArray) (g n : Int) (t : ByteArray) : ByteArray := (tagS seed g n t).extract 0 16
def zst (seed : ByteArray) (g n : Int) (t : ByteArray) : ByteArray := if isM g n = true then tag16 seed g n t else zer16
abbrev cells16 (z : ByteArray) : List D := [.raw (.int .u8 (byteAt z 0)), .raw (.int .u8 (byteAt z 1)), .raw (.int .u8 (byteAt z 2)), .raw (.int .u8 (byteAt z 3)), .raw (.int .u8 (byteAt z 4)), .raw (.int .u8 (byteAt z 5)), .raw (.int .u8 (byteAt z 6)), .raw (.int .u8 (byteAt z 7)), .raw (.int .u8 (byteAt z 8)), .raw (.int .u8 (byteAt z 9)), .raw (.int .u8 (byteAt z 10)), .raw (.int .u8 (byteAt z 11)), .raw (.int .u8 (byteAt z 12)), .raw (.int .u8 (byteAt z 13)), .raw (.int .u8 (byteAt z 14)), .raw (.int .u8 (byteAt z 15))]
def A0 (q : ByteArray) (e : Int) : Orc := ((Orc.none glT).add 16 false (mName q e)).add 34 false mSum
def ring (seed : ByteArray) : List (Nat × Th) := [(0, .obj 57 [.d (.raw (.string seed))])]
/-- The stamp: named z, e. -/
def mStamp (z : ByteArray) (e : Int) : Mo
  | [.ref 0 0, .d (.agg [.raw (.int .i64 g), .raw (.int .i64 n)]), .d (.raw (.string t))], [(0, .obj T [.d (.raw (.string seed))])] => some (.tup [.d (.agg (cells16 z)), .d (.raw (.int .i64 e))], [(0, .obj T [.d (.raw (.string seed))])], [T = 57, seed.size ≤ 32, z = zst seed g n t, e = (nameM g n).2])
  | [.d (.raw (.pointer none)), .d (.agg [.raw (.int .i64 g), .raw (.int .i64 n)]), .d (.raw (.string t))], [] => some (.tup [.d (.agg (cells16 z)), .d (.raw (.int .i64 e))], [], [z = zer16, e = if isM g n = true then 7 else 1])
  | _, _ => none
def A1 (z : ByteArray) (e : Int) : Orc := (Orc.none glT).add 24 false (mStamp z e)
def tagE (g n : Int) : Int := (nameM g n).2
def tagB (seed : ByteArray) (g n : Int) (t : ByteArray) : ByteArray := if isM g n = true then tag16 seed g n t else ByteArray.empty
def sgG (g n : Int) : Int := if isM g n = true then g else 0
def sgN (g n : Int) : Int := if isM g n = true then n else 0
def sgT (g n : Int) (t : ByteArray) : ByteArray := if isM g n = true then t else ByteArray.empty
/-- Tag. -/
def mTag (z : ByteArray) (e : Int) : Mo
  | [.ref 0 0, .d (.agg [.raw (.int .i64 g), .raw (.int .i64 n)]), .d (.raw (.string t))], [(0, .obj T [.d (.raw (.string seed))])] => some (.tup [.d (.raw (.string z)), .d (.raw (.int .i64 e))], [(0, .obj T [.d (.raw (.string seed))])], [T = 57, seed.size ≤ 32, z = tagB seed g n t, e = (nameM g n).2])
  | [.d (.raw (.pointer none)), .d (.agg [.raw (.int .i64 g), .raw (.int .i64 n)]), .d (.raw (.string t))], [] => some (.tup [.d (.raw (.string z)), .d (.raw (.int .i64 e))], [], [z = ByteArray.empty, e = if isM g n = true then 7 else 1])
  | _, _ => none
def A2 (z : ByteArray) (e : Int) : Orc := (Orc.none glT).add 10 false (mTag z e)
def A3 (q p : ByteArray) (e : Int) : Orc := ((Orc.none glP).add 16 false (mName q e)).add 27 true (mPackV p)
def A4 (m : Int) (e1 e2 : Value) (r : List ByteArray) (f g n h : Int) : Orc := ((Orc.none (glU m e1 e2)).add 31 false (mUnpV r f)).add 18 false (mParty g n h)
/-- The reference's. -/
def mSumR : Mo
  | [.d (.raw (.string k)), .d (.raw (.string t))], [] => some (.tup [.d (.raw (.string (sumB k t))), .d (.raw (.int .i64 (sumE k)))], [], [t.size ≤ 1073741824])
  | _, _ => none
def B0 (q : ByteArray) (e : Int) : Orc := ((Orc.none Go.Bla.gl).add 17 false (mName q e)).add 25 false mSumR
def mTagR (z : ByteArray) (e : Int) : Mo
  | [.d (.raw (.string seed)), .d (.agg [.raw (.int .i64 g), .raw (.int .i64 n)]), .d (.raw (.string t))], [] => some (.tup [.d (.raw (.string z)), .d (.raw (.int .i64 e))], [], [seed.size ≤ 32 ∧ t.size ≤ 1073741824, z = tagB seed g n t, e = (nameM g n).2])
  | _, _ => none
def B1 (z : ByteArray) (e : Int) : Orc := (Orc.none Go.Bla.gl).add 11 false (mTagR z e)
def B2 (r : List ByteArray) (q p : ByteArray) (e : Int) : Orc := ((Orc.none gz).add 17 false (mName q e)).add 29 false (mPackR r p)
def B3 (r : List ByteArray) (f g n h : Int) : Orc := ((Orc.none gz).add 33 false (mUnpV r f)).add 19 false (mParty g n h)
end Go.Sea

namespace Go.Sea
open Go Go.Eng Go.Nest Go.Memo
set_option linter.unusedVariables false
theorem sz16 {n : Nat} (h : ((n : Int) != (16 : Int)) = false) : n = 16 := by
  have : (n : Int) = 16 := by simpa using h
  omega
theorem outM_size (h : List Go.Bla.W) : (Go.Bla.outM h).size = 32 := by unfold Go.Bla.outM; rfl
theorem sumM_size (k t : ByteArray) : (Go.Bla.sumM k t).size = 32 := by
  unfold Go.Bla.sumM; simp only; split <;> exact outM_size _
theorem sumB_size {k : ByteArray} (h : k.size ≤ 32) (t : ByteArray) : (sumB k t).size = 32 := by unfold sumB; rw [if_pos h]; exact sumM_size _ _
theorem tagS_size {seed : ByteArray} (h : seed.size ≤ 32) (g n : Int) (t : ByteArray) : (tagS seed g n t).size = 32 := sumB_size (by unfold keyB; rw [sumB_size h]; decide) t
theorem tag16_size {seed : ByteArray} (h : seed.size ≤ 32) (g n : Int) (t : ByteArray) : (tag16 seed g n t).size = 16 := by
  unfold tag16; rw [ByteArray.size_extract, tagS_size h]; rfl
theorem zst_size {seed : ByteArray} (h : seed.size ≤ 32) (g n : Int) (t : ByteArray) : (zst seed g n t).size = 16 := by
  unfold zst; split
  · exact tag16_size h g n t
  · rfl
theorem u8_byteAt (z : ByteArray) (i : Nat) (hi : i < z.size) : UInt8.ofNat (byteAt z i).toNat = z.data.toList[i]'(by rw [← size_ba]; exact hi) := by
  rw [byteAt_list z i hi, Int.toNat_natCast, UInt8.ofNat_toNat]
/-- The sixteen cells of a tag, as a text again. -/
theorem bytes16 {z : ByteArray} (h : z.size = 16) : bytesOf 16 (segD false 1 (cells16 z)) = z := by
  apply ext_ba
  apply List.ext_getElem
  · rw [← size_ba z, h]; rfl
  · intro i h1 h2
    have hi : i < 16 := by rw [← size_ba, h] at h2; exact h2
    have e : ∀ i, i < 16 → (bytesOf 16 (segD false 1 (cells16 z))).data.toList[i]? = some (UInt8.ofNat (byteAt z i).toNat) := by
      intro i hi
      have hc : i = 0 ∨ i = 1 ∨ i = 2 ∨ i = 3 ∨ i = 4 ∨ i = 5 ∨ i = 6 ∨ i = 7 ∨ i = 8 ∨ i = 9 ∨ i = 10 ∨ i = 11 ∨ i = 12 ∨ i = 13 ∨ i = 14 ∨ i = 15 := by omega
      rcases hc with rfl | rfl | rfl | rfl | rfl | rfl | rfl | rfl | rfl | rfl | rfl | rfl | rfl | rfl | rfl | rfl <;> rfl
    have e1 := e i hi
    rw [u8_byteAt z i (by omega)] at e1
    rw [List.getElem?_eq_getElem h1] at e1
    exact Option.some.inj e1
theorem byteAt_inj {a b : ByteArray} (h1 : a.size = b.size) (h : ∀ i, i < a.size → byteAt a i = byteAt b i) : a = b := by
  apply ext_ba
  apply List.ext_getElem
  · rw [← size_ba, ← size_ba, h1]
  · intro i h2 h3
    have hi : i < a.size := by rw [size_ba]; exact h2
    rw [← u8_byteAt a i hi, ← u8_byteAt b i (by omega), h i hi]
def vals16 (z : ByteArray) : List Value := [.int .u8 (byteAt z 0), .int .u8 (byteAt z 1), .int .u8 (byteAt z 2), .int .u8 (byteAt z 3), .int .u8 (byteAt z 4), .int .u8 (byteAt z 5), .int .u8 (byteAt z 6), .int .u8 (byteAt z 7), .int .u8 (byteAt z 8), .int .u8 (byteAt z 9), .int .u8 (byteAt z 10), .int .u8 (byteAt z 11), .int .u8 (byteAt z 12), .int .u8 (byteAt z 13), .int .u8 (byteAt z 14), .int .u8 (byteAt z 15)]
theorem eq16 {a b : ByteArray} (ha : a.size = 16) (hb : b.size = 16) : eqcs (vals16 a) (vals16 b) = decide (a = b) := by
  rw [Bool.eq_iff_iff, decide_eq_true_eq]
  constructor
  · intro h
    simp only [vals16, eqcs, eqc, Bool.and_eq_true, beq_iff_eq] at h
    obtain ⟨h0, h1, h2, h3, h4, h5, h6, h7, h8, h9, h10, h11, h12, h13, h14, h15⟩ := h
    refine byteAt_inj (by omega) fun i hi => ?_
    have hc : i = 0 ∨ i = 1 ∨ i = 2 ∨ i = 3 ∨ i = 4 ∨ i = 5 ∨ i = 6 ∨ i = 7 ∨ i = 8 ∨ i = 9 ∨ i = 10 ∨ i = 11 ∨ i = 12 ∨ i = 13 ∨ i = 14 ∨ i = 15 := by omega
    rcases hc with rfl | rfl | rfl | rfl | rfl | rfl | rfl | rfl | rfl | rfl | rfl | rfl | rfl | rfl | rfl | rfl <;> assumption
  · rintro rfl
    simp [vals16, eqcs, eqc]
/-- What Check answers. -/
def chkS (seed : ByteArray) (g n : Int) (t tag : ByteArray) : Int := if isM g n = true then (if tag = tag16 seed g n t then 0 else 30) else 1
/-- Signed, encoded and decoded. -/
def encS (g n : Int) (t tag : ByteArray) : ByteArray × Int := if isM g n = true then (if tag.size = 16 then (packB [(nameM g n).1, t, tag], 0) else (ByteArray.empty, 4)) else (ByteArray.empty, 1)
structure Sg where
  g : Int
  n : Int
  t : ByteArray
  tag : ByteArray
def decS (s : ByteArray) : Sg × Int :=
  if (unpR s).2 = 0 ∧ (unpR s).1.length = 3 ∧ (at' (unpR s).1 2).size = 16 ∧ (partyM (at' (unpR s).1 0)).2.2 = 0 then (⟨(partyM (at' (unpR s).1 0)).1, (partyM (at' (unpR s).1 0)).2.1, at' (unpR s).1 1, at' (unpR s).1 2⟩, 0) else (⟨0, 0, ByteArray.empty, ByteArray.empty⟩, 4)
theorem list3 {r : List ByteArray} (h : r.length = 3) : r = [at' r 0, at' r 1, at' r 2] := by
  rcases r with _ | ⟨a, _ | ⟨b, _ | ⟨c, _ | ⟨d, r⟩⟩⟩⟩ <;> simp at h
  rfl
theorem enc_zero {g n : Int} {t tag : ByteArray} (h : (encS g n t tag).2 = 0) : isM g n = true ∧ tag.size = 16 ∧ encS g n t tag = (packB [(nameM g n).1, t, tag], 0) := by
  unfold encS at h ⊢
  split at h
  · rename_i h1
    split at h
    · rename_i h2; exact ⟨h1, h2, by rw [if_pos h1, if_pos h2]⟩
    · cases h
  · cases h
theorem name_small (g n : Int) : (nameM g n).1.size ≤ 60 := by
  unfold nameM; split
  · rename_i h; exact name_size g n (of_decide_eq_true h)
  · decide
theorem pack3_len {g n : Int} {t tag : ByteArray} (ht : t.size ≤ 600000) (hg : tag.size = 16) : (packL [(nameM g n).1, t, tag]).length ≤ 700000 := by
  have h0 := name_small g n
  have b1 := pack_len1 (nameM g n).1 [t, tag] (by omega)
  have b2 := pack_len1 t [tag] (by omega)
  have b3 := pack_len1 tag [] (by omega)
  have b7 : (packL []).length = 0 := rfl
  omega
/-- What was encoded is decoded. -/
theorem decS_enc {g n : Int} {t tag : ByteArray} (ht : t.size ≤ 600000) (h : (encS g n t tag).2 = 0) : decS (encS g n t tag).1 = (⟨g, n, t, tag⟩, 0) := by
  obtain ⟨h1, h2, h3⟩ := enc_zero h
  rw [h3]
  have h0 := name_small g n
  have eu : unpR (packB [(nameM g n).1, t, tag]) = ([(nameM g n).1, t, tag], 0) := unpR_pack _ (by intro x hx; simp only [List.mem_cons, List.not_mem_nil, or_false] at hx; rcases hx with rfl | rfl | rfl <;> omega)
  unfold decS
  rw [eu]
  have e0 : at' [(nameM g n).1, t, tag] 0 = (nameM g n).1 := rfl
  have e1 : at' [(nameM g n).1, t, tag] 1 = t := rfl
  have e2 : at' [(nameM g n).1, t, tag] 2 = tag := rfl
  simp only [e0, e1, e2, party_name h1]
  rw [if_pos ⟨trivial, rfl, h2, trivial⟩]
/-- What was decoded is encoded again. -/
theorem encS_dec {s : ByteArray} (h : (decS s).2 = 0) : encS (decS s).1.g (decS s).1.n (decS s).1.t (decS s).1.tag = (s, 0) := by
  unfold decS at h ⊢
  split at h
  · rename_i hc
    rw [if_pos hc]
    obtain ⟨h1, h2, h3, h4⟩ := hc
    obtain ⟨h5, h6⟩ := party_is h4
    show encS (partyM (at' (unpR s).1 0)).1 (partyM (at' (unpR s).1 0)).2.1 (at' (unpR s).1 1) (at' (unpR s).1 2) = (s, 0)
    unfold encS
    rw [if_pos h5, if_pos h3, h6, ← list3 h2, ← unpR_inv h1]
  · cases h
end Go.Sea
