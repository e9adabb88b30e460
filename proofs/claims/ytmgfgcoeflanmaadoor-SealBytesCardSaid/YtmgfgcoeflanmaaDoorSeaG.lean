/-
  Contracts of given functions, or plain laws that they need. No condition.
-/
import Derived.Test.YtmgfgcoeflanmaaDoorMemM
import Derived.Test.YtmgfgcoeflanmaaDoorBlaG
namespace Go.Sea
open Go Go.Eng Go.Nest Go.Memo
set_option linter.unusedVariables false
/-- The library's variables, and blake's. -/
def glS (m : Int) (e1 e2 : Value) : Nat → Option (List D) := fun g => match Go.Bla.gl g with
  | some x => some x
  | none => glU m e1 e2 g
/-- Of these what is needed without a text's numbers. -/
def glT : Nat → Option (List D) := fun g => match Go.Bla.gl g with
  | some x => some x
  | none => glP g
def sumB (k t : ByteArray) : ByteArray := if k.size ≤ 32 then Go.Bla.sumM k t else ByteArray.empty
def sumE (k : ByteArray) : Int := if k.size ≤ 32 then 0 else 2
def mSum : Mo
  | [.d (.raw (.string k)), .d (.raw (.string t))], [] => some (.tup [.d (.raw (.string (sumB k t))), .d (.raw (.int .i64 (sumE k)))], [], [])
  | _, _ => none
def keyB (seed : ByteArray) (g n : Int) : ByteArray := sumB seed (nameM g n).1
/-- A party's tag of a text: all 32 bytes of the sum. -/
def tagS (seed : ByteArray) (g n : Int) (t : ByteArray) : ByteArray := sumB (keyB seed g n) t
def zer16 : ByteArray := ⟨#[0, 0, 0, 0, 0, 0, 0, 0, 0, 0, 0, 0, 0, 0, 0, 0]⟩
/-- A party's tag. -/
def tag16 (seed : ByteArray) (g n : Int) (t : ByteArray) : ByteArray := (tagS seed g n t).extract 0 16
def zst (seed : ByteArray) (g n : Int) (t : ByteArray) : ByteArray := if isM g n = true then tag16 seed g n t else zer16
abbrev cells16 (z : ByteArray) : List D := [.raw (.int .u8 (byteAt z 0)), .raw (.int .u8 (byteAt z 1)), .raw (.int .u8 (byteAt z 2)), .raw (.int .u8 (byteAt z 3)), .raw (.int .u8 (byteAt z 4)), .raw (.int .u8 (byteAt z 5)), .raw (.int .u8 (byteAt z 6)), .raw (.int .u8 (byteAt z 7)), .raw (.int .u8 (byteAt z 8)), .raw (.int .u8 (byteAt z 9)), .raw (.int .u8 (byteAt z 10)), .raw (.int .u8 (byteAt z 11)), .raw (.int .u8 (byteAt z 12)), .raw (.int .u8 (byteAt z 13)), .raw (.int .u8 (byteAt z 14)), .raw (.int .u8 (byteAt z 15))]
def A0 (q : ByteArray) (e : Int) : Orc := ((Orc.none glT).add 16 false (mName q e)).add 34 false mSum
def ring (seed : ByteArray) : List (Nat × Th) := [(0, .obj 57 [.d (.raw (.string seed))])]
/-- The stamp: named z, e. -/
def mStamp (z : ByteArray) (e : Int) : Mo
  | [.ref 0 0, .d (.agg [.raw (.int .i64 g), .raw (.int .i64 n)]), .d (.raw (.string t))], [(0, .obj T [.d (.raw (.string seed))])] => some (.tup [.d (.agg (cells16 z)), .d (.raw (.int .i64 e))], [(0, .obj T [.d (.raw (.string seed))])], [T = 57, seed.size ≤ 32, z = zst seed g n t, e = (nameM g n).2])
  | [.d (.raw (.pointer none)), .d (.agg [.raw (.int .i64 g), .raw (.int .i64 n)]), .d (.raw (.string t))], [] => some (.tup [.d (.agg (cells16 z)), .d (.raw (.int .i64 e))], [], [z = zer16, e = if isM g n = true then 7 else 1])
  | _, _ => none
def A1 (z : ByteArray) (e : Int) : Orc := (Orc.none glT).add 24 false (mStamp z e)
def tagE (g n : Int) : Int := (nameM g n).2
def tagB (seed : ByteArray) (g n : Int) (t : ByteArray) : ByteArray := if isM g n = true then tag16 seed g n t else ByteArray.empty
def sgG (g n : Int) : Int := if isM g n = true then g else 0
def sgN (g n : Int) : Int := if isM g n = true then n else 0
def sgT (g n : Int) (t : ByteArray) : ByteArray := if isM g n = true then t else ByteArray.empty
/-- Tag. -/
def mTag (z : ByteArray) (e : Int) : Mo
  | [.ref 0 0, .d (.agg [.raw (.int .i64 g), .raw (.int .i64 n)]), .d (.raw (.string t))], [(0, .obj T [.d (.raw (.string seed))])] => some (.tup [.d (.raw (.string z)), .d (.raw (.int .i64 e))], [(0, .obj T [.d (.raw (.string seed))])], [T = 57, seed.size ≤ 32, z = tagB seed g n t, e = (nameM g n).2])
  | [.d (.raw (.pointer none)), .d (.agg [.raw (.int .i64 g), .raw (.int .i64 n)]), .d (.raw (.string t))], [] => some (.tup [.d (.raw (.string z)), .d (.raw (.int .i64 e))], [], [z = ByteArray.empty, e = if isM g n = true then 7 else 1])
  | _, _ => none
def A2 (z : ByteArray) (e : Int) : Orc := (Orc.none glT).add 10 false (mTag z e)
def A3 (q p : ByteArray) (e : Int) : Orc := ((Orc.none glP).add 16 false (mName q e)).add 27 true (mPackV p)
def A4 (m : Int) (e1 e2 : Value) (r : List ByteArray) (f g n h : Int) : Orc := ((Orc.none (glU m e1 e2)).add 31 false (mUnpV r f)).add 18 false (mParty g n h)
/-- The reference's. -/
def mSumR : Mo
  | [.d (.raw (.string k)), .d (.raw (.string t))], [] => some (.tup [.d (.raw (.string (sumB k t))), .d (.raw (.int .i64 (sumE k)))], [], [t.size ≤ 1073741824])
  | _, _ => none
def B0 (q : ByteArray) (e : Int) : Orc := ((Orc.none Go.Bla.gl).add 17 false (mName q e)).add 25 false mSumR
def mTagR (z : ByteArray) (e : Int) : Mo
  | [.d (.raw (.string seed)), .d (.agg [.raw (.int .i64 g), .raw (.int .i64 n)]), .d (.raw (.string t))], [] => some (.tup [.d (.raw (.string z)), .d (.raw (.int .i64 e))], [], [seed.size ≤ 32 ∧ t.size ≤ 1073741824, z = tagB seed g n t, e = (nameM g n).2])
  | _, _ => none
def B1 (z : ByteArray) (e : Int) : Orc := (Orc.none Go.Bla.gl).add 11 false (mTagR z e)
def B2 (r : List ByteArray) (q p : ByteArray) (e : Int) : Orc := ((Orc.none gz).add 17 false (mName q e)).add 29 false (mPackR r p)
def B3 (r : List ByteArray) (f g n h : Int) : Orc := ((Orc.none gz).add 33 false (mUnpV r f)).add 19 false (mParty g n h)
end Go.Sea

namespace Go.Sea
open Go Go.Eng Go.Nest Go.Memo
set_option linter.unusedVariables false
theorem sz16 {n : Nat} (h : ((n : Int) != (16 : Int)) = false) : n = 16 := by
  have : (n : Int) = 16 := by simpa using h
  omega
theorem outM_size (h : List Go.Bla.W) : (Go.Bla.outM h).size = 32 := by unfold Go.Bla.outM; rfl
theorem sumM_size (k t : ByteArray) : (Go.Bla.sumM k t).size = 32 := by
  unfold Go.Bla.sumM; simp only; split <;> exact outM_size _
theorem sumB_size {k : ByteArray} (h : k.size ≤ 32) (t : ByteArray) : (sumB k t).size = 32 := by unfold sumB; rw [if_pos h]; exact sumM_size _ _
theorem tagS_size {seed : ByteArray} (h : seed.size ≤ 32) (g n : Int) (t : ByteArray) : (tagS seed g n t).size = 32 := sumB_size (by unfold keyB; rw [sumB_size h]; decide) t
theorem tag16_size {seed : ByteArray} (h : seed.size ≤ 32) (g n : Int) (t : ByteArray) : (tag16 seed g n t).size = 16 := by
  unfold tag16; rw [ByteArray.size_extract, tagS_size h]; rfl
theorem zst_size {seed : ByteArray} (h : seed.size ≤ 32) (g n : Int) (t : ByteArray) : (zst seed g n t).size = 16 := by
  unfold zst; split
  · exact tag16_size h g n t
  · rfl
theorem u8_byteAt (z : ByteArray) (i : Nat) (hi : i < z.size) : UInt8.ofNat (byteAt z i).toNat = z.data.toList[i]'(by rw [← size_ba]; exact hi) := by
  rw [byteAt_list z i hi, Int.toNat_natCast, UInt8.ofNat_toNat]
/-- The sixteen cells of a tag, as a text again. -/
theorem bytes16 {z : ByteArray} (h : z.size = 16) : bytesOf 16 (segD false 1 (cells16 z)) = z := by
  apply ext_ba
  apply List.ext_getElem
  · rw [← size_ba z, h]; rfl
  · intro i h1 h2
    have hi : i < 16 := by rw [← size_ba, h] at h2; exact h2
    have e : ∀ i, i < 16 → (bytesOf 16 (segD false 1 (cells16 z))).data.toList[i]? = some (UInt8.ofNat (byteAt z i).toNat) := by
      intro i hi
      have hc : i = 0 ∨ i = 1 ∨ i = 2 ∨ i = 3 ∨ i = 4 ∨ i = 5 ∨ i = 6 ∨ i = 7 ∨ i = 8 ∨ i = 9 ∨ i = 10 ∨ i = 11 ∨ i = 12 ∨ i = 13 ∨ i = 14 ∨ i = 15 := by omega
      rcases hc with rfl | rfl | rfl | rfl | rfl | rfl | rfl | rfl | rfl | rfl | rfl | rfl | rfl | rfl | rfl | rfl <;> rfl
    have e1 := e i hi
    rw [u8_byteAt z i (by omega)] at e1
    rw [List.getElem?_eq_getElem h1] at e1
    exact Option.some.inj e1
theorem byteAt_inj {a b : ByteArray} (h1 : a.size = b.size) (h : ∀ i, i < a.size → byteAt a i = byteAt b i) : a = b := by
  apply ext_ba
  apply List.ext_getElem
  · rw [← size_ba, ← size_ba, h1]
  · intro i h2 h3
    have hi : i < a.size := by rw [size_ba]; exact h2
    rw [← u8_byteAt a i hi, ← u8_byteAt b i (by omega), h i hi]
def vals16 (z : ByteArray) : List Value := [.int .u8 (byteAt z 0), .int .u8 (byteAt z 1), .int .u8 (byteAt z 2), .int .u8 (byteAt z 3), .int .u8 (byteAt z 4), .int .u8 (byteAt z 5), .int .u8 (byteAt z 6), .int .u8 (byteAt z 7), .int .u8 (byteAt z 8), .int .u8 (byteAt z 9), .int .u8 (byteAt z 10), .int .u8 (byteAt z 11), .int .u8 (byteAt z 12), .int .u8 (byteAt z 13), .int .u8 (byteAt z 14), .int .u8 (byteAt z 15)]
theorem eq16 {a b : ByteArray} (ha : a.size = 16) (hb : b.size = 16) : eqcs (vals16 a) (vals16 b) = decide (a = b) := by
  rw [Bool.eq_iff_iff, decide_eq_true_eq]
  constructor
  · intro h
    simp only [vals16, eqcs, eqc, Bool.and_eq_true, beq_iff_eq] at h
    obtain ⟨h0, h1, h2, h3, h4, h5, h6, h7, h8, h9, h10, h11, h12, h13, h14, h15⟩ := h
    refine byteAt_inj (by omega) fun i hi => ?_
    have hc : i = 0 ∨ i = 1 ∨ i = 2 ∨ i = 3 ∨ i = 4 ∨ i = 5 ∨ i = 6 ∨ i = 7 ∨ i = 8 ∨ i = 9 ∨ i = 10 ∨ i = 11 ∨ i = 12 ∨ i = 13 ∨ i = 14 ∨ i = 15 := by omega
    rcases hc with rfl | rfl | rfl | rfl | rfl | rfl | rfl | rfl | rfl | rfl | rfl | rfl | rfl | rfl | rfl | rfl <;> assumption
  · rintro rfl
    simp [vals16, eqcs, eqc]
/-- What Check answers. -/
def chkS (seed : ByteArray) (g n : Int) (t tag : ByteArray) : Int := if isM g n = true then (if tag = tag16 seed g n t then 0 else 30) else 1
/-- Signed, encoded and decoded. -/
def encS (g n : Int) (t tag : ByteArray) : ByteArray × Int := if isM g n = true then (if tag.size = 16 then (packB [(nameM g n).1, t, tag], 0) else (ByteArray.empty, 4)) else (ByteArray.empty, 1)
structure Sg where
  g : Int
  n : Int
  t : ByteArray
  tag : ByteArray
def decS (s : ByteArray) : Sg × Int :=
  if (unpR s).2 = 0 ∧ (unpR s).1.length = 3 ∧ (at' (unpR s).1 2).size = 16 ∧ (partyM (at' (unpR s).1 0)).2.2 = 0 then (⟨(partyM (at' (unpR s).1 0)).1, (partyM (at' (unpR s).1 0)).2.1, at' (unpR s).1 1, at' (unpR s).1 2⟩, 0) else (⟨0, 0, ByteArray.empty, ByteArray.empty⟩, 4)
theorem list3 {r : List ByteArray} (h : r.length = 3) : r = [at' r 0, at' r 1, at' r 2] := by
  rcases r with _ | ⟨a, _ | ⟨b, _ | ⟨c, _ | ⟨d, r⟩⟩⟩⟩ <;> simp at h
  rfl
theorem enc_zero {g n : Int} {t tag : ByteArray} (h : (encS g n t tag).2 = 0) : isM g n = true ∧ tag.size = 16 ∧ encS g n t tag = (packB [(nameM g n).1, t, tag], 0) := by
  unfold encS at h ⊢
  split at h
  · rename_i h1
    split at h
    · rename_i h2; exact ⟨h1, h2, by rw [if_pos h1, if_pos h2]⟩
    · cases h
  · cases h
theorem name_small (g n : Int) : (nameM g n).1.size ≤ 60 := by
  unfold nameM; split
  · rename_i h; exact name_size g n (of_decide_eq_true h)
  · decide
theorem pack3_len {g n : Int} {t tag : ByteArray} (ht : t.size ≤ 600000) (hg : tag.size = 16) : (packL [(nameM g n).1, t, tag]).length ≤ 700000 := by
  have h0 := name_small g n
  have b1 := pack_len1 (nameM g n).1 [t, tag] (by omega)
  have b2 := pack_len1 t [tag] (by omega)
  have b3 := pack_len1 tag [] (by omega)
  have b7 : (packL []).length = 0 := rfl
  omega
/-- What was encoded is decoded. -/
theorem decS_enc {g n : Int} {t tag : ByteArray} (ht : t.size ≤ 600000) (h : (encS g n t tag).2 = 0) : decS (encS g n t tag).1 = (⟨g, n, t, tag⟩, 0) := by
  obtain ⟨h1, h2, h3⟩ := enc_zero h
  rw [h3]
  have h0 := name_small g n
  have eu : unpR (packB [(nameM g n).1, t, tag]) = ([(nameM g n).1, t, tag], 0) := unpR_pack _ (by intro x hx; simp only [List.mem_cons, List.not_mem_nil, or_false] at hx; rcases hx with rfl | rfl | rfl <;> omega)
  unfold decS
  rw [eu]
  have e0 : at' [(nameM g n).1, t, tag] 0 = (nameM g n).1 := rfl
  have e1 : at' [(nameM g n).1, t, tag] 1 = t := rfl
  have e2 : at' [(nameM g n).1, t, tag] 2 = tag := rfl
  simp only [e0, e1, e2, party_name h1]
  rw [if_pos ⟨trivial, rfl, h2, trivial⟩]
/-- What was decoded is encoded again. -/
theorem encS_dec {s : ByteArray} (h : (decS s).2 = 0) : encS (decS s).1.g (decS s).1.n (decS s).1.t (decS s).1.tag = (s, 0) := by
  unfold decS at h ⊢
  split at h
  · rename_i hc
    rw [if_pos hc]
    obtain ⟨h1, h2, h3, h4⟩ := hc
    obtain ⟨h5, h6⟩ := party_is h4
    show encS (partyM (at' (unpR s).1 0)).1 (partyM (at' (unpR s).1 0)).2.1 (at' (unpR s).1 1) (at' (unpR s).1 2) = (s, 0)
    unfold encS
    rw [if_pos h5, if_pos h3, h6, ← list3 h2, ← unpR_inv h1]
  · cases h
end Go.Sea
