/-
  Contracts of given functions, plain laws. No condition.
-/
import Derived.Test.YtbppcjkpkelbfaaDoorRowK
import Derived.SizedLaws
import Derived.Test.YtbppcjkpkelbfaaDoorEng18
import Derived.Lib.Bytealg
import Derived.Test.YtbppcjkpkelbfaaDoorProg
import Derived.Lib.ItoaNum
import Derived.Lib.AtoiAllMem
import Derived.Lib.AtoiAllCases
import Derived.Lib.IndexMore
import Derived.Lib.AppendIntMem
import Derived.Lib.IndexBytes
namespace Go.Eng
open Go
mutual
def Ty.strs : (t : Ty) → t.Val → Prop
 | .bool, _ => True
 | .int _, _ => True
 | .str, s => ByteArray.size s ≤ reachBytes
 | .list e, l => ∀ x, List.Mem x (l : List e.Val) → e.strs x
 | .agg fs, x => Ty.strss fs x
def Ty.strss : (ts : List Ty) → Ty.Vals ts → Prop
 | [], _ => True
 | t :: ts, x => t.strs x.1 ∧ Ty.strss ts x.2
end
theorem weights_all {H : Type} {P : Program} {e : TypeId} : ∀ {es : List (DataW H)} {d : DataW H}, d ∈ es → ∀ n ∈ d.weights P e, n ∈ DataW.weightsAll P e es
 | x :: r, d, hd, n, hn => by
  rw [DataW.weightsAll, List.mem_append]
  rcases List.mem_cons.1 hd with rfl | hd
  · exact .inl hn
  · exact .inr (weights_all hd n hn)
theorem mem_getD {α : Type} {l : List α} (d : α) {x : α} (h : List.Mem x l) : ∃ i, i < List.length (α := α) l ∧ List.getD (α := α) l i d = x := by
 obtain ⟨i, hi, rfl⟩ := List.getElem_of_mem (a := x) (l := l) h
 exact ⟨i, hi, by rw [List.getD, List.getElem?_eq_getElem hi]; rfl⟩
mutual
theorem Ty.sized {H : Type} {P : Program} : ∀ (τ : Ty) (t : TypeId) (a : τ.Val) (d : DataW H), τ.is P t = true → τ.Rel H a d → (∀ n ∈ d.weights P t, n ≤ reachBytes) → τ.strs a
 | .bool, _, _, _, _, _, _ => by unfold Ty.strs; trivial
 | .int _, _, _, _, _, _, _ => by unfold Ty.strs; trivial
 | .str, t, a, d, hi, hr, hw => by
  simp only [Ty.Rel] at hr
  subst hr
  unfold Ty.strs
  exact Nat.le_trans (Nat.le_of_eq (size_ba _)) (hw _ (by simp [DataW.weights]))
 | .list e, t, l, d, hi, hr, hw => by
  simp only [Ty.is] at hi
  split at hi
  ·
   rename_i u hu
   simp only [Bool.and_eq_true] at hi
   simp only [Ty.Rel] at hr
   unfold Ty.strs
   rcases hr with ⟨rfl, rfl⟩ | ⟨es, rs, rfl, hl, hr⟩
   · intro x hx; cases hx
   ·
    intro x hx
    obtain ⟨i, hi2, hx2⟩ := mem_getD (α := e.Val) (l := l) e.dflt hx
    have hi3 : i < es.length := hl ▸ hi2
    have h2 := hr i hi3
    rw [hx2] at h2
    refine Ty.sized e u _ es[i] hi.2 h2 fun n hn => hw n ?_
    simp only [DataW.weights, hu]
    exact List.mem_cons_of_mem _ (List.mem_append.2 (.inl (weights_all (List.getElem_mem hi3) n hn)))
  · cases hi
 | .agg fs, t, x, d, hi, hr, hw => by
  simp only [Ty.is] at hi
  split at hi
  ·
   rename_i gs hu
   simp only [Bool.and_eq_true] at hi
   simp only [Ty.Rel] at hr
   obtain ⟨ds, rfl, hr⟩ := hr
   unfold Ty.strs
   refine Ty.sizeds fs gs.toList 0 x ds hi.2 hr fun n hn => hw n ?_
   simp only [DataW.weights, hu]
   exact hn
  · cases hi
theorem Ty.sizeds {H : Type} {P : Program} : ∀ (ts : List Ty) (gs : List Field) (off : Nat) (a : Ty.Vals ts) (ds : List (DataW H)), Ty.iss P ts gs off = true → Ty.Rels H ts a ds → (∀ n ∈ DataW.weightsEach P (gs.map (·.type)) ds, n ≤ reachBytes) → Ty.strss ts a
 | [], _, _, _, _, _, _, _ => by unfold Ty.strss; trivial
 | t :: ts, [], _, _, _, hi, _, _ => by simp [Ty.iss] at hi
 | t :: ts, g :: gs, off, a, ds, hi, hr, hw => by
  simp only [Ty.iss, Bool.and_eq_true] at hi
  simp only [Ty.Rels] at hr
  obtain ⟨d, ds', rfl, h1, h2⟩ := hr
  unfold Ty.strss
  simp only [List.map_cons, DataW.weightsEach, List.mem_append] at hw
  exact ⟨Ty.sized t g.type a.1 d hi.1.2 h1 fun n hn => hw n (.inl hn), Ty.sizeds ts gs _ a.2 ds' hi.2 h2 fun n hn => hw n (.inr hn)⟩
end
end Go.Eng

namespace Go.Eng
open Go
theorem bl_irrefl : ∀ x : List UInt8, Op.bytesLess x x = false
 | [] => rfl
 | a :: x => by simp [Op.bytesLess, bl_irrefl x]
theorem bl_trans : ∀ x y z : List UInt8, Op.bytesLess x y = true → Op.bytesLess y z = true → Op.bytesLess x z = true
 | _, _, [], _, h => by cases ‹List UInt8› <;> simp [Op.bytesLess] at h
 | _, [], _ :: _, h, _ => by cases ‹List UInt8› <;> simp [Op.bytesLess] at h
 | [], _ :: _, _ :: _, _, _ => by simp [Op.bytesLess]
 | a :: x, b :: y, c :: z, h, k => by
  simp only [Op.bytesLess, Bool.or_eq_true, Bool.and_eq_true, decide_eq_true_eq, beq_iff_eq] at h k ⊢
  rcases h with h | ⟨rfl, h⟩
  ·
   rcases k with k | ⟨rfl, k⟩
   · exact .inl (UInt8.lt_trans h k)
   · exact .inl h
  ·
   rcases k with k | ⟨rfl, k⟩
   · exact .inl k
   · exact .inr ⟨rfl, bl_trans x y z h k⟩
theorem bl_tri : ∀ x y : List UInt8, Op.bytesLess x y = false → Op.bytesLess y x = false → x = y
 | [], [], _, _ => rfl
 | [], _ :: _, h, _ => by simp [Op.bytesLess] at h
 | _ :: _, [], _, h => by simp [Op.bytesLess] at h
 | a :: x, b :: y, h, k => by
  simp only [Op.bytesLess, Bool.or_eq_false_iff, Bool.and_eq_false_iff, decide_eq_false_iff_not, beq_eq_false_iff_ne] at h k
  have e : a = b := UInt8.le_antisymm (UInt8.not_lt.1 k.1) (UInt8.not_lt.1 h.1)
  subst e
  rw [bl_tri x y (by simpa using h.2) (by simpa using k.2)]
theorem cmpB_eq : ∀ x y : List UInt8, Lib.compareBytes x y = if Op.bytesLess x y then -1 else if Op.bytesLess y x then 1 else 0
 | [], [] => rfl
 | [], _ :: _ => rfl
 | _ :: _, [] => rfl
 | a :: x, b :: y => by
  unfold Lib.compareBytes
  rw [cmpB_eq x y]
  simp only [Op.bytesLess]
  by_cases h1 : a < b
  · simp [h1]
  ·
   by_cases h2 : b < a
   ·
    have : (a == b) = false := by rw [beq_eq_false_iff_ne]; rintro rfl; exact UInt8.lt_irrefl _ h2
    simp [h1, h2, this]
   ·
    have e : a = b := UInt8.le_antisymm (UInt8.not_lt.1 h2) (UInt8.not_lt.1 h1)
    subst e
    simp [h1]
theorem wrapI (x : Int) (h : -9223372036854775808 ≤ x ∧ x < 9223372036854775808) : IntKind.i64.wrap x = x := by
 have : IntKind.i64.wrap x = if 9223372036854775808 ≤ x % 18446744073709551616 then x % 18446744073709551616 - 18446744073709551616 else x % 18446744073709551616 := by
  set_option maxRecDepth 10000 in simp [IntKind.wrap, IntKind.bits, IntKind.signed]
 rw [this]; split <;> omega
theorem wrapU (x : Int) (h : 0 ≤ x ∧ x < 18446744073709551616) : IntKind.u64.wrap x = x := by
 have : IntKind.u64.wrap x = x % 18446744073709551616 := by set_option maxRecDepth 10000 in simp [IntKind.wrap, IntKind.bits, IntKind.signed]
 omega
theorem getD_get {α : Type} {l : List α} {i : Nat} {d : α} (h : i < l.length) : l.getD i d = l[i] := by simp [List.getD, h]
def ltB (a b : ByteArray) : Bool := Op.bytesLess a.toList b.toList
theorem ltB_irrefl (a : ByteArray) : ltB a a = false := bl_irrefl _
theorem ltB_trans {a b c : ByteArray} (h : ltB a b = true) (k : ltB b c = true) : ltB a c = true := bl_trans _ _ _ h k
theorem ltB_tri {a b : ByteArray} (h : ltB a b = false) (k : ltB b a = false) : a = b := ext_ba (by
 have := bl_tri _ _ h k
 rwa [toList_ba, toList_ba] at this)
theorem ltB_ne {a b : ByteArray} (h : ltB a b = true) : a ≠ b := by rintro rfl; rw [ltB_irrefl] at h; cases h
end Go.Eng

namespace Go.Tab
open Go Go.Eng
abbrev Rw := ByteArray × ByteArray
def rowEl (l : List Rw) (i : Nat) : D := .agg [.raw (.string (l.getD i (ByteArray.empty, ByteArray.empty)).1), .raw (.string (l.getD i (ByteArray.empty, ByteArray.empty)).2)]
def cmpI (a b : ByteArray) : Int := if Op.bytesLess a.toList b.toList then -1 else if Op.bytesLess b.toList a.toList then 1 else 0
def mCmp : List AV → List (Nat × Th) → Option (AV × List (Nat × Th) × List Prop)
 | [.d (.raw (.string a)), .d (.raw (.string b))], [] => some (.d (.raw (.int .i64 (cmpI a b))), [], [])
 | _, _ => none
def mFd1 : List AV → List (Nat × Th) → Option (AV × List (Nat × Th) × List Prop)
 | [.d (.agg [.raw (.string a), .raw (.string v)]), .d (.raw (.string b))], [] => some (.d (.raw (.int .i64 (cmpI a b))), [], [])
 | _, _ => none
def C1 : Orc := (Orc.none (fun _ => none)).add 71 false mCmp
def C2 : Orc := C1.add 70 true mFd1
def bs0 (l : List Rw) (key : ByteArray) (n i j : Int) : St := mk 1 49 [(0, .own 0), (1, .d (.raw (.string (key)))), (2, .d (.raw (.func (.func 70) #[] #[]))), (8, .d (.raw (.int .i64 n))), (9, .d (.raw (.int .i64 i))), (10, .d (.raw (.int .i64 j)))] [(0, .row 148 2 (l.length) (rowEl l))]
def Sorted (l : List Rw) : Prop := l.Pairwise fun r q => ltB r.1 q.1 = true
structure Tidy (l : List Rw) : Prop where
 sorted : Sorted l
 few : l.length ≤ 16
 sized : ∀ r ∈ l, 0 < r.1.size ∧ r.1.size ≤ 16 ∧ r.2.size ≤ 64
def posM (l : List Rw) (key : ByteArray) : Nat := (l.takeWhile fun r => Op.bytesLess r.1.toList key.toList).length
def hasM (l : List Rw) (key : ByteArray) : Bool := l.any fun r => decide (r.1 = key)
def noVals : Array Value := #[]
def mBs (l : List Rw) : List AV → List (Nat × Th) → Option (AV × List (Nat × Th) × List Prop)
 | [.own 0, .d (.raw (.string key)), .d (.raw (.func (.func f) x y))], [(0, .row R 2 n el)] => some (.tup [.d (.raw (.int .i64 (posM l key))), .d (.raw (.bool (hasM l key)))], [(0, .row R 2 n el)], [f = 70, noVals = x, noVals = y, R = 148, n = l.length, el = rowEl l, Tidy l])
 | _, _ => none
def mFind (l : List Rw) : List AV → List (Nat × Th) → Option (AV × List (Nat × Th) × List Prop)
 | [.ref 0 0, .d (.raw (.string key))], [(0, .obj T [.own 1]), (1, .row R 2 n el)] => some (.tup [.d (.raw (.int .i64 (posM l key))), .d (.raw (.bool (hasM l key)))], [(0, .obj T [.own 1]), (1, .row R 2 n el)], [T = 145, R = 148, n = l.length, el = rowEl l, Tidy l])
 | _, _ => none
def mValue : List AV → List (Nat × Th) → Option (AV × List (Nat × Th) × List Prop)
 | [.d (.raw (.string s))], [] => some (.d (.raw (.bool (decide (s.size ≤ 64)))), [], [])
 | _, _ => none
def C0 : Orc := (Orc.none (fun _ => none)).add 49 false mValue
def C3 (l : List Rw) : Orc := C2.add 69 false (mBs l)
def C4 (l : List Rw) : Orc := C2.add 64 false (mFind l)
def tab0 (l : List Rw) : List (Nat × Th) := [(0, .obj 145 [.own 1]), (1, .row 148 2 l.length (rowEl l))]
def checkM (k : Int) (key val old : ByteArray) : Int :=
 if k < 1 ∨ 5 < k then 1
 else if key.size = 0 ∨ 16 < key.size ∨ 64 < val.size ∨ 64 < old.size then 130
 else if (val.size ≠ 0 ∧ (k = 1 ∨ k = 4)) ∨ (old.size ≠ 0 ∧ k ≠ 5) then 4
 else 0
def mCheck : List AV → List (Nat × Th) → Option (AV × List (Nat × Th) × List Prop)
 | [.d (.agg [.raw (.int .i64 k), .raw (.string key), .raw (.string val), .raw (.string old)])], [] => some (.d (.raw (.int .i64 (checkM k key val old))), [], [])
 | _, _ => none
def putM (l : List Rw) (key val : ByteArray) : List Rw := if hasM l key then l.set (posM l key) (key, val) else l.take (posM l key) ++ (key, val) :: l.drop (posM l key)
def fullM (l : List Rw) (key : ByteArray) : Bool := !hasM l key && l.length == 16
def setM (l : List Rw) (key val : ByteArray) : List Rw := if fullM l key then l else putM l key val
def tab2 (l : List Rw) : List (Nat × Th) := [(0, .obj 145 [.own 2]), (2, .row 148 2 l.length (rowEl l))]
def mSet (l : List Rw) : List AV → List (Nat × Th) → Option (AV × List (Nat × Th) × List Prop)
 | [.ref 0 0, .d (.raw (.string key)), .d (.raw (.string val))], [(0, .obj T [.own 1]), (1, .row R 2 n el)] => some (.d (.raw (.int .i64 (if fullM l key then 5 else 0))), tab2 (setM l key val), [T = 145, R = 148, n = l.length, el = rowEl l, Tidy l])
 | _, _ => none
def C5 (l : List Rw) : Orc := (((C0.add 23 false mCheck).add 64 false (mFind l))).add 65 false (mSet l)
def hadM (l : List Rw) (key : ByteArray) : ByteArray := if hasM l key then (l.getD (posM l key) (ByteArray.empty, ByteArray.empty)).2 else ByteArray.empty
def doM (l : List Rw) (k : Int) (key val old : ByteArray) : ByteArray × Int × List Rw :=
 if checkM k key val old = 0 then
  if k = 2 then (if fullM l key then (ByteArray.empty, 5, l) else (hadM l key, 0, putM l key val))
  else if k = 3 then (if fullM l key then (ByteArray.empty, 5, l) else if (hadM l key ++ val).size ≤ 64 then (hadM l key ++ val, 0, putM l key (hadM l key ++ val)) else (ByteArray.empty, 2, l))
  else if hasM l key then
   if k = 4 then (hadM l key, 0, l.eraseIdx (posM l key))
   else if k = 5 then (if hadM l key = old then (hadM l key, 0, putM l key val) else (ByteArray.empty, 7, l))
   else (hadM l key, 0, l)
  else (ByteArray.empty, 6, l)
 else (ByteArray.empty, checkM k key val old, l)
end Go.Tab

namespace Go.Bla
open Go Go.Eng
abbrev W := BitVec 32
def wd (x : W) : D := .raw (.int .u32 x.toNat)
def unw (n : Int) : W := BitVec.ofNat 32 n.toNat
def av (x : W) : AV := .d (wd x)
def iw (x : W) : D := .raw (.int .i64 x.toNat)
theorem unw_w (x : W) : unw (x.toNat : Int) = x := by simp [unw]
theorem wrap_u32 (x : Int) : IntKind.u32.wrap x = x % 4294967296 := by set_option maxRecDepth 10000 in simp [IntKind.wrap, IntKind.bits, IntKind.signed]
theorem wrap_u64 (x : Int) : IntKind.u64.wrap x = x % 18446744073709551616 := by set_option maxRecDepth 10000 in simp [IntKind.wrap, IntKind.bits, IntKind.signed]
theorem wrap_u8 (x : Int) : IntKind.u8.wrap x = x % 256 := by set_option maxRecDepth 10000 in simp [IntKind.wrap, IntKind.bits, IntKind.signed]
def half (a b c d w : W) (n1 n2 : Nat) : W × W × W × W :=
 let a' := a + b + w
 let d' := (d ^^^ a').rotateRight n1
 let c' := c + d'
 (a', (b ^^^ c').rotateRight n2, c', d')
def gM (a b c d x y : W) : W × W × W × W :=
 let h := half a b c d x 16 12
 half h.1 h.2.1 h.2.2.1 h.2.2.2 y 8 7
def putM (v : List W) (a b c d : Nat) (x y : W) : List W :=
 let g := gM (v.getD a 0) (v.getD b 0) (v.getD c 0) (v.getD d 0) x y
 (((v.set a g.1).set b g.2.1).set c g.2.2.1).set d g.2.2.2
def roundM (v : List W) (m : Nat → W) : List W :=
 let v := putM v 0 4 8 12 (m 0) (m 1)
 let v := putM v 1 5 9 13 (m 2) (m 3)
 let v := putM v 2 6 10 14 (m 4) (m 5)
 let v := putM v 3 7 11 15 (m 6) (m 7)
 let v := putM v 0 5 10 15 (m 8) (m 9)
 let v := putM v 1 6 11 12 (m 10) (m 11)
 let v := putM v 2 7 8 13 (m 12) (m 13)
 putM v 3 4 9 14 (m 14) (m 15)
theorem len_putM (v : List W) (a b c d : Nat) (x y : W) : (putM v a b c d x y).length = v.length := by simp [putM]
theorem len_roundM (v : List W) (m : Nat → W) : (roundM v m).length = v.length := by simp [roundM, len_putM]
def sigma : List (List Nat) := [
 [0, 1, 2, 3, 4, 5, 6, 7, 8, 9, 10, 11, 12, 13, 14, 15],
 [14, 10, 4, 8, 9, 15, 13, 6, 1, 12, 0, 2, 11, 7, 5, 3],
 [11, 8, 12, 0, 5, 2, 15, 13, 10, 14, 3, 6, 7, 1, 9, 4],
 [7, 9, 3, 1, 13, 12, 11, 14, 2, 6, 5, 10, 4, 0, 15, 8],
 [9, 0, 5, 7, 2, 4, 10, 15, 14, 1, 11, 12, 6, 8, 3, 13],
 [2, 12, 6, 10, 0, 11, 8, 3, 4, 13, 7, 5, 15, 14, 1, 9],
 [12, 5, 1, 15, 14, 13, 4, 10, 0, 7, 6, 3, 9, 2, 8, 11],
 [13, 11, 7, 14, 12, 1, 3, 9, 5, 0, 15, 4, 8, 6, 2, 10],
 [6, 15, 14, 9, 11, 3, 0, 8, 12, 2, 13, 7, 1, 4, 10, 5],
 [10, 2, 8, 4, 7, 6, 1, 5, 15, 11, 9, 14, 3, 12, 13, 0]]
def sg (r j : Nat) : Nat := (sigma.getD r []).getD j 0
def rounds (m : List W) : Nat → List W → List W
 | 0, v => v
 | r + 1, v => roundM (rounds m r v) fun j => m.getD (sg r j) 0
theorem len_rounds (m : List W) (v : List W) : ∀ r, (rounds m r v).length = v.length
 | 0 => rfl
 | r + 1 => by rw [rounds, len_roundM, len_rounds m v r]
def ivM : List W := [0x6A09E667#32, 0xBB67AE85#32, 0x3C6EF372#32, 0xA54FF53A#32, 0x510E527F#32, 0x9B05688C#32, 0x1F83D9AB#32, 0x5BE0CD19#32]
def startM (h : List W) (t0 t1 : W) (last : Bool) : List W :=
 let v := h ++ ivM
 let v := (v.set 12 (v.getD 12 0 ^^^ t0)).set 13 (v.getD 13 0 ^^^ t1)
 if last then v.set 14 (~~~ (v.getD 14 0)) else v
def blockM (h m : List W) (t0 t1 : W) (last : Bool) : List W :=
 let v := rounds m 10 (startM h t0 t1 last)
 (List.range 8).map fun i => h.getD i 0 ^^^ v.getD i 0 ^^^ v.getD (i + 8) 0
theorem or_toNat (x y : Nat) (hx : x < 4294967296) (hy : y < 4294967296) : (BitVec.ofInt 32 (x : Int) ||| BitVec.ofInt 32 (y : Int)).toNat = x ||| y := by
 rw [BitVec.toNat_or]
 simp only [BitVec.ofInt_natCast, BitVec.toNat_ofNat]
 rw [Nat.mod_eq_of_lt hx, Nat.mod_eq_of_lt hy]
theorem int_pow2 (n : Nat) : (2 : Int) ^ n = ((2 ^ n : Nat) : Int) := by rw [Int.natCast_pow]; rfl
theorem rot_eq (x : W) (n : Nat) (h1 : n < 32) :
  IntKind.u32.wrap (((BitVec.ofInt IntKind.u32.bits (IntKind.u32.wrap ((x.toNat : Int) * 2 ^ (32 - n))) ||| BitVec.ofInt IntKind.u32.bits ((x.toNat : Int).fdiv (2 ^ n))).toNat : Nat) : Int) = ((x.rotateRight n).toNat : Int) := by
 have hx : x.toNat < 4294967296 := x.isLt
 have e1 : IntKind.u32.wrap ((x.toNat : Int) * 2 ^ (32 - n)) = ((x.toNat * 2 ^ (32 - n) % 4294967296 : Nat) : Int) := by
  rw [wrap_u32, int_pow2, ← Int.natCast_mul, Int.natCast_emod]; rfl
 have e2 : (x.toNat : Int).fdiv (2 ^ n) = ((x.toNat / 2 ^ n : Nat) : Int) := by
  rw [int_pow2, Int.fdiv_eq_ediv_of_nonneg _ (Int.natCast_nonneg _), Int.natCast_ediv]
 rw [e1, e2]
 have hb : x.toNat / 2 ^ n < 4294967296 := Nat.lt_of_le_of_lt (Nat.div_le_self _ _) hx
 show IntKind.u32.wrap (((BitVec.ofInt 32 _ ||| BitVec.ofInt 32 _).toNat : Nat) : Int) = _
 rw [or_toNat _ _ (Nat.mod_lt _ (by decide)) hb, wrap_u32, BitVec.toNat_rotateRight, Nat.mod_eq_of_lt h1, Nat.shiftRight_eq_div_pow, Nat.shiftLeft_eq, Nat.or_comm]
 have hlt : (x.toNat / 2 ^ n ||| x.toNat * 2 ^ (32 - n) % 2 ^ 32) < 2 ^ 32 := Nat.or_lt_two_pow hb (Nat.mod_lt _ (by decide))
 have e3 : (4294967296 : Nat) = 2 ^ 32 := rfl
 rw [e3]
 omega
theorem add_eq (x y : W) : IntKind.u32.wrap ((x.toNat : Int) + y.toNat) = ((x + y).toNat : Int) := by
 rw [wrap_u32, BitVec.toNat_add]; omega
theorem xor_toNat (x y : W) : (BitVec.ofInt 32 (x.toNat : Int) ^^^ BitVec.ofInt 32 (y.toNat : Int)).toNat = (x ^^^ y).toNat := by
 simp only [BitVec.ofInt_natCast, BitVec.ofNat_toNat, BitVec.setWidth_eq]
theorem xor_eq (x y : W) : IntKind.u32.wrap (((BitVec.ofInt 32 (x.toNat : Int) ^^^ BitVec.ofInt 32 (y.toNat : Int)).toNat : Nat) : Int) = ((x ^^^ y).toNat : Int) := by
 rw [xor_toNat, wrap_u32]
 have := (x ^^^ y).isLt
 omega
def I (n : Int) : D := .raw (.int .i64 n)
def mRot : List AV → List (Nat × Th) → Option (AV × List (Nat × Th) × List Prop)
 | [.d (.raw (.int .u32 x)), .d (.raw (.int .i64 k))], [] => some (av ((unw x).rotateRight (-k).toNat), [], [x = ((unw x).toNat : Int), k = -16 ∨ k = -12 ∨ k = -8 ∨ k = -7])
 | _, _ => none
def lane (q : W × W × W × W) : D := .agg [wd q.1, wd q.2.1, wd q.2.2.1, wd q.2.2.2]
def mHalf : List AV → List (Nat × Th) → Option (AV × List (Nat × Th) × List Prop)
 | [.d (.agg [.raw (.int .u32 a), .raw (.int .u32 b), .raw (.int .u32 c), .raw (.int .u32 d)]), .d (.raw (.int .u32 w)), .d (.raw (.int .i64 p)), .d (.raw (.int .i64 q))], [] =>
  some (.d (lane (half (unw a) (unw b) (unw c) (unw d) (unw w) p.toNat q.toNat)), [], [a = ((unw a).toNat : Int), b = ((unw b).toNat : Int), c = ((unw c).toNat : Int), d = ((unw d).toNat : Int), w = ((unw w).toNat : Int), (p = 16 ∧ q = 12) ∨ (p = 8 ∧ q = 7)])
 | _, _ => none
def nib (row : ByteArray) (j : Nat) : Nat :=
 let c := byteAt row j
 if (c - 48) % 256 > 9 then ((c - 97) % 256 + 10).toNat % 256 else ((c - 48) % 256).toNat
def HexRow (row : ByteArray) : Prop := row.size = 16 ∧ ∀ j, j < 16 → (48 ≤ byteAt row j ∧ byteAt row j ≤ 57) ∨ (97 ≤ byteAt row j ∧ byteAt row j ≤ 102)
def words (m : List W) : List AV := m.map av
def numsOf : List AV → Option (List Int)
 | [] => some []
 | .d (.raw (.int .u32 n)) :: r => (numsOf r).map (n :: ·)
 | _ => none
def OkW (ns : List Int) : Prop := ns = (ns.map unw).map fun x => (x.toNat : Int)
theorem words_of : ∀ {cs : List AV} {ns : List Int}, numsOf cs = some ns → OkW ns → cs = words (ns.map unw)
 | [], ns, h, _ => by simp only [numsOf, Option.some.injEq] at h; subst h; rfl
 | c :: cs, ns, h, hk => by
  unfold numsOf at h
  split at h
  · rename_i h0; cases h0
  ·
   rename_i n r h0
   cases h0
   obtain ⟨ns', h1, rfl⟩ := Option.map_eq_some_iff.1 h
   unfold OkW at hk
   simp only [List.map_cons, List.cons.injEq] at hk
   have ih := words_of h1 hk.2
   rw [ih]
   show _ :: _ = av (unw n) :: _
   unfold av wd
   rw [← hk.1]
   rfl
  · cases h
theorem OkW_map (l : List W) : OkW (l.map fun x => (x.toNat : Int)) := by
 unfold OkW
 rw [List.map_map, List.map_map]
 apply List.map_congr_left
 intro x _
 simp [unw_w]
def mDig : List AV → List (Nat × Th) → Option (AV × List (Nat × Th) × List Prop)
 | [.ref 0 0, .d (.raw (.string row)), .d (.raw (.int .i64 j))], [(0, .obj T cs)] =>
  match numsOf cs with
  | some ns => some (av ((ns.map unw).getD (nib row j.toNat) 0), [(0, .obj T cs)], [OkW ns, ns.length = 16, HexRow row, 0 ≤ j ∧ j < 16])
  | none => none
 | _, _ => none
end Go.Bla

namespace Go.Bla
open Go Go.Eng
set_option maxRecDepth 100000
def gl : Nat → Option (List D) := fun g =>
 if g == 0 then some (ivM.map wd)
 else if g == 1 then some [.raw (.string ⟨#[48, 49, 50, 51, 52, 53, 54, 55, 56, 57, 97, 98, 99, 100, 101, 102]⟩), .raw (.string ⟨#[101, 97, 52, 56, 57, 102, 100, 54, 49, 99, 48, 50, 98, 55, 53, 51]⟩), .raw (.string ⟨#[98, 56, 99, 48, 53, 50, 102, 100, 97, 101, 51, 54, 55, 49, 57, 52]⟩), .raw (.string ⟨#[55, 57, 51, 49, 100, 99, 98, 101, 50, 54, 53, 97, 52, 48, 102, 56]⟩), .raw (.string ⟨#[57, 48, 53, 55, 50, 52, 97, 102, 101, 49, 98, 99, 54, 56, 51, 100]⟩), .raw (.string ⟨#[50, 99, 54, 97, 48, 98, 56, 51, 52, 100, 55, 53, 102, 101, 49, 57]⟩), .raw (.string ⟨#[99, 53, 49, 102, 101, 100, 52, 97, 48, 55, 54, 51, 57, 50, 56, 98]⟩), .raw (.string ⟨#[100, 98, 55, 101, 99, 49, 51, 57, 53, 48, 102, 52, 56, 54, 50, 97]⟩), .raw (.string ⟨#[54, 102, 101, 57, 98, 51, 48, 56, 99, 50, 100, 55, 49, 52, 97, 53]⟩), .raw (.string ⟨#[97, 50, 56, 52, 55, 54, 49, 53, 102, 98, 57, 101, 51, 99, 100, 48]⟩)]
 else none
def O1 : Orc := (Orc.none gl).add 77 false mRot
def O2 : Orc := O1.add 73 false mHalf
def O3 : Orc := O2.add 74 false mDig
end Go.Bla

namespace Go.Bla
open Go Go.Eng
set_option maxRecDepth 100000
def colM (v m : List W) (row : ByteArray) : List W :=
 putM (putM (putM (putM (v) 0 4 8 12 (m.getD (nib row 0) 0) (m.getD (nib row 1) 0)) 1 5 9 13 (m.getD (nib row 2) 0) (m.getD (nib row 3) 0)) 2 6 10 14 (m.getD (nib row 4) 0) (m.getD (nib row 5) 0)) 3 7 11 15 (m.getD (nib row 6) 0) (m.getD (nib row 7) 0)
def diaM (v m : List W) (row : ByteArray) : List W :=
 putM (putM (putM (putM (v) 0 5 10 15 (m.getD (nib row 8) 0) (m.getD (nib row 9) 0)) 1 6 11 12 (m.getD (nib row 10) 0) (m.getD (nib row 11) 0)) 2 7 8 13 (m.getD (nib row 12) 0) (m.getD (nib row 13) 0)) 3 4 9 14 (m.getD (nib row 14) 0) (m.getD (nib row 15) 0)
theorem len_colM (v m : List W) (row : ByteArray) : (colM v m row).length = v.length := by simp [colM, len_putM]
theorem len_diaM (v m : List W) (row : ByteArray) : (diaM v m row).length = v.length := by simp [diaM, len_putM]
def outW (l : List W) : List AV := [av (l.getD 0 0), av (l.getD 1 0), av (l.getD 2 0), av (l.getD 3 0), av (l.getD 4 0), av (l.getD 5 0), av (l.getD 6 0), av (l.getD 7 0), av (l.getD 8 0), av (l.getD 9 0), av (l.getD 10 0), av (l.getD 11 0), av (l.getD 12 0), av (l.getD 13 0), av (l.getD 14 0), av (l.getD 15 0)]
theorem outW_eq {l : List W} (h : l.length = 16) : words l = outW l := by
 match l, h with
 | [a0, a1, a2, a3, a4, a5, a6, a7, a8, a9, a10, a11, a12, a13, a14, a15], _ => rfl
def mTurn : List AV → List (Nat × Th) → Option (AV × List (Nat × Th) × List Prop)
 | [.ref 0 0, .ref 1 0, .d (.raw (.string row)), .d (.raw (.int .i64 at_)), .d (.raw (.int .i64 ap))], [(0, .obj T cs), (1, .obj U ds)] =>
  match numsOf cs, numsOf ds with
  | some ns, some ms =>
   match at_ == 0 && ap == 0, at_ == 8 && ap == 1 with
   | true, _ => some (.dead, [(0, .obj T (outW (colM (ns.map unw) (ms.map unw) row))), (1, .obj U ds)], [OkW ns, ns.length = 16, OkW ms, ms.length = 16, HexRow row])
   | _, true => some (.dead, [(0, .obj T (outW (diaM (ns.map unw) (ms.map unw) row))), (1, .obj U ds)], [OkW ns, ns.length = 16, OkW ms, ms.length = 16, HexRow row])
   | _, _ => none
  | _, _ => none
 | _, _ => none
def O4 : Orc := O3.add 68 false mTurn
def rowsD : List D := (gl 1).getD []
def rowB (r : Nat) : ByteArray := match rowsD[r]? with
 | some (.raw (.string b)) => b
 | _ => ByteArray.empty
def bst (T : Nat) (h : List W) (t : Int) (m v : List W) (i : Int) : St := mk 1 138 [(0, .ref 0 0), (8, .ref 1 0), (11, .ref 2 0), (99, .d (.agg rowsD)), (100, .d (I i))] [(0, .obj T (words h ++ [.d (.raw (.int .u64 t))])), (1, .obj 152 (words m)), (2, .obj 154 (words v))]
def bst2 (T : Nat) (h : List W) (t : Int) (m v : List W) (i : Int) (row : ByteArray) : St := mk 1 138 [(0, .ref 0 0), (8, .ref 1 0), (11, .ref 2 0), (14, .d (.raw (.string row))), (99, .d (.agg rowsD)), (100, .d (I i))] [(0, .obj T (words h ++ [.d (.raw (.int .u64 t))])), (1, .obj 152 (words m)), (2, .obj 154 (words v))]
end Go.Bla

namespace Go.Bla
open Go Go.Eng
def bs0 (T : Nat) (h : List W) (t n : Int) (last : Bool) (b : Nat → Int) (cells : List AV) (i : Int) : St := mk 1 138 [(0, .ref 0 0), (2, .d (I n)), (3, .d (.raw (.bool last))), (8, .ref 1 0), (16, .d (.agg ((List.range 64).map fun i => .raw (.int .u8 (b i))))), (17, .d (I i))] [(0, .obj T (words h ++ [.d (.raw (.int .u64 t))])), (1, .obj 152 cells)]
end Go.Bla

namespace Go.Bla
open Go Go.Eng
def wd4 (a b c d : Int) : W := unw (a + 256 * b + 65536 * c + 16777216 * d)
def mW (b : Nat → Int) : List W := (List.range 16).map fun i => wd4 (b (4 * i)) (b (4 * i + 1)) (b (4 * i + 2)) (b (4 * i + 3))
def outN (n : Nat) (l : List W) : List AV := (List.range n).map fun i => av (l.getD i 0)
def tadd (t n : Int) : Nat := (IntKind.u64.wrap (t + IntKind.u64.wrap n)).toNat
def OkB (ds : List D) : Prop := ∃ f : Nat → Int, (∀ i, 0 ≤ f i ∧ f i < 256) ∧ ds = (List.range 64).map fun i => .raw (.int .u8 (f i))
def fnB (ds : List D) (i : Nat) : Int := unI (ds.getD i default)
def mBlock : List AV → List (Nat × Th) → Option (AV × List (Nat × Th) × List Prop)
 | [.ref 0 0, .d (.agg ds), .d (.raw (.int .i64 n)), .d (.raw (.bool last))], [(0, .obj T [.d (.raw (.int .u32 a0)), .d (.raw (.int .u32 a1)), .d (.raw (.int .u32 a2)), .d (.raw (.int .u32 a3)), .d (.raw (.int .u32 a4)), .d (.raw (.int .u32 a5)), .d (.raw (.int .u32 a6)), .d (.raw (.int .u32 a7)), .d (.raw (.int .u64 t))])] =>
  some (.dead, [(0, .obj T (outN 8 (blockM ([a0, a1, a2, a3, a4, a5, a6, a7].map unw) (mW (fnB ds)) (BitVec.ofNat 32 (tadd t n)) (BitVec.ofNat 32 (tadd t n / 4294967296)) last) ++ [.d (.raw (.int .u64 (tadd t n)))]))], [OkW [a0, a1, a2, a3, a4, a5, a6, a7], OkB ds])
 | _, _ => none
def O5 : Orc := O4.add 62 false mBlock
def sst (key text : ByteArray) (first : Bool) (h : List W) (t : Int) : St := mk 0 82 [(0, .d (.raw (.string key))), (1, .d (.raw (.string text))), (6, .ref 0 0), (8, .d (.raw (.bool first)))] [(0, .obj 136 (words h ++ [.d (.raw (.int .u64 t))]))]
def bytes64 (b : Nat → Int) : List AV := (List.range 64).map fun i => .d (.raw (.int .u8 (b i)))
def sstK (key text : ByteArray) (h : List W) (t : Int) (b : Nat → Int) : St := mk 0 82 [(0, .d (.raw (.string key))), (1, .d (.raw (.string text))), (6, .ref 0 0), (7, .ref 1 0)] [(0, .obj 136 (words h ++ [.d (.raw (.int .u64 t))])), (1, .obj 137 (bytes64 b))]
def sstB (key text : ByteArray) (h : List W) (t : Int) (b : Nat → Int) (k : Int) : St := mk 0 82 [(0, .d (.raw (.string key))), (1, .d (.raw (.string text))), (6, .ref 0 0), (9, .ref 1 0), (10, .d (I k))] [(0, .obj 136 (words h ++ [.d (.raw (.int .u64 t))])), (1, .obj 137 (bytes64 b))]
def goM : Nat → Bool → ByteArray → List W → Int → List W
 | 0, _, _, h, _ => h
 | n + 1, first, text, h, t =>
  if first || !(text.toList == ByteArray.empty.toList) then
   let k := Nat.min text.size 64
   let rest := text.extract k text.size
   goM n false rest (blockM h (mW (byteAt text)) (BitVec.ofNat 32 (tadd t k)) (BitVec.ofNat 32 (tadd t k / 4294967296)) (rest.toList == ByteArray.empty.toList)) (tadd t k)
  else h
def outM (h : List W) : ByteArray := ⟨((List.range 32).map fun i => UInt8.ofNat (((h.getD (i / 4) 0).toNat / 2 ^ (8 * (i % 4))) % 256)).toArray⟩
def h0M (n : Nat) : List W := ivM.set 0 (0x6A09E667#32 ^^^ (0x01010020#32 ^^^ BitVec.ofNat 32 (n * 256)))
def sumM (key text : ByteArray) : ByteArray :=
 let h := h0M key.size
 if key.toList == ByteArray.empty.toList then outM (goM (text.size + 2) true text h 0)
 else outM (goM (text.size + 2) false text (blockM h (mW (byteAt key)) (BitVec.ofNat 32 (tadd 0 64)) (BitVec.ofNat 32 (tadd 0 64 / 4294967296)) (text.toList == ByteArray.empty.toList)) (tadd 0 64))
end Go.Bla

namespace Go.Nest
open Go Go.Eng
end Go.Nest

namespace Go.Nest
open Go Go.Eng
end Go.Nest

namespace Go.Nest
open Go Go.Eng
end Go.Nest

namespace Go.Nest
open Go Go.Eng Go.Proofs
theorem wrapE (x : Int) : IntKind.i64.wrap x = (x + 9223372036854775808) % 18446744073709551616 - 9223372036854775808 := by
 have : IntKind.i64.wrap x = if 9223372036854775808 ≤ x % 18446744073709551616 then x % 18446744073709551616 - 18446744073709551616 else x % 18446744073709551616 := by
  set_option maxRecDepth 10000 in simp [IntKind.wrap, IntKind.bits, IntKind.signed]
 rw [this]; split <;> omega
end Go.Nest

namespace Go.Plc
open Go Go.Eng
abbrev Mo := List AV → List (Nat × Th) → Option (AV × List (Nat × Th) × List Prop)
def mSumV (q : ByteArray) : Mo
 | [.d (.raw (.string k)), .d (.raw (.string t))], [] => some (.tup [.d (.raw (.string q)), .d (.raw (.int .i64 0))], [], [k = ByteArray.empty, q = Go.Bla.sumM k t, t.size ≤ 1073741824])
 | _, _ => none
def plc (key : ByteArray) : Int := byteAt (Go.Bla.sumM ByteArray.empty key) 0 % 4
def X0 (q : ByteArray) : Orc := (Orc.none Go.Bla.gl).add 54 false (mSumV q)
def X1 (q : ByteArray) : Orc := (Orc.none Go.Bla.gl).add 53 false (mSumV q)
end Go.Plc
