/-
  Contracts of given functions, or plain laws that they need. No condition.
-/
import Derived.Test.YtmgfgcoeflanmaaDoorEng20
import Derived.Lib.Bytealg
import Derived.Lib.ItoaNum
import Derived.Test.YtmgfgcoeflanmaaDoorRowK
import Derived.Lib.AtoiAllMem
import Derived.Lib.AtoiAllCases
import Derived.Lib.IndexMore
import Derived.Lib.AppendIntMem
import Derived.Lib.IndexBytes
namespace Go.Eng
open Go
set_option linter.unusedVariables false
theorem bl_irrefl : ∀ x : List UInt8, Op.bytesLess x x = false
  | [] => rfl
  | a :: x => by simp [Op.bytesLess, bl_irrefl x]
theorem bl_trans : ∀ x y z : List UInt8, Op.bytesLess x y = true → Op.bytesLess y z = true → Op.bytesLess x z = true
  | _, _, [], _, h => by cases ‹List UInt8› <;> simp [Op.bytesLess] at h
  | _, [], _ :: _, h, _ => by cases ‹List UInt8› <;> simp [Op.bytesLess] at h
  | [], _ :: _, _ :: _, _, _ => by simp [Op.bytesLess]
  | a :: x, b :: y, c :: z, h, k => by
    simp only [Op.bytesLess, Bool.or_eq_true, Bool.and_eq_true, decide_eq_true_eq, beq_iff_eq] at h k ⊢
    rcases h with h | ⟨rfl, h⟩
    · rcases k with k | ⟨rfl, k⟩
      · exact .inl (UInt8.lt_trans h k)
      · exact .inl h
    · rcases k with k | ⟨rfl, k⟩
      · exact .inl k
      · exact .inr ⟨rfl, bl_trans x y z h k⟩
theorem bl_tri : ∀ x y : List UInt8, Op.bytesLess x y = false → Op.bytesLess y x = false → x = y
  | [], [], _, _ => rfl
  | [], _ :: _, h, _ => by simp [Op.bytesLess] at h
  | _ :: _, [], _, h => by simp [Op.bytesLess] at h
  | a :: x, b :: y, h, k => by
    simp only [Op.bytesLess, Bool.or_eq_false_iff, Bool.and_eq_false_iff, decide_eq_false_iff_not, beq_eq_false_iff_ne] at h k
    have e : a = b := UInt8.le_antisymm (UInt8.not_lt.1 k.1) (UInt8.not_lt.1 h.1)
    subst e
    rw [bl_tri x y (by simpa using h.2) (by simpa using k.2)]
theorem bl_asymm {x y : List UInt8} (h : Op.bytesLess x y = true) : Op.bytesLess y x = false := by
  cases e : Op.bytesLess y x
  · rfl
  · have := bl_trans x y x h e
    rw [bl_irrefl] at this; cases this
theorem cmpB_eq : ∀ x y : List UInt8, Lib.compareBytes x y = if Op.bytesLess x y then -1 else if Op.bytesLess y x then 1 else 0
  | [], [] => rfl
  | [], _ :: _ => rfl
  | _ :: _, [] => rfl
  | a :: x, b :: y => by
    unfold Lib.compareBytes
    rw [cmpB_eq x y]
    simp only [Op.bytesLess]
    by_cases h1 : a < b
    · simp [h1]
    · by_cases h2 : b < a
      · have : (a == b) = false := by rw [beq_eq_false_iff_ne]; rintro rfl; exact UInt8.lt_irrefl _ h2
        simp [h1, h2, this]
      · have e : a = b := UInt8.le_antisymm (UInt8.not_lt.1 h2) (UInt8.not_lt.1 h1)
        subst e
        simp [h1]
theorem wrapI (x : Int) (h : -9223372036854775808 ≤ x ∧ x < 9223372036854775808) : IntKind.i64.wrap x = x := by
  have : IntKind.i64.wrap x = if 9223372036854775808 ≤ x % 18446744073709551616 then x % 18446744073709551616 - 18446744073709551616 else x % 18446744073709551616 := by
    set_option maxRecDepth 10000 in simp [IntKind.wrap, IntKind.bits, IntKind.signed]
  rw [this]; split <;> omega
theorem wrapU (x : Int) (h : 0 ≤ x ∧ x < 18446744073709551616) : IntKind.u64.wrap x = x := by
  have : IntKind.u64.wrap x = x % 18446744073709551616 := by set_option maxRecDepth 10000 in simp [IntKind.wrap, IntKind.bits, IntKind.signed]
  omega
theorem getD_get {α : Type} {l : List α} {i : Nat} {d : α} (h : i < l.length) : l.getD i d = l[i] := by simp [List.getD, h]
/-- a's letters stand ahead of b's. -/
def ltB (a b : ByteArray) : Bool := Op.bytesLess a.toList b.toList
theorem ltB_irrefl (a : ByteArray) : ltB a a = false := bl_irrefl _
theorem ltB_trans {a b c : ByteArray} (h : ltB a b = true) (k : ltB b c = true) : ltB a c = true := bl_trans _ _ _ h k
theorem ltB_tri {a b : ByteArray} (h : ltB a b = false) (k : ltB b a = false) : a = b := ext_ba (by
  have := bl_tri _ _ h k
  rwa [toList_ba, toList_ba] at this)
theorem ltB_asymm {a b : ByteArray} (h : ltB a b = true) : ltB b a = false := bl_asymm h
theorem ltB_ne {a b : ByteArray} (h : ltB a b = true) : a ≠ b := by rintro rfl; rw [ltB_irrefl] at h; cases h
theorem ltB_le_trans {a b c : ByteArray} (h : ltB b a = false) (k : ltB b c = true) : ltB a c = true := by
  cases e : ltB a b
  · rw [ltB_tri e h]; exact k
  · exact ltB_trans e k
end Go.Eng

namespace Go.Nest
open Go Go.Eng
set_option linter.unusedVariables false
/-- A list's text. -/
def packL : List ByteArray → List UInt8
  | [] => []
  | x :: xs => Lib.decDigits x.size ++ [58] ++ x.data.toList ++ [44] ++ packL xs
def packB (xs : List ByteArray) : ByteArray := ⟨(packL xs).toArray⟩
def strEl (l : List ByteArray) (i : Nat) : D := .raw (.string (l.getD i ByteArray.empty))
def mPack (r : List ByteArray) : List AV → List (Nat × Th) → Option (AV × List (Nat × Th) × List Prop)
  | [.d (.list 1 n el)], [] => some (.d (.raw (.string (packB r))), [], [n = r.length, el = strEl r, ∀ x ∈ r, x.size < 100, r.length ≤ 1000])
  | _, _ => none
end Go.Nest

namespace Go.Nest
open Go Go.Eng
set_option linter.unusedVariables false
theorem packL_append : ∀ a b : List ByteArray, packL (a ++ b) = packL a ++ packL b
  | [], b => rfl
  | x :: a, b => by simp [packL, packL_append a b]
theorem pack_take (xs : List ByteArray) (k : Nat) (x : ByteArray) (h : xs[k]? = some x) : packL (xs.take (k + 1)) = packL (xs.take k) ++ (Lib.decDigits x.size ++ [58] ++ x.data.toList ++ [44]) := by
  rw [List.take_add_one, h, packL_append]; simp [packL]
theorem dec_len : ∀ i, i < 100 → (Lib.decDigits i).length ≤ 2 := by decide +kernel
theorem packL_len : ∀ xs : List ByteArray, (∀ x ∈ xs, x.size < 100) → (packL xs).length ≤ 104 * xs.length
  | [], _ => by simp [packL]
  | x :: xs, h => by
    have h1 := packL_len xs fun y hy => h y (List.mem_cons_of_mem _ hy)
    have h2 := h x (List.mem_cons_self ..)
    have h3 := dec_len x.size h2
    rw [size_ba] at h2
    simp only [packL, List.length_append, List.length_cons, List.length_nil]
    omega
theorem packL_ge' : ∀ r : List ByteArray, r.length ≤ (packL r).length
  | [] => Nat.zero_le _
  | x :: r => by
    have := packL_ge' r
    simp [packL]; omega
end Go.Nest

namespace Go.Nest
open Go Go.Eng
set_option linter.unusedVariables false
/-- What ToNum answers. -/
def numM (s : ByteArray) : Int × Int := match Lib.atoiAll s.data.toList with
  | .ok v => if (!Lib.itoa v == s.toList) = true then (0, 4) else (v, 0)
  | _ => (0, 4)
def headM (s : ByteArray) : ByteArray := ⟨(Lib.cut s.data.toList [58]).1.toArray⟩
def restM (s : ByteArray) : ByteArray := ⟨(Lib.cut s.data.toList [58]).2.1.toArray⟩
def foundM (s : ByteArray) : Bool := (Lib.cut s.data.toList [58]).2.2
/-- What Take answers. -/
def takeM (s : ByteArray) : ByteArray × ByteArray × Int :=
  if foundM s = true ∧ (numM (headM s)).2 = 0 ∧ (headM s).size ≤ 9 ∧ 0 ≤ (numM (headM s)).1 ∧ (numM (headM s)).1 < ((restM s).size : Int) ∧ byteAt (restM s) (numM (headM s)).1.toNat = 44
  then ((restM s).extract 0 (numM (headM s)).1.toNat, (restM s).extract ((numM (headM s)).1.toNat + 1) (restM s).size, 0) else (ByteArray.empty, ByteArray.empty, 4)
/-- The texts of a text. -/
def unpF : Nat → ByteArray → Option (List ByteArray)
  | 0, s => if s.size = 0 then some [] else none
  | k + 1, s => if s.size = 0 then some [] else if (takeM s).2.2 = 0 then (unpF k (takeM s).2.1).map ((takeM s).1 :: ·) else none
/-- What Unpack answers. -/
def unpR (s : ByteArray) : List ByteArray × Int := match unpF s.size s with
  | some xs => (xs, 0)
  | none => ([], 4)
/-- The numeral of any number. -/
def numJ (n : Int) : ByteArray := ⟨(Lib.itoa n).toArray⟩
end Go.Nest

namespace Go.Nest
open Go Go.Eng Go.Proofs
set_option linter.unusedVariables false
def dgt (m : Nat) : UInt8 := UInt8.ofNat (48 + m)
theorem dgt_toNat {m : Nat} (h : m < 10) : (dgt m).toNat = 48 + m := by
  unfold dgt
  rcases m with _|_|_|_|_|_|_|_|_|_|m <;> first | rfl | omega
theorem ddec_small {m : Nat} (h : m < 10) : Lib.decDigits m = [dgt m] := by rw [Lib.decDigits, dif_pos h]; rfl
theorem ddec_big {m : Nat} (h : ¬ m < 10) : Lib.decDigits m = Lib.decDigits (m / 10) ++ [dgt (m % 10)] := by rw [Lib.decDigits, dif_neg h]; rfl
theorem parse_step {a d : Nat} (l : List UInt8) (hd : d < 10) (h : a * 10 + d < 18446744073709551616) : Lib.parseUint10 a (dgt d :: l) = Lib.parseUint10 (a * 10 + d) l := by
  have e := dgt_toNat hd
  have e2 : (dgt d).toNat - 48 = d := by omega
  rw [Lib.parseUint10]
  simp only [e2]
  rw [if_pos (by omega), if_neg (by omega), if_neg (by omega)]
theorem parse_dec : ∀ (n : Nat) (l : List UInt8), n < 18446744073709551616 → Lib.parseUint10 0 (Lib.decDigits n ++ l) = Lib.parseUint10 n l := by
  intro n
  induction n using Nat.strongRecOn with
  | ind n ih =>
    intro l hn
    by_cases h : n < 10
    · rw [ddec_small h]
      show Lib.parseUint10 0 (dgt n :: l) = _
      rw [parse_step l h (by omega)]; congr 1; omega
    · rw [ddec_big h, List.append_assoc, ih (n / 10) (by omega) _ (by omega)]
      show Lib.parseUint10 (n / 10) (dgt (n % 10) :: l) = _
      rw [parse_step l (Nat.mod_lt _ (by decide)) (by omega)]; congr 1; omega
theorem dec_digits : ∀ (n : Nat), ∀ c ∈ Lib.decDigits n, 48 ≤ c.toNat ∧ c.toNat ≤ 57 := by
  intro n
  induction n using Nat.strongRecOn with
  | ind n ih =>
    intro c hc
    by_cases h : n < 10
    · rw [ddec_small h] at hc
      rw [List.mem_singleton.1 hc, dgt_toNat h]; omega
    · rw [ddec_big h] at hc
      rcases List.mem_append.1 hc with hc | hc
      · exact ih (n / 10) (by omega) c hc
      · rw [List.mem_singleton.1 hc, dgt_toNat (Nat.mod_lt _ (by decide))]
        have := Nat.mod_lt n (by decide : 10 > 0); omega
theorem dec_ne (n : Nat) : Lib.decDigits n ≠ [] := by
  by_cases h : n < 10
  · rw [ddec_small h]; simp
  · rw [ddec_big h]; simp
theorem atoi_dec (n : Nat) (hn : n < 9223372036854775808) : Lib.atoiAll (Lib.decDigits n) = .ok (n : Int) := by
  cases hl : Lib.decDigits n with
  | nil => exact absurd hl (dec_ne n)
  | cons c r =>
    have hc := dec_digits n c (by rw [hl]; simp)
    have hp : Lib.parseMag (c :: r) = .ok n := by
      unfold Lib.parseMag
      rw [if_neg (by simp), ← hl]
      have := parse_dec n [] (by omega)
      rw [List.append_nil] at this
      rw [this]; rfl
    unfold Lib.atoiAll
    simp only
    rw [if_neg (by omega), hp]
    simp only
    rw [if_neg (by omega), if_neg (by omega), if_neg (by omega)]
theorem num_dec (n : Nat) (hn : n < 9223372036854775808) : numM ⟨(Lib.decDigits n).toArray⟩ = ((n : Int), 0) := by
  unfold numM
  have e : (ByteArray.mk (Lib.decDigits n).toArray).data.toList = Lib.decDigits n := rfl
  rw [e, atoi_dec n hn]
  simp only
  have e2 : Lib.itoa (n : Int) = Lib.decDigits n := by unfold Lib.itoa; rw [if_neg (by omega)]; rfl
  rw [e2, toList_ba, e]
  simp
theorem idx_byte (c : UInt8) : ∀ (l r : List UInt8), (∀ b ∈ l, b ≠ c) → Lib.indexByte (l ++ c :: r) c = (l.length : Int)
  | [], r, h => by
    show Lib.indexByte (c :: r) c = 0
    unfold Lib.indexByte
    rw [if_pos (by simp)]
  | b :: l, r, h => by
    have ih := idx_byte c l r fun x hx => h x (List.mem_cons_of_mem _ hx)
    have hb := h b (List.mem_cons_self ..)
    show Lib.indexByte (b :: (l ++ c :: r)) c = _
    unfold Lib.indexByte
    rw [if_neg (by simpa using hb), ih, if_neg (by simp), List.length_cons]
    omega
theorem idx_dec (n : Nat) (r : List UInt8) : Lib.index (Lib.decDigits n ++ 58 :: r) [58] = ((Lib.decDigits n).length : Int) := by
  rw [Lib.index_one]
  refine idx_byte 58 _ r fun b hb => ?_
  have := dec_digits n b hb
  intro e
  subst e
  exact absurd this.2 (by decide)
theorem cut_dec (n : Nat) (r : List UInt8) : Lib.cut (Lib.decDigits n ++ 58 :: r) [58] = (Lib.decDigits n, r, true) := by
  unfold Lib.cut
  rw [idx_dec, if_pos (by omega), Int.toNat_natCast, List.take_left]
  congr 2
  show List.drop ((Lib.decDigits n).length + 1) (Lib.decDigits n ++ 58 :: r) = r
  rw [List.drop_append]
  simp
theorem dec_len9 : ∀ (k n : Nat), n < 10 ^ k → 0 < k → (Lib.decDigits n).length ≤ k := by
  intro k
  induction k with
  | zero => intro n _ h; omega
  | succ k ih =>
    intro n hn _
    by_cases h : n < 10
    · rw [ddec_small h]; simp
    · rw [ddec_big h, List.length_append, List.length_singleton]
      have hk : 0 < k := by
        rcases Nat.eq_zero_or_pos k with rfl | h2
        · exfalso; apply h; simpa using hn
        · exact h2
      have := ih (n / 10) (by rw [Nat.pow_succ] at hn; omega) hk
      omega
theorem take_pack {s x rest : ByteArray} (hx : x.size < 1000000000) (h : s.data.toList = Lib.decDigits x.size ++ 58 :: (x.data.toList ++ 44 :: rest.data.toList)) : takeM s = (x, rest, 0) := by
  have hc := cut_dec x.size (x.data.toList ++ 44 :: rest.data.toList)
  rw [← h] at hc
  have hh : headM s = ⟨(Lib.decDigits x.size).toArray⟩ := by unfold headM; rw [hc]
  have hr : restM s = ⟨(x.data.toList ++ 44 :: rest.data.toList).toArray⟩ := by unfold restM; rw [hc]
  have hf : foundM s = true := by unfold foundM; rw [hc]
  have hn : numM (headM s) = ((x.size : Int), 0) := by rw [hh]; exact num_dec _ (by omega)
  have hrl : (restM s).data.toList = x.data.toList ++ 44 :: rest.data.toList := by rw [hr]
  have hrs : (restM s).size = x.size + 1 + rest.size := by rw [size_ba, hrl, size_ba x, size_ba rest]; simp; omega
  have hhs : (headM s).size ≤ 9 := by rw [size_ba, hh]; exact dec_len9 9 _ (by omega) (by omega)
  have hby : byteAt (restM s) x.size = 44 := by
    unfold byteAt
    rw [hrl, size_ba x]; simp [List.getD]
  unfold takeM
  rw [hn]
  simp only
  rw [if_pos ⟨hf, trivial, hhs, by omega, by rw [hrs]; omega, by rw [Int.toNat_natCast]; exact hby⟩, Int.toNat_natCast]
  have e1 : (restM s).extract 0 x.size = x := by
    apply ext_ba
    rw [extract_ba, hrl, size_ba x]; simp
  have e2 : (restM s).extract (x.size + 1) (restM s).size = rest := by
    apply ext_ba
    rw [extract_ba, hrl, hrs, show x.size + 1 + rest.size - (x.size + 1) = rest.size by omega, size_ba x, List.drop_append, List.drop_of_length_le (by omega), List.nil_append, show x.data.toList.length + 1 - x.data.toList.length = 1 by omega, size_ba rest]
    show List.take rest.data.toList.length rest.data.toList = _
    rw [List.take_length]
  rw [e1, e2]
/-- What was packed is unpacked. -/
theorem unpF_nil (d : Nat) (s : ByteArray) (h : s.size = 0) : unpF d s = some [] := by cases d <;> (unfold unpF; rw [if_pos h])
theorem unp_pack : ∀ (xs : List ByteArray) (s : ByteArray) (d : Nat), (∀ x ∈ xs, x.size < 1000000000) → s.data.toList = packL xs → s.size ≤ d → unpF d s = some xs
  | [], s, d, h, hs, hd => unpF_nil d s (by rw [size_ba, hs]; rfl)
  | x :: xs, s, d, h, hs, hd => by
    have hx := h x (List.mem_cons_self ..)
    have hp : packL (x :: xs) = Lib.decDigits x.size ++ 58 :: (x.data.toList ++ 44 :: (packB xs).data.toList) := by
      simp [packL, packB]
    rw [hp] at hs
    have ht := take_pack hx hs
    have h0 : s.size ≠ 0 := by rw [size_ba, hs]; simp
    obtain ⟨d', rfl⟩ : ∃ d', d = d' + 1 := ⟨d - 1, by omega⟩
    have hl : (packB xs).size < s.size := by rw [size_ba, size_ba, hs]; simp; omega
    show (if s.size = 0 then _ else if (takeM s).2.2 = 0 then (unpF d' (takeM s).2.1).map ((takeM s).1 :: ·) else none) = _
    rw [if_neg h0, ht]
    simp only
    rw [if_true, unp_pack xs (packB xs) d' (fun y hy => h y (List.mem_cons_of_mem _ hy)) rfl (by omega)]
    rfl
theorem unpR_pack (xs : List ByteArray) (h : ∀ x ∈ xs, x.size < 1000000000) : unpR (packB xs) = (xs, 0) := by
  unfold unpR
  rw [unp_pack xs (packB xs) _ h rfl (Nat.le_refl _)]
theorem head_size (s : ByteArray) : (headM s).size ≤ s.size := by
  rw [size_ba, size_ba]
  show (Lib.cut s.data.toList [58]).1.length ≤ _
  unfold Lib.cut
  split
  · show (List.take _ _).length ≤ _
    rw [List.length_take]; omega
  · exact Nat.le_refl _
theorem rest_size (s : ByteArray) : (restM s).size ≤ s.size := by
  rw [size_ba, size_ba]
  show (Lib.cut s.data.toList [58]).2.1.length ≤ _
  unfold Lib.cut
  split
  · show (List.drop _ _).length ≤ _
    rw [List.length_drop]; omega
  · exact Nat.zero_le _
theorem take_err {s : ByteArray} (h : (takeM s).2.2 ≠ 0) : (takeM s).2.2 = 4 := by
  unfold takeM at h ⊢
  split
  · rename_i hc; rw [if_pos hc] at h; exact absurd rfl h
  · rfl
theorem take_less {s : ByteArray} (h : (takeM s).2.2 = 0) : (takeM s).2.1.size < s.size := by
  have hr := rest_size s
  unfold takeM at h ⊢
  split
  · rename_i hc
    obtain ⟨_, _, _, h0, h1, _⟩ := hc
    show ((restM s).extract _ _).size < _
    rw [ByteArray.size_extract]; omega
  · rename_i hc
    rw [if_neg hc] at h; cases h
theorem numM_cases (s : ByteArray) : numM s = (0, 4) ∨ ∃ v, numM s = (v, 0) ∧ Lib.itoa v = s.data.toList := by
  unfold numM
  split
  · rename_i v h
    by_cases hx : (!Lib.itoa v == s.toList) = true
    · rw [if_pos hx]; exact .inl rfl
    · rw [if_neg hx]
      refine .inr ⟨v, rfl, ?_⟩
      rw [← toList_ba]; simpa using hx
  · exact .inl rfl
theorem atoi_itoa (v : Int) (hv : -9223372036854775808 ≤ v ∧ v < 9223372036854775808) : Lib.atoiAll (Lib.itoa v) = .ok v := by
  by_cases h : v < 0
  · unfold Lib.itoa
    rw [if_pos h]
    have hp : Lib.parseMag (Lib.decDigits v.natAbs) = .ok v.natAbs := by
      unfold Lib.parseMag
      rw [if_neg (dec_ne _)]
      have := parse_dec v.natAbs [] (by omega)
      rw [List.append_nil] at this
      rw [this]; rfl
    unfold Lib.atoiAll
    simp only
    rw [if_pos (by right; decide), hp]
    simp only
    have e45 : (45 : UInt8).toNat = 45 := rfl
    rw [if_neg (by rw [e45]; simp), if_neg (by omega), if_pos e45]
    congr 1; omega
  · unfold Lib.itoa
    rw [if_neg h]
    have := atoi_dec v.toNat (by omega)
    rw [this]; congr 1; omega
theorem numM_itoa {s : ByteArray} {v : Int} (hv : -9223372036854775808 ≤ v ∧ v < 9223372036854775808) (h : Lib.itoa v = s.data.toList) : numM s = (v, 0) := by
  unfold numM
  rw [← h, atoi_itoa v hv]
  simp only
  rw [toList_ba, ← h]; simp
/-- The digits of a text, behind its sign. -/
def dOf (s : ByteArray) : ByteArray := if 0 < s.size ∧ byteAt s 0 = 45 then s.extract 1 s.size else s
def valL (l : List UInt8) : Int := l.foldl (fun (a : Int) c => 10 * a + ((c.toNat : Int) - 48)) 0
theorem valL_snoc (l : List UInt8) (c : UInt8) : valL (l ++ [c]) = 10 * valL l + ((c.toNat : Int) - 48) := by unfold valL; rw [List.foldl_append]; rfl
theorem valL_dec (n : Nat) : valL (Lib.decDigits n) = (n : Int) := by
  induction n using Nat.strongRecOn with
  | ind n ih =>
    by_cases h : n < 10
    · rw [ddec_small h]
      show 10 * 0 + (((dgt n).toNat : Int) - 48) = _
      rw [dgt_toNat h]; omega
    · rw [ddec_big h, valL_snoc, ih (n / 10) (by omega), dgt_toNat (Nat.mod_lt _ (by decide))]; omega
theorem byteAt_list (s : ByteArray) (i : Nat) (hi : i < s.size) : byteAt s i = ((s.data.toList[i]'(by rw [← size_ba]; exact hi)).toNat : Int) := by
  unfold byteAt
  rw [List.getD_eq_getElem?_getD, List.getElem?_eq_getElem (by rw [← size_ba]; exact hi)]; rfl
theorem dOf_itoa {s : ByteArray} {v : Int} (h : Lib.itoa v = s.data.toList) : (dOf s).data.toList = Lib.decDigits v.natAbs ∧ ((dOf s).size = s.size ↔ 0 ≤ v) := by
  unfold Lib.itoa at h
  by_cases hv : v < 0
  · rw [if_pos hv] at h
    have hs : s.size = (Lib.decDigits v.natAbs).length + 1 := by rw [size_ba, ← h]; rfl
    have hb : byteAt s 0 = 45 := by unfold byteAt; rw [← h]; rfl
    unfold dOf
    rw [if_pos ⟨by omega, hb⟩]
    have e : (s.extract 1 s.size).data.toList = Lib.decDigits v.natAbs := by
      rw [extract_ba, ← h, hs]
      show List.take ((Lib.decDigits v.natAbs).length + 1 - 1) (Lib.decDigits v.natAbs) = _
      rw [Nat.add_sub_cancel, List.take_length]
    refine ⟨e, ?_⟩
    rw [size_ba, e, hs]; omega
  · rw [if_neg hv] at h
    have hb : byteAt s 0 ≠ 45 := by
      unfold byteAt
      rw [← h]
      cases hl : Lib.decDigits v.toNat with
      | nil => exact absurd hl (dec_ne _)
      | cons c r =>
        have := dec_digits v.toNat c (by rw [hl]; simp)
        show ((c.toNat : Int)) ≠ 45
        omega
    unfold dOf
    rw [if_neg (fun h => hb h.2), show v.natAbs = v.toNat by omega]
    exact ⟨h.symm, ⟨fun _ => by omega, fun _ => rfl⟩⟩
theorem digits_of {s : ByteArray} {v : Int} (h : Lib.itoa v = s.data.toList) (i : Nat) (hi : i < (dOf s).size) : 48 ≤ byteAt (dOf s) i ∧ byteAt (dOf s) i ≤ 57 := by
  rw [byteAt_list _ _ hi]
  have := dec_digits v.natAbs ((dOf s).data.toList[i]'(by rw [← size_ba]; exact hi)) (by rw [← (dOf_itoa h).1]; exact List.getElem_mem _)
  omega
theorem numM_bounds (s : ByteArray) : -9223372036854775808 ≤ (numM s).1 ∧ (numM s).1 ≤ 9223372036854775807 := by
  unfold numM
  split
  · rename_i v h
    have := Lib.atoiAll_bounds h
    split
    · exact ⟨by show -9223372036854775808 ≤ (0 : Int); omega, by show (0 : Int) ≤ _; omega⟩
    · exact this
  · exact ⟨by show -9223372036854775808 ≤ (0 : Int); omega, by show (0 : Int) ≤ _; omega⟩
theorem idxB_at (c : UInt8) : ∀ (l : List UInt8) (k : Nat), Lib.indexByte l c = (k : Int) → l[k]? = some c
  | [], k, h => by unfold Lib.indexByte at h; omega
  | b :: l, k, h => by
    unfold Lib.indexByte at h
    split at h
    · rename_i hb
      obtain rfl : k = 0 := by omega
      have : b = c := by simpa using hb
      rw [this]; rfl
    · split at h
      · omega
      · rename_i h1 h2
        obtain ⟨k', rfl⟩ : ∃ k', k = k' + 1 := by
          cases k with
          | zero =>
            exfalso
            have h3 : Lib.indexByte l c ≠ -1 := by simpa using h2
            rcases Lib.index_spec l [c] with ⟨e, _⟩ | ⟨i, e, _⟩
            · rw [Lib.index_one] at e; exact h3 e
            · rw [Lib.index_one] at e; omega
          | succ k' => exact ⟨k', rfl⟩
        rw [List.getElem?_cons_succ]
        exact idxB_at c l k' (by omega)
/-- No colon among the first i. -/
def noC (s : ByteArray) (i : Nat) : Prop := ∀ j, j < i → j < s.size → byteAt s j ≠ 58
theorem cut_at {s : ByteArray} {i : Nat} (h : noC s i) (hi : i < s.size) (hc : byteAt s i = 58) : headM s = s.extract 0 i ∧ restM s = s.extract (i + 1) s.size ∧ foundM s = true := by
  have hl : i < s.data.toList.length := by rw [← size_ba]; exact hi
  have hci : s.data.toList[i] = 58 := by
    rw [byteAt_list s i hi] at hc
    apply UInt8.toNat_inj.1
    show _ = 58
    omega
  have e : s.data.toList = s.data.toList.take i ++ 58 :: s.data.toList.drop (i + 1) := by
    conv => lhs; rw [← List.take_append_drop i s.data.toList, List.drop_eq_getElem_cons hl, hci]
  have hx : Lib.index s.data.toList [58] = (i : Int) := by
    rw [Lib.index_one, e, idx_byte]
    · rw [List.length_take]; omega
    · intro b hb
      obtain ⟨j, hj, e2⟩ := List.mem_take_iff_getElem.1 hb
      intro e3
      have hji : j < i := by omega
      have hjs : j < s.size := by omega
      apply h j hji hjs
      rw [byteAt_list s j hjs, e2, e3]; rfl
  have hcut : Lib.cut s.data.toList [58] = (s.data.toList.take i, s.data.toList.drop (i + 1), true) := by
    unfold Lib.cut
    rw [hx, if_pos (by omega), Int.toNat_natCast]; rfl
  refine ⟨?_, ?_, ?_⟩
  · apply ext_ba
    rw [extract_ba]
    show (Lib.cut s.data.toList [58]).1 = _
    rw [hcut]; simp
  · apply ext_ba
    rw [extract_ba]
    show (Lib.cut s.data.toList [58]).2.1 = _
    rw [hcut]
    show List.drop (i + 1) s.data.toList = _
    rw [List.take_of_length_le (by rw [List.length_drop, ← size_ba]; omega)]
  · unfold foundM; rw [hcut]
theorem take_none {s : ByteArray} {i : Nat} (h : noC s i) (hi : s.size ≤ i ∨ 9 < i) : takeM s = (ByteArray.empty, ByteArray.empty, 4) := by
  unfold takeM
  refine if_neg ?_
  rintro ⟨c1, c2, c3, -⟩
  unfold foundM Lib.cut at c1
  split at c1
  · rename_i h0
    obtain ⟨k, hk⟩ : ∃ k : Nat, Lib.index s.data.toList [58] = (k : Int) := ⟨(Lib.index s.data.toList [58]).toNat, by omega⟩
    have hat := idxB_at 58 s.data.toList k (by rw [← Lib.index_one]; exact hk)
    obtain ⟨hks, hke⟩ := List.getElem?_eq_some_iff.1 hat
    have hks' : k < s.size := by rw [size_ba]; exact hks
    have hb : byteAt s k = 58 := by rw [byteAt_list s k hks', hke]; rfl
    have hh : (headM s).size = k := by
      rw [size_ba]
      show (Lib.cut s.data.toList [58]).1.length = k
      unfold Lib.cut
      rw [if_pos h0, hk, Int.toNat_natCast]
      show (List.take k _).length = k
      rw [List.length_take]; omega
    exact h k (by omega) hks' hb
  · cases c1
/-- What Take takes, it takes off a text of that form. -/
theorem take_inv {s : ByteArray} (h : (takeM s).2.2 = 0) : s.data.toList = Lib.decDigits (takeM s).1.size ++ 58 :: ((takeM s).1.data.toList ++ 44 :: (takeM s).2.1.data.toList) := by
  by_cases hc : foundM s = true ∧ (numM (headM s)).2 = 0 ∧ (headM s).size ≤ 9 ∧ 0 ≤ (numM (headM s)).1 ∧ (numM (headM s)).1 < ((restM s).size : Int) ∧ byteAt (restM s) (numM (headM s)).1.toNat = 44
  · have ht : takeM s = ((restM s).extract 0 (numM (headM s)).1.toNat, (restM s).extract ((numM (headM s)).1.toNat + 1) (restM s).size, 0) := if_pos hc
    obtain ⟨c1, c2, c3, c4, c5, c6⟩ := hc
    obtain ⟨n, hn⟩ : ∃ n : Nat, n = (numM (headM s)).1.toNat := ⟨_, rfl⟩
    rw [← hn] at ht c6
    have hnr : n < (restM s).size := by omega
    rw [ht]
    have hsz : ((restM s).extract 0 n).size = n := by rw [ByteArray.size_extract]; omega
    show s.data.toList = Lib.decDigits ((restM s).extract 0 n).size ++ 58 :: (((restM s).extract 0 n).data.toList ++ 44 :: ((restM s).extract (n + 1) (restM s).size).data.toList)
    rw [hsz]
    have hh : (headM s).data.toList = Lib.decDigits n := by
      rcases numM_cases (headM s) with h2 | ⟨v, h2, h3⟩
      · rw [h2] at c2; cases c2
      · rw [h2] at hn c4
        rw [← h3]
        unfold Lib.itoa
        have hv : ¬ v < 0 := by have : (0 : Int) ≤ v := c4; omega
        rw [if_neg hv, hn]
    have hr : ((restM s).extract 0 n).data.toList ++ 44 :: ((restM s).extract (n + 1) (restM s).size).data.toList = (restM s).data.toList := by
      rw [extract_ba, extract_ba]
      have hl : n < (restM s).data.toList.length := by rw [← size_ba]; exact hnr
      have h44 : (restM s).data.toList[n] = 44 := by
        rw [byteAt_list _ n hnr] at c6
        apply UInt8.toNat_inj.1
        show _ = 44
        omega
      rw [List.take_of_length_le (l := List.drop (n + 1) (restM s).data.toList) (by rw [List.length_drop, ← size_ba]; omega)]
      conv => rhs; rw [← List.take_append_drop n (restM s).data.toList, List.drop_eq_getElem_cons hl, h44]
      simp
    rw [hr, ← hh]
    unfold foundM at c1
    show s.data.toList = (Lib.cut s.data.toList [58]).1 ++ 58 :: (Lib.cut s.data.toList [58]).2.1
    unfold Lib.cut at c1 ⊢
    split at c1
    · rename_i h0
      rw [if_pos h0]
      obtain ⟨k, hk⟩ : ∃ k : Nat, Lib.index s.data.toList [58] = (k : Int) := ⟨(Lib.index s.data.toList [58]).toNat, by omega⟩
      have hat := idxB_at 58 s.data.toList k (by rw [← Lib.index_one]; exact hk)
      obtain ⟨hks, hke⟩ := List.getElem?_eq_some_iff.1 hat
      rw [hk, Int.toNat_natCast]
      show s.data.toList = List.take k s.data.toList ++ 58 :: List.drop (k + 1) s.data.toList
      conv => lhs; rw [← List.take_append_drop k s.data.toList, List.drop_eq_getElem_cons hks, hke]
    · cases c1
  · have ht : takeM s = (ByteArray.empty, ByteArray.empty, 4) := if_neg hc
    rw [ht] at h; cases h
theorem unp_inv : ∀ (d : Nat) (s : ByteArray) (xs : List ByteArray), unpF d s = some xs → s = packB xs
  | 0, s, xs, h => by
    unfold unpF at h
    split at h
    · rename_i h0; cases h; apply ext_ba; rw [size_ba] at h0; exact List.length_eq_zero_iff.1 h0
    · cases h
  | d + 1, s, xs, h => by
    unfold unpF at h
    split at h
    · rename_i h0; cases h; apply ext_ba; rw [size_ba] at h0; exact List.length_eq_zero_iff.1 h0
    · split at h
      · rename_i h1
        obtain ⟨ys, hy, rfl⟩ := Option.map_eq_some_iff.1 h
        have ih := unp_inv d _ ys hy
        apply ext_ba
        rw [take_inv h1, ih]
        simp [packB, packL]
      · cases h
theorem unpR_inv {s : ByteArray} (h : (unpR s).2 = 0) : s = packB (unpR s).1 := by
  unfold unpR at h ⊢
  split
  · rename_i xs hx; exact unp_inv _ _ _ hx
  · rename_i hx; rw [hx] at h; cases h
theorem wrapE (x : Int) : IntKind.i64.wrap x = (x + 9223372036854775808) % 18446744073709551616 - 9223372036854775808 := by
  have : IntKind.i64.wrap x = if 9223372036854775808 ≤ x % 18446744073709551616 then x % 18446744073709551616 - 18446744073709551616 else x % 18446744073709551616 := by
    set_option maxRecDepth 10000 in simp [IntKind.wrap, IntKind.bits, IntKind.signed]
  rw [this]; split <;> omega
theorem wrap_bd (x : Int) : -9223372036854775808 ≤ IntKind.i64.wrap x ∧ IntKind.i64.wrap x < 9223372036854775808 := by rw [wrapE]; omega
theorem dec_len19 (v : Int) (h : -9223372036854775808 ≤ v ∧ v ≤ 9223372036854775808) : (Lib.decDigits v.natAbs).length ≤ 19 := dec_len9 19 _ (by omega) (by decide)
end Go.Nest

namespace Go.Eng
open Go Go.RowKit
set_option linter.unusedVariables false
theorem says_rename {C : Cx} {s s' : St} {m : Nat → Option Nat} (hr : Renamed s s' m) (ht : s'.tmps = s.tmps.map (AV.rn m)) : Says C s s' := ⟨fun E a w hs => by
  obtain ⟨h1, h2, h3⟩ := hs.fit.renamed hr
  refine ⟨E.rn m, h1, ?_, hs.df⟩
  rw [ht]
  exact VAs.map (AV.rn m) hs.tm h3⟩
theorem says_rowTo {C : Cx} {s : St} {k T sz n : Nat} {el : Nat → D} (hk : s.th k = some (.row T sz n el)) (n' : Nat) (el' : Nat → D) (hn : n = n') (he : ∀ i, i < n → el i = el' i) : Says C s (s.setTh k (.row T sz n' el')) := by
  subst hn; exact Says.rowEq hk el' he
theorem Spec.mono {P : Program} {gl gl' : Nat → Option (List D)} (hg : ∀ g cs, gl g = some cs → gl' g = some cs) {g : FuncId} {args : List AV} {H : List (Nat × Th)} {ret : AV} {H' : List (Nat × Th)} (h : Eng.Spec P gl g args H ret H') : Eng.Spec P gl' g args H ret H' := by
  intro w N E vs hf hv
  refine (h w N E vs ⟨hf.base, hf.low, hf.keep, hf.keys, hf.th, hf.dis, fun g cs h => hf.gl g cs (hg g cs h)⟩ hv).mono ?_
  rintro e w' ⟨v, E', rfl, h1, h2⟩
  exact ⟨v, E', rfl, ⟨h1.base, h1.low, h1.keep, h1.keys, h1.th, h1.dis, hf.gl⟩, h2⟩
end Go.Eng
