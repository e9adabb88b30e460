/-
  Contracts of given functions, or plain laws that they need. No condition.
-/
import Derived.Test.YtbppcjkpkelbfaaDoorRows
import Derived.Test.YtbppcjkpkelbfaaDoorRowK
import Derived.Test.YtbppcjkpkelbfaaDoorEng19
import Derived.Lib.Bytealg
import Derived.Test.YtbppcjkpkelbfaaDoorProg
import Derived.Shelf.Small.Strs
namespace Go.Eng
open Go Go.Proofs.YtbppcjkpkelbfaaDoor
set_option linter.unusedVariables false
end Go.Eng

namespace Go.Eng
open Go
set_option linter.unusedVariables false
theorem bl_irrefl : ∀ x : List UInt8, Op.bytesLess x x = false
  | [] => rfl
  | a :: x => by simp [Op.bytesLess, bl_irrefl x]
theorem bl_trans : ∀ x y z : List UInt8, Op.bytesLess x y = true → Op.bytesLess y z = true → Op.bytesLess x z = true
  | _, _, [], _, h => by cases ‹List UInt8› <;> simp [Op.bytesLess] at h
  | _, [], _ :: _, h, _ => by cases ‹List UInt8› <;> simp [Op.bytesLess] at h
  | [], _ :: _, _ :: _, _, _ => by simp [Op.bytesLess]
  | a :: x, b :: y, c :: z, h, k => by
    simp only [Op.bytesLess, Bool.or_eq_true, Bool.and_eq_true, decide_eq_true_eq, beq_iff_eq] at h k ⊢
    rcases h with h | ⟨rfl, h⟩
    · rcases k with k | ⟨rfl, k⟩
      · exact .inl (UInt8.lt_trans h k)
      · exact .inl h
    · rcases k with k | ⟨rfl, k⟩
      · exact .inl k
      · exact .inr ⟨rfl, bl_trans x y z h k⟩
theorem bl_tri : ∀ x y : List UInt8, Op.bytesLess x y = false → Op.bytesLess y x = false → x = y
  | [], [], _, _ => rfl
  | [], _ :: _, h, _ => by simp [Op.bytesLess] at h
  | _ :: _, [], _, h => by simp [Op.bytesLess] at h
  | a :: x, b :: y, h, k => by
    simp only [Op.bytesLess, Bool.or_eq_false_iff, Bool.and_eq_false_iff, decide_eq_false_iff_not, beq_eq_false_iff_ne] at h k
    have e : a = b := UInt8.le_antisymm (UInt8.not_lt.1 k.1) (UInt8.not_lt.1 h.1)
    subst e
    rw [bl_tri x y (by simpa using h.2) (by simpa using k.2)]
theorem cmpB_eq : ∀ x y : List UInt8, Lib.compareBytes x y = if Op.bytesLess x y then -1 else if Op.bytesLess y x then 1 else 0
  | [], [] => rfl
  | [], _ :: _ => rfl
  | _ :: _, [] => rfl
  | a :: x, b :: y => by
    unfold Lib.compareBytes
    rw [cmpB_eq x y]
    simp only [Op.bytesLess]
    by_cases h1 : a < b
    · simp [h1]
    · by_cases h2 : b < a
      · have : (a == b) = false := by rw [beq_eq_false_iff_ne]; rintro rfl; exact UInt8.lt_irrefl _ h2
        simp [h1, h2, this]
      · have e : a = b := UInt8.le_antisymm (UInt8.not_lt.1 h2) (UInt8.not_lt.1 h1)
        subst e
        simp [h1]
theorem wrapI (x : Int) (h : -9223372036854775808 ≤ x ∧ x < 9223372036854775808) : IntKind.i64.wrap x = x := by
  have : IntKind.i64.wrap x = if 9223372036854775808 ≤ x % 18446744073709551616 then x % 18446744073709551616 - 18446744073709551616 else x % 18446744073709551616 := by
    set_option maxRecDepth 10000 in simp [IntKind.wrap, IntKind.bits, IntKind.signed]
  rw [this]; split <;> omega
theorem wrapU (x : Int) (h : 0 ≤ x ∧ x < 18446744073709551616) : IntKind.u64.wrap x = x := by
  have : IntKind.u64.wrap x = x % 18446744073709551616 := by set_option maxRecDepth 10000 in simp [IntKind.wrap, IntKind.bits, IntKind.signed]
  omega
theorem getD_get {α : Type} {l : List α} {i : Nat} {d : α} (h : i < l.length) : l.getD i d = l[i] := by simp [List.getD, h]
def ltB (a b : ByteArray) : Bool := Op.bytesLess a.toList b.toList
theorem ltB_irrefl (a : ByteArray) : ltB a a = false := bl_irrefl _
theorem ltB_trans {a b c : ByteArray} (h : ltB a b = true) (k : ltB b c = true) : ltB a c = true := bl_trans _ _ _ h k
theorem ltB_tri {a b : ByteArray} (h : ltB a b = false) (k : ltB b a = false) : a = b := ext_ba (by
  have := bl_tri _ _ h k
  rwa [toList_ba, toList_ba] at this)
theorem ltB_ne {a b : ByteArray} (h : ltB a b = true) : a ≠ b := by rintro rfl; rw [ltB_irrefl] at h; cases h
end Go.Eng

namespace Go.Tab
open Go Go.Eng
set_option linter.unusedVariables false
abbrev Rw := ByteArray × ByteArray
def rowEl (l : List Rw) (i : Nat) : D := .agg [.raw (.string (l.getD i (ByteArray.empty, ByteArray.empty)).1), .raw (.string (l.getD i (ByteArray.empty, ByteArray.empty)).2)]
def cmpI (a b : ByteArray) : Int := if Op.bytesLess a.toList b.toList then -1 else if Op.bytesLess b.toList a.toList then 1 else 0
def mCmp : List AV → List (Nat × Th) → Option (AV × List (Nat × Th) × List Prop)
  | [.d (.raw (.string a)), .d (.raw (.string b))], [] => some (.d (.raw (.int .i64 (cmpI a b))), [], [])
  | _, _ => none
def mFd1 : List AV → List (Nat × Th) → Option (AV × List (Nat × Th) × List Prop)
  | [.d (.agg [.raw (.string a), .raw (.string v)]), .d (.raw (.string b))], [] => some (.d (.raw (.int .i64 (cmpI a b))), [], [])
  | _, _ => none
def C1 : Orc := (Orc.none (fun _ => none)).add 71 false mCmp
def C2 : Orc := C1.add 70 true mFd1
def bs0 (l : List Rw) (key : ByteArray) (n i j : Int) : St := mk 1 49 [(0, .own 0), (1, .d (.raw (.string (key)))), (2, .d (.raw (.func (.func 70) #[] #[]))), (8, .d (.raw (.int .i64 n))), (9, .d (.raw (.int .i64 i))), (10, .d (.raw (.int .i64 j)))] [(0, .row 148 2 (l.length) (rowEl l))]
def Sorted (l : List Rw) : Prop := l.Pairwise fun r q => ltB r.1 q.1 = true
structure Tidy (l : List Rw) : Prop where
  sorted : Sorted l
  few : l.length ≤ 16
  sized : ∀ r ∈ l, 0 < r.1.size ∧ r.1.size ≤ 16 ∧ r.2.size ≤ 64
def posM (l : List Rw) (key : ByteArray) : Nat := (l.takeWhile fun r => Op.bytesLess r.1.toList key.toList).length
def hasM (l : List Rw) (key : ByteArray) : Bool := l.any fun r => decide (r.1 = key)
def noVals : Array Value := #[]
def mBs (l : List Rw) : List AV → List (Nat × Th) → Option (AV × List (Nat × Th) × List Prop)
  | [.own 0, .d (.raw (.string key)), .d (.raw (.func (.func f) x y))], [(0, .row R 2 n el)] => some (.tup [.d (.raw (.int .i64 (posM l key))), .d (.raw (.bool (hasM l key)))], [(0, .row R 2 n el)], [f = 70, noVals = x, noVals = y, R = 148, n = l.length, el = rowEl l, Tidy l])
  | _, _ => none
def mFind (l : List Rw) : List AV → List (Nat × Th) → Option (AV × List (Nat × Th) × List Prop)
  | [.ref 0 0, .d (.raw (.string key))], [(0, .obj T [.own 1]), (1, .row R 2 n el)] => some (.tup [.d (.raw (.int .i64 (posM l key))), .d (.raw (.bool (hasM l key)))], [(0, .obj T [.own 1]), (1, .row R 2 n el)], [T = 145, R = 148, n = l.length, el = rowEl l, Tidy l])
  | _, _ => none
def mValue : List AV → List (Nat × Th) → Option (AV × List (Nat × Th) × List Prop)
  | [.d (.raw (.string s))], [] => some (.d (.raw (.bool (decide (s.size ≤ 64)))), [], [])
  | _, _ => none
def C0 : Orc := (Orc.none (fun _ => none)).add 49 false mValue
def C3 (l : List Rw) : Orc := C2.add 69 false (mBs l)
def C4 (l : List Rw) : Orc := C2.add 64 false (mFind l)
def tab0 (l : List Rw) : List (Nat × Th) := [(0, .obj 145 [.own 1]), (1, .row 148 2 l.length (rowEl l))]
def checkM (k : Int) (key val old : ByteArray) : Int :=
  if k < 1 ∨ 5 < k then 1
  else if key.size = 0 ∨ 16 < key.size ∨ 64 < val.size ∨ 64 < old.size then 130
  else if (val.size ≠ 0 ∧ (k = 1 ∨ k = 4)) ∨ (old.size ≠ 0 ∧ k ≠ 5) then 4
  else 0
def mCheck : List AV → List (Nat × Th) → Option (AV × List (Nat × Th) × List Prop)
  | [.d (.agg [.raw (.int .i64 k), .raw (.string key), .raw (.string val), .raw (.string old)])], [] => some (.d (.raw (.int .i64 (checkM k key val old))), [], [])
  | _, _ => none
def putM (l : List Rw) (key val : ByteArray) : List Rw := if hasM l key then l.set (posM l key) (key, val) else l.take (posM l key) ++ (key, val) :: l.drop (posM l key)
def fullM (l : List Rw) (key : ByteArray) : Bool := !hasM l key && l.length == 16
def setM (l : List Rw) (key val : ByteArray) : List Rw := if fullM l key then l else putM l key val
def tab2 (l : List Rw) : List (Nat × Th) := [(0, .obj 145 [.own 2]), (2, .row 148 2 l.length (rowEl l))]
def mSet (l : List Rw) : List AV → List (Nat × Th) → Option (AV × List (Nat × Th) × List Prop)
  | [.ref 0 0, .d (.raw (.string key)), .d (.raw (.string val))], [(0, .obj T [.own 1]), (1, .row R 2 n el)] => some (.d (.raw (.int .i64 (if fullM l key then 5 else 0))), tab2 (setM l key val), [T = 145, R = 148, n = l.length, el = rowEl l, Tidy l])
  | _, _ => none
def C5 (l : List Rw) : Orc := (((C0.add 23 false mCheck).add 64 false (mFind l))).add 65 false (mSet l)
def hadM (l : List Rw) (key : ByteArray) : ByteArray := if hasM l key then (l.getD (posM l key) (ByteArray.empty, ByteArray.empty)).2 else ByteArray.empty
def doM (l : List Rw) (k : Int) (key val old : ByteArray) : ByteArray × Int × List Rw :=
  if checkM k key val old = 0 then
    if k = 2 then (if fullM l key then (ByteArray.empty, 5, l) else (hadM l key, 0, putM l key val))
    else if k = 3 then (if fullM l key then (ByteArray.empty, 5, l) else if (hadM l key ++ val).size ≤ 64 then (hadM l key ++ val, 0, putM l key (hadM l key ++ val)) else (ByteArray.empty, 2, l))
    else if hasM l key then
      if k = 4 then (hadM l key, 0, l.eraseIdx (posM l key))
      else if k = 5 then (if hadM l key = old then (hadM l key, 0, putM l key val) else (ByteArray.empty, 7, l))
      else (hadM l key, 0, l)
    else (ByteArray.empty, 6, l)
  else (ByteArray.empty, checkM k key val old, l)
end Go.Tab

namespace Go.Tab
open Go Go.Eng Go.Proofs Go.RowKit
set_option linter.unusedVariables false
set_option linter.unusedSimpArgs false
set_option maxRecDepth 100000
set_option maxHeartbeats 4000000
set_option linter.all false
def laysCompare_ren : Go.Shelf.Ren := ⟨fun | 106 => 71 | 213 => 75 | 265 => 78 | n => n, fun | 9 => 9 | 3 => 3 | 20 => 20 | n => n, fun | n => n⟩
theorem laysCompare : Go.Proofs.Lays.n106 Tryd.prog laysCompare_ren where
  mixed := by kernel_rfl
  f106 := Tryd.func71.trans (congrArg some (by kernel_rfl))
  f213 := Tryd.func75.trans (congrArg some (by kernel_rfl))
  f265 := Tryd.func78.trans (congrArg some (by kernel_rfl))
  t3 := Tryd.underlying3
  a3 := Tryd.isAgg3
  z3 := Tryd.sizeOf3
  v3 := Tryd.zeroValue3
  t9 := Tryd.underlying9
  a9 := Tryd.isAgg9
  z9 := Tryd.sizeOf9
  v9 := Tryd.zeroValue9
abbrev g0 : Nat → Option (List D) := fun _ => none
theorem cmpI_eq (a b : ByteArray) : Lib.compareBytes a.data.toList b.data.toList = cmpI a b := by
  rw [cmpB_eq, ← toList_ba, ← toList_ba]; rfl
theorem compare_ok (a b : ByteArray) : Eng.Spec Tryd.prog g0 71 [.d (.raw (.string a)), .d (.raw (.string b))] [] (.d (.raw (.int .i64 (cmpI a b)))) [] := by
  refine Spec.pure rfl fun w N E vs hvs hN => ?_
  rw [VAs_cons] at hvs
  obtain ⟨v, us, rfl, hv, hus⟩ := hvs
  rw [VAs_cons] at hus
  obtain ⟨z, us, rfl, hz, hus⟩ := hus
  obtain rfl : us = [] := by unfold VAs at hus; exact hus
  unfold VA at hz hv
  obtain ⟨rfl, -⟩ := VD_raw_inv hz
  obtain ⟨rfl, -⟩ := VD_raw_inv hv
  refine (Any.strings_Compare laysCompare a b w).mono fun e w' ⟨he, hw⟩ => ⟨?_, hw ▸ Below.refl _ _⟩
  rw [he, cmpI_eq]
theorem C1_ok : OrcOK Tryd.prog C1 := (OrcOK.none g0).add _ false mCmp fun args H r H' cs h hc => by
  unfold mCmp at h
  split at h
  · cases h; exact compare_ok _ _
  · cases h
theorem fd1_ok (a v b : ByteArray) : Eng.Spec Tryd.prog g0 70 [.d (.agg [.raw (.string a), .raw (.string v)]), .d (.raw (.string b))] [] (.d (.raw (.int .i64 (cmpI a b)))) [] := by
  refine spec_fn Tryd.func70 rfl fun {w N E act} hsim => ?_
  exact gr C1_ok Tryd.func70 (sr' := ⟨0, [vI (cmpI a b)], []⟩) (cs := []) [] true trivial (by rfl) hsim
theorem posM_le : ∀ (l : List Rw) (key : ByteArray), posM l key ≤ l.length
  | [], _ => Nat.le_refl _
  | r :: l, key => by
    have := posM_le l key
    unfold posM at this ⊢
    rw [List.takeWhile_cons]
    split
    · simp only [List.length_cons]; omega
    · simp
theorem posM_is : ∀ (l : List Rw) (key : ByteArray) (i : Nat), i ≤ l.length → (∀ k, k < i → ltB (l.getD k (ByteArray.empty, ByteArray.empty)).1 key = true) →
    (i < l.length → ltB (l.getD i (ByteArray.empty, ByteArray.empty)).1 key = false) → posM l key = i
  | [], key, i, h, _, _ => by simp at h; subst h; rfl
  | r :: l, key, 0, h, h1, h2 => by
    have := h2 (by simp)
    unfold posM
    rw [List.takeWhile_cons]
    have h3 : Op.bytesLess r.1.toList key.toList = false := this
    simp [h3]
  | r :: l, key, i + 1, h, h1, h2 => by
    have h3 : Op.bytesLess r.1.toList key.toList = true := h1 0 (by omega)
    have := posM_is l key i (by simpa using h) (fun k hk => by have := h1 (k + 1) (by omega); simpa using this) (fun hi => by have := h2 (by simpa using hi); simpa using this)
    unfold posM at this ⊢
    rw [List.takeWhile_cons]
    simp [h3, this]
theorem sorted_lt {l : List Rw} (h : Sorted l) {i j : Nat} (hij : i < j) (hj : j < l.length) : ltB (l.getD i (ByteArray.empty, ByteArray.empty)).1 (l.getD j (ByteArray.empty, ByteArray.empty)).1 = true := by
  have := List.pairwise_iff_getElem.1 h i j (by omega) hj hij
  rwa [getD_get (by omega), getD_get hj]
theorem hasM_is {l : List Rw} (h : Sorted l) (key : ByteArray) (i : Nat) (hi : i ≤ l.length) (h1 : ∀ k, k < i → ltB (l.getD k (ByteArray.empty, ByteArray.empty)).1 key = true)
    (h2 : i < l.length → ltB (l.getD i (ByteArray.empty, ByteArray.empty)).1 key = false) : hasM l key = (decide (i < l.length) && (decide ((l.getD i (ByteArray.empty, ByteArray.empty)).1 = key))) := by
  rw [Bool.eq_iff_iff, Bool.and_eq_true, decide_eq_true_eq, decide_eq_true_eq]
  unfold hasM
  rw [List.any_eq_true]
  constructor
  · rintro ⟨r, hr, hk⟩
    have hk : r.1 = key := by simpa using hk
    obtain ⟨j, hj, rfl⟩ := List.getElem_of_mem hr
    have e : (l.getD j (ByteArray.empty, ByteArray.empty)).1 = key := by rw [getD_get hj]; exact hk
    rcases Nat.lt_trichotomy j i with hlt | rfl | hgt
    · have := h1 j hlt
      rw [e, ltB_irrefl] at this; cases this
    · exact ⟨hj, e⟩
    · have h3 := sorted_lt h hgt hj
      have h4 := h2 (by omega)
      rw [e] at h3
      rw [h3] at h4; cases h4
  · rintro ⟨hl, hk⟩
    refine ⟨l[i], List.getElem_mem hl, ?_⟩
    rw [getD_get hl] at hk
    simp [hk]
theorem mid_eq (i j : Int) (h : 0 ≤ i) (hij : i < j) (hj : j ≤ 1000) : IntKind.i64.wrap ((IntKind.u64.wrap (IntKind.i64.wrap (i + j))).fdiv ((2 : Int) ^ (1 : Nat))) = (i + j) / 2 := by
  have h1 : IntKind.i64.wrap (i + j) = i + j := wrapI _ (by omega)
  have h2 : IntKind.u64.wrap (i + j) = i + j := wrapU _ (by omega)
  rw [h1, h2, Int.fdiv_eq_ediv_of_nonneg _ (by decide), show ((2 : Int) ^ (1 : Nat)) = 2 from rfl]
  exact wrapI _ (by omega)
theorem cmpI_lt (a b : ByteArray) : decide (cmpI a b < 0) = ltB a b := by
  unfold cmpI ltB
  cases h : Op.bytesLess a.toList b.toList
  · cases Op.bytesLess b.toList a.toList <;> rfl
  · rfl
theorem cmpI_zero (a b : ByteArray) (h : ltB a b = false) : (cmpI a b == 0) = decide (a = b) := by
  unfold cmpI
  rw [show Op.bytesLess a.toList b.toList = false from h]
  cases k : Op.bytesLess b.toList a.toList
  · rw [ltB_tri h k]; simp
  · have := ltB_ne (show ltB b a = true from k)
    simp only [Bool.false_eq_true, if_false, if_true]
    rw [eq_comm, decide_eq_false (Ne.symm this)]; rfl
theorem C2_ok : OrcOK Tryd.prog C2 := C1_ok.add _ true mFd1 fun args H r H' cs h hc => by
  unfold mFd1 at h
  split at h
  · cases h; exact fd1_ok _ _ _
  · cases h
theorem bs_ret {H : List (Nat × Th)} {x x' : Int} {b b' : Bool} (h1 : x = x') (h2 : b = b') : (⟨1, [.tup [.d (.raw (.int .i64 x)), .d (.raw (.bool b))]], H⟩ : St) = ⟨1, [.tup [.d (.raw (.int .i64 x')), .d (.raw (.bool b'))]], H⟩ := by
  subst h1 h2; rfl
theorem bs_go {w0 : World} {N : Nat → Prop} {E0 : Env} (l : List Rw) (key : ByteArray) (hs : Sorted l) (hn : l.length ≤ 1000) : ∀ (d : Nat) (n i j : Int), n = (l.length : Int) → 0 ≤ i → i ≤ j → j ≤ (l.length : Int) → j - i ≤ d →
    (∀ k : Nat, (k : Int) < i → ltB (l.getD k (ByteArray.empty, ByteArray.empty)).1 key = true) → (∀ k : Nat, j ≤ (k : Int) → k < l.length → ltB (l.getD k (ByteArray.empty, ByteArray.empty)).1 key = false) → ∀ (E : Env) (a : Act) (w : World),
    Sim (cx Tryd.prog g0 w0 N E0 [(0, .row 148 2 (l.length) (rowEl l))]) E (bs0 l key n i j) a w → Goes Tryd.prog 69 (loopAt Tryd.f69 0) (RSpec (cx Tryd.prog g0 w0 N E0 [(0, .row 148 2 (l.length) (rowEl l))]) ⟨1, [.tup [.d (.raw (.int .i64 (posM l key))), .d (.raw (.bool (hasM l key)))]], [(0, .row 148 2 (l.length) (rowEl l))]⟩) a w := by
  intro d
  induction d with
  | zero =>
    intro n i j en h0 hij hj hd h1 h2 E a w hsim
    have e : i = j := by omega
    have hi : i.toNat ≤ l.length := by omega
    have h3 := h2 i.toNat (by omega)
    have hp := posM_is l key i.toNat hi (fun k hk => h1 k (by omega)) h3
    have hh := hasM_is hs key i.toNat hi (fun k hk => h1 k (by omega)) h3
    have e1 : i = ((posM l key : Nat) : Int) := by rw [hp]; omega
    have e2 : i < n → (cmpI (l.getD i.toNat (ByteArray.empty, ByteArray.empty)).1 key == 0) = hasM l key := fun hlt => by
      rw [hh, cmpI_zero _ _ (h3 (by omega)), decide_eq_true (show i.toNat < l.length by omega), Bool.true_and]
    have e3 : ¬ i < n → false = hasM l key := fun hlt => by rw [hh, decide_eq_false (show ¬ i.toNat < l.length by omega), Bool.false_and]
    rcases bd (decide (i < j)) with hb1 | hb1
    ·
     rcases bd (decide (cmpI (l.getD (IntKind.i64.wrap ((IntKind.u64.wrap (IntKind.i64.wrap (i + j))).fdiv ((2 : Int) ^ (1 : Nat)))).toNat (ByteArray.empty, ByteArray.empty)).fst key < (0 : Int))) with hb2 | hb2
     ·
      exact absurd (of_decide_eq_true hb1) (by omega)
     ·
      exact absurd (of_decide_eq_true hb1) (by omega)
    ·
     rcases bd (decide (i < n)) with hb3 | hb3
     ·
      exact gr C2_ok Tryd.func69 (sr' := ⟨1, [.tup [vI i, vB (cmpI (l.getD i.toNat (ByteArray.empty, ByteArray.empty)).fst key == (0 : Int))]], [(0, .row 148 2 l.length (rowEl l))]⟩) (cs := [_, _, ((0 : Int) ≤ i ∧ i < (↑l.length : Int)), (i.toNat < l.length)]) [false, true] true ⟨hb1, hb3, (by exact ⟨by omega, by have := of_decide_eq_true hb3; omega⟩), (by (have := of_decide_eq_true hb3; omega)), trivial⟩ (by exact bs_ret e1 (e2 (of_decide_eq_true hb3))) hsim
     ·
      exact gr C2_ok Tryd.func69 (sr' := ⟨1, [.tup [vI i, vB false]], [(0, .row 148 2 l.length (rowEl l))]⟩) (cs := [_, _]) [false, false] true ⟨hb1, hb3, trivial⟩ (by exact bs_ret e1 (e3 (of_decide_eq_false hb3))) hsim
  | succ d ih =>
    intro n i j en h0 hij hj hd h1 h2 E a w hsim
    by_cases hlt : i < j
    · have hm := mid_eq i j h0 hlt (by omega)
      have b1 : (0 : Int) ≤ IntKind.i64.wrap ((IntKind.u64.wrap (IntKind.i64.wrap (i + j))).fdiv ((2 : Int) ^ (1 : Nat))) ∧ IntKind.i64.wrap ((IntKind.u64.wrap (IntKind.i64.wrap (i + j))).fdiv ((2 : Int) ^ (1 : Nat))) < (l.length : Int) := by rw [hm]; omega
      have b2 : (IntKind.i64.wrap ((IntKind.u64.wrap (IntKind.i64.wrap (i + j))).fdiv ((2 : Int) ^ (1 : Nat)))).toNat < l.length := by omega
      have sA : ltB (l.getD (IntKind.i64.wrap ((IntKind.u64.wrap (IntKind.i64.wrap (i + j))).fdiv ((2 : Int) ^ (1 : Nat)))).toNat (ByteArray.empty, ByteArray.empty)).1 key = true → ∀ E a w, Sim (cx Tryd.prog g0 w0 N E0 [(0, .row 148 2 (l.length) (rowEl l))]) E (bs0 l key n (IntKind.i64.wrap (IntKind.i64.wrap ((IntKind.u64.wrap (IntKind.i64.wrap (i + j))).fdiv ((2 : Int) ^ (1 : Nat))) + (1 : Int))) j) a w → Goes Tryd.prog 69 (loopAt Tryd.f69 0) (RSpec (cx Tryd.prog g0 w0 N E0 [(0, .row 148 2 (l.length) (rowEl l))]) ⟨1, [.tup [.d (.raw (.int .i64 (posM l key))), .d (.raw (.bool (hasM l key)))]], [(0, .row 148 2 (l.length) (rowEl l))]⟩) a w := by
        intro hl
        rw [hm] at hl ⊢
        rw [wrapI ((i + j) / 2 + 1) (by omega)]
        refine ih n ((i + j) / 2 + 1) j en (by omega) (by omega) hj (by omega) (fun k hk => ?_) h2
        by_cases hk2 : (k : Int) = (i + j) / 2
        · rw [← hk2] at hl; exact hl
        · exact ltB_trans (sorted_lt hs (i := k) (j := ((i + j) / 2).toNat) (by omega) (by omega)) hl
      have sB : ltB (l.getD (IntKind.i64.wrap ((IntKind.u64.wrap (IntKind.i64.wrap (i + j))).fdiv ((2 : Int) ^ (1 : Nat)))).toNat (ByteArray.empty, ByteArray.empty)).1 key = false → ∀ E a w, Sim (cx Tryd.prog g0 w0 N E0 [(0, .row 148 2 (l.length) (rowEl l))]) E (bs0 l key n i (IntKind.i64.wrap ((IntKind.u64.wrap (IntKind.i64.wrap (i + j))).fdiv ((2 : Int) ^ (1 : Nat))))) a w → Goes Tryd.prog 69 (loopAt Tryd.f69 0) (RSpec (cx Tryd.prog g0 w0 N E0 [(0, .row 148 2 (l.length) (rowEl l))]) ⟨1, [.tup [.d (.raw (.int .i64 (posM l key))), .d (.raw (.bool (hasM l key)))]], [(0, .row 148 2 (l.length) (rowEl l))]⟩) a w := by
        intro hl
        rw [hm] at hl ⊢
        refine ih n i ((i + j) / 2) en h0 (by omega) (by omega) (by omega) h1 (fun k hk hkl => ?_)
        by_cases hk2 : (k : Int) = (i + j) / 2
        · rw [← hk2] at hl; exact hl
        · cases h : ltB (l.getD k (ByteArray.empty, ByteArray.empty)).1 key
          · rfl
          · rw [ltB_trans (sorted_lt hs (i := ((i + j) / 2).toNat) (j := k) (by omega) hkl) h] at hl; cases hl
      rcases bd (decide (i < j)) with hb1 | hb1
      ·
       rcases bd (decide (cmpI (l.getD (IntKind.i64.wrap ((IntKind.u64.wrap (IntKind.i64.wrap (i + j))).fdiv ((2 : Int) ^ (1 : Nat)))).toNat (ByteArray.empty, ByteArray.empty)).fst key < (0 : Int))) with hb2 | hb2
       ·
        refine gh C2_ok (k' := loopAt Tryd.f69 0) (s' := mk 1 49 [(0, .own 0), (1, vS key), (2, .d (.raw (Value.func (Fn.func (70 : FuncId)) #[] #[]))), (8, vI n), (9, vI (IntKind.i64.wrap (IntKind.i64.wrap ((IntKind.u64.wrap (IntKind.i64.wrap (i + j))).fdiv ((2 : Int) ^ 1)) + 1))), (10, vI j)] [(0, .row 148 2 l.length (rowEl l))]) (cs := [_, (Nn 1), ((0 : Int) ≤ IntKind.i64.wrap ((IntKind.u64.wrap (IntKind.i64.wrap (i + j))).fdiv ((2 : Int) ^ 1)) ∧ IntKind.i64.wrap ((IntKind.u64.wrap (IntKind.i64.wrap (i + j))).fdiv ((2 : Int) ^ 1)) < (↑l.length : Int)), ((IntKind.i64.wrap ((IntKind.u64.wrap (IntKind.i64.wrap (i + j))).fdiv ((2 : Int) ^ 1))).toNat < l.length), _]) [true, true] [0,1,2,8,9,10] ⟨hb1, (by decide), (by exact b1), (by exact b2), hb2, trivial⟩ hsim fun E a w hsim => ?_
        first | exact sA (by rw [← cmpI_lt]; exact hb2) E a w hsim | exact sB (by rw [← cmpI_lt]; exact hb2) E a w hsim
       ·
        refine gh C2_ok (k' := loopAt Tryd.f69 0) (s' := mk 1 49 [(0, .own 0), (1, vS key), (2, .d (.raw (Value.func (Fn.func (70 : FuncId)) #[] #[]))), (8, vI n), (9, vI i), (10, vI (IntKind.i64.wrap ((IntKind.u64.wrap (IntKind.i64.wrap (i + j))).fdiv ((2 : Int) ^ 1))))] [(0, .row 148 2 l.length (rowEl l))]) (cs := [_, (Nn 1), ((0 : Int) ≤ IntKind.i64.wrap ((IntKind.u64.wrap (IntKind.i64.wrap (i + j))).fdiv ((2 : Int) ^ 1)) ∧ IntKind.i64.wrap ((IntKind.u64.wrap (IntKind.i64.wrap (i + j))).fdiv ((2 : Int) ^ 1)) < (↑l.length : Int)), ((IntKind.i64.wrap ((IntKind.u64.wrap (IntKind.i64.wrap (i + j))).fdiv ((2 : Int) ^ 1))).toNat < l.length), _]) [true, false] [0,1,2,8,9,10] ⟨hb1, (by decide), (by exact b1), (by exact b2), hb2, trivial⟩ hsim fun E a w hsim => ?_
        first | exact sA (by rw [← cmpI_lt]; exact hb2) E a w hsim | exact sB (by rw [← cmpI_lt]; exact hb2) E a w hsim
      ·
       rcases bd (decide (i < n)) with hb3 | hb3
       ·
        exact absurd hlt (of_decide_eq_false hb1)
       ·
        exact absurd hlt (of_decide_eq_false hb1)
    · exact ih n i j en h0 hij hj (by omega) h1 h2 E a w hsim
theorem bs_ok (l : List Rw) (key : ByteArray) (ht : Tidy l) : Eng.Spec Tryd.prog g0 69 [.own 0, .d (.raw (.string key)), .d (.raw (.func (.func 70) #[] #[]))] [(0, .row 148 2 (l.length) (rowEl l))]
    (.tup [.d (.raw (.int .i64 (posM l key))), .d (.raw (.bool (hasM l key)))]) [(0, .row 148 2 (l.length) (rowEl l))] := by
  refine spec_fn Tryd.func69 rfl fun {w N E a} hsim => ?_
  have hf := ht.few
  refine gh C2_ok (k' := loopAt Tryd.f69 0) (s' := mk 1 49 [(0, .own 0), (1, vS key), (2, .d (.raw (Value.func (Fn.func (70 : FuncId)) #[] #[]))), (8, vI (↑l.length : Int)), (9, vI 0), (10, vI (↑l.length : Int))] [(0, .row 148 2 l.length (rowEl l))]) (cs := []) [] [0,1,2,8,9,10] trivial hsim fun E a w hsim => ?_
  exact bs_go l key ht.sorted (by omega) l.length _ _ _ rfl (by omega) (by omega) (by omega) (by omega) (fun k hk => by omega) (fun k hk hkl => by omega) E a w hsim
theorem C3_ok (l : List Rw) : OrcOK Tryd.prog (C3 l) := C2_ok.add _ false (mBs l) fun args H r H' cs h hc => by
  unfold mBs at h
  split at h
  · cases h
    obtain ⟨rfl, rfl, rfl, rfl, rfl, rfl, h1, -⟩ := hc
    exact bs_ok l _ h1
  · cases h
theorem find_ok (l : List Rw) (key : ByteArray) (ht : Tidy l) : Eng.Spec Tryd.prog g0 64 [.ref 0 0, .d (.raw (.string key))] (tab0 l) (.tup [.d (.raw (.int .i64 (posM l key))), .d (.raw (.bool (hasM l key)))]) (tab0 l) := by
  refine spec_fn Tryd.func64 rfl fun {w N E a} hsim => ?_
  have q0_ : (noVals = #[]) := (by rfl)
  exact gr (C3_ok l) Tryd.func64 (sr' := ⟨2, [.tup [vI ((↑(posM l key) : Int)), vB (hasM l key)]], [(0, .obj 145 [.own 1]), (1, .row 148 2 l.length (rowEl l))]⟩) (cs := ((fun (c0 : Prop) => [(70 = 70), c0, c0, (148 = 148), (l.length = l.length), (rowEl l = rowEl l), (Tidy l)]) _)) [] true ⟨(by rfl), q0_, q0_, (by rfl), (by rfl), (by rfl), (by exact ht), trivial⟩ (by rfl) hsim
end Go.Tab

namespace Go.Eng
open Go Go.RowKit
set_option linter.unusedVariables false
theorem says_rename {C : Cx} {s s' : St} {m : Nat → Option Nat} (hr : Renamed s s' m) (ht : s'.tmps = s.tmps.map (AV.rn m)) : Says C s s' := ⟨fun E a w hs => by
  obtain ⟨h1, h2, h3⟩ := hs.fit.renamed hr
  refine ⟨E.rn m, h1, ?_, hs.df⟩
  rw [ht]
  exact VAs.map (AV.rn m) hs.tm h3⟩
theorem says_rowTo {C : Cx} {s : St} {k T sz n : Nat} {el : Nat → D} (hk : s.th k = some (.row T sz n el)) (n' : Nat) (el' : Nat → D) (hn : n = n') (he : ∀ i, i < n → el i = el' i) : Says C s (s.setTh k (.row T sz n' el')) := by
  subst hn; exact Says.rowEq hk el' he
theorem Spec.mono {P : Program} {gl gl' : Nat → Option (List D)} (hg : ∀ g cs, gl g = some cs → gl' g = some cs) {g : FuncId} {args : List AV} {H : List (Nat × Th)} {ret : AV} {H' : List (Nat × Th)} (h : Eng.Spec P gl g args H ret H') : Eng.Spec P gl' g args H ret H' := by
  intro w N E vs hf hv
  refine (h w N E vs ⟨hf.base, hf.low, hf.keep, hf.keys, hf.th, hf.dis, fun g cs h => hf.gl g cs (hg g cs h)⟩ hv).mono ?_
  rintro e w' ⟨v, E', rfl, h1, h2⟩
  exact ⟨v, E', rfl, ⟨h1.base, h1.low, h1.keep, h1.keys, h1.th, h1.dis, hf.gl⟩, h2⟩
end Go.Eng
