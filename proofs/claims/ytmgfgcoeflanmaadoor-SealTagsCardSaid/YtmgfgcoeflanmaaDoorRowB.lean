/-
  Contracts of given functions, or plain laws that they need. No condition.
-/
import Derived.Test.YtmgfgcoeflanmaaDoorRows
import Derived.Test.YtmgfgcoeflanmaaDoorRowK
import Derived.Test.YtmgfgcoeflanmaaDoorEng19
import Derived.Lib.Bytealg
import Derived.Lib.ItoaNum
import Derived.Lib.AtoiAllMem
import Derived.Lib.AtoiAllCases
import Derived.Lib.IndexMore
import Derived.Lib.AppendIntMem
import Derived.Test.YtmgfgcoeflanmaaDoorProg
namespace Go.Eng
open Go Go.Proofs.YtmgfgcoeflanmaaDoor
set_option linter.unusedVariables false
mutual
/-- What the second form's bound gives. -/
theorem Ty.bulk_le {H : Type} : ∀ (τ : Ty) (a : τ.Val) (d : DataW H), τ.Rel H a d → τ.bulk a ≤ Rows.uptoBulk d
  | .bool, a, d, h => by simp only [Ty.Rel] at h; subst h; simp [Ty.bulk, Rows.uptoBulk]
  | .int k, a, d, h => by simp only [Ty.Rel] at h; subst h; simp [Ty.bulk, Rows.uptoBulk]
  | .str, a, d, h => by
    simp only [Ty.Rel] at h; subst h
    simp only [Ty.bulk, Rows.uptoBulk]
    exact Nat.le_of_eq (congrArg (· + 1) (size_ba _))
  | .list e, l, d, h => by
    simp only [Ty.Rel] at h
    have each : ∀ (l : List e.Val) (es : List (DataW H)), l.length = es.length → (∀ i (h : i < es.length), e.Rel H (l.getD i e.dflt) es[i]) → (l.map fun x => e.bulk x).sum ≤ Rows.uptoBulkAll es := by
      intro l
      induction l with
      | nil => intro es _ _; simp
      | cons x xs ih =>
        intro es hl hr
        cases es with
        | nil => simp at hl
        | cons d ds =>
          have h1 := ih ds (by simpa using hl) fun i hi => by have := hr (i + 1) (by simpa using hi); simpa using this
          have h2 := Ty.bulk_le e x d (by have := hr 0 (by simp); simpa using this)
          simp only [List.map_cons, List.sum_cons, Rows.uptoBulkAll]; omega
    rcases h with ⟨rfl, rfl⟩ | ⟨es, rs, rfl, hl, hr⟩
    · simp [Ty.bulk, Rows.uptoBulk]
    · have := each l es hl hr
      simp only [Ty.bulk, Rows.uptoBulk]
      show (List.map (fun x => e.bulk x) l).sum + 1 ≤ _
      omega
  | .agg fs, x, d, h => by
    simp only [Ty.Rel] at h
    obtain ⟨ds, rfl, h⟩ := h
    have := Ty.bulks_le fs x ds h
    simp only [Ty.bulk, Rows.uptoBulk]
    omega
theorem Ty.bulks_le {H : Type} : ∀ (ts : List Ty) (a : Ty.Vals ts) (ds : List (DataW H)), Ty.Rels H ts a ds → Ty.bulks ts a ≤ Rows.uptoBulkAll ds
  | [], a, ds, h => by simp [Ty.bulks]
  | t :: ts, a, ds, h => by
    simp only [Ty.Rels] at h
    obtain ⟨d, ds', rfl, h1, h2⟩ := h
    have := Ty.bulk_le t a.1 d h1
    have := Ty.bulks_le ts a.2 ds' h2
    simp only [Ty.bulks, Rows.uptoBulkAll]
    omega
end
end Go.Eng

namespace Go.Eng
open Go
set_option linter.unusedVariables false
theorem bl_irrefl : ∀ x : List UInt8, Op.bytesLess x x = false
  | [] => rfl
  | a :: x => by simp [Op.bytesLess, bl_irrefl x]
theorem bl_trans : ∀ x y z : List UInt8, Op.bytesLess x y = true → Op.bytesLess y z = true → Op.bytesLess x z = true
  | _, _, [], _, h => by cases ‹List UInt8› <;> simp [Op.bytesLess] at h
  | _, [], _ :: _, h, _ => by cases ‹List UInt8› <;> simp [Op.bytesLess] at h
  | [], _ :: _, _ :: _, _, _ => by simp [Op.bytesLess]
  | a :: x, b :: y, c :: z, h, k => by
    simp only [Op.bytesLess, Bool.or_eq_true, Bool.and_eq_true, decide_eq_true_eq, beq_iff_eq] at h k ⊢
    rcases h with h | ⟨rfl, h⟩
    · rcases k with k | ⟨rfl, k⟩
      · exact .inl (UInt8.lt_trans h k)
      · exact .inl h
    · rcases k with k | ⟨rfl, k⟩
      · exact .inl k
      · exact .inr ⟨rfl, bl_trans x y z h k⟩
theorem bl_tri : ∀ x y : List UInt8, Op.bytesLess x y = false → Op.bytesLess y x = false → x = y
  | [], [], _, _ => rfl
  | [], _ :: _, h, _ => by simp [Op.bytesLess] at h
  | _ :: _, [], _, h => by simp [Op.bytesLess] at h
  | a :: x, b :: y, h, k => by
    simp only [Op.bytesLess, Bool.or_eq_false_iff, Bool.and_eq_false_iff, decide_eq_false_iff_not, beq_eq_false_iff_ne] at h k
    have e : a = b := UInt8.le_antisymm (UInt8.not_lt.1 k.1) (UInt8.not_lt.1 h.1)
    subst e
    rw [bl_tri x y (by simpa using h.2) (by simpa using k.2)]
theorem bl_asymm {x y : List UInt8} (h : Op.bytesLess x y = true) : Op.bytesLess y x = false := by
  cases e : Op.bytesLess y x
  · rfl
  · have := bl_trans x y x h e
    rw [bl_irrefl] at this; cases this
theorem cmpB_eq : ∀ x y : List UInt8, Lib.compareBytes x y = if Op.bytesLess x y then -1 else if Op.bytesLess y x then 1 else 0
  | [], [] => rfl
  | [], _ :: _ => rfl
  | _ :: _, [] => rfl
  | a :: x, b :: y => by
    unfold Lib.compareBytes
    rw [cmpB_eq x y]
    simp only [Op.bytesLess]
    by_cases h1 : a < b
    · simp [h1]
    · by_cases h2 : b < a
      · have : (a == b) = false := by rw [beq_eq_false_iff_ne]; rintro rfl; exact UInt8.lt_irrefl _ h2
        simp [h1, h2, this]
      · have e : a = b := UInt8.le_antisymm (UInt8.not_lt.1 h2) (UInt8.not_lt.1 h1)
        subst e
        simp [h1]
theorem wrapI (x : Int) (h : -9223372036854775808 ≤ x ∧ x < 9223372036854775808) : IntKind.i64.wrap x = x := by
  have : IntKind.i64.wrap x = if 9223372036854775808 ≤ x % 18446744073709551616 then x % 18446744073709551616 - 18446744073709551616 else x % 18446744073709551616 := by
    set_option maxRecDepth 10000 in simp [IntKind.wrap, IntKind.bits, IntKind.signed]
  rw [this]; split <;> omega
theorem wrapU (x : Int) (h : 0 ≤ x ∧ x < 18446744073709551616) : IntKind.u64.wrap x = x := by
  have : IntKind.u64.wrap x = x % 18446744073709551616 := by set_option maxRecDepth 10000 in simp [IntKind.wrap, IntKind.bits, IntKind.signed]
  omega
theorem getD_get {α : Type} {l : List α} {i : Nat} {d : α} (h : i < l.length) : l.getD i d = l[i] := by simp [List.getD, h]
/-- a's letters stand ahead of b's. -/
def ltB (a b : ByteArray) : Bool := Op.bytesLess a.toList b.toList
theorem ltB_irrefl (a : ByteArray) : ltB a a = false := bl_irrefl _
theorem ltB_trans {a b c : ByteArray} (h : ltB a b = true) (k : ltB b c = true) : ltB a c = true := bl_trans _ _ _ h k
theorem ltB_tri {a b : ByteArray} (h : ltB a b = false) (k : ltB b a = false) : a = b := ext_ba (by
  have := bl_tri _ _ h k
  rwa [toList_ba, toList_ba] at this)
theorem ltB_asymm {a b : ByteArray} (h : ltB a b = true) : ltB b a = false := bl_asymm h
theorem ltB_ne {a b : ByteArray} (h : ltB a b = true) : a ≠ b := by rintro rfl; rw [ltB_irrefl] at h; cases h
theorem ltB_le_trans {a b c : ByteArray} (h : ltB b a = false) (k : ltB b c = true) : ltB a c = true := by
  cases e : ltB a b
  · rw [ltB_tri e h]; exact k
  · exact ltB_trans e k
end Go.Eng

namespace Go.Nest
open Go Go.Eng
set_option linter.unusedVariables false
/-- A list's text. -/
def packL : List ByteArray → List UInt8
  | [] => []
  | x :: xs => Lib.decDigits x.size ++ [58] ++ x.data.toList ++ [44] ++ packL xs
def packB (xs : List ByteArray) : ByteArray := ⟨(packL xs).toArray⟩
def strEl (l : List ByteArray) (i : Nat) : D := .raw (.string (l.getD i ByteArray.empty))
def mPack (r : List ByteArray) : List AV → List (Nat × Th) → Option (AV × List (Nat × Th) × List Prop)
  | [.d (.list 1 n el)], [] => some (.d (.raw (.string (packB r))), [], [n = r.length, el = strEl r, ∀ x ∈ r, x.size < 100, r.length ≤ 1000])
  | _, _ => none
end Go.Nest

namespace Go.Nest
open Go Go.Eng
set_option linter.unusedVariables false
theorem packL_append : ∀ a b : List ByteArray, packL (a ++ b) = packL a ++ packL b
  | [], b => rfl
  | x :: a, b => by simp [packL, packL_append a b]
theorem pack_take (xs : List ByteArray) (k : Nat) (x : ByteArray) (h : xs[k]? = some x) : packL (xs.take (k + 1)) = packL (xs.take k) ++ (Lib.decDigits x.size ++ [58] ++ x.data.toList ++ [44]) := by
  rw [List.take_add_one, h, packL_append]; simp [packL]
theorem dec_len : ∀ i, i < 100 → (Lib.decDigits i).length ≤ 2 := by decide +kernel
theorem packL_len : ∀ xs : List ByteArray, (∀ x ∈ xs, x.size < 100) → (packL xs).length ≤ 104 * xs.length
  | [], _ => by simp [packL]
  | x :: xs, h => by
    have h1 := packL_len xs fun y hy => h y (List.mem_cons_of_mem _ hy)
    have h2 := h x (List.mem_cons_self ..)
    have h3 := dec_len x.size h2
    rw [size_ba] at h2
    simp only [packL, List.length_append, List.length_cons, List.length_nil]
    omega
theorem packL_ge' : ∀ r : List ByteArray, r.length ≤ (packL r).length
  | [] => Nat.zero_le _
  | x :: r => by
    have := packL_ge' r
    simp [packL]; omega
end Go.Nest

namespace Go.Nest
open Go Go.Eng
set_option linter.unusedVariables false
/-- What ToNum answers. -/
def numM (s : ByteArray) : Int × Int := match Lib.atoiAll s.data.toList with
  | .ok v => if (!Lib.itoa v == s.toList) = true then (0, 4) else (v, 0)
  | _ => (0, 4)
def headM (s : ByteArray) : ByteArray := ⟨(Lib.cut s.data.toList [58]).1.toArray⟩
def restM (s : ByteArray) : ByteArray := ⟨(Lib.cut s.data.toList [58]).2.1.toArray⟩
def foundM (s : ByteArray) : Bool := (Lib.cut s.data.toList [58]).2.2
/-- What Take answers. -/
def takeM (s : ByteArray) : ByteArray × ByteArray × Int :=
  if foundM s = true ∧ (numM (headM s)).2 = 0 ∧ (headM s).size ≤ 9 ∧ 0 ≤ (numM (headM s)).1 ∧ (numM (headM s)).1 < ((restM s).size : Int) ∧ byteAt (restM s) (numM (headM s)).1.toNat = 44
  then ((restM s).extract 0 (numM (headM s)).1.toNat, (restM s).extract ((numM (headM s)).1.toNat + 1) (restM s).size, 0) else (ByteArray.empty, ByteArray.empty, 4)
/-- The texts of a text. -/
def unpF : Nat → ByteArray → Option (List ByteArray)
  | 0, s => if s.size = 0 then some [] else none
  | k + 1, s => if s.size = 0 then some [] else if (takeM s).2.2 = 0 then (unpF k (takeM s).2.1).map ((takeM s).1 :: ·) else none
/-- What Unpack answers. -/
def unpR (s : ByteArray) : List ByteArray × Int := match unpF s.size s with
  | some xs => (xs, 0)
  | none => ([], 4)
/-- The numeral of any number. -/
def numJ (n : Int) : ByteArray := ⟨(Lib.itoa n).toArray⟩
end Go.Nest

namespace Go.Nest
open Go Go.Eng
set_option linter.unusedVariables false
/-- The library's variables: bytealg.MaxLen, strconv's two errors, its table. -/
def glU (m : Int) (e1 e2 : Value) : Nat → Option (List D) := fun g =>
  if g = 5 then some [.raw (.int .i64 m)] else if g = 2 then some [.raw e1] else if g = 3 then some [.raw e2]
  else if g = 4 then some (Lib.pow10Tab.map fun z => .raw (.int .u64 z)) else none
abbrev Mo := List AV → List (Nat × Th) → Option (AV × List (Nat × Th) × List Prop)
/-- Of these the table alone, which numerals need. -/
def glP : Nat → Option (List D) := fun g => if g = 4 then some (Lib.pow10Tab.map fun z => .raw (.int .u64 z)) else none
theorem pU (m : Int) (e1 e2 : Value) : ∀ g cs, glP g = some cs → glU m e1 e2 g = some cs := fun g cs h => by
  unfold glP at h
  split at h
  · rename_i hg; subst hg; exact h
  · cases h
def mUnpV (r : List ByteArray) (f : Int) : Mo
  | [.d (.raw (.string s))], [] => some (.tup [.d (.list 1 r.length (strEl r)), .d (.raw (.int .i64 f))], [], [s.size ≤ 1073741824, r = (unpR s).1, f = (unpR s).2])
  | _, _ => none
def mCutV (hd rs : ByteArray) (fd : Bool) : Mo
  | [.d (.raw (.string s)), .d (.raw (.string sep))], [] => some (.tup [.d (.raw (.string hd)), .d (.raw (.string rs)), .d (.raw (.bool fd))], [], [sep = ⟨#[58]⟩, s.size ≤ 1073741824, hd = headM s, rs = restM s, fd = foundM s])
  | _, _ => none
def mNumV (n f : Int) : Mo
  | [.d (.raw (.string t))], [] => some (.tup [.d (.raw (.int .i64 n)), .d (.raw (.int .i64 f))], [], [t.size ≤ 1073741824, n = (numM t).1, f = (numM t).2])
  | _, _ => none
def UT (m : Int) (e1 e2 : Value) (hd rs : ByteArray) (fd : Bool) (n f : Int) : Orc := ((Orc.none (glU m e1 e2)).add 57 false (mCutV hd rs fd)).add 32 false (mNumV n f)
end Go.Nest

namespace Go.Nest
open Go Go.Eng
set_option linter.unusedVariables false
abbrev g0 : Nat → Option (List D) := fun _ => none
def R00 : Orc := Orc.none (fun _ => none)
def numB (n : Nat) : ByteArray := ⟨(Lib.decDigits n).toArray⟩
def mNumR : Mo
  | [.d (.raw (.int .i64 n))], [] => some (.d (.raw (.string (numB n.toNat))), [], [0 ≤ n ∧ n < 2 ^ 62])
  | _, _ => none
def R2 : Orc := (Orc.none (fun _ => none)).add 30 false mNumR
def nu1 (n k : Int) (s : ByteArray) : St := mk 0 31 [(0, .d (.raw (.int .i64 n))), (3, .d (.raw (.string s))), (4, .d (.raw (.int .i64 k)))] []
def pk1 (r : List ByteArray) (out : ByteArray) (n i : Int) : St := mk 1 23 [(3, .d (.raw (.string out))), (6, .own 0), (7, .d (.raw (.int .i64 n))), (8, .d (.raw (.int .i64 i)))] [(0, .row 9 1 r.length (strEl r))]
def mNumJ (q : ByteArray) : Mo
  | [.d (.raw (.int .i64 n))], [] => some (.d (.raw (.string q)), [], [q = numJ n, -9223372036854775808 ≤ n ∧ n < 9223372036854775808])
  | _, _ => none
def UN (q : ByteArray) : Orc := (Orc.none (fun _ => none)).add 30 false (mNumJ q)
def tn1 (s d : ByteArray) (n i : Int) : St := mk 0 62 [(0, .d (.raw (.string s))), (4, .d (.raw (.string d))), (5, .d (.raw (.int .i64 n))), (6, .d (.raw (.int .i64 i)))] []
def mToNumR (n f : Int) : Mo
  | [.d (.raw (.string t))], [] => some (.tup [.d (.raw (.int .i64 n)), .d (.raw (.int .i64 f))], [], [t.size ≤ 1073741824, n = (numM t).1, f = (numM t).2])
  | _, _ => none
def UK (n f : Int) : Orc := (Orc.none (fun _ => none)).add 52 false (mToNumR n f)
def tk1 (s : ByteArray) (i : Int) : St := mk 0 67 [(0, .d (.raw (.string s))), (5, .d (.raw (.int .i64 i)))] []
def mTakeV (a b : ByteArray) (f : Int) : Mo
  | [.d (.raw (.string s))], [] => some (.tup [.d (.raw (.string a)), .d (.raw (.string b)), .d (.raw (.int .i64 f))], [], [s.size ≤ 1073741824, a = (takeM s).1, b = (takeM s).2.1, f = (takeM s).2.2])
  | _, _ => none
def UV (a b : ByteArray) (f : Int) : Orc := (Orc.none (fun _ => none)).add 42 false (mTakeV a b f)
def un1 (r : List ByteArray) (rest : ByteArray) : St := mk 0 26 [(4, .own 0), (5, .d (.raw (.string rest)))] [(0, .row 9 1 r.length (strEl r))]
end Go.Nest

namespace Go.Eng
open Go Go.RowKit
set_option linter.unusedVariables false
theorem says_rename {C : Cx} {s s' : St} {m : Nat → Option Nat} (hr : Renamed s s' m) (ht : s'.tmps = s.tmps.map (AV.rn m)) : Says C s s' := ⟨fun E a w hs => by
  obtain ⟨h1, h2, h3⟩ := hs.fit.renamed hr
  refine ⟨E.rn m, h1, ?_, hs.df⟩
  rw [ht]
  exact VAs.map (AV.rn m) hs.tm h3⟩
theorem says_rowTo {C : Cx} {s : St} {k T sz n : Nat} {el : Nat → D} (hk : s.th k = some (.row T sz n el)) (n' : Nat) (el' : Nat → D) (hn : n = n') (he : ∀ i, i < n → el i = el' i) : Says C s (s.setTh k (.row T sz n' el')) := by
  subst hn; exact Says.rowEq hk el' he
theorem Spec.mono {P : Program} {gl gl' : Nat → Option (List D)} (hg : ∀ g cs, gl g = some cs → gl' g = some cs) {g : FuncId} {args : List AV} {H : List (Nat × Th)} {ret : AV} {H' : List (Nat × Th)} (h : Eng.Spec P gl g args H ret H') : Eng.Spec P gl' g args H ret H' := by
  intro w N E vs hf hv
  refine (h w N E vs ⟨hf.base, hf.low, hf.keep, hf.keys, hf.th, hf.dis, fun g cs h => hf.gl g cs (hg g cs h)⟩ hv).mono ?_
  rintro e w' ⟨v, E', rfl, h1, h2⟩
  exact ⟨v, E', rfl, ⟨h1.base, h1.low, h1.keep, h1.keys, h1.th, h1.dis, hf.gl⟩, h2⟩
end Go.Eng
