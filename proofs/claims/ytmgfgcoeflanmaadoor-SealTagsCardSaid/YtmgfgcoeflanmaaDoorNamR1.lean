/-
  Contracts of given functions, or plain laws that they need. No condition.
-/
import Derived.Test.YtmgfgcoeflanmaaDoorNamA1
import Derived.Test.YtmgfgcoeflanmaaDoorPkG
import Derived.Test.YtmgfgcoeflanmaaDoorNrA
import Derived.Test.YtmgfgcoeflanmaaDoorBlaG
namespace Go.Memo
open Go Go.Eng Go.Proofs Go.Nest Go.RowKit
set_option linter.unusedVariables false
set_option linter.unusedSimpArgs false
set_option maxRecDepth 100000
set_option maxHeartbeats 4000000
theorem mNumR_ok : MoOK Tryd.prog gz 30 mNum := fun args H ret H' cs h hc => by
  unfold mNum at h
  split at h
  · cases h; exact num_ok _ hc.1
  · cases h
theorem mPackR_ok (r : List ByteArray) (q : ByteArray) : MoOK Tryd.prog gz 29 (mPackR r q) := fun args H ret H' cs h hc => by
  unfold mPackR at h
  split at h
  · cases h; obtain ⟨rfl, ⟨rfl, he, rfl, hz⟩, -⟩ := hc; exact (packR_ok r (by omega)).rowArg he
  · cases h
theorem isR_ok (g n : Int) : Eng.Spec Tryd.prog gz 15 [.d (.agg [.raw (.int .i64 g), .raw (.int .i64 n)])] [] (.d (.raw (.bool (isM g n)))) [] := by
  refine spec_fn Tryd.func15 rfl fun {w N E a} hsim => ?_
  rcases Bool.eq_false_or_eq_true (decide (g ≥ (-1 : Int))) with hb1 | hb1
  · skip
    rcases Bool.eq_false_or_eq_true (decide (g ≤ (4 : Int))) with hb2 | hb2
    · skip
      rcases Bool.eq_false_or_eq_true (decide (n ≥ (0 : Int))) with hb3 | hb3
      · skip
        exact go_ret (OrcOK.none _) rfl rfl Tryd.func15 (sr' := ⟨0, [.d (.raw (.bool (decide (n ≤ (15 : Int)))))], []⟩) (cs := [((decide (g ≥ (-1 : Int))) = true), ((decide (g ≤ (4 : Int))) = true), ((decide (n ≥ (0 : Int))) = true)]) [true, true, true] true (by kernel_rfl) (by kernel_rfl) ⟨hb1, hb2, hb3, trivial⟩ (by (clear hsim; refine congrArg (fun b : Bool => (⟨0, [.d (.raw (.bool b))], []⟩ : St)) ?_; rw [Bool.eq_iff_iff]; unfold isM; simp at *; omega)) hsim
      · skip
        exact go_ret (OrcOK.none _) rfl rfl Tryd.func15 (sr' := ⟨0, [.d (.raw (.bool (false)))], []⟩) (cs := [((decide (g ≥ (-1 : Int))) = true), ((decide (g ≤ (4 : Int))) = true), ((decide (n ≥ (0 : Int))) = false)]) [true, true, false] true (by kernel_rfl) (by kernel_rfl) ⟨hb1, hb2, hb3, trivial⟩ (by (clear hsim; refine congrArg (fun b : Bool => (⟨0, [.d (.raw (.bool b))], []⟩ : St)) ?_; rw [Bool.eq_iff_iff]; unfold isM; simp at *; omega)) hsim
    · skip
      exact go_ret (OrcOK.none _) rfl rfl Tryd.func15 (sr' := ⟨0, [.d (.raw (.bool (false)))], []⟩) (cs := [((decide (g ≥ (-1 : Int))) = true), ((decide (g ≤ (4 : Int))) = false)]) [true, false] true (by kernel_rfl) (by kernel_rfl) ⟨hb1, hb2, trivial⟩ (by (clear hsim; refine congrArg (fun b : Bool => (⟨0, [.d (.raw (.bool b))], []⟩ : St)) ?_; rw [Bool.eq_iff_iff]; unfold isM; simp at *; omega)) hsim
  · skip
    exact go_ret (OrcOK.none _) rfl rfl Tryd.func15 (sr' := ⟨0, [.d (.raw (.bool (false)))], []⟩) (cs := [((decide (g ≥ (-1 : Int))) = false)]) [false] true (by kernel_rfl) (by kernel_rfl) ⟨hb1, trivial⟩ (by (clear hsim; refine congrArg (fun b : Bool => (⟨0, [.d (.raw (.bool b))], []⟩ : St)) ?_; rw [Bool.eq_iff_iff]; unfold isM; simp at *; omega)) hsim
theorem mIsR_ok : MoOK Tryd.prog gz 15 mIs := fun args H ret H' cs h hc => by
  unfold mIs at h
  split at h
  · cases h; exact isR_ok _ _
  · cases h
theorem RN1_ok (r : List ByteArray) (q : ByteArray) : OrcOK Tryd.prog (RN1 r q) := (((OrcOK.none gz).add _ false _ mNumR_ok).add _ false _ mIsR_ok).add _ false _ (mPackR_ok r q)
theorem nameR_ok (g n : Int) : Eng.Spec Tryd.prog gz 17 [.d (.agg [.raw (.int .i64 g), .raw (.int .i64 n)])] [] (.tup [.d (.raw (.string (nameM g n).1)), .d (.raw (.int .i64 (nameM g n).2))]) [] := by
  refine spec_fn Tryd.func17 rfl fun {w N E a} hsim => ?_
  obtain ⟨r, hr⟩ : ∃ r, r = [numJ g, numJ n] := ⟨_, rfl⟩
  obtain ⟨q, hq⟩ : ∃ q, q = packB r := ⟨_, rfl⟩
  have hin : isM g n = true → -1 ≤ g ∧ g ≤ 4 ∧ 0 ≤ n ∧ n ≤ 15 := fun h => of_decide_eq_true h
  have hz : isM g n = true → (packL r).length ≤ 1073741824 := fun h => by have := name_size g n (hin h); rw [packB_size, ← hr] at this; omega
  have hl : 2 = r.length := by rw [hr]; rfl
  have l0 : strEl r 0 = .raw (.string (numJ g)) := by rw [hr]; rfl
  have l1 : strEl r 1 = .raw (.string (numJ n)) := by rw [hr]; rfl
  have r1 : isM g n = true → nameM g n = (q, 0) := fun h => by unfold nameM; rw [if_pos h, hq, hr]
  have r2 : isM g n = false → nameM g n = (ByteArray.mk #[], 1) := fun h => by unfold nameM; rw [if_neg (by rw [h]; decide)]; rfl
  have bt : (!isM g n) = true → isM g n = false := fun h => by simpa using h
  have bf : (!isM g n) = false → isM g n = true := fun h => by simpa using h
  rcases Bool.eq_false_or_eq_true (!isM g n) with hb1 | hb1
  · skip
    exact go_ret (RN1_ok r q) rfl rfl Tryd.func17 (sr' := ⟨0, [.tup [.d (.raw (.string (ByteArray.mk #[]))), .d (.raw (.int .i64 ((1 : Int))))]], []⟩) (cs := [((!isM g n) = true)]) [true] true (by kernel_rfl) (by kernel_rfl) ⟨hb1, trivial⟩ (by first | (rw [r1 (bf hb1)]; rfl) | (rw [r2 (bt hb1)]; rfl)) hsim
  · skip
    exact go_ret (RN1_ok r q) rfl rfl Tryd.func17 (sr' := ⟨0, [.tup [.d (.raw (.string (q))), .d (.raw (.int .i64 ((0 : Int))))]], []⟩) (cs := [((!isM g n) = false), ((-9223372036854775808 : Int) ≤ g ∧ g < (9223372036854775808 : Int)), ((-9223372036854775808 : Int) ≤ n ∧ n < (9223372036854775808 : Int)), ((9 : Nat) = (9 : Nat)), ((2 : Nat) = r.length ∧ (∀ (i : Nat), i < (2 : Nat) → segD false (1 : Nat) (splice (splice (List.map (fun j => (List.map D.raw (Value.string (ByteArray.mk #[])).cells.toList).getD (j % (1 : Nat)) default) (List.range (2 : Nat))) (0 : Nat) (D.raw (Value.string (numJ g))).cells) (1 : Nat) (D.raw (Value.string (numJ n))).cells) i = strEl r i) ∧ q = packB r ∧ (packL r).length ≤ (1073741824 : Nat))]) [false] true (by kernel_rfl) (by kernel_rfl) ⟨hb1, (by first | rfl | (have := hin (bf hb1); omega) | exact ⟨hl, all2 l0.symm l1.symm, hq, hz (bf hb1)⟩), (by first | rfl | (have := hin (bf hb1); omega) | exact ⟨hl, all2 l0.symm l1.symm, hq, hz (bf hb1)⟩), (by first | rfl | (have := hin (bf hb1); omega) | exact ⟨hl, all2 l0.symm l1.symm, hq, hz (bf hb1)⟩), (by first | rfl | (have := hin (bf hb1); omega) | exact ⟨hl, all2 l0.symm l1.symm, hq, hz (bf hb1)⟩), trivial⟩ (by first | (rw [r1 (bf hb1)]; rfl) | (rw [r2 (bt hb1)]; rfl)) hsim
theorem mNameR_ok (q : ByteArray) (e : Int) : MoOK Tryd.prog gz 17 (mName q e) := fun args H ret H' cs h hc => by
  unfold mName at h
  split at h
  · cases h; obtain ⟨rfl, rfl, -⟩ := hc; exact nameR_ok _ _
  · cases h
end Go.Memo

namespace Go.Bla
open Go Go.Eng
set_option linter.unusedVariables false
/-- (right) -/
def mRight : List AV → List (Nat × Th) → Option (AV × List (Nat × Th) × List Prop)
  | [.d (.raw (.int .i64 x)), .d (.raw (.int .i64 n))], [] => some (.d (iw ((unw x).rotateRight n.toNat)), [], [x = ((unw x).toNat : Int), n = 16 ∨ n = 12 ∨ n = 8 ∨ n = 7])
  | _, _ => none
def four (q : W × W × W × W) : D := .agg [iw q.1, iw q.2.1, iw q.2.2.1, iw q.2.2.2]
/-- (g) -/
def mG : List AV → List (Nat × Th) → Option (AV × List (Nat × Th) × List Prop)
  | [.d (.agg [.raw (.int .i64 a), .raw (.int .i64 b), .raw (.int .i64 c), .raw (.int .i64 d)]), .d (.raw (.int .i64 x)), .d (.raw (.int .i64 y))], [] =>
    some (.d (four (gM (unw a) (unw b) (unw c) (unw d) (unw x) (unw y))), [], [a = ((unw a).toNat : Int), b = ((unw b).toNat : Int), c = ((unw c).toNat : Int), d = ((unw d).toNat : Int), x = ((unw x).toNat : Int), y = ((unw y).toNat : Int)])
  | _, _ => none
/-- A row of words. -/
def wel (l : List W) (i : Nat) : D := iw (l.getD i 0)
def wl (n : Nat) (el : Nat → D) : List W := (List.range n).map fun i => unw (unI (el i))
def OkR (n : Nat) (el : Nat → D) : Prop := ∀ i, i < n → el i = wel (wl n el) i
/-- (put) -/
def mPut : List AV → List (Nat × Th) → Option (AV × List (Nat × Th) × List Prop)
  | [.own 0, .d (.raw (.int .i64 a)), .d (.raw (.int .i64 b)), .d (.raw (.int .i64 c)), .d (.raw (.int .i64 d)), .d (.raw (.int .i64 x)), .d (.raw (.int .i64 y))], [(0, .row T 1 16 el)] =>
    some (.dead, [(0, .row T 1 16 (wel (putM (wl 16 el) a.toNat b.toNat c.toNat d.toNat (unw x) (unw y))))], [OkR 16 el, x = ((unw x).toNat : Int), y = ((unw y).toNat : Int), (0 ≤ a ∧ a < 4) ∧ (4 ≤ b ∧ b < 8) ∧ (8 ≤ c ∧ c < 12) ∧ (12 ≤ d ∧ d < 16)])
  | _, _ => none
/-- (row) -/
def mRow : List AV → List (Nat × Th) → Option (AV × List (Nat × Th) × List Prop)
  | [.d (.raw (.int .i64 r))], [] => some (.d (.list 1 16 fun i => I (sg r.toNat i)), [], [0 ≤ r ∧ r < 10])
  | _, _ => none
/-- (iv) -/
def mIv : List AV → List (Nat × Th) → Option (AV × List (Nat × Th) × List Prop)
  | [], [] => some (.own 0, [(0, .row 3 1 8 (wel ivM))], [])
  | _, _ => none
def Q1 : Orc := (Orc.none gl).add 65 false mRight
def Q2 : Orc := Q1.add 54 false mG
def Q3 : Orc := Q2.add 45 false mPut
def Q4 : Orc := Q3.add 44 false mRow
def Q5 : Orc := Q4.add 35 false mIv
end Go.Bla

namespace Go.Bla
open Go Go.Eng
set_option linter.unusedVariables false
def hD (h : List W) : AV := .d (.list 1 8 (wel h))
def bD (b : Nat → Int) : AV := .d (.list 1 64 fun i => .raw (.int .u8 (b i)))
/-- The states at the loops of the reference's block. -/
def rs0 (h : List W) (b : Nat → Int) (t : Int) (last : Bool) (k : Nat) (i : Int) (el : Nat → D) : St := mk 0 222 [(0, hD h), (1, bD b), (2, .d (I t)), (3, .d (.raw (.bool last))), (9, .own 0), (10, .d (I i))] [(0, .row 3 1 k el)]
def rs9 (h : List W) (t : Int) (last : Bool) (el : Nat → D) : St := mk 0 222 [(0, hD h), (2, .d (I t)), (3, .d (.raw (.bool last))), (9, .own 0)] [(0, .row 3 1 16 el)]
def rs1 (h m v : List W) (r : Int) : St := mk 0 222 [(0, hD h), (9, .own 0), (11, .own 1), (12, .d (I r))] [(0, .row 3 1 16 (wel m)), (1, .row 3 1 16 (wel v))]
def rs2 (h v : List W) (n : Nat) (i : Int) (el : Nat → D) : St := mk 0 222 [(0, hD h), (11, .own 0), (14, .own 1), (15, .d (I i))] [(0, .row 3 1 16 (wel v)), (1, .row 3 1 n el)]
end Go.Bla
