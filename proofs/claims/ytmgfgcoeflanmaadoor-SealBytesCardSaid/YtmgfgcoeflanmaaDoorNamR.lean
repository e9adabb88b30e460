/-
  Contracts of given functions, or plain laws that they need. No condition.
-/
import Derived.Test.YtmgfgcoeflanmaaDoorNamA
import Derived.Test.YtmgfgcoeflanmaaDoorMemM
import Derived.Test.YtmgfgcoeflanmaaDoorNrA
namespace Go.Memo
open Go Go.Eng Go.Proofs Go.Nest Go.RowKit
set_option linter.unusedVariables false
set_option linter.unusedSimpArgs false
set_option maxRecDepth 100000
set_option maxHeartbeats 4000000
theorem mNumR_ok : MoOK Tryd.prog gz 30 mNum := fun args H ret H' cs h hc => by
  unfold mNum at h
  split at h
  · cases h; exact num_ok _ hc.1
  · cases h
theorem mPackR_ok (r : List ByteArray) (q : ByteArray) : MoOK Tryd.prog gz 29 (mPackR r q) := fun args H ret H' cs h hc => by
  unfold mPackR at h
  split at h
  · cases h; obtain ⟨rfl, ⟨rfl, he, rfl, hz⟩, -⟩ := hc; exact (packR_ok r (by omega)).rowArg he
  · cases h
theorem mUnpR_ok (r : List ByteArray) (f : Int) : MoOK Tryd.prog gz 33 (mUnpV r f) := fun args H ret H' cs h hc => by
  unfold mUnpV at h
  split at h
  · cases h; obtain ⟨hs, rfl, rfl, -⟩ := hc; exact unpackR_ok _ hs
  · cases h
theorem mToNumR_ok' : MoOK Tryd.prog gz 52 mToNum := fun args H ret H' cs h hc => by
  unfold mToNum at h
  split at h
  · cases h; exact toNumR_ok _ hc.1
  · cases h
theorem isR_ok (g n : Int) : Eng.Spec Tryd.prog gz 15 [.d (.agg [.raw (.int .i64 g), .raw (.int .i64 n)])] [] (.d (.raw (.bool (isM g n)))) [] := by
  refine spec_fn Tryd.func15 rfl fun {w N E a} hsim => ?_
  rcases Bool.eq_false_or_eq_true (decide (g ≥ (-1 : Int))) with hb1 | hb1
  · skip
    rcases Bool.eq_false_or_eq_true (decide (g ≤ (4 : Int))) with hb2 | hb2
    · skip
      rcases Bool.eq_false_or_eq_true (decide (n ≥ (0 : Int))) with hb3 | hb3
      · skip
        exact go_ret (OrcOK.none _) rfl rfl Tryd.func15 (sr' := ⟨0, [.d (.raw (.bool (decide (n ≤ (15 : Int)))))], []⟩) (cs := [((decide (g ≥ (-1 : Int))) = true), ((decide (g ≤ (4 : Int))) = true), ((decide (n ≥ (0 : Int))) = true)]) [true, true, true] true (by kernel_rfl) (by kernel_rfl) ⟨hb1, hb2, hb3, trivial⟩ (by (clear hsim; refine congrArg (fun b : Bool => (⟨0, [.d (.raw (.bool b))], []⟩ : St)) ?_; rw [Bool.eq_iff_iff]; unfold isM; simp at *; omega)) hsim
      · skip
        exact go_ret (OrcOK.none _) rfl rfl Tryd.func15 (sr' := ⟨0, [.d (.raw (.bool (false)))], []⟩) (cs := [((decide (g ≥ (-1 : Int))) = true), ((decide (g ≤ (4 : Int))) = true), ((decide (n ≥ (0 : Int))) = false)]) [true, true, false] true (by kernel_rfl) (by kernel_rfl) ⟨hb1, hb2, hb3, trivial⟩ (by (clear hsim; refine congrArg (fun b : Bool => (⟨0, [.d (.raw (.bool b))], []⟩ : St)) ?_; rw [Bool.eq_iff_iff]; unfold isM; simp at *; omega)) hsim
    · skip
      exact go_ret (OrcOK.none _) rfl rfl Tryd.func15 (sr' := ⟨0, [.d (.raw (.bool (false)))], []⟩) (cs := [((decide (g ≥ (-1 : Int))) = true), ((decide (g ≤ (4 : Int))) = false)]) [true, false] true (by kernel_rfl) (by kernel_rfl) ⟨hb1, hb2, trivial⟩ (by (clear hsim; refine congrArg (fun b : Bool => (⟨0, [.d (.raw (.bool b))], []⟩ : St)) ?_; rw [Bool.eq_iff_iff]; unfold isM; simp at *; omega)) hsim
  · skip
    exact go_ret (OrcOK.none _) rfl rfl Tryd.func15 (sr' := ⟨0, [.d (.raw (.bool (false)))], []⟩) (cs := [((decide (g ≥ (-1 : Int))) = false)]) [false] true (by kernel_rfl) (by kernel_rfl) ⟨hb1, trivial⟩ (by (clear hsim; refine congrArg (fun b : Bool => (⟨0, [.d (.raw (.bool b))], []⟩ : St)) ?_; rw [Bool.eq_iff_iff]; unfold isM; simp at *; omega)) hsim
theorem mIsR_ok : MoOK Tryd.prog gz 15 mIs := fun args H ret H' cs h hc => by
  unfold mIs at h
  split at h
  · cases h; exact isR_ok _ _
  · cases h
theorem RN1_ok (r : List ByteArray) (q : ByteArray) : OrcOK Tryd.prog (RN1 r q) := (((OrcOK.none gz).add _ false _ mNumR_ok).add _ false _ mIsR_ok).add _ false _ (mPackR_ok r q)
theorem nameR_ok (g n : Int) : Eng.Spec Tryd.prog gz 17 [.d (.agg [.raw (.int .i64 g), .raw (.int .i64 n)])] [] (.tup [.d (.raw (.string (nameM g n).1)), .d (.raw (.int .i64 (nameM g n).2))]) [] := by
  refine spec_fn Tryd.func17 rfl fun {w N E a} hsim => ?_
  obtain ⟨r, hr⟩ : ∃ r, r = [numJ g, numJ n] := ⟨_, rfl⟩
  obtain ⟨q, hq⟩ : ∃ q, q = packB r := ⟨_, rfl⟩
  have hin : isM g n = true → -1 ≤ g ∧ g ≤ 4 ∧ 0 ≤ n ∧ n ≤ 15 := fun h => of_decide_eq_true h
  have hz : isM g n = true → (packL r).length ≤ 1073741824 := fun h => by have := name_size g n (hin h); rw [packB_size, ← hr] at this; omega
  have hl : 2 = r.length := by rw [hr]; rfl
  have l0 : strEl r 0 = .raw (.string (numJ g)) := by rw [hr]; rfl
  have l1 : strEl r 1 = .raw (.string (numJ n)) := by rw [hr]; rfl
  have r1 : isM g n = true → nameM g n = (q, 0) := fun h => by unfold nameM; rw [if_pos h, hq, hr]
  have r2 : isM g n = false → nameM g n = (ByteArray.mk #[], 1) := fun h => by unfold nameM; rw [if_neg (by rw [h]; decide)]; rfl
  have bt : (!isM g n) = true → isM g n = false := fun h => by simpa using h
  have bf : (!isM g n) = false → isM g n = true := fun h => by simpa using h
  rcases Bool.eq_false_or_eq_true (!isM g n) with hb1 | hb1
  · skip
    exact go_ret (RN1_ok r q) rfl rfl Tryd.func17 (sr' := ⟨0, [.tup [.d (.raw (.string (ByteArray.mk #[]))), .d (.raw (.int .i64 ((1 : Int))))]], []⟩) (cs := [((!isM g n) = true)]) [true] true (by kernel_rfl) (by kernel_rfl) ⟨hb1, trivial⟩ (by first | (rw [r1 (bf hb1)]; rfl) | (rw [r2 (bt hb1)]; rfl)) hsim
  · skip
    exact go_ret (RN1_ok r q) rfl rfl Tryd.func17 (sr' := ⟨0, [.tup [.d (.raw (.string (q))), .d (.raw (.int .i64 ((0 : Int))))]], []⟩) (cs := [((!isM g n) = false), ((-9223372036854775808 : Int) ≤ g ∧ g < (9223372036854775808 : Int)), ((-9223372036854775808 : Int) ≤ n ∧ n < (9223372036854775808 : Int)), ((9 : Nat) = (9 : Nat)), ((2 : Nat) = r.length ∧ (∀ (i : Nat), i < (2 : Nat) → segD false (1 : Nat) (splice (splice (List.map (fun j => (List.map D.raw (Value.string (ByteArray.mk #[])).cells.toList).getD (j % (1 : Nat)) default) (List.range (2 : Nat))) (0 : Nat) (D.raw (Value.string (numJ g))).cells) (1 : Nat) (D.raw (Value.string (numJ n))).cells) i = strEl r i) ∧ q = packB r ∧ (packL r).length ≤ (1073741824 : Nat))]) [false] true (by kernel_rfl) (by kernel_rfl) ⟨hb1, (by first | rfl | (have := hin (bf hb1); omega) | exact ⟨hl, all2 l0.symm l1.symm, hq, hz (bf hb1)⟩), (by first | rfl | (have := hin (bf hb1); omega) | exact ⟨hl, all2 l0.symm l1.symm, hq, hz (bf hb1)⟩), (by first | rfl | (have := hin (bf hb1); omega) | exact ⟨hl, all2 l0.symm l1.symm, hq, hz (bf hb1)⟩), (by first | rfl | (have := hin (bf hb1); omega) | exact ⟨hl, all2 l0.symm l1.symm, hq, hz (bf hb1)⟩), trivial⟩ (by first | (rw [r1 (bf hb1)]; rfl) | (rw [r2 (bt hb1)]; rfl)) hsim
theorem mNameR_ok (q : ByteArray) (e : Int) : MoOK Tryd.prog gz 17 (mName q e) := fun args H ret H' cs h hc => by
  unfold mName at h
  split at h
  · cases h; obtain ⟨rfl, rfl, -⟩ := hc; exact nameR_ok _ _
  · cases h
theorem RN2_ok (q : ByteArray) (e : Int) : OrcOK Tryd.prog (RN2 q e) := (OrcOK.none gz).add _ false _ (mNameR_ok q e)
abbrev GoP (s : ByteArray) (w0 : World) (N : Nat → Prop) (E0 : Env) (k : List Item) (st : St) : Prop := ∀ (E : Env) (a : Act) (w : World), Sim (cx Tryd.prog gz w0 N E0 []) E st a w → Goes Tryd.prog 19 k (RSpec (cx Tryd.prog gz w0 N E0 []) ⟨0, [.tup [.d (.agg [.raw (.int .i64 (partyM s).1), .raw (.int .i64 (partyM s).2.1)]), .d (.raw (.int .i64 (partyM s).2.2))]], []⟩) a w
def Bef (s : ByteArray) (g n : Int) : Prop := ∀ a b, isM a b = true → (a < g ∨ a = g ∧ b < n) → (nameM a b).1 ≠ s
theorem pa_in {w0 : World} {N : Nat → Prop} {E0 : Env} (s : ByteArray) (g : Int) (hg : -1 ≤ g ∧ g ≤ 4) (hout : Bef s (g + 1) 0 → GoP s w0 N E0 (loopAt Tryd.f19 0) (pr1 s (g + 1))) : ∀ (d : Nat) (n : Int), 0 ≤ n → n + d = 16 → Bef s g n → GoP s w0 N E0 (loopAt Tryd.f19 1) (pr2 s g n) := by
  have wg : IntKind.i64.wrap (g + 1) = g + 1 := wrapI _ (by omega)
  intro d
  induction d with
  | zero =>
    intro n h0 hd hB E a w hsim
    obtain ⟨q, hq⟩ : ∃ q, q = (nameM g n).1 := ⟨_, rfl⟩
    obtain ⟨e, he⟩ : ∃ e, e = (nameM g n).2 := ⟨_, rfl⟩
    have hB' : Bef s (g + 1) 0 := fun a b hab h => hB a b hab (by have : -1 ≤ a ∧ a ≤ 4 ∧ 0 ≤ b ∧ b ≤ 15 := of_decide_eq_true hab; omega)
    rw [← wg] at hout
    rw [wg] at hout
    rcases Bool.eq_false_or_eq_true (decide (n ≤ (15 : Int))) with hb1 | hb1
    · skip
      rcases Bool.eq_false_or_eq_true (q.toList == s.toList) with hb2 | hb2
      · skip
        exact go_ret (RN2_ok q e) rfl rfl Tryd.func19 (sr' := ⟨0, [.tup [.d (.agg [.raw (.int .i64 (g)), .raw (.int .i64 (n))]), .d (.raw (.int .i64 ((0 : Int))))]], []⟩) (cs := [((decide (n ≤ (15 : Int))) = true), (q = (nameM g n).fst), (e = (nameM g n).snd), ((q.toList == s.toList) = true)]) [true, true] true (by kernel_rfl) (by kernel_rfl) ⟨hb1, (by first | rfl | exact hq | exact he | exact absurd (of_decide_eq_true hb1) (by omega)), (by first | rfl | exact hq | exact he | exact absurd (of_decide_eq_true hb1) (by omega)), hb2, trivial⟩ (by exact absurd (of_decide_eq_true hb1) (by omega)) hsim
      · skip
        refine go_head (RN2_ok q e) rfl rfl (k' := loopAt Tryd.f19 1) (s' := mk 0 30 [(0, .d (.raw (.string (s)))), (2, .ref 0 0), (4, .d (.raw (.int .i64 (g)))), (5, .d (.raw (.int .i64 (IntKind.i64.wrap (n + (1 : Int))))))] [(0, .obj 23 [.d (.raw (.int .i64 ((0 : Int)))), .d (.raw (.int .i64 ((0 : Int))))])]) (cs := [((decide (n ≤ (15 : Int))) = true), (q = (nameM g n).fst), (e = (nameM g n).snd), ((q.toList == s.toList) = false)]) [true, false] [0,2,4,5] (by kernel_rfl) (by kernel_rfl) ⟨hb1, (by first | rfl | exact hq | exact he | exact absurd (of_decide_eq_true hb1) (by omega)), (by first | rfl | exact hq | exact he | exact absurd (of_decide_eq_true hb1) (by omega)), hb2, trivial⟩ hsim fun E a w hsim => ?_
        exact absurd (of_decide_eq_true hb1) (by omega)
    · skip
      refine go_head (RN2_ok q e) rfl rfl (k' := loopAt Tryd.f19 0) (s' := mk 0 30 [(0, .d (.raw (.string (s)))), (2, .ref 0 0), (4, .d (.raw (.int .i64 (IntKind.i64.wrap (g + (1 : Int)))))), (5, .d (.raw (.int .i64 (n))))] [(0, .obj 23 [.d (.raw (.int .i64 ((0 : Int)))), .d (.raw (.int .i64 ((0 : Int))))])]) (cs := [((decide (n ≤ (15 : Int))) = false)]) [false] [0,2,4,5] (by kernel_rfl) (by kernel_rfl) ⟨hb1, trivial⟩ hsim fun E a w hsim => ?_
      obtain ⟨E2, h⟩ := hsim.keep [0, 2, 4]
      rw [wg] at h
      exact hout hB' E2 a w ((congrArg (fun st => Sim _ E2 st a w) (by kernel_rfl)).mp h)
  | succ d ih =>
    intro n h0 hd hB E a w hsim
    obtain ⟨q, hq⟩ : ∃ q, q = (nameM g n).1 := ⟨_, rfl⟩
    obtain ⟨e, he⟩ : ∃ e, e = (nameM g n).2 := ⟨_, rfl⟩
    have wn : IntKind.i64.wrap (n + 1) = n + 1 := wrapI _ (by omega)
    have hi : isM g n = true := decide_eq_true (by omega)
    have f1 : (q.toList == s.toList) = true → partyM s = (g, n, 0) := fun h => party_of hi (by rw [← hq]; rw [beq_ba] at h; simpa using h)
    have f2 : (q.toList == s.toList) = false → Bef s g (n + 1) := fun h a b hab h2 => by
      by_cases h3 : a = g ∧ b = n
      · rw [h3.1, h3.2, ← hq]; rw [beq_ba] at h; simpa using h
      · exact hB a b hab (by omega)
    have ih := fun h => ih (n + 1) (by omega) (by omega) h
    rcases Bool.eq_false_or_eq_true (decide (n ≤ (15 : Int))) with hb1 | hb1
    · skip
      rcases Bool.eq_false_or_eq_true (q.toList == s.toList) with hb2 | hb2
      · skip
        exact go_ret (RN2_ok q e) rfl rfl Tryd.func19 (sr' := ⟨0, [.tup [.d (.agg [.raw (.int .i64 (g)), .raw (.int .i64 (n))]), .d (.raw (.int .i64 ((0 : Int))))]], []⟩) (cs := [((decide (n ≤ (15 : Int))) = true), (q = (nameM g n).fst), (e = (nameM g n).snd), ((q.toList == s.toList) = true)]) [true, true] true (by kernel_rfl) (by kernel_rfl) ⟨hb1, (by first | rfl | exact hq | exact he | exact absurd (of_decide_eq_false hb1) (by omega)), (by first | rfl | exact hq | exact he | exact absurd (of_decide_eq_false hb1) (by omega)), hb2, trivial⟩ (by first | (rw [f1 hb2]; done) | (rw [f1 hb2]; rfl) | exact absurd (of_decide_eq_false hb1) (by omega)) hsim
      · skip
        refine go_head (RN2_ok q e) rfl rfl (k' := loopAt Tryd.f19 1) (s' := mk 0 30 [(0, .d (.raw (.string (s)))), (2, .ref 0 0), (4, .d (.raw (.int .i64 (g)))), (5, .d (.raw (.int .i64 (IntKind.i64.wrap (n + (1 : Int))))))] [(0, .obj 23 [.d (.raw (.int .i64 ((0 : Int)))), .d (.raw (.int .i64 ((0 : Int))))])]) (cs := [((decide (n ≤ (15 : Int))) = true), (q = (nameM g n).fst), (e = (nameM g n).snd), ((q.toList == s.toList) = false)]) [true, false] [0,2,4,5] (by kernel_rfl) (by kernel_rfl) ⟨hb1, (by first | rfl | exact hq | exact he | exact absurd (of_decide_eq_false hb1) (by omega)), (by first | rfl | exact hq | exact he | exact absurd (of_decide_eq_false hb1) (by omega)), hb2, trivial⟩ hsim fun E a w hsim => ?_
        rw [wn] at hsim
        exact ih (f2 hb2) _ a w hsim
    · skip
      refine go_head (RN2_ok q e) rfl rfl (k' := loopAt Tryd.f19 0) (s' := mk 0 30 [(0, .d (.raw (.string (s)))), (2, .ref 0 0), (4, .d (.raw (.int .i64 (IntKind.i64.wrap (g + (1 : Int)))))), (5, .d (.raw (.int .i64 (n))))] [(0, .obj 23 [.d (.raw (.int .i64 ((0 : Int)))), .d (.raw (.int .i64 ((0 : Int))))])]) (cs := [((decide (n ≤ (15 : Int))) = false)]) [false] [0,2,4,5] (by kernel_rfl) (by kernel_rfl) ⟨hb1, trivial⟩ hsim fun E a w hsim => ?_
      exact absurd (of_decide_eq_false hb1) (by omega)
theorem pa_out {w0 : World} {N : Nat → Prop} {E0 : Env} (s : ByteArray) : ∀ (d : Nat) (g : Int), -1 ≤ g → g + d = 5 → Bef s g 0 → GoP s w0 N E0 (loopAt Tryd.f19 0) (pr1 s g) := by
  intro d
  induction d with
  | zero =>
    intro g h0 hd hB E a w hsim
    let q : ByteArray := ByteArray.empty
    let e : Int := 0
    have f1 : partyM s = (0, 0, 4) := party_none fun a b hab => hB a b hab (by have : -1 ≤ a ∧ a ≤ 4 ∧ 0 ≤ b ∧ b ≤ 15 := of_decide_eq_true hab; omega)
    rcases Bool.eq_false_or_eq_true (decide (g ≤ (4 : Int))) with hb1 | hb1
    · skip
      refine go_head (RN2_ok q e) rfl rfl (k' := loopAt Tryd.f19 1) (s' := mk 0 30 [(0, .d (.raw (.string (s)))), (2, .ref 0 0), (4, .d (.raw (.int .i64 (g)))), (5, .d (.raw (.int .i64 ((0 : Int)))))] [(0, .obj 23 [.d (.raw (.int .i64 ((0 : Int)))), .d (.raw (.int .i64 ((0 : Int))))])]) (cs := [((decide (g ≤ (4 : Int))) = true)]) [true] [0,2,4,5] (by kernel_rfl) (by kernel_rfl) ⟨hb1, trivial⟩ hsim fun E a w hsim => ?_
      exact absurd (of_decide_eq_true hb1) (by omega)
    · skip
      exact go_ret (RN2_ok q e) rfl rfl Tryd.func19 (sr' := ⟨0, [.tup [.d (.agg [.raw (.int .i64 ((0 : Int))), .raw (.int .i64 ((0 : Int)))]), .d (.raw (.int .i64 ((4 : Int))))]], []⟩) (cs := [((decide (g ≤ (4 : Int))) = false)]) [false] true (by kernel_rfl) (by kernel_rfl) ⟨hb1, trivial⟩ (by first | (rw [f1]; done) | (rw [f1]; rfl)) hsim
  | succ d ih =>
    intro g h0 hd hB E a w hsim
    let q : ByteArray := ByteArray.empty
    let e : Int := 0
    have ih := fun h => ih (g + 1) (by omega) (by omega) h
    rcases Bool.eq_false_or_eq_true (decide (g ≤ (4 : Int))) with hb1 | hb1
    · skip
      refine go_head (RN2_ok q e) rfl rfl (k' := loopAt Tryd.f19 1) (s' := mk 0 30 [(0, .d (.raw (.string (s)))), (2, .ref 0 0), (4, .d (.raw (.int .i64 (g)))), (5, .d (.raw (.int .i64 ((0 : Int)))))] [(0, .obj 23 [.d (.raw (.int .i64 ((0 : Int)))), .d (.raw (.int .i64 ((0 : Int))))])]) (cs := [((decide (g ≤ (4 : Int))) = true)]) [true] [0,2,4,5] (by kernel_rfl) (by kernel_rfl) ⟨hb1, trivial⟩ hsim fun E a w hsim => ?_
      exact pa_in s g (by omega) ih 16 0 (by omega) (by omega) hB _ a w hsim
    · skip
      exact go_ret (RN2_ok q e) rfl rfl Tryd.func19 (sr' := ⟨0, [.tup [.d (.agg [.raw (.int .i64 ((0 : Int))), .raw (.int .i64 ((0 : Int)))]), .d (.raw (.int .i64 ((4 : Int))))]], []⟩) (cs := [((decide (g ≤ (4 : Int))) = false)]) [false] true (by kernel_rfl) (by kernel_rfl) ⟨hb1, trivial⟩ (by exact absurd (of_decide_eq_false hb1) (by omega)) hsim
theorem partyR_ok (s : ByteArray) : Eng.Spec Tryd.prog gz 19 [.d (.raw (.string s))] [] (.tup [.d (.agg [.raw (.int .i64 (partyM s).1), .raw (.int .i64 (partyM s).2.1)]), .d (.raw (.int .i64 (partyM s).2.2))]) [] := by
  refine spec_fn Tryd.func19 rfl fun {w N E a} hsim => ?_
  let q : ByteArray := ByteArray.empty
  let e : Int := 0
  refine go_head (RN2_ok q e) rfl rfl (k' := loopAt Tryd.f19 0) (s' := mk 0 30 [(0, .d (.raw (.string (s)))), (2, .ref 0 0), (4, .d (.raw (.int .i64 ((-1 : Int)))))] [(0, .obj 23 [.d (.raw (.int .i64 ((0 : Int)))), .d (.raw (.int .i64 ((0 : Int))))])]) (cs := []) [] [0,2,4,5] (by kernel_rfl) (by kernel_rfl) trivial hsim fun E a w hsim => ?_
  exact pa_out s 6 (-1) (by omega) (by omega) (fun a b hab h => by have : -1 ≤ a ∧ a ≤ 4 ∧ 0 ≤ b ∧ b ≤ 15 := of_decide_eq_true hab; omega) _ a w hsim
theorem mPartyR_ok (g n f : Int) : MoOK Tryd.prog gz 19 (mParty g n f) := fun args H ret H' cs h hc => by
  unfold mParty at h
  split at h
  · cases h; obtain ⟨hs, rfl, rfl, rfl, -⟩ := hc; exact partyR_ok _
  · cases h
end Go.Memo
