/-
  Contracts of the given functions, and the statement's own walk. No condition.
-/
import Derived.Test.YticnclmadldkkaaTurA
namespace Go.Ros
open Go Go.Abs Go.Proofs
set_option linter.unusedVariables false
set_option maxHeartbeats 4000000
/-- Is c the primary of one of the first i views? -/
def sn (v n : Int) (i : Nat) (c : Int) : Bool := (List.range i).any fun j => decide ((v + (j : Int)) % n = c)
theorem sn_succ (v n : Int) (i : Nat) (c : Int) : sn v n (i + 1) c = (sn v n i c || decide ((v + (i : Int)) % n = c)) := by
  unfold sn; rw [List.range_succ, List.any_append]; simp
theorem sn_new (v n : Int) (i : Nat) (h : (i : Int) < n) : sn v n i ((v + (i : Int)) % n) = false := by
  unfold sn
  rw [List.any_eq_false]
  intro j hj
  have hj : j < i := List.mem_range.1 hj
  intro he
  have he : (v + (j : Int)) % n = (v + (i : Int)) % n := of_decide_eq_true he
  have h1 := Int.emod_emod_of_dvd
  have h2 : ((v + (i : Int)) - (v + (j : Int))) % n = 0 := Int.emod_eq_emod_iff_emod_sub_eq_zero.1 he.symm
  rw [show (v + (i : Int)) - (v + (j : Int)) = (i : Int) - (j : Int) by omega, Int.emod_eq_of_lt (by omega) (by omega)] at h2
  omega
abbrev GoTu (F G C v : Int) (w0 : World) (N : Nat → Prop) (s : St) : Prop := ∀ (E : Env) (a : Act) (w : World), Sim w0.heap.size w0 N E s a w → Goes Try.prog 4 (loopAt Try.f4 0) (RPure w0 N (.one (Bo true))) a w
theorem tu_end (F G C v i : Int) (b0 b1 b2 b3 b4 b5 b6 b7 b8 b9 : Bool) {w0 : World} {N : Nat → Prop} (hi : ¬ i < nM F G C) : GoTu F G C v w0 N (tu1 F G C v i b0 b1 b2 b3 b4 b5 b6 b7 b8 b9) := by
  intro E a w hsim
  rcases Bool.eq_false_or_eq_true (decide (i < nM F G C)) with hb1 | hb1
  · skip
    rcases Bool.eq_false_or_eq_true (decide ((0 : Int) ≥ nM F G C)) with hb2 | hb2
    · skip
      exact go_ret (O13c_ok 0) Try.func4 (r' := .one (.raw (.bool false))) (cs := [((decide (i < nM F G C)) = true), (primM F G C (IntKind.i64.wrap (v + i)) = ((0 : Int), (0 : Int))), (((0 : Int) != (0 : Int)) = false), ((decide ((0 : Int) < (0 : Int))) = false), ((decide ((0 : Int) ≥ nM F G C)) = true)]) [true,false,false,true] (by kernel_rfl) ⟨hb1, (by first | exact absurd (of_decide_eq_true hb1) hi | omega), rfl, rfl, hb2, trivial⟩ (by first | rfl | exact absurd (of_decide_eq_true hb1) hi) hsim
    · skip
      rcases Bool.eq_false_or_eq_true (b0) with hb3 | hb3
      · skip
        exact go_ret (O13c_ok 0) Try.func4 (r' := .one (.raw (.bool false))) (cs := [((decide (i < nM F G C)) = true), (primM F G C (IntKind.i64.wrap (v + i)) = ((0 : Int), (0 : Int))), (((0 : Int) != (0 : Int)) = false), ((decide ((0 : Int) < (0 : Int))) = false), ((decide ((0 : Int) ≥ nM F G C)) = false), ((0 : Int) ≤ (0 : Int) ∧ (0 : Int) < (↑(10 : Nat) : Int)), ((b0) = true)]) [true,false,false,false,true] (by kernel_rfl) ⟨hb1, (by first | exact absurd (of_decide_eq_true hb1) hi | omega), rfl, rfl, hb2, (by first | exact absurd (of_decide_eq_true hb1) hi | omega), hb3, trivial⟩ (by first | rfl | exact absurd (of_decide_eq_true hb1) hi) hsim
      · skip
        refine go_head (O13c_ok 0) (k' := loopAt Try.f4 0) (s' := mk 55 [(1, .d (.raw (.int .i64 (v)))), (2, .ref 2 (0)), (5, .ref 5 (0)), (6, .d (.raw (.int .i64 (IntKind.i64.wrap (i + (1 : Int))))))] [(2, ⟨23, [.d (.raw (.int .i64 (F))), .d (.raw (.int .i64 (G))), .d (.raw (.int .i64 (C)))]⟩), (5, ⟨30, [.known true, .d (.raw (.bool (b1))), .d (.raw (.bool (b2))), .d (.raw (.bool (b3))), .d (.raw (.bool (b4))), .d (.raw (.bool (b5))), .d (.raw (.bool (b6))), .d (.raw (.bool (b7))), .d (.raw (.bool (b8))), .d (.raw (.bool (b9)))]⟩)] []) (cs := [((decide (i < nM F G C)) = true), (primM F G C (IntKind.i64.wrap (v + i)) = ((0 : Int), (0 : Int))), (((0 : Int) != (0 : Int)) = false), ((decide ((0 : Int) < (0 : Int))) = false), ((decide ((0 : Int) ≥ nM F G C)) = false), ((0 : Int) ≤ (0 : Int) ∧ (0 : Int) < (↑(10 : Nat) : Int)), ((b0) = false), ((0 : Int) ≤ (0 : Int) ∧ (0 : Int) < (↑(10 : Nat) : Int))]) [true,false,false,false,false] [1,2,5,6] [2,5] [] (by kernel_rfl) ⟨hb1, (by first | exact absurd (of_decide_eq_true hb1) hi | omega), rfl, rfl, hb2, (by first | exact absurd (of_decide_eq_true hb1) hi | omega), hb3, (by first | exact absurd (of_decide_eq_true hb1) hi | omega), trivial⟩ hsim fun E a w hsim => ?_
        exact absurd (of_decide_eq_true hb1) hi
  · skip
    exact go_ret (O13c_ok 0) Try.func4 (r' := .one (.raw (.bool true))) (cs := [((decide (i < nM F G C)) = false)]) [false] (by kernel_rfl) ⟨hb1, trivial⟩ (by first | rfl | exact absurd (of_decide_eq_true hb1) hi) hsim
theorem tu_go (F G C v : Int) (hR : right F G C = true) (hv : 0 ≤ v ∧ v ≤ 549755813888) {w0 : World} {N : Nat → Prop} : ∀ (d i : Nat), (i : Int) + d = nM F G C → GoTu F G C v w0 N (tu1 F G C v (i : Int) (sn v (nM F G C) i 0) (sn v (nM F G C) i 1) (sn v (nM F G C) i 2) (sn v (nM F G C) i 3) (sn v (nM F G C) i 4) (sn v (nM F G C) i 5) (sn v (nM F G C) i 6) (sn v (nM F G C) i 7) (sn v (nM F G C) i 8) (sn v (nM F G C) i 9)) := by
  have hr := right_iff.1 hR
  have hn : nM F G C = 3 * F + 1 := by unfold nM onlyM; rw [if_pos hR]
  intro d
  induction d with
  | zero => intro i hd; exact tu_end F G C v (i : Int) _ _ _ _ _ _ _ _ _ _ (by omega)
  | succ d ih =>
    intro i hd
    have hi : (i : Int) < nM F G C := by omega
    have ih := ih (i + 1) (by omega)
    have hw : IntKind.i64.wrap ((i : Int) + 1) = ((i + 1 : Nat) : Int) := by rw [w64 (by omega)]; rfl
    have hwv : IntKind.i64.wrap (v + (i : Int)) = v + (i : Int) := w64 (by omega)
    have hp : primM F G C (IntKind.i64.wrap (v + (i : Int))) = ((v + (i : Int)) % nM F G C, 0) := by
      rw [hwv]; unfold primM; rw [if_pos ⟨hR, by omega, by omega⟩, hn]
    have h0 : 0 ≤ (v + (i : Int)) % nM F G C := Int.emod_nonneg _ (by omega)
    have h1 : (v + (i : Int)) % nM F G C < nM F G C := Int.emod_lt_of_pos _ (by omega)
    have hnew := sn_new v (nM F G C) i hi
    have hs := fun c => sn_succ v (nM F G C) i c
    have h10 : nM F G C ≤ 10 := by omega
    rw [← hw] at ih
    generalize hc : (v + (i : Int)) % nM F G C = c at hp h0 h1 hnew hs
    rcases (show c = 0 ∨ c = 1 ∨ c = 2 ∨ c = 3 ∨ c = 4 ∨ c = 5 ∨ c = 6 ∨ c = 7 ∨ c = 8 ∨ c = 9 by omega) with rfl | rfl | rfl | rfl | rfl | rfl | rfl | rfl | rfl | rfl
    · have q0 : sn v (nM F G C) (i + 1) 0 = true := (by rw [hs]; simp); have q1 : sn v (nM F G C) (i + 1) 1 = sn v (nM F G C) i 1 := (by rw [hs]; simp); have q2 : sn v (nM F G C) (i + 1) 2 = sn v (nM F G C) i 2 := (by rw [hs]; simp); have q3 : sn v (nM F G C) (i + 1) 3 = sn v (nM F G C) i 3 := (by rw [hs]; simp); have q4 : sn v (nM F G C) (i + 1) 4 = sn v (nM F G C) i 4 := (by rw [hs]; simp); have q5 : sn v (nM F G C) (i + 1) 5 = sn v (nM F G C) i 5 := (by rw [hs]; simp); have q6 : sn v (nM F G C) (i + 1) 6 = sn v (nM F G C) i 6 := (by rw [hs]; simp); have q7 : sn v (nM F G C) (i + 1) 7 = sn v (nM F G C) i 7 := (by rw [hs]; simp); have q8 : sn v (nM F G C) (i + 1) 8 = sn v (nM F G C) i 8 := (by rw [hs]; simp); have q9 : sn v (nM F G C) (i + 1) 9 = sn v (nM F G C) i 9 := (by rw [hs]; simp)
      rw [q0, q1, q2, q3, q4, q5, q6, q7, q8, q9] at ih
      exact tu_step0 F G C v (i : Int) _ _ _ _ _ _ _ _ _ _ hi hp h1 hnew ih
    · have q0 : sn v (nM F G C) (i + 1) 0 = sn v (nM F G C) i 0 := (by rw [hs]; simp); have q1 : sn v (nM F G C) (i + 1) 1 = true := (by rw [hs]; simp); have q2 : sn v (nM F G C) (i + 1) 2 = sn v (nM F G C) i 2 := (by rw [hs]; simp); have q3 : sn v (nM F G C) (i + 1) 3 = sn v (nM F G C) i 3 := (by rw [hs]; simp); have q4 : sn v (nM F G C) (i + 1) 4 = sn v (nM F G C) i 4 := (by rw [hs]; simp); have q5 : sn v (nM F G C) (i + 1) 5 = sn v (nM F G C) i 5 := (by rw [hs]; simp); have q6 : sn v (nM F G C) (i + 1) 6 = sn v (nM F G C) i 6 := (by rw [hs]; simp); have q7 : sn v (nM F G C) (i + 1) 7 = sn v (nM F G C) i 7 := (by rw [hs]; simp); have q8 : sn v (nM F G C) (i + 1) 8 = sn v (nM F G C) i 8 := (by rw [hs]; simp); have q9 : sn v (nM F G C) (i + 1) 9 = sn v (nM F G C) i 9 := (by rw [hs]; simp)
      rw [q0, q1, q2, q3, q4, q5, q6, q7, q8, q9] at ih
      exact tu_step1 F G C v (i : Int) _ _ _ _ _ _ _ _ _ _ hi hp h1 hnew ih
    · have q0 : sn v (nM F G C) (i + 1) 0 = sn v (nM F G C) i 0 := (by rw [hs]; simp); have q1 : sn v (nM F G C) (i + 1) 1 = sn v (nM F G C) i 1 := (by rw [hs]; simp); have q2 : sn v (nM F G C) (i + 1) 2 = true := (by rw [hs]; simp); have q3 : sn v (nM F G C) (i + 1) 3 = sn v (nM F G C) i 3 := (by rw [hs]; simp); have q4 : sn v (nM F G C) (i + 1) 4 = sn v (nM F G C) i 4 := (by rw [hs]; simp); have q5 : sn v (nM F G C) (i + 1) 5 = sn v (nM F G C) i 5 := (by rw [hs]; simp); have q6 : sn v (nM F G C) (i + 1) 6 = sn v (nM F G C) i 6 := (by rw [hs]; simp); have q7 : sn v (nM F G C) (i + 1) 7 = sn v (nM F G C) i 7 := (by rw [hs]; simp); have q8 : sn v (nM F G C) (i + 1) 8 = sn v (nM F G C) i 8 := (by rw [hs]; simp); have q9 : sn v (nM F G C) (i + 1) 9 = sn v (nM F G C) i 9 := (by rw [hs]; simp)
      rw [q0, q1, q2, q3, q4, q5, q6, q7, q8, q9] at ih
      exact tu_step2 F G C v (i : Int) _ _ _ _ _ _ _ _ _ _ hi hp h1 hnew ih
    · have q0 : sn v (nM F G C) (i + 1) 0 = sn v (nM F G C) i 0 := (by rw [hs]; simp); have q1 : sn v (nM F G C) (i + 1) 1 = sn v (nM F G C) i 1 := (by rw [hs]; simp); have q2 : sn v (nM F G C) (i + 1) 2 = sn v (nM F G C) i 2 := (by rw [hs]; simp); have q3 : sn v (nM F G C) (i + 1) 3 = true := (by rw [hs]; simp); have q4 : sn v (nM F G C) (i + 1) 4 = sn v (nM F G C) i 4 := (by rw [hs]; simp); have q5 : sn v (nM F G C) (i + 1) 5 = sn v (nM F G C) i 5 := (by rw [hs]; simp); have q6 : sn v (nM F G C) (i + 1) 6 = sn v (nM F G C) i 6 := (by rw [hs]; simp); have q7 : sn v (nM F G C) (i + 1) 7 = sn v (nM F G C) i 7 := (by rw [hs]; simp); have q8 : sn v (nM F G C) (i + 1) 8 = sn v (nM F G C) i 8 := (by rw [hs]; simp); have q9 : sn v (nM F G C) (i + 1) 9 = sn v (nM F G C) i 9 := (by rw [hs]; simp)
      rw [q0, q1, q2, q3, q4, q5, q6, q7, q8, q9] at ih
      exact tu_step3 F G C v (i : Int) _ _ _ _ _ _ _ _ _ _ hi hp h1 hnew ih
    · have q0 : sn v (nM F G C) (i + 1) 0 = sn v (nM F G C) i 0 := (by rw [hs]; simp); have q1 : sn v (nM F G C) (i + 1) 1 = sn v (nM F G C) i 1 := (by rw [hs]; simp); have q2 : sn v (nM F G C) (i + 1) 2 = sn v (nM F G C) i 2 := (by rw [hs]; simp); have q3 : sn v (nM F G C) (i + 1) 3 = sn v (nM F G C) i 3 := (by rw [hs]; simp); have q4 : sn v (nM F G C) (i + 1) 4 = true := (by rw [hs]; simp); have q5 : sn v (nM F G C) (i + 1) 5 = sn v (nM F G C) i 5 := (by rw [hs]; simp); have q6 : sn v (nM F G C) (i + 1) 6 = sn v (nM F G C) i 6 := (by rw [hs]; simp); have q7 : sn v (nM F G C) (i + 1) 7 = sn v (nM F G C) i 7 := (by rw [hs]; simp); have q8 : sn v (nM F G C) (i + 1) 8 = sn v (nM F G C) i 8 := (by rw [hs]; simp); have q9 : sn v (nM F G C) (i + 1) 9 = sn v (nM F G C) i 9 := (by rw [hs]; simp)
      rw [q0, q1, q2, q3, q4, q5, q6, q7, q8, q9] at ih
      exact tu_step4 F G C v (i : Int) _ _ _ _ _ _ _ _ _ _ hi hp h1 hnew ih
    · have q0 : sn v (nM F G C) (i + 1) 0 = sn v (nM F G C) i 0 := (by rw [hs]; simp); have q1 : sn v (nM F G C) (i + 1) 1 = sn v (nM F G C) i 1 := (by rw [hs]; simp); have q2 : sn v (nM F G C) (i + 1) 2 = sn v (nM F G C) i 2 := (by rw [hs]; simp); have q3 : sn v (nM F G C) (i + 1) 3 = sn v (nM F G C) i 3 := (by rw [hs]; simp); have q4 : sn v (nM F G C) (i + 1) 4 = sn v (nM F G C) i 4 := (by rw [hs]; simp); have q5 : sn v (nM F G C) (i + 1) 5 = true := (by rw [hs]; simp); have q6 : sn v (nM F G C) (i + 1) 6 = sn v (nM F G C) i 6 := (by rw [hs]; simp); have q7 : sn v (nM F G C) (i + 1) 7 = sn v (nM F G C) i 7 := (by rw [hs]; simp); have q8 : sn v (nM F G C) (i + 1) 8 = sn v (nM F G C) i 8 := (by rw [hs]; simp); have q9 : sn v (nM F G C) (i + 1) 9 = sn v (nM F G C) i 9 := (by rw [hs]; simp)
      rw [q0, q1, q2, q3, q4, q5, q6, q7, q8, q9] at ih
      exact tu_step5 F G C v (i : Int) _ _ _ _ _ _ _ _ _ _ hi hp h1 hnew ih
    · have q0 : sn v (nM F G C) (i + 1) 0 = sn v (nM F G C) i 0 := (by rw [hs]; simp); have q1 : sn v (nM F G C) (i + 1) 1 = sn v (nM F G C) i 1 := (by rw [hs]; simp); have q2 : sn v (nM F G C) (i + 1) 2 = sn v (nM F G C) i 2 := (by rw [hs]; simp); have q3 : sn v (nM F G C) (i + 1) 3 = sn v (nM F G C) i 3 := (by rw [hs]; simp); have q4 : sn v (nM F G C) (i + 1) 4 = sn v (nM F G C) i 4 := (by rw [hs]; simp); have q5 : sn v (nM F G C) (i + 1) 5 = sn v (nM F G C) i 5 := (by rw [hs]; simp); have q6 : sn v (nM F G C) (i + 1) 6 = true := (by rw [hs]; simp); have q7 : sn v (nM F G C) (i + 1) 7 = sn v (nM F G C) i 7 := (by rw [hs]; simp); have q8 : sn v (nM F G C) (i + 1) 8 = sn v (nM F G C) i 8 := (by rw [hs]; simp); have q9 : sn v (nM F G C) (i + 1) 9 = sn v (nM F G C) i 9 := (by rw [hs]; simp)
      rw [q0, q1, q2, q3, q4, q5, q6, q7, q8, q9] at ih
      exact tu_step6 F G C v (i : Int) _ _ _ _ _ _ _ _ _ _ hi hp h1 hnew ih
    · have q0 : sn v (nM F G C) (i + 1) 0 = sn v (nM F G C) i 0 := (by rw [hs]; simp); have q1 : sn v (nM F G C) (i + 1) 1 = sn v (nM F G C) i 1 := (by rw [hs]; simp); have q2 : sn v (nM F G C) (i + 1) 2 = sn v (nM F G C) i 2 := (by rw [hs]; simp); have q3 : sn v (nM F G C) (i + 1) 3 = sn v (nM F G C) i 3 := (by rw [hs]; simp); have q4 : sn v (nM F G C) (i + 1) 4 = sn v (nM F G C) i 4 := (by rw [hs]; simp); have q5 : sn v (nM F G C) (i + 1) 5 = sn v (nM F G C) i 5 := (by rw [hs]; simp); have q6 : sn v (nM F G C) (i + 1) 6 = sn v (nM F G C) i 6 := (by rw [hs]; simp); have q7 : sn v (nM F G C) (i + 1) 7 = true := (by rw [hs]; simp); have q8 : sn v (nM F G C) (i + 1) 8 = sn v (nM F G C) i 8 := (by rw [hs]; simp); have q9 : sn v (nM F G C) (i + 1) 9 = sn v (nM F G C) i 9 := (by rw [hs]; simp)
      rw [q0, q1, q2, q3, q4, q5, q6, q7, q8, q9] at ih
      exact tu_step7 F G C v (i : Int) _ _ _ _ _ _ _ _ _ _ hi hp h1 hnew ih
    · have q0 : sn v (nM F G C) (i + 1) 0 = sn v (nM F G C) i 0 := (by rw [hs]; simp); have q1 : sn v (nM F G C) (i + 1) 1 = sn v (nM F G C) i 1 := (by rw [hs]; simp); have q2 : sn v (nM F G C) (i + 1) 2 = sn v (nM F G C) i 2 := (by rw [hs]; simp); have q3 : sn v (nM F G C) (i + 1) 3 = sn v (nM F G C) i 3 := (by rw [hs]; simp); have q4 : sn v (nM F G C) (i + 1) 4 = sn v (nM F G C) i 4 := (by rw [hs]; simp); have q5 : sn v (nM F G C) (i + 1) 5 = sn v (nM F G C) i 5 := (by rw [hs]; simp); have q6 : sn v (nM F G C) (i + 1) 6 = sn v (nM F G C) i 6 := (by rw [hs]; simp); have q7 : sn v (nM F G C) (i + 1) 7 = sn v (nM F G C) i 7 := (by rw [hs]; simp); have q8 : sn v (nM F G C) (i + 1) 8 = true := (by rw [hs]; simp); have q9 : sn v (nM F G C) (i + 1) 9 = sn v (nM F G C) i 9 := (by rw [hs]; simp)
      rw [q0, q1, q2, q3, q4, q5, q6, q7, q8, q9] at ih
      exact tu_step8 F G C v (i : Int) _ _ _ _ _ _ _ _ _ _ hi hp h1 hnew ih
    · have q0 : sn v (nM F G C) (i + 1) 0 = sn v (nM F G C) i 0 := (by rw [hs]; simp); have q1 : sn v (nM F G C) (i + 1) 1 = sn v (nM F G C) i 1 := (by rw [hs]; simp); have q2 : sn v (nM F G C) (i + 1) 2 = sn v (nM F G C) i 2 := (by rw [hs]; simp); have q3 : sn v (nM F G C) (i + 1) 3 = sn v (nM F G C) i 3 := (by rw [hs]; simp); have q4 : sn v (nM F G C) (i + 1) 4 = sn v (nM F G C) i 4 := (by rw [hs]; simp); have q5 : sn v (nM F G C) (i + 1) 5 = sn v (nM F G C) i 5 := (by rw [hs]; simp); have q6 : sn v (nM F G C) (i + 1) 6 = sn v (nM F G C) i 6 := (by rw [hs]; simp); have q7 : sn v (nM F G C) (i + 1) 7 = sn v (nM F G C) i 7 := (by rw [hs]; simp); have q8 : sn v (nM F G C) (i + 1) 8 = sn v (nM F G C) i 8 := (by rw [hs]; simp); have q9 : sn v (nM F G C) (i + 1) 9 = true := (by rw [hs]; simp)
      rw [q0, q1, q2, q3, q4, q5, q6, q7, q8, q9] at ih
      exact tu_step9 F G C v (i : Int) _ _ _ _ _ _ _ _ _ _ hi hp h1 hnew ih
theorem f4_ok (F G C v : Int) : PureSpec Try.prog 4 [ros F G C, I v] (.one (Bo true)) := by
  refine pure_fn Try.func4 rfl fun {w N E a} hsim => ?_
  rcases Bool.eq_false_or_eq_true ((if right F G C = true then (0 : Int) else (1 : Int)) != (0 : Int)) with hb1 | hb1
  · skip
    exact go_ret (O13c_ok 0) Try.func4 (r' := .one (.raw (.bool true))) (cs := [(((if right F G C = true then (0 : Int) else (1 : Int)) != (0 : Int)) = true)]) [true] (by kernel_rfl) ⟨hb1, trivial⟩ (by rfl) hsim
  · skip
    rcases Bool.eq_false_or_eq_true (decide (v < (0 : Int))) with hb2 | hb2
    · skip
      exact go_ret (O13c_ok 0) Try.func4 (r' := .one (.raw (.bool true))) (cs := [(((if right F G C = true then (0 : Int) else (1 : Int)) != (0 : Int)) = false), ((decide (v < (0 : Int))) = true)]) [false,true] (by kernel_rfl) ⟨hb1, hb2, trivial⟩ (by rfl) hsim
    · skip
      rcases Bool.eq_false_or_eq_true (decide (v > (549755813888 : Int))) with hb3 | hb3
      · skip
        exact go_ret (O13c_ok 0) Try.func4 (r' := .one (.raw (.bool true))) (cs := [(((if right F G C = true then (0 : Int) else (1 : Int)) != (0 : Int)) = false), ((decide (v < (0 : Int))) = false), ((decide (v > (549755813888 : Int))) = true)]) [false,false,true] (by kernel_rfl) ⟨hb1, hb2, hb3, trivial⟩ (by rfl) hsim
      · skip
        refine go_head (O13c_ok 0) (k' := loopAt Try.f4 0) (s' := mk 55 [(1, .d (.raw (.int .i64 (v)))), (2, .ref 2 (0)), (5, .ref 5 (0)), (6, .d (.raw (.int .i64 ((0 : Int)))))] [(2, ⟨23, [.d (.raw (.int .i64 (F))), .d (.raw (.int .i64 (G))), .d (.raw (.int .i64 (C)))]⟩), (5, ⟨30, [.d (.raw (.bool false)), .d (.raw (.bool false)), .d (.raw (.bool false)), .d (.raw (.bool false)), .d (.raw (.bool false)), .d (.raw (.bool false)), .d (.raw (.bool false)), .d (.raw (.bool false)), .d (.raw (.bool false)), .d (.raw (.bool false))]⟩)] []) (cs := [(((if right F G C = true then (0 : Int) else (1 : Int)) != (0 : Int)) = false), ((decide (v < (0 : Int))) = false), ((decide (v > (549755813888 : Int))) = false)]) [false,false,false] [1,2,5,6] [2,5] [] (by kernel_rfl) ⟨hb1, hb2, hb3, trivial⟩ hsim fun E a w hsim => ?_
        have hR : right F G C = true := (by cases h : right F G C; rw [h] at hb1; cases hb1; rfl)
        have hn : nM F G C = 3 * F + 1 := by (unfold nM onlyM; rw [if_pos hR])
        have hr := right_iff.1 hR
        exact tu_go F G C v hR ⟨by (have := of_decide_eq_false hb2; omega), by (have := of_decide_eq_false hb3; omega)⟩ (nM F G C).toNat 0 (by omega) E a w (hsim.retellO (k := 5) rfl fun E w N vs h => h.dt)
end Go.Ros
