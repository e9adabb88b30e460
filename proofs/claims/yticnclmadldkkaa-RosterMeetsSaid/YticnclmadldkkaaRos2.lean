/-
  Contracts of the given functions, and the statement's own walk. No condition.
-/
import Derived.Test.YticnclmadldkkaaRos1
namespace Go.Ros
open Go Go.Abs Go.Proofs
set_option linter.unusedVariables false
def sh (p k : Int) : Int := p.fdiv (2 ^ min (IntKind.u64.wrap k).toNat IntKind.i64.bits)
def ab (m n : Int) : Int := IntKind.i64.wrap ↑(BitVec.ofInt IntKind.i64.bits m &&& BitVec.ofInt IntKind.i64.bits n).toNat
theorem ab_one (m : Int) : ab m 1 = ((BitVec.ofInt 64 m).toNat % 2 : Nat) := by
  unfold ab
  have e : (BitVec.ofInt IntKind.i64.bits m &&& BitVec.ofInt IntKind.i64.bits 1).toNat = (BitVec.ofInt 64 m).toNat % 2 := by
    rw [BitVec.toNat_and]
    exact Nat.and_one_is_mod _
  rw [e, w64 (by omega)]
theorem ab_ab (m n : Int) : ab (ab m n) 1 = (((BitVec.ofInt 64 m).toNat % 2) &&& ((BitVec.ofInt 64 n).toNat % 2) : Nat) := by
  rw [ab_one]
  have e : (BitVec.ofInt 64 (ab m n)) = (BitVec.ofInt 64 m &&& BitVec.ofInt 64 n) := by
    unfold ab
    apply BitVec.eq_of_toNat_eq
    have hlt := (BitVec.ofInt IntKind.i64.bits m &&& BitVec.ofInt IntKind.i64.bits n).isLt
    have hb : IntKind.i64.bits = 64 := rfl
    rw [BitVec.toNat_ofInt, IntKind.wrap_i64]
    show _ = (BitVec.ofInt IntKind.i64.bits m &&& BitVec.ofInt IntKind.i64.bits n).toNat
    generalize (BitVec.ofInt IntKind.i64.bits m &&& BitVec.ofInt IntKind.i64.bits n).toNat = z at hlt ⊢
    have hlt : z < 18446744073709551616 := hlt
    omega
  rw [e, BitVec.toNat_and]
  have := Nat.and_mod_two_pow (a := (BitVec.ofInt 64 m).toNat) (b := (BitVec.ofInt 64 n).toNat) (n := 1)
  rw [Nat.pow_one] at this
  rw [this]
theorem bits2 (m n : Int) : 0 ≤ ab m 1 ∧ ab m 1 ≤ 1 ∧ 0 ≤ ab n 1 ∧ ab n 1 ≤ 1 ∧ 0 ≤ ab (ab m n) 1 ∧ ab (ab m n) 1 ≤ 1 ∧ ab m 1 + ab n 1 - ab (ab m n) 1 ≤ 1 := by
  rw [ab_ab, ab_one, ab_one]
  rcases Nat.mod_two_eq_zero_or_one (BitVec.ofInt 64 m).toNat with h | h <;> rcases Nat.mod_two_eq_zero_or_one (BitVec.ofInt 64 n).toNat with h' | h' <;> rw [h, h'] <;> decide
theorem f3_loop (F G C p q : Int) (hR : right F G C = true) {w0 : World} {N : Nat → Prop} (d : Nat) : ∀ (k : Nat) (x y z : Int) (E : Env) (a : Act) (w : World), 0 ≤ x → 0 ≤ y → 0 ≤ z → x ≤ k → y ≤ k → z ≤ k → x + y - z ≤ k → k + d = (nM F G C).toNat → Sim w0.heap.size w0 N E (S3 F G C p q x y z k) a w →
    Goes Try.prog 3 (loopAt Try.f3 0) (RPure w0 N (.one (Bo true))) a w := by
  have hb := nM_bd F G C
  have hn := nM_right hR
  have hr := right_iff.1 hR
  have hneed : needM F G C = 2 * F + 1 := by simp [needM, onlyM, hR]
  have hsome : someM F G C = F + 1 := by simp [someM, onlyM, hR]
  have hsub : IntKind.i64.wrap (nM F G C - F) = 2 * F + 1 := by rw [hn, w64 (by omega)]; omega
  induction d with
  | zero =>
    intro k x y z E a w h1 h2 h3 h4 h5 h6 h7 hd hsim
    have hf : decide ((k : Int) < nM F G C) = false := by simp; omega
    rcases Bool.eq_false_or_eq_true (decide (x ≥ needM F G C)) with hb1 | hb1
    · skip
      rcases Bool.eq_false_or_eq_true (decide (y ≥ needM F G C)) with hb2 | hb2
      · skip
        rcases Bool.eq_false_or_eq_true (decide (z < someM F G C)) with hb3 | hb3
        · skip
          exact go_ret O9_ok Try.func3 (r' := .one (.raw (.bool false))) (cs := [((decide ((↑k : Int) < nM F G C)) = false), ((decide (x ≥ needM F G C)) = true), ((decide (y ≥ needM F G C)) = true), ((decide (z < someM F G C)) = true)]) [false,true,true,true] (by kernel_rfl) ⟨hf, hb1, hb2, hb3, trivial⟩ (by first | rfl | (exfalso; (try rw [hsub] at *); (try rw [hneed] at *); (try rw [hsome] at *); (simp at *) <;> omega)) hsim
        · skip
          rcases Bool.eq_false_or_eq_true (decide (x < someM F G C)) with hb4 | hb4
          · skip
            rcases Bool.eq_false_or_eq_true (IntKind.i64.wrap (nM F G C - F) == needM F G C) with hb5 | hb5
            · skip
              exact go_ret O9_ok Try.func3 (r' := .one (.raw (.bool true))) (cs := [((decide ((↑k : Int) < nM F G C)) = false), ((decide (x ≥ needM F G C)) = true), ((decide (y ≥ needM F G C)) = true), ((decide (z < someM F G C)) = false), ((decide (x < someM F G C)) = true), ((IntKind.i64.wrap (nM F G C - F) == needM F G C) = true)]) [false,true,true,false,true,true] (by kernel_rfl) ⟨hf, hb1, hb2, hb3, hb4, hb5, trivial⟩ (by first | rfl | (exfalso; (try rw [hsub] at *); (try rw [hneed] at *); (try rw [hsome] at *); (simp at *) <;> omega)) hsim
            · skip
              exact go_ret O9_ok Try.func3 (r' := .one (.raw (.bool false))) (cs := [((decide ((↑k : Int) < nM F G C)) = false), ((decide (x ≥ needM F G C)) = true), ((decide (y ≥ needM F G C)) = true), ((decide (z < someM F G C)) = false), ((decide (x < someM F G C)) = true), ((IntKind.i64.wrap (nM F G C - F) == needM F G C) = false)]) [false,true,true,false,true,false] (by kernel_rfl) ⟨hf, hb1, hb2, hb3, hb4, hb5, trivial⟩ (by first | rfl | (exfalso; (try rw [hsub] at *); (try rw [hneed] at *); (try rw [hsome] at *); (simp at *) <;> omega)) hsim
          · skip
            rcases Bool.eq_false_or_eq_true (decide (x > F)) with hb6 | hb6
            · skip
              rcases Bool.eq_false_or_eq_true (IntKind.i64.wrap (nM F G C - F) == needM F G C) with hb7 | hb7
              · skip
                exact go_ret O9_ok Try.func3 (r' := .one (.raw (.bool true))) (cs := [((decide ((↑k : Int) < nM F G C)) = false), ((decide (x ≥ needM F G C)) = true), ((decide (y ≥ needM F G C)) = true), ((decide (z < someM F G C)) = false), ((decide (x < someM F G C)) = false), ((decide (x > F)) = true), ((IntKind.i64.wrap (nM F G C - F) == needM F G C) = true)]) [false,true,true,false,false,true,true] (by kernel_rfl) ⟨hf, hb1, hb2, hb3, hb4, hb6, hb7, trivial⟩ (by first | rfl | (exfalso; (try rw [hsub] at *); (try rw [hneed] at *); (try rw [hsome] at *); (simp at *) <;> omega)) hsim
              · skip
                exact go_ret O9_ok Try.func3 (r' := .one (.raw (.bool false))) (cs := [((decide ((↑k : Int) < nM F G C)) = false), ((decide (x ≥ needM F G C)) = true), ((decide (y ≥ needM F G C)) = true), ((decide (z < someM F G C)) = false), ((decide (x < someM F G C)) = false), ((decide (x > F)) = true), ((IntKind.i64.wrap (nM F G C - F) == needM F G C) = false)]) [false,true,true,false,false,true,false] (by kernel_rfl) ⟨hf, hb1, hb2, hb3, hb4, hb6, hb7, trivial⟩ (by first | rfl | (exfalso; (try rw [hsub] at *); (try rw [hneed] at *); (try rw [hsome] at *); (simp at *) <;> omega)) hsim
            · skip
              exact go_ret O9_ok Try.func3 (r' := .one (.raw (.bool false))) (cs := [((decide ((↑k : Int) < nM F G C)) = false), ((decide (x ≥ needM F G C)) = true), ((decide (y ≥ needM F G C)) = true), ((decide (z < someM F G C)) = false), ((decide (x < someM F G C)) = false), ((decide (x > F)) = false)]) [false,true,true,false,false,false] (by kernel_rfl) ⟨hf, hb1, hb2, hb3, hb4, hb6, trivial⟩ (by first | rfl | (exfalso; (try rw [hsub] at *); (try rw [hneed] at *); (try rw [hsome] at *); (simp at *) <;> omega)) hsim
      · skip
        rcases Bool.eq_false_or_eq_true (decide (x < someM F G C)) with hb8 | hb8
        · skip
          rcases Bool.eq_false_or_eq_true (IntKind.i64.wrap (nM F G C - F) == needM F G C) with hb9 | hb9
          · skip
            exact go_ret O9_ok Try.func3 (r' := .one (.raw (.bool true))) (cs := [((decide ((↑k : Int) < nM F G C)) = false), ((decide (x ≥ needM F G C)) = true), ((decide (y ≥ needM F G C)) = false), ((decide (x < someM F G C)) = true), ((IntKind.i64.wrap (nM F G C - F) == needM F G C) = true)]) [false,true,false,true,true] (by kernel_rfl) ⟨hf, hb1, hb2, hb8, hb9, trivial⟩ (by first | rfl | (exfalso; (try rw [hsub] at *); (try rw [hneed] at *); (try rw [hsome] at *); (simp at *) <;> omega)) hsim
          · skip
            exact go_ret O9_ok Try.func3 (r' := .one (.raw (.bool false))) (cs := [((decide ((↑k : Int) < nM F G C)) = false), ((decide (x ≥ needM F G C)) = true), ((decide (y ≥ needM F G C)) = false), ((decide (x < someM F G C)) = true), ((IntKind.i64.wrap (nM F G C - F) == needM F G C) = false)]) [false,true,false,true,false] (by kernel_rfl) ⟨hf, hb1, hb2, hb8, hb9, trivial⟩ (by first | rfl | (exfalso; (try rw [hsub] at *); (try rw [hneed] at *); (try rw [hsome] at *); (simp at *) <;> omega)) hsim
        · skip
          rcases Bool.eq_false_or_eq_true (decide (x > F)) with hb10 | hb10
          · skip
            rcases Bool.eq_false_or_eq_true (IntKind.i64.wrap (nM F G C - F) == needM F G C) with hb11 | hb11
            · skip
              exact go_ret O9_ok Try.func3 (r' := .one (.raw (.bool true))) (cs := [((decide ((↑k : Int) < nM F G C)) = false), ((decide (x ≥ needM F G C)) = true), ((decide (y ≥ needM F G C)) = false), ((decide (x < someM F G C)) = false), ((decide (x > F)) = true), ((IntKind.i64.wrap (nM F G C - F) == needM F G C) = true)]) [false,true,false,false,true,true] (by kernel_rfl) ⟨hf, hb1, hb2, hb8, hb10, hb11, trivial⟩ (by first | rfl | (exfalso; (try rw [hsub] at *); (try rw [hneed] at *); (try rw [hsome] at *); (simp at *) <;> omega)) hsim
            · skip
              exact go_ret O9_ok Try.func3 (r' := .one (.raw (.bool false))) (cs := [((decide ((↑k : Int) < nM F G C)) = false), ((decide (x ≥ needM F G C)) = true), ((decide (y ≥ needM F G C)) = false), ((decide (x < someM F G C)) = false), ((decide (x > F)) = true), ((IntKind.i64.wrap (nM F G C - F) == needM F G C) = false)]) [false,true,false,false,true,false] (by kernel_rfl) ⟨hf, hb1, hb2, hb8, hb10, hb11, trivial⟩ (by first | rfl | (exfalso; (try rw [hsub] at *); (try rw [hneed] at *); (try rw [hsome] at *); (simp at *) <;> omega)) hsim
          · skip
            exact go_ret O9_ok Try.func3 (r' := .one (.raw (.bool false))) (cs := [((decide ((↑k : Int) < nM F G C)) = false), ((decide (x ≥ needM F G C)) = true), ((decide (y ≥ needM F G C)) = false), ((decide (x < someM F G C)) = false), ((decide (x > F)) = false)]) [false,true,false,false,false] (by kernel_rfl) ⟨hf, hb1, hb2, hb8, hb10, trivial⟩ (by first | rfl | (exfalso; (try rw [hsub] at *); (try rw [hneed] at *); (try rw [hsome] at *); (simp at *) <;> omega)) hsim
    · skip
      rcases Bool.eq_false_or_eq_true (decide (x < someM F G C)) with hb12 | hb12
      · skip
        rcases Bool.eq_false_or_eq_true (IntKind.i64.wrap (nM F G C - F) == needM F G C) with hb13 | hb13
        · skip
          exact go_ret O9_ok Try.func3 (r' := .one (.raw (.bool true))) (cs := [((decide ((↑k : Int) < nM F G C)) = false), ((decide (x ≥ needM F G C)) = false), ((decide (x < someM F G C)) = true), ((IntKind.i64.wrap (nM F G C - F) == needM F G C) = true)]) [false,false,true,true] (by kernel_rfl) ⟨hf, hb1, hb12, hb13, trivial⟩ (by first | rfl | (exfalso; (try rw [hsub] at *); (try rw [hneed] at *); (try rw [hsome] at *); (simp at *) <;> omega)) hsim
        · skip
          exact go_ret O9_ok Try.func3 (r' := .one (.raw (.bool false))) (cs := [((decide ((↑k : Int) < nM F G C)) = false), ((decide (x ≥ needM F G C)) = false), ((decide (x < someM F G C)) = true), ((IntKind.i64.wrap (nM F G C - F) == needM F G C) = false)]) [false,false,true,false] (by kernel_rfl) ⟨hf, hb1, hb12, hb13, trivial⟩ (by first | rfl | (exfalso; (try rw [hsub] at *); (try rw [hneed] at *); (try rw [hsome] at *); (simp at *) <;> omega)) hsim
      · skip
        rcases Bool.eq_false_or_eq_true (decide (x > F)) with hb14 | hb14
        · skip
          rcases Bool.eq_false_or_eq_true (IntKind.i64.wrap (nM F G C - F) == needM F G C) with hb15 | hb15
          · skip
            exact go_ret O9_ok Try.func3 (r' := .one (.raw (.bool true))) (cs := [((decide ((↑k : Int) < nM F G C)) = false), ((decide (x ≥ needM F G C)) = false), ((decide (x < someM F G C)) = false), ((decide (x > F)) = true), ((IntKind.i64.wrap (nM F G C - F) == needM F G C) = true)]) [false,false,false,true,true] (by kernel_rfl) ⟨hf, hb1, hb12, hb14, hb15, trivial⟩ (by first | rfl | (exfalso; (try rw [hsub] at *); (try rw [hneed] at *); (try rw [hsome] at *); (simp at *) <;> omega)) hsim
          · skip
            exact go_ret O9_ok Try.func3 (r' := .one (.raw (.bool false))) (cs := [((decide ((↑k : Int) < nM F G C)) = false), ((decide (x ≥ needM F G C)) = false), ((decide (x < someM F G C)) = false), ((decide (x > F)) = true), ((IntKind.i64.wrap (nM F G C - F) == needM F G C) = false)]) [false,false,false,true,false] (by kernel_rfl) ⟨hf, hb1, hb12, hb14, hb15, trivial⟩ (by first | rfl | (exfalso; (try rw [hsub] at *); (try rw [hneed] at *); (try rw [hsome] at *); (simp at *) <;> omega)) hsim
        · skip
          exact go_ret O9_ok Try.func3 (r' := .one (.raw (.bool false))) (cs := [((decide ((↑k : Int) < nM F G C)) = false), ((decide (x ≥ needM F G C)) = false), ((decide (x < someM F G C)) = false), ((decide (x > F)) = false)]) [false,false,false,false] (by kernel_rfl) ⟨hf, hb1, hb12, hb14, trivial⟩ (by first | rfl | (exfalso; (try rw [hsub] at *); (try rw [hneed] at *); (try rw [hsome] at *); (simp at *) <;> omega)) hsim
  | succ d ih =>
    intro k x y z E a w h1 h2 h3 h4 h5 h6 h7 hd hsim
    have hf : decide ((k : Int) < nM F G C) = true := by simp; omega
    have hw : IntKind.i64.wrap ((k : Int) + 1) = ((k + 1 : Nat) : Int) := by rw [w64 (by omega)]; rfl
    have hu : IntKind.u64.wrap (k : Int) = k := by simp [IntKind.wrap, IntKind.bits, IntKind.signed]; omega
    obtain ⟨b1, b2, b3, b4, b5, b6, b7⟩ := bits2 (sh p k) (sh q k)
    have wx : IntKind.i64.wrap (x + ab (sh p k) 1) = x + ab (sh p k) 1 := w64 (by omega)
    have wy : IntKind.i64.wrap (y + ab (sh q k) 1) = y + ab (sh q k) 1 := w64 (by omega)
    have wz : IntKind.i64.wrap (z + ab (ab (sh p k) (sh q k)) 1) = z + ab (ab (sh p k) (sh q k)) 1 := w64 (by omega)
    refine go_head O9_ok (k' := loopAt Try.f3 0) (s' := mk 86 [(1, .d (.raw (.int .i64 (p)))), (2, .d (.raw (.int .i64 (q)))), (3, .ref 3 (0)), (7, .d (.raw (.int .i64 (IntKind.i64.wrap (x + IntKind.i64.wrap (↑(BitVec.ofInt IntKind.i64.bits (p.fdiv ((2 : Int) ^ min (IntKind.u64.wrap (↑k : Int)).toNat IntKind.i64.bits)) &&& BitVec.ofInt IntKind.i64.bits (1 : Int)).toNat : Int)))))), (8, .d (.raw (.int .i64 (IntKind.i64.wrap (y + IntKind.i64.wrap (↑(BitVec.ofInt IntKind.i64.bits (q.fdiv ((2 : Int) ^ min (IntKind.u64.wrap (↑k : Int)).toNat IntKind.i64.bits)) &&& BitVec.ofInt IntKind.i64.bits (1 : Int)).toNat : Int)))))), (9, .d (.raw (.int .i64 (IntKind.i64.wrap (z + IntKind.i64.wrap (↑(BitVec.ofInt IntKind.i64.bits (IntKind.i64.wrap (↑(BitVec.ofInt IntKind.i64.bits (p.fdiv ((2 : Int) ^ min (IntKind.u64.wrap (↑k : Int)).toNat IntKind.i64.bits)) &&& BitVec.ofInt IntKind.i64.bits (q.fdiv ((2 : Int) ^ min (IntKind.u64.wrap (↑k : Int)).toNat IntKind.i64.bits))).toNat : Int)) &&& BitVec.ofInt IntKind.i64.bits (1 : Int)).toNat : Int)))))), (10, .d (.raw (.int .i64 (IntKind.i64.wrap ((↑k : Int) + (1 : Int))))))] [(3, ⟨23, [.d (.raw (.int .i64 (F))), .d (.raw (.int .i64 (G))), .d (.raw (.int .i64 (C)))]⟩)] []) (cs := [((decide ((↑k : Int) < nM F G C)) = true), ((0 : Int) ≤ IntKind.u64.wrap (↑k : Int)), ((0 : Int) ≤ IntKind.u64.wrap (↑k : Int)), ((0 : Int) ≤ IntKind.u64.wrap (↑k : Int)), ((0 : Int) ≤ IntKind.u64.wrap (↑k : Int))]) [true] [1,2,3,7,8,9,10] [3] [] (by kernel_rfl) ⟨hf, (by rw [hu]; omega), (by rw [hu]; omega), (by rw [hu]; omega), (by rw [hu]; omega), trivial⟩ hsim fun E a w hsim => ?_
    rw [hw] at hsim
    refine ih (k + 1) (IntKind.i64.wrap (x + ab (sh p k) 1)) (IntKind.i64.wrap (y + ab (sh q k) 1)) (IntKind.i64.wrap (z + ab (ab (sh p k) (sh q k)) 1)) E a w ?_ ?_ ?_ ?_ ?_ ?_ ?_ (by omega) hsim <;> (try rw [wx]) <;> (try rw [wy]) <;> (try rw [wz]) <;> omega
theorem f3_ok (F G C p q : Int) : PureSpec Try.prog 3 [ros F G C, I p, I q] (.one (Bo true)) := by
  refine pure_fn Try.func3 rfl fun {w N E a} hsim => ?_
  rcases Bool.eq_false_or_eq_true ((if right F G C = true then (0 : Int) else (1 : Int)) != (0 : Int)) with hb1 | hb1
  · skip
    exact go_ret O9_ok Try.func3 (r' := .one (.raw (.bool true))) (cs := [(((if right F G C = true then (0 : Int) else (1 : Int)) != (0 : Int)) = true)]) [true] (by kernel_rfl) ⟨hb1, trivial⟩ (by rfl) hsim
  · skip
    refine go_head O9_ok (k' := loopAt Try.f3 0) (s' := mk 86 [(1, .d (.raw (.int .i64 (p)))), (2, .d (.raw (.int .i64 (q)))), (3, .ref 3 (0)), (7, .d (.raw (.int .i64 ((0 : Int))))), (8, .d (.raw (.int .i64 ((0 : Int))))), (9, .d (.raw (.int .i64 ((0 : Int))))), (10, .d (.raw (.int .i64 ((0 : Int)))))] [(3, ⟨23, [.d (.raw (.int .i64 (F))), .d (.raw (.int .i64 (G))), .d (.raw (.int .i64 (C)))]⟩)] []) (cs := [(((if right F G C = true then (0 : Int) else (1 : Int)) != (0 : Int)) = false)]) [false] [1,2,3,7,8,9,10] [3] [] (by kernel_rfl) ⟨hb1, trivial⟩ hsim fun E a w hsim => ?_
    exact f3_loop F G C p q (by simpa using hb1) (nM F G C).toNat 0 0 0 0 E a w (by omega) (by omega) (by omega) (by omega) (by omega) (by omega) (by omega) (by omega) hsim
end Go.Ros
