/-
  Contracts of the given functions, and the statement's own walk. No condition.
-/
import Derived.Test.YticnclmadldkkaaRos3
namespace Go.Ros
open Go Go.Abs Go.Proofs
set_option linter.unusedVariables false
theorem back_end {F G C e : Int} (h : (partyM F G C e).2 = 0) : endM F G C (partyM F G C e).1.1 (partyM F G C e).1.2 = (e, 0) := by
  cases hR : right F G C with
  | false => simp [partyM, hR] at h
  | true =>
    have hr := right_iff.1 hR
    have hE : endsM F G C = (3 * F + 1) * (G + 1) + C := by simp [endsM, onlyM, hR]
    unfold partyM at h ⊢
    rw [if_pos hR, hE] at h ⊢
    split at h
    · simp at h
    · rename_i h1
      split at h
      · rename_i h2
        rw [if_neg h1, if_pos h2]
        unfold endM
        rw [if_pos hR]
        dsimp only
        rw [if_pos ⟨rfl, by omega, by omega⟩]
        congr 1; omega
      · rename_i h2
        rw [if_neg h1, if_neg h2]
        unfold endM
        rw [if_pos hR]
        have he : 0 ≤ e := by omega
        have hM : 0 < 3 * F + 1 := by omega
        have g0 : 0 ≤ e / (3 * F + 1) := Int.ediv_nonneg he (by omega)
        have g1 : e / (3 * F + 1) < G + 1 := Int.ediv_lt_of_lt_mul hM (by rw [Int.mul_comm]; omega)
        have i0 : 0 ≤ e % (3 * F + 1) := Int.emod_nonneg _ (by omega)
        have i1 : e % (3 * F + 1) < 3 * F + 1 := Int.emod_lt_of_pos _ hM
        have hs := Int.mul_ediv_add_emod e (3 * F + 1)
        show (if e / (3 * F + 1) = -1 ∧ _ then _ else if 0 ≤ e / (3 * F + 1) ∧ e / (3 * F + 1) ≤ G ∧ 0 ≤ e % (3 * F + 1) ∧ e % (3 * F + 1) < 3 * F + 1 then ((3 * F + 1) * (e / (3 * F + 1)) + e % (3 * F + 1), (0 : Int)) else _) = _
        rw [if_neg (by omega), if_pos ⟨g0, by omega, i0, i1⟩, hs]
theorem back_group {F G C e : Int} (h : (partyM F G C e).2 = 0) (hg : 0 ≤ (partyM F G C e).1.1) : e ∈ groupL F G C (partyM F G C e).1.1 (-1) := by
  have hb := back_end h
  have hR : right F G C = true := by
    cases hR : right F G C with
    | false => simp [partyM, hR] at h
    | true => rfl
  have hr := right_iff.1 hR
  have hn := nM_right hR
  have hi : 0 ≤ (partyM F G C e).1.2 ∧ (partyM F G C e).1.2 < 3 * F + 1 := by
    unfold endM at hb
    rw [if_pos hR] at hb
    split at hb
    · omega
    · split at hb
      · omega
      · simp at hb
  unfold groupL endsL
  rw [List.mem_filterMap]
  refine ⟨(partyM F G C e).1.2.toNat, by rw [List.mem_range, hn]; omega, ?_⟩
  have e1 : (((partyM F G C e).1.2.toNat : Nat) : Int) = (partyM F G C e).1.2 := by omega
  rw [e1, hb]
  rw [if_pos ⟨rfl, by omega⟩]
theorem party_none {F G C e : Int} (h : (partyM F G C e).2 ≠ 0) : (partyM F G C e).1 = (0, 0) := by
  unfold partyM at h ⊢
  split
  · rename_i h1
    rw [if_pos h1] at h
    split
    · rfl
    · rename_i h2
      rw [if_neg h2] at h
      split at h <;> exact absurd rfl h
  · rfl
theorem back_mem {F G C e : Int} (h : (partyM F G C e).2 = 0) : decide (e ∈ (if (partyM F G C e).1.1 < 0 then [] else groupL F G C (partyM F G C e).1.1 (-1))) = decide ((partyM F G C e).1.1 ≥ 0) := by
  by_cases hg : (partyM F G C e).1.1 < 0
  · rw [if_pos hg]; simp; omega
  · rw [if_neg hg]; simp [back_group h (by omega)]; omega
theorem back_len (F G C e : Int) : (if (partyM F G C e).1.1 < 0 then [] else groupL F G C (partyM F G C e).1.1 (-1)).length ≤ 1000 := by
  split
  · simp
  · have h1 := endsL_len F G C (partyM F G C e).1.1 (-1) (nM F G C).toNat
    have h2 := nM_bd F G C
    unfold groupL
    omega
theorem f6_loop (e g n x f : Int) (xs : List Int) (hf : f = 0) (hx : x = e) (hm : decide (e ∈ xs) = decide (g ≥ 0)) (hl : xs.length ≤ 1000) {w0 : World} {N : Nat → Prop} (d : Nat) : ∀ (k : Nat) (b : Bool) (E : Env) (a : Act) (w : World), b = decide (e ∈ xs.take k) → k + d = xs.length → Sim w0.heap.size w0 N E (S6 e g n x f b xs k) a w →
    Goes Try.prog 6 (loopAt Try.f6 0) (RPure w0 N (.one (Bo true))) a w := by
  induction d with
  | zero =>
    intro k b E a w hb hd hsim
    have hk : decide ((k : Int) < xs.length) = false := by simp; omega
    have hb' : (b == decide (g ≥ 0)) = true := by rw [hb, List.take_of_length_le (by omega), hm]; simp
    rcases Bool.eq_false_or_eq_true (f == (0 : Int)) with hb1 | hb1
    · skip
      rcases Bool.eq_false_or_eq_true (x == e) with hb2 | hb2
      · skip
        exact go_ret O18_ok Try.func6 (r' := .one (.raw (.bool true))) (cs := [((decide ((↑k : Int) < (↑xs.length : Int))) = false), ((f == (0 : Int)) = true), ((x == e) = true), ((b == decide (g ≥ (0 : Int))) = true)]) [false,true,true,true] (by kernel_rfl) ⟨hk, hb1, hb2, hb', trivial⟩ (by first | rfl | (exfalso; subst hf; subst hx; simp at *)) hsim
      · skip
        exact go_ret O18_ok Try.func6 (r' := .one (.raw (.bool false))) (cs := [((decide ((↑k : Int) < (↑xs.length : Int))) = false), ((f == (0 : Int)) = true), ((x == e) = false)]) [false,true,false] (by kernel_rfl) ⟨hk, hb1, hb2, trivial⟩ (by first | rfl | (exfalso; subst hf; subst hx; simp at *)) hsim
    · skip
      exact go_ret O18_ok Try.func6 (r' := .one (.raw (.bool false))) (cs := [((decide ((↑k : Int) < (↑xs.length : Int))) = false), ((f == (0 : Int)) = false)]) [false,false] (by kernel_rfl) ⟨hk, hb1, trivial⟩ (by first | rfl | (exfalso; subst hf; subst hx; simp at *)) hsim
  | succ d ih =>
    intro k b E a w hb hd hsim
    have hk : decide ((k : Int) < xs.length) = true := by simp; omega
    have hlt : k < xs.length := by omega
    have hw : IntKind.i64.wrap ((k : Int) + 1) = ((k + 1 : Nat) : Int) := by rw [w64 (by omega)]; rfl
    have nx : decide (e ∈ xs.take (k + 1)) = (b || (xs.getD (k : Int).toNat default == e)) := by
      rw [hb, List.take_add_one, List.getElem?_eq_getElem hlt, Int.toNat_natCast, List.getD_eq_getElem?_getD, List.getElem?_eq_getElem hlt, Bool.eq_iff_iff]
      simp only [Option.toList_some, List.mem_append, List.mem_singleton, Option.getD_some, decide_eq_true_eq, Bool.or_eq_true, beq_iff_eq]
      constructor <;> rintro (h | h) <;> simp [h]
    rcases Bool.eq_false_or_eq_true (b) with hb1 | hb1
    · skip
      refine go_head O18_ok (k' := loopAt Try.f6 0) (s' := mk 65 [(1, .d (.raw (.int .i64 (e)))), (5, .ref 5 (0)), (7, .d (.raw (.int .i64 (x)))), (8, .d (.raw (.int .i64 (f)))), (9, .known true), (35, .d (.list 1 (xs.length) (fun i => I (xs.getD i default)))), (36, .d (.raw (.int .i64 ((↑xs.length : Int))))), (37, .d (.raw (.int .i64 (IntKind.i64.wrap ((↑k : Int) + (1 : Int))))))] [(5, ⟨40, [.d (.raw (.int .i64 (g))), .d (.raw (.int .i64 (n)))]⟩)] []) (cs := [((decide ((↑k : Int) < (↑xs.length : Int))) = true), ((0 : Int) ≤ (↑k : Int) ∧ (↑k : Int) < (↑xs.length : Int)), ((b) = true)]) [true,true] [1,5,7,8,9,35,36,37] [5] [] (by kernel_rfl) ⟨hk, (by omega), hb1, trivial⟩ hsim fun E a w hsim => ?_
      rw [hw] at hsim
      first | exact ih (k + 1) true E a w (by rw [nx, hb1]; rfl) (by omega) (hsim.unknow 9 rfl) | exact ih (k + 1) _ E a w (by rw [nx, hb1]; rfl) (by omega) hsim
    · skip
      refine go_head O18_ok (k' := loopAt Try.f6 0) (s' := mk 65 [(1, .d (.raw (.int .i64 (e)))), (5, .ref 5 (0)), (7, .d (.raw (.int .i64 (x)))), (8, .d (.raw (.int .i64 (f)))), (9, .d (.raw (.bool (xs.getD (↑k : Int).toNat default == e)))), (35, .d (.list 1 (xs.length) (fun i => I (xs.getD i default)))), (36, .d (.raw (.int .i64 ((↑xs.length : Int))))), (37, .d (.raw (.int .i64 (IntKind.i64.wrap ((↑k : Int) + (1 : Int))))))] [(5, ⟨40, [.d (.raw (.int .i64 (g))), .d (.raw (.int .i64 (n)))]⟩)] []) (cs := [((decide ((↑k : Int) < (↑xs.length : Int))) = true), ((0 : Int) ≤ (↑k : Int) ∧ (↑k : Int) < (↑xs.length : Int)), ((b) = false)]) [true,false] [1,5,7,8,9,35,36,37] [5] [] (by kernel_rfl) ⟨hk, (by omega), hb1, trivial⟩ hsim fun E a w hsim => ?_
      rw [hw] at hsim
      first | exact ih (k + 1) true E a w (by rw [nx, hb1]; rfl) (by omega) (hsim.unknow 9 rfl) | exact ih (k + 1) _ E a w (by rw [nx, hb1]; rfl) (by omega) hsim
theorem f6_ok (F G C e : Int) : PureSpec Try.prog 6 [ros F G C, I e] (.one (Bo true)) := by
  refine pure_fn Try.func6 rfl fun {w N E a} hsim => ?_
  rcases Bool.eq_false_or_eq_true ((partyM F G C e).snd != (0 : Int)) with hb1 | hb1
  · skip
    rcases Bool.eq_false_or_eq_true ((partyM F G C e).fst.fst == (0 : Int) && ((partyM F G C e).fst.snd == (0 : Int) && true)) with hb2 | hb2
    · skip
      exact go_ret O18_ok Try.func6 (r' := .one (.raw (.bool true))) (cs := [(((partyM F G C e).snd != (0 : Int)) = true), (((partyM F G C e).fst.fst == (0 : Int) && ((partyM F G C e).fst.snd == (0 : Int) && true)) = true)]) [true,true] (by kernel_rfl) ⟨hb1, hb2, trivial⟩ (by first | rfl | (exfalso; simp at hb1; simp [party_none hb1] at hb2)) hsim
    · skip
      exact go_ret O18_ok Try.func6 (r' := .one (.raw (.bool false))) (cs := [(((partyM F G C e).snd != (0 : Int)) = true), (((partyM F G C e).fst.fst == (0 : Int) && ((partyM F G C e).fst.snd == (0 : Int) && true)) = false)]) [true,false] (by kernel_rfl) ⟨hb1, hb2, trivial⟩ (by first | rfl | (exfalso; simp at hb1; simp [party_none hb1] at hb2)) hsim
  · skip
    refine go_head O18_ok (k' := loopAt Try.f6 0) (s' := mk 65 [(1, .d (.raw (.int .i64 (e)))), (5, .ref 5 (0)), (7, .d (.raw (.int .i64 ((endM F G C (partyM F G C e).fst.fst (partyM F G C e).fst.snd).fst)))), (8, .d (.raw (.int .i64 ((endM F G C (partyM F G C e).fst.fst (partyM F G C e).fst.snd).snd)))), (9, .known false), (35, .d (.list 1 ((if (partyM F G C e).fst.fst < (0 : Int) then [] else groupL F G C (partyM F G C e).fst.fst (-1 : Int)).length) (fun i => I ((if (partyM F G C e).fst.fst < (0 : Int) then [] else groupL F G C (partyM F G C e).fst.fst (-1 : Int)).getD i default)))), (36, .d (.raw (.int .i64 ((↑(if (partyM F G C e).fst.fst < (0 : Int) then [] else groupL F G C (partyM F G C e).fst.fst (-1 : Int)).length : Int))))), (37, .d (.raw (.int .i64 ((0 : Int)))))] [(5, ⟨40, [.d (.raw (.int .i64 ((partyM F G C e).fst.fst))), .d (.raw (.int .i64 ((partyM F G C e).fst.snd)))]⟩)] []) (cs := [(((partyM F G C e).snd != (0 : Int)) = false)]) [false] [1,5,7,8,9,35,36,37] [5] [] (by kernel_rfl) ⟨hb1, trivial⟩ hsim fun E a w hsim => ?_
    have h0 : (partyM F G C e).2 = 0 := by simpa using hb1
    have hbk := back_end h0
    exact f6_loop e (partyM F G C e).1.1 (partyM F G C e).1.2 _ _ (if (partyM F G C e).1.1 < 0 then [] else groupL F G C (partyM F G C e).1.1 (-1)) (by rw [hbk]) (by rw [hbk]) (back_mem h0) (back_len F G C e) _ 0 false E a w (by simp) (Nat.zero_add _) (hsim.unknow 9 rfl)
end Go.Ros
