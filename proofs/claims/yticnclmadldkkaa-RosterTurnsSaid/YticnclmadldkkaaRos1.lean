/-
  Contracts of the given functions, and the statement's own walk. No condition.
-/
import Derived.Test.YticnclmadldkkaaRosM
import Derived.Test.YticnclmadldkkaaProg
namespace Go.Ros
open Go Go.Abs Go.Proofs
set_option linter.unusedVariables false
theorem w64 {x : Int} (h : -9223372036854775808 ≤ x ∧ x ≤ 9223372036854775807) : IntKind.i64.wrap x = x := by
  rw [IntKind.wrap_i64]; omega
theorem right_iff {F G C : Int} : right F G C = true ↔ 0 ≤ F ∧ F ≤ 3 ∧ 1 ≤ G ∧ G ≤ 4 ∧ 1 ≤ C ∧ C ≤ 8 := by simp [right]
theorem f8_ok (F G C : Int) : PureSpec Try.prog 8 [ros F G C] (.one (I (if right F G C then 0 else 1))) := by
  refine pure_fn Try.func8 rfl fun {w N E a} hsim => ?_
  rcases Bool.eq_false_or_eq_true (decide (F < (0 : Int))) with hb1 | hb1
  · skip
    exact go_ret OrcOK.none Try.func8 (r' := .one (.raw (.int .i64 ((1 : Int))))) (cs := [((decide (F < (0 : Int))) = true)]) [true] (by kernel_rfl) ⟨hb1, trivial⟩ (by simp [I, right]; simp at *; omega) hsim
  · skip
    rcases Bool.eq_false_or_eq_true (decide (F > (3 : Int))) with hb2 | hb2
    · skip
      exact go_ret OrcOK.none Try.func8 (r' := .one (.raw (.int .i64 ((1 : Int))))) (cs := [((decide (F < (0 : Int))) = false), ((decide (F > (3 : Int))) = true)]) [false,true] (by kernel_rfl) ⟨hb1, hb2, trivial⟩ (by simp [I, right]; simp at *; omega) hsim
    · skip
      rcases Bool.eq_false_or_eq_true (decide (G < (1 : Int))) with hb3 | hb3
      · skip
        exact go_ret OrcOK.none Try.func8 (r' := .one (.raw (.int .i64 ((1 : Int))))) (cs := [((decide (F < (0 : Int))) = false), ((decide (F > (3 : Int))) = false), ((decide (G < (1 : Int))) = true)]) [false,false,true] (by kernel_rfl) ⟨hb1, hb2, hb3, trivial⟩ (by simp [I, right]; simp at *; omega) hsim
      · skip
        rcases Bool.eq_false_or_eq_true (decide (G > (4 : Int))) with hb4 | hb4
        · skip
          exact go_ret OrcOK.none Try.func8 (r' := .one (.raw (.int .i64 ((1 : Int))))) (cs := [((decide (F < (0 : Int))) = false), ((decide (F > (3 : Int))) = false), ((decide (G < (1 : Int))) = false), ((decide (G > (4 : Int))) = true)]) [false,false,false,true] (by kernel_rfl) ⟨hb1, hb2, hb3, hb4, trivial⟩ (by simp [I, right]; simp at *; omega) hsim
        · skip
          rcases Bool.eq_false_or_eq_true (decide (C < (1 : Int))) with hb5 | hb5
          · skip
            exact go_ret OrcOK.none Try.func8 (r' := .one (.raw (.int .i64 ((1 : Int))))) (cs := [((decide (F < (0 : Int))) = false), ((decide (F > (3 : Int))) = false), ((decide (G < (1 : Int))) = false), ((decide (G > (4 : Int))) = false), ((decide (C < (1 : Int))) = true)]) [false,false,false,false,true] (by kernel_rfl) ⟨hb1, hb2, hb3, hb4, hb5, trivial⟩ (by simp [I, right]; simp at *; omega) hsim
          · skip
            rcases Bool.eq_false_or_eq_true (decide (C > (8 : Int))) with hb6 | hb6
            · skip
              exact go_ret OrcOK.none Try.func8 (r' := .one (.raw (.int .i64 ((1 : Int))))) (cs := [((decide (F < (0 : Int))) = false), ((decide (F > (3 : Int))) = false), ((decide (G < (1 : Int))) = false), ((decide (G > (4 : Int))) = false), ((decide (C < (1 : Int))) = false), ((decide (C > (8 : Int))) = true)]) [false,false,false,false,false,true] (by kernel_rfl) ⟨hb1, hb2, hb3, hb4, hb5, hb6, trivial⟩ (by simp [I, right]; simp at *; omega) hsim
            · skip
              exact go_ret OrcOK.none Try.func8 (r' := .one (.raw (.int .i64 ((0 : Int))))) (cs := [((decide (F < (0 : Int))) = false), ((decide (F > (3 : Int))) = false), ((decide (G < (1 : Int))) = false), ((decide (G > (4 : Int))) = false), ((decide (C < (1 : Int))) = false), ((decide (C > (8 : Int))) = false)]) [false,false,false,false,false,false] (by kernel_rfl) ⟨hb1, hb2, hb3, hb4, hb5, hb6, trivial⟩ (by simp [I, right]; simp at *; omega) hsim
theorem O8_ok : OrcOK Try.prog O8 := OrcOK.none.add 8 m8 fun args r cs h hc => by
  unfold m8 at h; split at h
  · cases h; exact f8_ok _ _ _
  · cases h
theorem f26_ok (F G C x : Int) : PureSpec Try.prog 26 [ros F G C, I x] (.one (I (onlyM F G C x))) := by
  refine pure_fn Try.func26 rfl fun {w N E a} hsim => ?_
  rcases Bool.eq_false_or_eq_true ((if right F G C = true then (0 : Int) else (1 : Int)) != (0 : Int)) with hb1 | hb1
  · skip
    exact go_ret O8_ok Try.func26 (r' := .one (.raw (.int .i64 ((0 : Int))))) (cs := [(((if right F G C = true then (0 : Int) else (1 : Int)) != (0 : Int)) = true)]) [true] (by kernel_rfl) ⟨hb1, trivial⟩ (by cases hR : right F G C <;> simp_all [onlyM, I]) hsim
  · skip
    exact go_ret O8_ok Try.func26 (r' := .one (.raw (.int .i64 (x)))) (cs := [(((if right F G C = true then (0 : Int) else (1 : Int)) != (0 : Int)) = false)]) [false] (by kernel_rfl) ⟨hb1, trivial⟩ (by cases hR : right F G C <;> simp_all [onlyM, I]) hsim
theorem O26_ok : OrcOK Try.prog O26 := O8_ok.add 26 m26 fun args r cs h hc => by
  unfold m26 at h; split at h
  · cases h; exact f26_ok _ _ _ _
  · cases h
theorem f10_ok (F G C : Int) : PureSpec Try.prog 10 [ros F G C] (.one (I (nM F G C))) := by
  refine pure_fn Try.func10 rfl fun {w N E a} hsim => ?_
  have hm : onlyM F G C (IntKind.i64.wrap (IntKind.i64.wrap (3 * F) + 1)) = nM F G C := by
    unfold nM onlyM; split
    · rename_i h; rw [right_iff] at h; rw [w64 (x := 3 * F) (by omega), w64 (by omega)]
    · rfl
  exact go_ret O26_ok Try.func10 (r' := .one (.raw (.int .i64 (onlyM F G C (IntKind.i64.wrap (IntKind.i64.wrap ((3 : Int) * F) + (1 : Int))))))) (cs := []) [] (by kernel_rfl) trivial (by rw [hm]; rfl) hsim
theorem O10_ok : OrcOK Try.prog O10 := O26_ok.add 10 m10 fun args r cs h hc => by
  unfold m10 at h; split at h
  · cases h; exact f10_ok _ _ _
  · cases h
theorem f16_ok (F G C : Int) : PureSpec Try.prog 16 [ros F G C] (.one (I (endsM F G C))) := by
  refine pure_fn Try.func16 rfl fun {w N E a} hsim => ?_
  have hm : IntKind.i64.wrap (IntKind.i64.wrap (nM F G C * IntKind.i64.wrap (G + 1)) + onlyM F G C C) = endsM F G C := by
    unfold nM endsM onlyM; split
    · rename_i h; rw [right_iff] at h
      obtain ⟨h1, h2, h3, h4, h5, h6⟩ := h
      have hmul : (3 * F + 1) * (G + 1) ≤ 10 * 5 := Int.mul_le_mul (by omega) (by omega) (by omega) (by omega)
      have hpos : 0 ≤ (3 * F + 1) * (G + 1) := Int.mul_nonneg (by omega) (by omega)
      rw [w64 (x := G + 1) (by omega), w64 (x := (3 * F + 1) * (G + 1)) (by omega), w64 (by omega)]
    · simp [w64]
  exact go_ret O10_ok Try.func16 (r' := .one (.raw (.int .i64 (IntKind.i64.wrap (IntKind.i64.wrap (nM F G C * IntKind.i64.wrap (G + (1 : Int))) + onlyM F G C C))))) (cs := []) [] (by kernel_rfl) trivial (by rw [hm]; rfl) hsim
theorem O16_ok : OrcOK Try.prog O16 := O10_ok.add 16 m16 fun args r cs h hc => by
  unfold m16 at h; split at h
  · cases h; exact f16_ok _ _ _
  · cases h
theorem nM_right {F G C : Int} (h : right F G C = true) : nM F G C = 3 * F + 1 := by simp [nM, onlyM, h]
theorem nM_wrong {F G C : Int} (h : right F G C = false) : nM F G C = 0 := by simp [nM, onlyM, h]
theorem mul_bd {F G x : Int} (h1 : 0 ≤ F) (h2 : F ≤ 3) (h3 : 0 ≤ x) (h4 : x ≤ 5) : 0 ≤ (3 * F + 1) * x ∧ (3 * F + 1) * x ≤ 50 :=
  ⟨Int.mul_nonneg (by omega) h3, by have : (3 * F + 1) * x ≤ 10 * 5 := Int.mul_le_mul (by omega) h4 h3 (by omega); omega⟩
theorem f19_ok (F G C g i : Int) : PureSpec Try.prog 19 [ros F G C, pty g i] (.tup [I (endM F G C g i).1, I (endM F G C g i).2]) := by
  refine pure_fn Try.func19 rfl fun {w N E a} hsim => ?_
  cases hR : right F G C with
  | false =>
    have hn := nM_wrong hR
    rcases Bool.eq_false_or_eq_true (nM F G C == (0 : Int)) with hb1 | hb1
    · skip
      exact go_ret O10_ok Try.func19 (r' := .tup [.raw (.int .i64 ((0 : Int))), .raw (.int .i64 ((1 : Int)))]) (cs := [((nM F G C == (0 : Int)) = true)]) [true] (by kernel_rfl) ⟨hb1, trivial⟩ (by first | (exfalso; rw [hn] at hb1; cases hb1; done) | (simp [endM, hR, I])) hsim
    · skip
      rcases Bool.eq_false_or_eq_true (g == (-1 : Int)) with hb2 | hb2
      · skip
        rcases Bool.eq_false_or_eq_true (decide (i ≥ (0 : Int))) with hb3 | hb3
        · skip
          rcases Bool.eq_false_or_eq_true (decide (i < C)) with hb4 | hb4
          · skip
            exact go_ret O10_ok Try.func19 (r' := .tup [.raw (.int .i64 (IntKind.i64.wrap (IntKind.i64.wrap (nM F G C * IntKind.i64.wrap (G + (1 : Int))) + i))), .raw (.int .i64 ((0 : Int)))]) (cs := [((nM F G C == (0 : Int)) = false), ((g == (-1 : Int)) = true), ((decide (i ≥ (0 : Int))) = true), ((decide (i < C)) = true)]) [false,true,true,true] (by kernel_rfl) ⟨hb1, hb2, hb3, hb4, trivial⟩ (by first | (exfalso; rw [hn] at hb1; cases hb1; done) | (simp [endM, hR, I])) hsim
          · skip
            rcases Bool.eq_false_or_eq_true (decide (g ≥ (0 : Int))) with hb5 | hb5
            · skip
              rcases Bool.eq_false_or_eq_true (decide (g ≤ G)) with hb6 | hb6
              · skip
                rcases Bool.eq_false_or_eq_true (decide (i < nM F G C)) with hb7 | hb7
                · skip
                  exact go_ret O10_ok Try.func19 (r' := .tup [.raw (.int .i64 (IntKind.i64.wrap (IntKind.i64.wrap (nM F G C * g) + i))), .raw (.int .i64 ((0 : Int)))]) (cs := [((nM F G C == (0 : Int)) = false), ((g == (-1 : Int)) = true), ((decide (i ≥ (0 : Int))) = true), ((decide (i < C)) = false), ((decide (g ≥ (0 : Int))) = true), ((decide (g ≤ G)) = true), ((decide (i ≥ (0 : Int))) = true), ((decide (i < nM F G C)) = true)]) [false,true,true,false,true,true,true,true] (by kernel_rfl) ⟨hb1, hb2, hb3, hb4, hb5, hb6, hb3, hb7, trivial⟩ (by first | (exfalso; rw [hn] at hb1; cases hb1; done) | (simp [endM, hR, I])) hsim
                · skip
                  exact go_ret O10_ok Try.func19 (r' := .tup [.raw (.int .i64 ((0 : Int))), .raw (.int .i64 ((6 : Int)))]) (cs := [((nM F G C == (0 : Int)) = false), ((g == (-1 : Int)) = true), ((decide (i ≥ (0 : Int))) = true), ((decide (i < C)) = false), ((decide (g ≥ (0 : Int))) = true), ((decide (g ≤ G)) = true), ((decide (i ≥ (0 : Int))) = true), ((decide (i < nM F G C)) = false)]) [false,true,true,false,true,true,true,false] (by kernel_rfl) ⟨hb1, hb2, hb3, hb4, hb5, hb6, hb3, hb7, trivial⟩ (by first | (exfalso; rw [hn] at hb1; cases hb1; done) | (simp [endM, hR, I])) hsim
              · skip
                exact go_ret O10_ok Try.func19 (r' := .tup [.raw (.int .i64 ((0 : Int))), .raw (.int .i64 ((6 : Int)))]) (cs := [((nM F G C == (0 : Int)) = false), ((g == (-1 : Int)) = true), ((decide (i ≥ (0 : Int))) = true), ((decide (i < C)) = false), ((decide (g ≥ (0 : Int))) = true), ((decide (g ≤ G)) = false)]) [false,true,true,false,true,false] (by kernel_rfl) ⟨hb1, hb2, hb3, hb4, hb5, hb6, trivial⟩ (by first | (exfalso; rw [hn] at hb1; cases hb1; done) | (simp [endM, hR, I])) hsim
            · skip
              exact go_ret O10_ok Try.func19 (r' := .tup [.raw (.int .i64 ((0 : Int))), .raw (.int .i64 ((6 : Int)))]) (cs := [((nM F G C == (0 : Int)) = false), ((g == (-1 : Int)) = true), ((decide (i ≥ (0 : Int))) = true), ((decide (i < C)) = false), ((decide (g ≥ (0 : Int))) = false)]) [false,true,true,false,false] (by kernel_rfl) ⟨hb1, hb2, hb3, hb4, hb5, trivial⟩ (by first | (exfalso; rw [hn] at hb1; cases hb1; done) | (simp [endM, hR, I])) hsim
        · skip
          rcases Bool.eq_false_or_eq_true (decide (g ≥ (0 : Int))) with hb8 | hb8
          · skip
            rcases Bool.eq_false_or_eq_true (decide (g ≤ G)) with hb9 | hb9
            · skip
              exact go_ret O10_ok Try.func19 (r' := .tup [.raw (.int .i64 ((0 : Int))), .raw (.int .i64 ((6 : Int)))]) (cs := [((nM F G C == (0 : Int)) = false), ((g == (-1 : Int)) = true), ((decide (i ≥ (0 : Int))) = false), ((decide (g ≥ (0 : Int))) = true), ((decide (g ≤ G)) = true), ((decide (i ≥ (0 : Int))) = false)]) [false,true,false,true,true,false] (by kernel_rfl) ⟨hb1, hb2, hb3, hb8, hb9, hb3, trivial⟩ (by first | (exfalso; rw [hn] at hb1; cases hb1; done) | (simp [endM, hR, I])) hsim
            · skip
              exact go_ret O10_ok Try.func19 (r' := .tup [.raw (.int .i64 ((0 : Int))), .raw (.int .i64 ((6 : Int)))]) (cs := [((nM F G C == (0 : Int)) = false), ((g == (-1 : Int)) = true), ((decide (i ≥ (0 : Int))) = false), ((decide (g ≥ (0 : Int))) = true), ((decide (g ≤ G)) = false)]) [false,true,false,true,false] (by kernel_rfl) ⟨hb1, hb2, hb3, hb8, hb9, trivial⟩ (by first | (exfalso; rw [hn] at hb1; cases hb1; done) | (simp [endM, hR, I])) hsim
          · skip
            exact go_ret O10_ok Try.func19 (r' := .tup [.raw (.int .i64 ((0 : Int))), .raw (.int .i64 ((6 : Int)))]) (cs := [((nM F G C == (0 : Int)) = false), ((g == (-1 : Int)) = true), ((decide (i ≥ (0 : Int))) = false), ((decide (g ≥ (0 : Int))) = false)]) [false,true,false,false] (by kernel_rfl) ⟨hb1, hb2, hb3, hb8, trivial⟩ (by first | (exfalso; rw [hn] at hb1; cases hb1; done) | (simp [endM, hR, I])) hsim
      · skip
        rcases Bool.eq_false_or_eq_true (decide (g ≥ (0 : Int))) with hb10 | hb10
        · skip
          rcases Bool.eq_false_or_eq_true (decide (g ≤ G)) with hb11 | hb11
          · skip
            rcases Bool.eq_false_or_eq_true (decide (i ≥ (0 : Int))) with hb12 | hb12
            · skip
              rcases Bool.eq_false_or_eq_true (decide (i < nM F G C)) with hb13 | hb13
              · skip
                exact go_ret O10_ok Try.func19 (r' := .tup [.raw (.int .i64 (IntKind.i64.wrap (IntKind.i64.wrap (nM F G C * g) + i))), .raw (.int .i64 ((0 : Int)))]) (cs := [((nM F G C == (0 : Int)) = false), ((g == (-1 : Int)) = false), ((decide (g ≥ (0 : Int))) = true), ((decide (g ≤ G)) = true), ((decide (i ≥ (0 : Int))) = true), ((decide (i < nM F G C)) = true)]) [false,false,true,true,true,true] (by kernel_rfl) ⟨hb1, hb2, hb10, hb11, hb12, hb13, trivial⟩ (by first | (exfalso; rw [hn] at hb1; cases hb1; done) | (simp [endM, hR, I])) hsim
              · skip
                exact go_ret O10_ok Try.func19 (r' := .tup [.raw (.int .i64 ((0 : Int))), .raw (.int .i64 ((6 : Int)))]) (cs := [((nM F G C == (0 : Int)) = false), ((g == (-1 : Int)) = false), ((decide (g ≥ (0 : Int))) = true), ((decide (g ≤ G)) = true), ((decide (i ≥ (0 : Int))) = true), ((decide (i < nM F G C)) = false)]) [false,false,true,true,true,false] (by kernel_rfl) ⟨hb1, hb2, hb10, hb11, hb12, hb13, trivial⟩ (by first | (exfalso; rw [hn] at hb1; cases hb1; done) | (simp [endM, hR, I])) hsim
            · skip
              exact go_ret O10_ok Try.func19 (r' := .tup [.raw (.int .i64 ((0 : Int))), .raw (.int .i64 ((6 : Int)))]) (cs := [((nM F G C == (0 : Int)) = false), ((g == (-1 : Int)) = false), ((decide (g ≥ (0 : Int))) = true), ((decide (g ≤ G)) = true), ((decide (i ≥ (0 : Int))) = false)]) [false,false,true,true,false] (by kernel_rfl) ⟨hb1, hb2, hb10, hb11, hb12, trivial⟩ (by first | (exfalso; rw [hn] at hb1; cases hb1; done) | (simp [endM, hR, I])) hsim
          · skip
            exact go_ret O10_ok Try.func19 (r' := .tup [.raw (.int .i64 ((0 : Int))), .raw (.int .i64 ((6 : Int)))]) (cs := [((nM F G C == (0 : Int)) = false), ((g == (-1 : Int)) = false), ((decide (g ≥ (0 : Int))) = true), ((decide (g ≤ G)) = false)]) [false,false,true,false] (by kernel_rfl) ⟨hb1, hb2, hb10, hb11, trivial⟩ (by first | (exfalso; rw [hn] at hb1; cases hb1; done) | (simp [endM, hR, I])) hsim
        · skip
          exact go_ret O10_ok Try.func19 (r' := .tup [.raw (.int .i64 ((0 : Int))), .raw (.int .i64 ((6 : Int)))]) (cs := [((nM F G C == (0 : Int)) = false), ((g == (-1 : Int)) = false), ((decide (g ≥ (0 : Int))) = false)]) [false,false,false] (by kernel_rfl) ⟨hb1, hb2, hb10, trivial⟩ (by first | (exfalso; rw [hn] at hb1; cases hb1; done) | (simp [endM, hR, I])) hsim
  | true =>
    have hn := nM_right hR
    have hr := right_iff.1 hR
    have e1 : 0 ≤ i → i < C → IntKind.i64.wrap (IntKind.i64.wrap (nM F G C * IntKind.i64.wrap (G + 1)) + i) = (3 * F + 1) * (G + 1) + i := fun h1 h2 => by
      have := mul_bd (G := G) hr.1 hr.2.1 (x := G + 1) (by omega) (by omega)
      rw [hn, w64 (x := G + 1) (by omega), w64 (x := (3 * F + 1) * (G + 1)) (by omega), w64 (by omega)]
    have e2 : 0 ≤ g → g ≤ G → 0 ≤ i → i < 3 * F + 1 → IntKind.i64.wrap (IntKind.i64.wrap (nM F G C * g) + i) = (3 * F + 1) * g + i := fun h1 h2 h3 h4 => by
      have := mul_bd (G := G) hr.1 hr.2.1 (x := g) (by omega) (by omega)
      rw [hn, w64 (x := (3 * F + 1) * g) (by omega), w64 (by omega)]
    have fin : ∀ (a b : Int), (a, b) = endM F G C g i → Ret.tup [D.raw (Value.int IntKind.i64 a), D.raw (Value.int IntKind.i64 b)] = Ret.tup [I (endM F G C g i).1, I (endM F G C g i).2] := fun a b h => by rw [← h]; rfl
    rcases Bool.eq_false_or_eq_true (nM F G C == (0 : Int)) with hb1 | hb1
    · skip
      exact go_ret O10_ok Try.func19 (r' := .tup [.raw (.int .i64 ((0 : Int))), .raw (.int .i64 ((1 : Int)))]) (cs := [((nM F G C == (0 : Int)) = true)]) [true] (by kernel_rfl) ⟨hb1, trivial⟩ (by (try rw [hn] at *); simp at *; refine fin _ _ ?_; simp only [endM, hR, if_true]; first | omega | (rw [e1 (by omega) (by omega), if_pos (by omega)]; done) | (rw [e2 (by omega) (by omega) (by omega) (by omega), if_neg (by omega), if_pos (by omega)]; done) | (rw [if_neg (by omega), if_neg (by omega)]; done)) hsim
    · skip
      rcases Bool.eq_false_or_eq_true (g == (-1 : Int)) with hb2 | hb2
      · skip
        rcases Bool.eq_false_or_eq_true (decide (i ≥ (0 : Int))) with hb3 | hb3
        · skip
          rcases Bool.eq_false_or_eq_true (decide (i < C)) with hb4 | hb4
          · skip
            exact go_ret O10_ok Try.func19 (r' := .tup [.raw (.int .i64 (IntKind.i64.wrap (IntKind.i64.wrap (nM F G C * IntKind.i64.wrap (G + (1 : Int))) + i))), .raw (.int .i64 ((0 : Int)))]) (cs := [((nM F G C == (0 : Int)) = false), ((g == (-1 : Int)) = true), ((decide (i ≥ (0 : Int))) = true), ((decide (i < C)) = true)]) [false,true,true,true] (by kernel_rfl) ⟨hb1, hb2, hb3, hb4, trivial⟩ (by (try rw [hn] at *); simp at *; refine fin _ _ ?_; simp only [endM, hR, if_true]; first | omega | (rw [e1 (by omega) (by omega), if_pos (by omega)]; done) | (rw [e2 (by omega) (by omega) (by omega) (by omega), if_neg (by omega), if_pos (by omega)]; done) | (rw [if_neg (by omega), if_neg (by omega)]; done)) hsim
          · skip
            rcases Bool.eq_false_or_eq_true (decide (g ≥ (0 : Int))) with hb5 | hb5
            · skip
              rcases Bool.eq_false_or_eq_true (decide (g ≤ G)) with hb6 | hb6
              · skip
                rcases Bool.eq_false_or_eq_true (decide (i < nM F G C)) with hb7 | hb7
                · skip
                  exact go_ret O10_ok Try.func19 (r' := .tup [.raw (.int .i64 (IntKind.i64.wrap (IntKind.i64.wrap (nM F G C * g) + i))), .raw (.int .i64 ((0 : Int)))]) (cs := [((nM F G C == (0 : Int)) = false), ((g == (-1 : Int)) = true), ((decide (i ≥ (0 : Int))) = true), ((decide (i < C)) = false), ((decide (g ≥ (0 : Int))) = true), ((decide (g ≤ G)) = true), ((decide (i ≥ (0 : Int))) = true), ((decide (i < nM F G C)) = true)]) [false,true,true,false,true,true,true,true] (by kernel_rfl) ⟨hb1, hb2, hb3, hb4, hb5, hb6, hb3, hb7, trivial⟩ (by (try rw [hn] at *); simp at *; refine fin _ _ ?_; simp only [endM, hR, if_true]; first | omega | (rw [e1 (by omega) (by omega), if_pos (by omega)]; done) | (rw [e2 (by omega) (by omega) (by omega) (by omega), if_neg (by omega), if_pos (by omega)]; done) | (rw [if_neg (by omega), if_neg (by omega)]; done)) hsim
                · skip
                  exact go_ret O10_ok Try.func19 (r' := .tup [.raw (.int .i64 ((0 : Int))), .raw (.int .i64 ((6 : Int)))]) (cs := [((nM F G C == (0 : Int)) = false), ((g == (-1 : Int)) = true), ((decide (i ≥ (0 : Int))) = true), ((decide (i < C)) = false), ((decide (g ≥ (0 : Int))) = true), ((decide (g ≤ G)) = true), ((decide (i ≥ (0 : Int))) = true), ((decide (i < nM F G C)) = false)]) [false,true,true,false,true,true,true,false] (by kernel_rfl) ⟨hb1, hb2, hb3, hb4, hb5, hb6, hb3, hb7, trivial⟩ (by (try rw [hn] at *); simp at *; refine fin _ _ ?_; simp only [endM, hR, if_true]; first | omega | (rw [e1 (by omega) (by omega), if_pos (by omega)]; done) | (rw [e2 (by omega) (by omega) (by omega) (by omega), if_neg (by omega), if_pos (by omega)]; done) | (rw [if_neg (by omega), if_neg (by omega)]; done)) hsim
              · skip
                exact go_ret O10_ok Try.func19 (r' := .tup [.raw (.int .i64 ((0 : Int))), .raw (.int .i64 ((6 : Int)))]) (cs := [((nM F G C == (0 : Int)) = false), ((g == (-1 : Int)) = true), ((decide (i ≥ (0 : Int))) = true), ((decide (i < C)) = false), ((decide (g ≥ (0 : Int))) = true), ((decide (g ≤ G)) = false)]) [false,true,true,false,true,false] (by kernel_rfl) ⟨hb1, hb2, hb3, hb4, hb5, hb6, trivial⟩ (by (try rw [hn] at *); simp at *; refine fin _ _ ?_; simp only [endM, hR, if_true]; first | omega | (rw [e1 (by omega) (by omega), if_pos (by omega)]; done) | (rw [e2 (by omega) (by omega) (by omega) (by omega), if_neg (by omega), if_pos (by omega)]; done) | (rw [if_neg (by omega), if_neg (by omega)]; done)) hsim
            · skip
              exact go_ret O10_ok Try.func19 (r' := .tup [.raw (.int .i64 ((0 : Int))), .raw (.int .i64 ((6 : Int)))]) (cs := [((nM F G C == (0 : Int)) = false), ((g == (-1 : Int)) = true), ((decide (i ≥ (0 : Int))) = true), ((decide (i < C)) = false), ((decide (g ≥ (0 : Int))) = false)]) [false,true,true,false,false] (by kernel_rfl) ⟨hb1, hb2, hb3, hb4, hb5, trivial⟩ (by (try rw [hn] at *); simp at *; refine fin _ _ ?_; simp only [endM, hR, if_true]; first | omega | (rw [e1 (by omega) (by omega), if_pos (by omega)]; done) | (rw [e2 (by omega) (by omega) (by omega) (by omega), if_neg (by omega), if_pos (by omega)]; done) | (rw [if_neg (by omega), if_neg (by omega)]; done)) hsim
        · skip
          rcases Bool.eq_false_or_eq_true (decide (g ≥ (0 : Int))) with hb8 | hb8
          · skip
            rcases Bool.eq_false_or_eq_true (decide (g ≤ G)) with hb9 | hb9
            · skip
              exact go_ret O10_ok Try.func19 (r' := .tup [.raw (.int .i64 ((0 : Int))), .raw (.int .i64 ((6 : Int)))]) (cs := [((nM F G C == (0 : Int)) = false), ((g == (-1 : Int)) = true), ((decide (i ≥ (0 : Int))) = false), ((decide (g ≥ (0 : Int))) = true), ((decide (g ≤ G)) = true), ((decide (i ≥ (0 : Int))) = false)]) [false,true,false,true,true,false] (by kernel_rfl) ⟨hb1, hb2, hb3, hb8, hb9, hb3, trivial⟩ (by (try rw [hn] at *); simp at *; refine fin _ _ ?_; simp only [endM, hR, if_true]; first | omega | (rw [e1 (by omega) (by omega), if_pos (by omega)]; done) | (rw [e2 (by omega) (by omega) (by omega) (by omega), if_neg (by omega), if_pos (by omega)]; done) | (rw [if_neg (by omega), if_neg (by omega)]; done)) hsim
            · skip
              exact go_ret O10_ok Try.func19 (r' := .tup [.raw (.int .i64 ((0 : Int))), .raw (.int .i64 ((6 : Int)))]) (cs := [((nM F G C == (0 : Int)) = false), ((g == (-1 : Int)) = true), ((decide (i ≥ (0 : Int))) = false), ((decide (g ≥ (0 : Int))) = true), ((decide (g ≤ G)) = false)]) [false,true,false,true,false] (by kernel_rfl) ⟨hb1, hb2, hb3, hb8, hb9, trivial⟩ (by (try rw [hn] at *); simp at *; refine fin _ _ ?_; simp only [endM, hR, if_true]; first | omega | (rw [e1 (by omega) (by omega), if_pos (by omega)]; done) | (rw [e2 (by omega) (by omega) (by omega) (by omega), if_neg (by omega), if_pos (by omega)]; done) | (rw [if_neg (by omega), if_neg (by omega)]; done)) hsim
          · skip
            exact go_ret O10_ok Try.func19 (r' := .tup [.raw (.int .i64 ((0 : Int))), .raw (.int .i64 ((6 : Int)))]) (cs := [((nM F G C == (0 : Int)) = false), ((g == (-1 : Int)) = true), ((decide (i ≥ (0 : Int))) = false), ((decide (g ≥ (0 : Int))) = false)]) [false,true,false,false] (by kernel_rfl) ⟨hb1, hb2, hb3, hb8, trivial⟩ (by (try rw [hn] at *); simp at *; refine fin _ _ ?_; simp only [endM, hR, if_true]; first | omega | (rw [e1 (by omega) (by omega), if_pos (by omega)]; done) | (rw [e2 (by omega) (by omega) (by omega) (by omega), if_neg (by omega), if_pos (by omega)]; done) | (rw [if_neg (by omega), if_neg (by omega)]; done)) hsim
      · skip
        rcases Bool.eq_false_or_eq_true (decide (g ≥ (0 : Int))) with hb10 | hb10
        · skip
          rcases Bool.eq_false_or_eq_true (decide (g ≤ G)) with hb11 | hb11
          · skip
            rcases Bool.eq_false_or_eq_true (decide (i ≥ (0 : Int))) with hb12 | hb12
            · skip
              rcases Bool.eq_false_or_eq_true (decide (i < nM F G C)) with hb13 | hb13
              · skip
                exact go_ret O10_ok Try.func19 (r' := .tup [.raw (.int .i64 (IntKind.i64.wrap (IntKind.i64.wrap (nM F G C * g) + i))), .raw (.int .i64 ((0 : Int)))]) (cs := [((nM F G C == (0 : Int)) = false), ((g == (-1 : Int)) = false), ((decide (g ≥ (0 : Int))) = true), ((decide (g ≤ G)) = true), ((decide (i ≥ (0 : Int))) = true), ((decide (i < nM F G C)) = true)]) [false,false,true,true,true,true] (by kernel_rfl) ⟨hb1, hb2, hb10, hb11, hb12, hb13, trivial⟩ (by (try rw [hn] at *); simp at *; refine fin _ _ ?_; simp only [endM, hR, if_true]; first | omega | (rw [e1 (by omega) (by omega), if_pos (by omega)]; done) | (rw [e2 (by omega) (by omega) (by omega) (by omega), if_neg (by omega), if_pos (by omega)]; done) | (rw [if_neg (by omega), if_neg (by omega)]; done)) hsim
              · skip
                exact go_ret O10_ok Try.func19 (r' := .tup [.raw (.int .i64 ((0 : Int))), .raw (.int .i64 ((6 : Int)))]) (cs := [((nM F G C == (0 : Int)) = false), ((g == (-1 : Int)) = false), ((decide (g ≥ (0 : Int))) = true), ((decide (g ≤ G)) = true), ((decide (i ≥ (0 : Int))) = true), ((decide (i < nM F G C)) = false)]) [false,false,true,true,true,false] (by kernel_rfl) ⟨hb1, hb2, hb10, hb11, hb12, hb13, trivial⟩ (by (try rw [hn] at *); simp at *; refine fin _ _ ?_; simp only [endM, hR, if_true]; first | omega | (rw [e1 (by omega) (by omega), if_pos (by omega)]; done) | (rw [e2 (by omega) (by omega) (by omega) (by omega), if_neg (by omega), if_pos (by omega)]; done) | (rw [if_neg (by omega), if_neg (by omega)]; done)) hsim
            · skip
              exact go_ret O10_ok Try.func19 (r' := .tup [.raw (.int .i64 ((0 : Int))), .raw (.int .i64 ((6 : Int)))]) (cs := [((nM F G C == (0 : Int)) = false), ((g == (-1 : Int)) = false), ((decide (g ≥ (0 : Int))) = true), ((decide (g ≤ G)) = true), ((decide (i ≥ (0 : Int))) = false)]) [false,false,true,true,false] (by kernel_rfl) ⟨hb1, hb2, hb10, hb11, hb12, trivial⟩ (by (try rw [hn] at *); simp at *; refine fin _ _ ?_; simp only [endM, hR, if_true]; first | omega | (rw [e1 (by omega) (by omega), if_pos (by omega)]; done) | (rw [e2 (by omega) (by omega) (by omega) (by omega), if_neg (by omega), if_pos (by omega)]; done) | (rw [if_neg (by omega), if_neg (by omega)]; done)) hsim
          · skip
            exact go_ret O10_ok Try.func19 (r' := .tup [.raw (.int .i64 ((0 : Int))), .raw (.int .i64 ((6 : Int)))]) (cs := [((nM F G C == (0 : Int)) = false), ((g == (-1 : Int)) = false), ((decide (g ≥ (0 : Int))) = true), ((decide (g ≤ G)) = false)]) [false,false,true,false] (by kernel_rfl) ⟨hb1, hb2, hb10, hb11, trivial⟩ (by (try rw [hn] at *); simp at *; refine fin _ _ ?_; simp only [endM, hR, if_true]; first | omega | (rw [e1 (by omega) (by omega), if_pos (by omega)]; done) | (rw [e2 (by omega) (by omega) (by omega) (by omega), if_neg (by omega), if_pos (by omega)]; done) | (rw [if_neg (by omega), if_neg (by omega)]; done)) hsim
        · skip
          exact go_ret O10_ok Try.func19 (r' := .tup [.raw (.int .i64 ((0 : Int))), .raw (.int .i64 ((6 : Int)))]) (cs := [((nM F G C == (0 : Int)) = false), ((g == (-1 : Int)) = false), ((decide (g ≥ (0 : Int))) = false)]) [false,false,false] (by kernel_rfl) ⟨hb1, hb2, hb10, trivial⟩ (by (try rw [hn] at *); simp at *; refine fin _ _ ?_; simp only [endM, hR, if_true]; first | omega | (rw [e1 (by omega) (by omega), if_pos (by omega)]; done) | (rw [e2 (by omega) (by omega) (by omega) (by omega), if_neg (by omega), if_pos (by omega)]; done) | (rw [if_neg (by omega), if_neg (by omega)]; done)) hsim

theorem O19_ok : OrcOK Try.prog O19 := O16_ok.add 19 m19 fun args r cs h hc => by
  unfold m19 at h; split at h
  · cases h; exact f19_ok _ _ _ _ _
  · cases h
theorem f28_ok (f i : Int) : PureSpec Try.prog 28 [I f, I i] (.one (Bo (i != f))) := by
  refine pure_fn Try.func28 rfl fun {w N E a} hsim => ?_
  exact go_ret O19_ok Try.func28 (r' := .one (.raw (.bool (i != f)))) (cs := []) [] (by kernel_rfl) trivial (by rfl) hsim
theorem O28_ok : OrcOK Try.prog O28 := O19_ok.add 28 m28 fun args r cs h hc => by
  unfold m28 at h; split at h
  · cases h; exact f28_ok _ _
  · cases h
theorem endsL_succ (F G C g f : Int) (k : Nat) : endsL F G C g f (k + 1) = if (endM F G C g k).2 = 0 ∧ (k : Int) ≠ f then endsL F G C g f k ++ [(endM F G C g k).1] else endsL F G C g f k := by
  simp only [endsL, List.range_succ, List.filterMap_append]
  split <;> rename_i h <;> simp [List.filterMap_cons, h]
theorem nM_bd (F G C : Int) : 0 ≤ nM F G C ∧ nM F G C ≤ 10 := by
  unfold nM onlyM; split
  · rename_i h; rw [right_iff] at h; omega
  · omega
theorem endsL_len (F G C g f : Int) (k : Nat) : (endsL F G C g f k).length ≤ k := by
  have := List.length_filterMap_le (fun (i : Nat) => if (endM F G C g i).2 = 0 ∧ (i : Int) ≠ f then some (endM F G C g i).1 else none) (List.range k)
  simpa [endsL] using this
theorem f27_loop (F G C g f : Int) {w0 : World} {N : Nat → Prop} (d : Nat) : ∀ (k : Nat) (xs : List Int) (E : Env) (a : Act) (w : World), xs = endsL F G C g f k → k + d = (nM F G C).toNat → Sim w0.heap.size w0 N E (S27 F G C g f k xs) a w →
    Goes Try.prog 27 (loopAt Try.f27 0) (RPure w0 N (.one (L 1 I (groupL F G C g f)))) a w := by
  have hb := nM_bd F G C
  induction d with
  | zero =>
    intro k xs E a w hxs hk hsim
    have hk' : (k : Int) = nM F G C := by omega
    have hk2 : k = (nM F G C).toNat := by omega
    have hf : decide ((k : Int) < nM F G C) = false := by simp; omega
    exact go_ret O28_ok Try.func27 (r' := .one (.list 1 (((34 : Nat), LRow (3 : Nat) (1 : Nat) I xs).snd.n) (((34 : Nat), LRow (3 : Nat) (1 : Nat) I xs).snd.el))) (cs := [((decide ((↑k : Int) < nM F G C)) = false)]) [false] (by kernel_rfl) ⟨hf, trivial⟩ (by rw [hxs, hk2]; rfl) hsim
  | succ d ih =>
    intro k xs E a w hxs hk hsim
    have hlen := endsL_len F G C g f k
    rw [← hxs] at hlen
    have hf : decide ((k : Int) < nM F G C) = true := by simp; omega
    have hw : IntKind.i64.wrap ((k : Int) + 1) = ((k + 1 : Nat) : Int) := by rw [w64 (by omega)]; rfl
    have hs := endsL_succ F G C g f k
    rcases Bool.eq_false_or_eq_true ((endM F G C g (↑k : Int)).snd == (0 : Int)) with hb1 | hb1
    · skip
      rcases Bool.eq_false_or_eq_true ((↑k : Int) != f) with hb2 | hb2
      · skip
        refine go_head O28_ok (k' := loopAt Try.f27 0) (s' := mk 37 [(1, .d (.raw (.int .i64 (g)))), (2, .d (.raw (Value.func (Fn.func (28 : FuncId)) #[Value.int IntKind.i64 f] #[]))), (3, .ref 3 (0)), (7, .own 34), (12, .d (.raw (.int .i64 (nM F G C)))), (13, .d (.raw (.int .i64 (IntKind.i64.wrap ((↑k : Int) + (1 : Int))))))] [(3, ⟨23, [.d (.raw (.int .i64 (F))), .d (.raw (.int .i64 (G))), .d (.raw (.int .i64 (C)))]⟩)] [(34, ⟨3, 1, ((34 : Nat), LRow (3 : Nat) (1 : Nat) I xs).snd.n + (Row.mk (3 : Nat) Try.prog.types[(3 : Nat)].size (1 : Nat) (segD false Try.prog.types[(3 : Nat)].size (splice (List.map (fun j => (List.map D.raw (Value.int IntKind.i64 (0 : Int)).cells.toList).getD (j % (List.map D.raw (Value.int IntKind.i64 (0 : Int)).cells.toList).length) default) (List.range ((1 : Nat) * Try.prog.types[(3 : Nat)].size))) ((0 : Nat) * Try.prog.types[(3 : Nat)].size) (I (endM F G C g (↑k : Int)).fst).cells))).n, fun j => if j < ((34 : Nat), LRow (3 : Nat) (1 : Nat) I xs).snd.n then ((34 : Nat), LRow (3 : Nat) (1 : Nat) I xs).snd.el j else (Row.mk (3 : Nat) Try.prog.types[(3 : Nat)].size (1 : Nat) (segD false Try.prog.types[(3 : Nat)].size (splice (List.map (fun j => (List.map D.raw (Value.int IntKind.i64 (0 : Int)).cells.toList).getD (j % (List.map D.raw (Value.int IntKind.i64 (0 : Int)).cells.toList).length) default) (List.range ((1 : Nat) * Try.prog.types[(3 : Nat)].size))) ((0 : Nat) * Try.prog.types[(3 : Nat)].size) (I (endM F G C g (↑k : Int)).fst).cells))).el (j - ((34 : Nat), LRow (3 : Nat) (1 : Nat) I xs).snd.n)⟩)]) (cs := [((decide ((↑k : Int) < nM F G C)) = true), (((endM F G C g (↑k : Int)).snd == (0 : Int)) = true), (((↑k : Int) != f) = true), (((34 : Nat), LRow (3 : Nat) (1 : Nat) I xs).snd.n + (Row.mk (3 : Nat) Try.prog.types[(3 : Nat)].size (1 : Nat) (segD false Try.prog.types[(3 : Nat)].size (splice (List.map (fun j => (List.map D.raw (Value.int IntKind.i64 (0 : Int)).cells.toList).getD (j % (List.map D.raw (Value.int IntKind.i64 (0 : Int)).cells.toList).length) default) (List.range ((1 : Nat) * Try.prog.types[(3 : Nat)].size))) ((0 : Nat) * Try.prog.types[(3 : Nat)].size) (I (endM F G C g (↑k : Int)).fst).cells))).n ≤ (9223372036854775807 : Nat) ∧ (((34 : Nat), LRow (3 : Nat) (1 : Nat) I xs).snd.n + (Row.mk (3 : Nat) Try.prog.types[(3 : Nat)].size (1 : Nat) (segD false Try.prog.types[(3 : Nat)].size (splice (List.map (fun j => (List.map D.raw (Value.int IntKind.i64 (0 : Int)).cells.toList).getD (j % (List.map D.raw (Value.int IntKind.i64 (0 : Int)).cells.toList).length) default) (List.range ((1 : Nat) * Try.prog.types[(3 : Nat)].size))) ((0 : Nat) * Try.prog.types[(3 : Nat)].size) (I (endM F G C g (↑k : Int)).fst).cells))).n) * Try.prog.types[(3 : Nat)].bytes ≤ (140737488355328 : Nat))]) [true,true,true] [1,2,3,7,12,13] [3] [34] (by kernel_rfl) ⟨hf, hb1, hb2, (by show xs.length + 1 ≤ _ ∧ (xs.length + 1) * 8 ≤ _; omega), trivial⟩ hsim fun E a w hsim => ?_
        rw [hw] at hsim
        first | (refine ih (k + 1) xs E a w ?_ (by omega) hsim; rw [hs, if_neg (by simp_all)]; exact hxs) | (refine ih (k + 1) (xs ++ [(endM F G C g k).1]) E a w ?_ (by omega) (Sim.snoc I hsim 34 (T := 3) (sz := 1) (xs := xs) (x := (endM F G C g k).1) rfl fun i hi => snoc_el hi rfl); rw [hs, if_pos (by simp_all), hxs])
      · skip
        refine go_head O28_ok (k' := loopAt Try.f27 0) (s' := mk 37 [(1, .d (.raw (.int .i64 (g)))), (2, .d (.raw (Value.func (Fn.func (28 : FuncId)) #[Value.int IntKind.i64 f] #[]))), (3, .ref 3 (0)), (7, .own 34), (12, .d (.raw (.int .i64 (nM F G C)))), (13, .d (.raw (.int .i64 (IntKind.i64.wrap ((↑k : Int) + (1 : Int))))))] [(3, ⟨23, [.d (.raw (.int .i64 (F))), .d (.raw (.int .i64 (G))), .d (.raw (.int .i64 (C)))]⟩)] [(34, ⟨3, 1, xs.length, fun i => I (xs.getD i default)⟩)]) (cs := [((decide ((↑k : Int) < nM F G C)) = true), (((endM F G C g (↑k : Int)).snd == (0 : Int)) = true), (((↑k : Int) != f) = false)]) [true,true,false] [1,2,3,7,12,13] [3] [34] (by kernel_rfl) ⟨hf, hb1, hb2, trivial⟩ hsim fun E a w hsim => ?_
        rw [hw] at hsim
        first | (refine ih (k + 1) xs E a w ?_ (by omega) hsim; rw [hs, if_neg (by simp_all)]; exact hxs) | (refine ih (k + 1) (xs ++ [(endM F G C g k).1]) E a w ?_ (by omega) (Sim.snoc I hsim 34 (T := 3) (sz := 1) (xs := xs) (x := (endM F G C g k).1) rfl fun i hi => snoc_el hi rfl); rw [hs, if_pos (by simp_all), hxs])
    · skip
      refine go_head O28_ok (k' := loopAt Try.f27 0) (s' := mk 37 [(1, .d (.raw (.int .i64 (g)))), (2, .d (.raw (Value.func (Fn.func (28 : FuncId)) #[Value.int IntKind.i64 f] #[]))), (3, .ref 3 (0)), (7, .own 34), (12, .d (.raw (.int .i64 (nM F G C)))), (13, .d (.raw (.int .i64 (IntKind.i64.wrap ((↑k : Int) + (1 : Int))))))] [(3, ⟨23, [.d (.raw (.int .i64 (F))), .d (.raw (.int .i64 (G))), .d (.raw (.int .i64 (C)))]⟩)] [(34, ⟨3, 1, xs.length, fun i => I (xs.getD i default)⟩)]) (cs := [((decide ((↑k : Int) < nM F G C)) = true), (((endM F G C g (↑k : Int)).snd == (0 : Int)) = false)]) [true,false] [1,2,3,7,12,13] [3] [34] (by kernel_rfl) ⟨hf, hb1, trivial⟩ hsim fun E a w hsim => ?_
      rw [hw] at hsim
      first | (refine ih (k + 1) xs E a w ?_ (by omega) hsim; rw [hs, if_neg (by simp_all)]; exact hxs) | (refine ih (k + 1) (xs ++ [(endM F G C g k).1]) E a w ?_ (by omega) (Sim.snoc I hsim 34 (T := 3) (sz := 1) (xs := xs) (x := (endM F G C g k).1) rfl fun i hi => snoc_el hi rfl); rw [hs, if_pos (by simp_all), hxs])
theorem f27_ok (F G C g f : Int) : PureSpec Try.prog 27 [ros F G C, I g, fn28 f] (.one (L 1 I (groupL F G C g f))) := by
  refine pure_fn Try.func27 rfl fun {w N E a} hsim => ?_
  refine go_head O28_ok (k' := loopAt Try.f27 0) (s' := mk 37 [(1, .d (.raw (.int .i64 (g)))), (2, .d (.raw (Value.func (Fn.func (28 : FuncId)) #[Value.int IntKind.i64 f] #[]))), (3, .ref 3 (0)), (7, .d (.raw (Value.slice none (0 : Nat) (0 : Nat)))), (12, .d (.raw (.int .i64 (nM F G C)))), (13, .d (.raw (.int .i64 ((0 : Int)))))] [(3, ⟨23, [.d (.raw (.int .i64 (F))), .d (.raw (.int .i64 (G))), .d (.raw (.int .i64 (C)))]⟩)] []) (cs := []) [] [1,2,3,7,12,13] [3] [] (by kernel_rfl) trivial hsim fun E a w hsim => ?_
  obtain ⟨E', h2⟩ := hsim.adopt 7 34 3 1 (fun i => I (([] : List Int).getD i default)) (by show 34 < 37; omega) rfl
  exact f27_loop F G C g f (nM F G C).toNat 0 [] E' a w rfl (by omega) h2

theorem O27_ok : OrcOK Try.prog O27 := O28_ok.add 27 m27 fun args r cs h hc => by
  unfold m27 at h; split at h
  · rename_i F G C g fs ps
    split at h
    · rename_i f hf hp
      cases h
      have e1 : fs = #[.int .i64 f] := by apply Array.ext'; exact hf
      have e2 : ps = #[] := by apply Array.ext'; exact hp
      subst e1; subst e2
      exact f27_ok _ _ _ _ _
    · cases h
  · cases h
theorem f20_ok (F G C g : Int) : PureSpec Try.prog 20 [ros F G C, I g] (.one (L 1 I (if g < 0 then [] else groupL F G C g (-1)))) := by
  refine pure_fn Try.func20 rfl fun {w N E a} hsim => ?_
  rcases Bool.eq_false_or_eq_true (decide (g < (0 : Int))) with hb1 | hb1
  · skip
    exact go_says O27_ok Try.func20 (r' := .one (.raw (Value.slice none (0 : Nat) (0 : Nat)))) (cs := [((decide (g < (0 : Int))) = true)]) [true] (by kernel_rfl) ⟨hb1, trivial⟩ (by simp at hb1; first | exact says_nil 1 I (if_pos (by omega)) | (rw [if_neg (by omega)]; exact .eq rfl)) hsim
  · skip
    exact go_says O27_ok Try.func20 (r' := .one (.list 1 ((groupL F G C g (-1 : Int)).length) (fun i => I ((groupL F G C g (-1 : Int)).getD i default)))) (cs := [((decide (g < (0 : Int))) = false)]) [false] (by kernel_rfl) ⟨hb1, trivial⟩ (by simp at hb1; first | exact says_nil 1 I (if_pos (by omega)) | (rw [if_neg (by omega)]; exact .eq rfl)) hsim
theorem O20_ok : OrcOK Try.prog O20 := O27_ok.add 20 m20 fun args r cs h hc => by
  unfold m20 at h; split at h
  · cases h; exact f20_ok _ _ _ _
  · cases h
theorem take_next {xs ys : List Int} {k : Nat} (ht : xs.take k = ys.take k) (h1 : k < xs.length) (h2 : k < ys.length) (h : xs.getD k default = ys.getD k default) : xs.take (k + 1) = ys.take (k + 1) := by
  rw [List.take_add_one, List.take_add_one, ht]
  rw [List.getD_eq_getElem?_getD, List.getD_eq_getElem?_getD, List.getElem?_eq_getElem h1, List.getElem?_eq_getElem h2] at h
  rw [List.getElem?_eq_getElem h1, List.getElem?_eq_getElem h2]
  simp only [Option.getD_some] at h
  rw [h]
theorem f24_loop (xs ys : List Int) {w0 : World} {N : Nat → Prop} (hx : xs.length ≤ 9223372036854775807) (d : Nat) : ∀ (k : Nat) (E : Env) (a : Act) (w : World), k ≤ ys.length → xs.take k = ys.take k → k + d = xs.length → Sim w0.heap.size w0 N E (S24 xs ys k) a w →
    Goes Try.prog 24 (loopAt Try.f24 0) (RPure w0 N (.one (Bo (xs == ys)))) a w := by
  induction d with
  | zero =>
    intro k E a w hk ht hd hsim
    have hf : decide ((k : Int) < xs.length) = false := by simp; omega
    have hr : ((xs.length : Int) == ys.length) = (xs == ys) := by
      rw [Bool.eq_iff_iff]; simp only [beq_iff_eq]
      constructor
      · intro h; rw [List.take_of_length_le (by omega), List.take_of_length_le (by omega)] at ht; exact ht
      · intro h; rw [h]
    exact go_ret OrcOK.none Try.func24 (r' := .one (.raw (.bool ((↑xs.length : Int) == (↑ys.length : Int))))) (cs := [((decide ((↑k : Int) < (↑xs.length : Int))) = false)]) [false] (by kernel_rfl) ⟨hf, trivial⟩ (by rw [hr]; rfl) hsim
  | succ d ih =>
    intro k E a w hk ht hd hsim
    have hf : decide ((k : Int) < xs.length) = true := by simp; omega
    have hw : IntKind.i64.wrap ((k : Int) + 1) = ((k + 1 : Nat) : Int) := by rw [w64 (by omega)]; rfl
    have hlt : k < xs.length := by omega
    have no : ∀ b : Bool, (xs = ys → False) → b = false → Ret.one (.raw (.bool b)) = .one (Bo (xs == ys)) := fun b h1 h2 => by
      have : (xs == ys) = false := by simpa using h1
      rw [this, h2]; rfl
    rcases Bool.eq_false_or_eq_true (decide ((↑k : Int) ≥ (↑ys.length : Int))) with hb1 | hb1
    · skip
      exact go_ret OrcOK.none Try.func24 (r' := .one (.raw (.bool false))) (cs := [((decide ((↑k : Int) < (↑xs.length : Int))) = true), ((decide ((↑k : Int) ≥ (↑ys.length : Int))) = true)]) [true,true] (by kernel_rfl) ⟨hf, hb1, trivial⟩ (by refine no _ (fun e => ?_) rfl; subst e; simp at *; try omega) hsim
    · skip
      rcases Bool.eq_false_or_eq_true (xs.getD (↑k : Int).toNat default != ys.getD (↑k : Int).toNat default) with hb2 | hb2
      · skip
        exact go_ret OrcOK.none Try.func24 (r' := .one (.raw (.bool false))) (cs := [((decide ((↑k : Int) < (↑xs.length : Int))) = true), ((decide ((↑k : Int) ≥ (↑ys.length : Int))) = false), ((0 : Int) ≤ (↑k : Int) ∧ (↑k : Int) < (↑xs.length : Int)), ((0 : Int) ≤ (↑k : Int) ∧ (↑k : Int) < (↑ys.length : Int)), ((xs.getD (↑k : Int).toNat default != ys.getD (↑k : Int).toNat default) = true)]) [true,false,true] (by kernel_rfl) ⟨hf, hb1, (by simp at *; omega), (by simp at *; omega), hb2, trivial⟩ (by refine no _ (fun e => ?_) rfl; subst e; simp at *; try omega) hsim
      · skip
        refine go_head OrcOK.none (k' := loopAt Try.f24 0) (s' := mk 32 [(0, .d (.list 1 (xs.length) (fun i => I (xs.getD i default)))), (1, .d (.list 1 (ys.length) (fun i => I (ys.getD i default)))), (7, .d (.raw (.int .i64 ((↑xs.length : Int))))), (8, .d (.raw (.int .i64 (IntKind.i64.wrap ((↑k : Int) + (1 : Int))))))] [] []) (cs := [((decide ((↑k : Int) < (↑xs.length : Int))) = true), ((decide ((↑k : Int) ≥ (↑ys.length : Int))) = false), ((0 : Int) ≤ (↑k : Int) ∧ (↑k : Int) < (↑xs.length : Int)), ((0 : Int) ≤ (↑k : Int) ∧ (↑k : Int) < (↑ys.length : Int)), ((xs.getD (↑k : Int).toNat default != ys.getD (↑k : Int).toNat default) = false)]) [true,false,false] [0,1,7,8] [] [] (by kernel_rfl) ⟨hf, hb1, (by simp at *; omega), (by simp at *; omega), hb2, trivial⟩ hsim fun E a w hsim => ?_
        rw [hw] at hsim
        simp only [bne_eq_false_iff_eq, Int.toNat_natCast] at hb2
        simp at hb1
        exact ih (k + 1) E a w (by omega) (take_next ht hlt hb1 hb2) (by omega) hsim
theorem f24_ok (xs ys : List Int) : PureSpec Try.prog 24 [L 1 I xs, L 1 I ys] (.one (Bo (xs == ys))) := by
  refine pure_fn Try.func24 rfl fun {w N E a} hsim => ?_
  have hx : xs.length ≤ 9223372036854775807 := hsim.len_le 0 rfl
  refine go_head OrcOK.none (k' := loopAt Try.f24 0) (s' := mk 32 [(0, .d (.list 1 (xs.length) (fun i => I (xs.getD i default)))), (1, .d (.list 1 (ys.length) (fun i => I (ys.getD i default)))), (7, .d (.raw (.int .i64 ((↑xs.length : Int))))), (8, .d (.raw (.int .i64 ((0 : Int)))))] [] []) (cs := []) [] [0,1,7,8] [] [] (by kernel_rfl) trivial hsim fun E a w hsim => ?_
  exact f24_loop xs ys hx xs.length 0 E a w (by omega) rfl (by omega) hsim
theorem unI_I (x : Int) : unI (I x) = x := rfl
theorem O24_ok : OrcOK Try.prog O24 := O20_ok.add 24 m24 fun args r cs h hc => by
  unfold m24 at h; split at h
  · split at h
    · rename_i h1 h2
      cases h
      intro w N vs hN hv
      refine f24_ok _ _ w N vs hN ⟨hv.1, fun i x v hx hu => ?_⟩
      match i with
      | 0 => cases hx; exact VD_asList h1 hc.1 (hv.2 0 _ v rfl hu)
      | 1 => cases hx; exact VD_asList h2 hc.2.1 (hv.2 1 _ v rfl hu)
    · cases h
  · cases h
theorem f11_ok (F G C : Int) : PureSpec Try.prog 11 [ros F G C] (.one (I (needM F G C))) := by
  refine pure_fn Try.func11 rfl fun {w N E a} hsim => ?_
  have hm : onlyM F G C (IntKind.i64.wrap (IntKind.i64.wrap (2 * F) + 1)) = needM F G C := by
    unfold needM onlyM; split
    · rename_i h; rw [right_iff] at h; rw [w64 (x := 2 * F) (by omega), w64 (by omega)]
    · rfl
  exact go_ret O26_ok Try.func11 (r' := .one (.raw (.int .i64 (onlyM F G C (IntKind.i64.wrap (IntKind.i64.wrap ((2 : Int) * F) + (1 : Int))))))) (cs := []) [] (by kernel_rfl) trivial (by rw [hm]; rfl) hsim
theorem O11_ok : OrcOK Try.prog O11 := O24_ok.add 11 m11 fun args r cs h hc => by
  unfold m11 at h; split at h
  · cases h; exact f11_ok _ _ _
  · cases h
theorem f12_ok (F G C : Int) : PureSpec Try.prog 12 [ros F G C] (.one (I (someM F G C))) := by
  refine pure_fn Try.func12 rfl fun {w N E a} hsim => ?_
  have hm : onlyM F G C (IntKind.i64.wrap (F + 1)) = someM F G C := by
    unfold someM onlyM; split
    · rename_i h; rw [right_iff] at h; rw [w64 (by omega)]
    · rfl
  exact go_ret O26_ok Try.func12 (r' := .one (.raw (.int .i64 (onlyM F G C (IntKind.i64.wrap (F + (1 : Int))))))) (cs := []) [] (by kernel_rfl) trivial (by rw [hm]; rfl) hsim
theorem O12_ok : OrcOK Try.prog O12 := O11_ok.add 12 m12 fun args r cs h hc => by
  unfold m12 at h; split at h
  · cases h; exact f12_ok _ _ _
  · cases h
theorem f9_ok : PureSpec Try.prog 9 [] (.one (Bo true)) := by
  refine pure_fn Try.func9 rfl fun {w N E a} hsim => ?_
  exact go_ret O12_ok Try.func9 (r' := .one (.raw (.bool true))) (cs := [(((endM (1 : Int) (2 : Int) (2 : Int) (-1 : Int) (1 : Int)).snd == (0 : Int)) = true), (((endM (1 : Int) (2 : Int) (2 : Int) (-1 : Int) (1 : Int)).fst == (13 : Int)) = true), ((endsM (1 : Int) (2 : Int) (2 : Int) == (14 : Int)) = true), ((nM (1 : Int) (2 : Int) (2 : Int) == (4 : Int)) = true), (IsL I unI (if (1 : Int) < (0 : Int) then [] else groupL (1 : Int) (2 : Int) (2 : Int) (1 : Int) (-1 : Int)).length fun i => I ((if (1 : Int) < (0 : Int) then [] else groupL (1 : Int) (2 : Int) (2 : Int) (1 : Int) (-1 : Int)).getD i default)), (IsL I unI (Row.mk (3 : Nat) Try.prog.types[(3 : Nat)].size (4 : Nat) (segD false Try.prog.types[(3 : Nat)].size (splice (splice (splice (splice (List.map (fun j => (List.map D.raw (Value.int IntKind.i64 (0 : Int)).cells.toList).getD (j % (List.map D.raw (Value.int IntKind.i64 (0 : Int)).cells.toList).length) default) (List.range ((4 : Nat) * Try.prog.types[(3 : Nat)].size))) ((0 : Nat) * Try.prog.types[(3 : Nat)].size) (D.raw (Value.int IntKind.i64 (4 : Int))).cells) ((1 : Nat) * Try.prog.types[(3 : Nat)].size) (D.raw (Value.int IntKind.i64 (5 : Int))).cells) ((2 : Nat) * Try.prog.types[(3 : Nat)].size) (D.raw (Value.int IntKind.i64 (6 : Int))).cells) ((3 : Nat) * Try.prog.types[(3 : Nat)].size) (D.raw (Value.int IntKind.i64 (7 : Int))).cells))).n (Row.mk (3 : Nat) Try.prog.types[(3 : Nat)].size (4 : Nat) (segD false Try.prog.types[(3 : Nat)].size (splice (splice (splice (splice (List.map (fun j => (List.map D.raw (Value.int IntKind.i64 (0 : Int)).cells.toList).getD (j % (List.map D.raw (Value.int IntKind.i64 (0 : Int)).cells.toList).length) default) (List.range ((4 : Nat) * Try.prog.types[(3 : Nat)].size))) ((0 : Nat) * Try.prog.types[(3 : Nat)].size) (D.raw (Value.int IntKind.i64 (4 : Int))).cells) ((1 : Nat) * Try.prog.types[(3 : Nat)].size) (D.raw (Value.int IntKind.i64 (5 : Int))).cells) ((2 : Nat) * Try.prog.types[(3 : Nat)].size) (D.raw (Value.int IntKind.i64 (6 : Int))).cells) ((3 : Nat) * Try.prog.types[(3 : Nat)].size) (D.raw (Value.int IntKind.i64 (7 : Int))).cells))).el)]) [true,true,true,true] (by kernel_rfl) ⟨rfl, rfl, rfl, rfl, (by intro i hi; first | rfl | (match i, hi with | 0, _ => rfl | 1, _ => rfl | 2, _ => rfl | 3, _ => rfl)), (by intro i hi; first | rfl | (match i, hi with | 0, _ => rfl | 1, _ => rfl | 2, _ => rfl | 3, _ => rfl)), trivial⟩ (by rfl) hsim
theorem O9_ok : OrcOK Try.prog O9 := O12_ok.add 9 m9 fun args r cs h hc => by
  unfold m9 at h; split at h
  · cases h; exact f9_ok
  · cases h
end Go.Ros
