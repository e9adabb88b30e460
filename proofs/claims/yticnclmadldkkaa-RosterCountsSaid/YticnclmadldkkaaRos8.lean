/-
  Contracts of the given functions, and the statement's own walk. No condition.
-/
import Derived.Test.YticnclmadldkkaaRos7P
namespace Go.Ros
open Go Go.Abs Go.Proofs
set_option linter.unusedVariables false
theorem f5_ok (F G C v : Int) : PureSpec Try.prog 5 [ros F G C, I v] (.one (Bo true)) := by
  refine pure_fn Try.func5 rfl fun {w N E a} hsim => ?_
  cases hR : right F G C with
  | false =>
    have q1 := nM_wrong hR
    have q2 : needM F G C = 0 := by simp [needM, onlyM, hR]
    have q3 : someM F G C = 0 := by simp [someM, onlyM, hR]
    have q4 : endsM F G C = 0 := by simp [endsM, onlyM, hR]
    rcases Bool.eq_false_or_eq_true (!((if right F G C = true then (0 : Int) else (1 : Int)) == (0 : Int)) == right F G C) with hb1 | hb1
    · skip
      exact go_ret O25_ok Try.func5 (r' := .one (.raw (.bool false))) (cs := [((!((if right F G C = true then (0 : Int) else (1 : Int)) == (0 : Int)) == right F G C) = true)]) [true] (by kernel_rfl) ⟨hb1, trivial⟩ (by first | rfl | (exfalso; simp_all)) hsim
    · skip
      rcases Bool.eq_false_or_eq_true ((primM F G C v).fst != (primM F G C v).fst) with hb2 | hb2
      · skip
        exact go_ret O25_ok Try.func5 (r' := .one (.raw (.bool false))) (cs := [((!((if right F G C = true then (0 : Int) else (1 : Int)) == (0 : Int)) == right F G C) = false), (((primM F G C v).fst != (primM F G C v).fst) = true)]) [false,true] (by kernel_rfl) ⟨hb1, hb2, trivial⟩ (by first | rfl | (exfalso; simp_all)) hsim
      · skip
        rcases Bool.eq_false_or_eq_true ((primM F G C v).snd != (primM F G C v).snd) with hb3 | hb3
        · skip
          exact go_ret O25_ok Try.func5 (r' := .one (.raw (.bool false))) (cs := [((!((if right F G C = true then (0 : Int) else (1 : Int)) == (0 : Int)) == right F G C) = false), (((primM F G C v).fst != (primM F G C v).fst) = false), (((primM F G C v).snd != (primM F G C v).snd) = true)]) [false,false,true] (by kernel_rfl) ⟨hb1, hb2, hb3, trivial⟩ (by first | rfl | (exfalso; simp_all)) hsim
        · skip
          rcases Bool.eq_false_or_eq_true (!right F G C) with hb4 | hb4
          · skip
            rcases Bool.eq_false_or_eq_true (nM F G C == (0 : Int)) with hb5 | hb5
            · skip
              rcases Bool.eq_false_or_eq_true (needM F G C == (0 : Int)) with hb6 | hb6
              · skip
                rcases Bool.eq_false_or_eq_true (someM F G C == (0 : Int)) with hb7 | hb7
                · skip
                  rcases Bool.eq_false_or_eq_true (endsM F G C == (0 : Int)) with hb8 | hb8
                  · skip
                    exact go_ret O25_ok Try.func5 (r' := .one (.raw (.bool true))) (cs := [((!((if right F G C = true then (0 : Int) else (1 : Int)) == (0 : Int)) == right F G C) = false), (((primM F G C v).fst != (primM F G C v).fst) = false), (((primM F G C v).snd != (primM F G C v).snd) = false), ((!right F G C) = true), ((nM F G C == (0 : Int)) = true), ((needM F G C == (0 : Int)) = true), ((someM F G C == (0 : Int)) = true), ((endsM F G C == (0 : Int)) = true)]) [false,false,false,true,true,true,true,true] (by kernel_rfl) ⟨hb1, hb2, hb3, hb4, hb5, hb6, hb7, hb8, trivial⟩ (by first | rfl | (exfalso; simp_all)) hsim
                  · skip
                    exact go_ret O25_ok Try.func5 (r' := .one (.raw (.bool false))) (cs := [((!((if right F G C = true then (0 : Int) else (1 : Int)) == (0 : Int)) == right F G C) = false), (((primM F G C v).fst != (primM F G C v).fst) = false), (((primM F G C v).snd != (primM F G C v).snd) = false), ((!right F G C) = true), ((nM F G C == (0 : Int)) = true), ((needM F G C == (0 : Int)) = true), ((someM F G C == (0 : Int)) = true), ((endsM F G C == (0 : Int)) = false)]) [false,false,false,true,true,true,true,false] (by kernel_rfl) ⟨hb1, hb2, hb3, hb4, hb5, hb6, hb7, hb8, trivial⟩ (by first | rfl | (exfalso; simp_all)) hsim
                · skip
                  exact go_ret O25_ok Try.func5 (r' := .one (.raw (.bool false))) (cs := [((!((if right F G C = true then (0 : Int) else (1 : Int)) == (0 : Int)) == right F G C) = false), (((primM F G C v).fst != (primM F G C v).fst) = false), (((primM F G C v).snd != (primM F G C v).snd) = false), ((!right F G C) = true), ((nM F G C == (0 : Int)) = true), ((needM F G C == (0 : Int)) = true), ((someM F G C == (0 : Int)) = false)]) [false,false,false,true,true,true,false] (by kernel_rfl) ⟨hb1, hb2, hb3, hb4, hb5, hb6, hb7, trivial⟩ (by first | rfl | (exfalso; simp_all)) hsim
              · skip
                exact go_ret O25_ok Try.func5 (r' := .one (.raw (.bool false))) (cs := [((!((if right F G C = true then (0 : Int) else (1 : Int)) == (0 : Int)) == right F G C) = false), (((primM F G C v).fst != (primM F G C v).fst) = false), (((primM F G C v).snd != (primM F G C v).snd) = false), ((!right F G C) = true), ((nM F G C == (0 : Int)) = true), ((needM F G C == (0 : Int)) = false)]) [false,false,false,true,true,false] (by kernel_rfl) ⟨hb1, hb2, hb3, hb4, hb5, hb6, trivial⟩ (by first | rfl | (exfalso; simp_all)) hsim
            · skip
              exact go_ret O25_ok Try.func5 (r' := .one (.raw (.bool false))) (cs := [((!((if right F G C = true then (0 : Int) else (1 : Int)) == (0 : Int)) == right F G C) = false), (((primM F G C v).fst != (primM F G C v).fst) = false), (((primM F G C v).snd != (primM F G C v).snd) = false), ((!right F G C) = true), ((nM F G C == (0 : Int)) = false)]) [false,false,false,true,false] (by kernel_rfl) ⟨hb1, hb2, hb3, hb4, hb5, trivial⟩ (by first | rfl | (exfalso; simp_all)) hsim
          · skip
            rcases Bool.eq_false_or_eq_true (nM F G C == IntKind.i64.wrap (IntKind.i64.wrap ((3 : Int) * F) + (1 : Int))) with hb9 | hb9
            · skip
              rcases Bool.eq_false_or_eq_true (needM F G C == IntKind.i64.wrap (IntKind.i64.wrap ((2 : Int) * F) + (1 : Int))) with hb10 | hb10
              · skip
                rcases Bool.eq_false_or_eq_true (someM F G C == IntKind.i64.wrap (F + (1 : Int))) with hb11 | hb11
                · skip
                  rcases Bool.eq_false_or_eq_true (endsM F G C == (↑(endsRef F G C).length : Int)) with hb12 | hb12
                  · skip
                    exact go_ret O25_ok Try.func5 (r' := .one (.raw (.bool true))) (cs := [((!((if right F G C = true then (0 : Int) else (1 : Int)) == (0 : Int)) == right F G C) = false), (((primM F G C v).fst != (primM F G C v).fst) = false), (((primM F G C v).snd != (primM F G C v).snd) = false), ((!right F G C) = false), ((nM F G C == IntKind.i64.wrap (IntKind.i64.wrap ((3 : Int) * F) + (1 : Int))) = true), ((needM F G C == IntKind.i64.wrap (IntKind.i64.wrap ((2 : Int) * F) + (1 : Int))) = true), ((someM F G C == IntKind.i64.wrap (F + (1 : Int))) = true), ((endsM F G C == (↑(endsRef F G C).length : Int)) = true)]) [false,false,false,false,true,true,true,true] (by kernel_rfl) ⟨hb1, hb2, hb3, hb4, hb9, hb10, hb11, hb12, trivial⟩ (by first | rfl | (exfalso; simp_all)) hsim
                  · skip
                    exact go_ret O25_ok Try.func5 (r' := .one (.raw (.bool false))) (cs := [((!((if right F G C = true then (0 : Int) else (1 : Int)) == (0 : Int)) == right F G C) = false), (((primM F G C v).fst != (primM F G C v).fst) = false), (((primM F G C v).snd != (primM F G C v).snd) = false), ((!right F G C) = false), ((nM F G C == IntKind.i64.wrap (IntKind.i64.wrap ((3 : Int) * F) + (1 : Int))) = true), ((needM F G C == IntKind.i64.wrap (IntKind.i64.wrap ((2 : Int) * F) + (1 : Int))) = true), ((someM F G C == IntKind.i64.wrap (F + (1 : Int))) = true), ((endsM F G C == (↑(endsRef F G C).length : Int)) = false)]) [false,false,false,false,true,true,true,false] (by kernel_rfl) ⟨hb1, hb2, hb3, hb4, hb9, hb10, hb11, hb12, trivial⟩ (by first | rfl | (exfalso; simp_all)) hsim
                · skip
                  exact go_ret O25_ok Try.func5 (r' := .one (.raw (.bool false))) (cs := [((!((if right F G C = true then (0 : Int) else (1 : Int)) == (0 : Int)) == right F G C) = false), (((primM F G C v).fst != (primM F G C v).fst) = false), (((primM F G C v).snd != (primM F G C v).snd) = false), ((!right F G C) = false), ((nM F G C == IntKind.i64.wrap (IntKind.i64.wrap ((3 : Int) * F) + (1 : Int))) = true), ((needM F G C == IntKind.i64.wrap (IntKind.i64.wrap ((2 : Int) * F) + (1 : Int))) = true), ((someM F G C == IntKind.i64.wrap (F + (1 : Int))) = false)]) [false,false,false,false,true,true,false] (by kernel_rfl) ⟨hb1, hb2, hb3, hb4, hb9, hb10, hb11, trivial⟩ (by first | rfl | (exfalso; simp_all)) hsim
              · skip
                exact go_ret O25_ok Try.func5 (r' := .one (.raw (.bool false))) (cs := [((!((if right F G C = true then (0 : Int) else (1 : Int)) == (0 : Int)) == right F G C) = false), (((primM F G C v).fst != (primM F G C v).fst) = false), (((primM F G C v).snd != (primM F G C v).snd) = false), ((!right F G C) = false), ((nM F G C == IntKind.i64.wrap (IntKind.i64.wrap ((3 : Int) * F) + (1 : Int))) = true), ((needM F G C == IntKind.i64.wrap (IntKind.i64.wrap ((2 : Int) * F) + (1 : Int))) = false)]) [false,false,false,false,true,false] (by kernel_rfl) ⟨hb1, hb2, hb3, hb4, hb9, hb10, trivial⟩ (by first | rfl | (exfalso; simp_all)) hsim
            · skip
              exact go_ret O25_ok Try.func5 (r' := .one (.raw (.bool false))) (cs := [((!((if right F G C = true then (0 : Int) else (1 : Int)) == (0 : Int)) == right F G C) = false), (((primM F G C v).fst != (primM F G C v).fst) = false), (((primM F G C v).snd != (primM F G C v).snd) = false), ((!right F G C) = false), ((nM F G C == IntKind.i64.wrap (IntKind.i64.wrap ((3 : Int) * F) + (1 : Int))) = false)]) [false,false,false,false,false] (by kernel_rfl) ⟨hb1, hb2, hb3, hb4, hb9, trivial⟩ (by first | rfl | (exfalso; simp_all)) hsim
  | true =>
    have hr := right_iff.1 hR
    have q1 : IntKind.i64.wrap (IntKind.i64.wrap (3 * F) + 1) = nM F G C := by rw [nM_right hR, w64 (x := 3 * F) (by omega), w64 (by omega)]
    have q2 : IntKind.i64.wrap (IntKind.i64.wrap (2 * F) + 1) = needM F G C := by simp only [needM, onlyM, hR, if_true]; rw [w64 (x := 2 * F) (by omega), w64 (by omega)]
    have q3 : IntKind.i64.wrap (F + 1) = someM F G C := by simp only [someM, onlyM, hR, if_true]; rw [w64 (by omega)]
    have q4 := ref_len hR
    rcases Bool.eq_false_or_eq_true (!((if right F G C = true then (0 : Int) else (1 : Int)) == (0 : Int)) == right F G C) with hb1 | hb1
    · skip
      exact go_ret O25_ok Try.func5 (r' := .one (.raw (.bool false))) (cs := [((!((if right F G C = true then (0 : Int) else (1 : Int)) == (0 : Int)) == right F G C) = true)]) [true] (by kernel_rfl) ⟨hb1, trivial⟩ (by first | rfl | (exfalso; simp_all)) hsim
    · skip
      rcases Bool.eq_false_or_eq_true ((primM F G C v).fst != (primM F G C v).fst) with hb2 | hb2
      · skip
        exact go_ret O25_ok Try.func5 (r' := .one (.raw (.bool false))) (cs := [((!((if right F G C = true then (0 : Int) else (1 : Int)) == (0 : Int)) == right F G C) = false), (((primM F G C v).fst != (primM F G C v).fst) = true)]) [false,true] (by kernel_rfl) ⟨hb1, hb2, trivial⟩ (by first | rfl | (exfalso; simp_all)) hsim
      · skip
        rcases Bool.eq_false_or_eq_true ((primM F G C v).snd != (primM F G C v).snd) with hb3 | hb3
        · skip
          exact go_ret O25_ok Try.func5 (r' := .one (.raw (.bool false))) (cs := [((!((if right F G C = true then (0 : Int) else (1 : Int)) == (0 : Int)) == right F G C) = false), (((primM F G C v).fst != (primM F G C v).fst) = false), (((primM F G C v).snd != (primM F G C v).snd) = true)]) [false,false,true] (by kernel_rfl) ⟨hb1, hb2, hb3, trivial⟩ (by first | rfl | (exfalso; simp_all)) hsim
        · skip
          rcases Bool.eq_false_or_eq_true (!right F G C) with hb4 | hb4
          · skip
            rcases Bool.eq_false_or_eq_true (nM F G C == (0 : Int)) with hb5 | hb5
            · skip
              rcases Bool.eq_false_or_eq_true (needM F G C == (0 : Int)) with hb6 | hb6
              · skip
                rcases Bool.eq_false_or_eq_true (someM F G C == (0 : Int)) with hb7 | hb7
                · skip
                  rcases Bool.eq_false_or_eq_true (endsM F G C == (0 : Int)) with hb8 | hb8
                  · skip
                    exact go_ret O25_ok Try.func5 (r' := .one (.raw (.bool true))) (cs := [((!((if right F G C = true then (0 : Int) else (1 : Int)) == (0 : Int)) == right F G C) = false), (((primM F G C v).fst != (primM F G C v).fst) = false), (((primM F G C v).snd != (primM F G C v).snd) = false), ((!right F G C) = true), ((nM F G C == (0 : Int)) = true), ((needM F G C == (0 : Int)) = true), ((someM F G C == (0 : Int)) = true), ((endsM F G C == (0 : Int)) = true)]) [false,false,false,true,true,true,true,true] (by kernel_rfl) ⟨hb1, hb2, hb3, hb4, hb5, hb6, hb7, hb8, trivial⟩ (by first | rfl | (exfalso; simp_all)) hsim
                  · skip
                    exact go_ret O25_ok Try.func5 (r' := .one (.raw (.bool false))) (cs := [((!((if right F G C = true then (0 : Int) else (1 : Int)) == (0 : Int)) == right F G C) = false), (((primM F G C v).fst != (primM F G C v).fst) = false), (((primM F G C v).snd != (primM F G C v).snd) = false), ((!right F G C) = true), ((nM F G C == (0 : Int)) = true), ((needM F G C == (0 : Int)) = true), ((someM F G C == (0 : Int)) = true), ((endsM F G C == (0 : Int)) = false)]) [false,false,false,true,true,true,true,false] (by kernel_rfl) ⟨hb1, hb2, hb3, hb4, hb5, hb6, hb7, hb8, trivial⟩ (by first | rfl | (exfalso; simp_all)) hsim
                · skip
                  exact go_ret O25_ok Try.func5 (r' := .one (.raw (.bool false))) (cs := [((!((if right F G C = true then (0 : Int) else (1 : Int)) == (0 : Int)) == right F G C) = false), (((primM F G C v).fst != (primM F G C v).fst) = false), (((primM F G C v).snd != (primM F G C v).snd) = false), ((!right F G C) = true), ((nM F G C == (0 : Int)) = true), ((needM F G C == (0 : Int)) = true), ((someM F G C == (0 : Int)) = false)]) [false,false,false,true,true,true,false] (by kernel_rfl) ⟨hb1, hb2, hb3, hb4, hb5, hb6, hb7, trivial⟩ (by first | rfl | (exfalso; simp_all)) hsim
              · skip
                exact go_ret O25_ok Try.func5 (r' := .one (.raw (.bool false))) (cs := [((!((if right F G C = true then (0 : Int) else (1 : Int)) == (0 : Int)) == right F G C) = false), (((primM F G C v).fst != (primM F G C v).fst) = false), (((primM F G C v).snd != (primM F G C v).snd) = false), ((!right F G C) = true), ((nM F G C == (0 : Int)) = true), ((needM F G C == (0 : Int)) = false)]) [false,false,false,true,true,false] (by kernel_rfl) ⟨hb1, hb2, hb3, hb4, hb5, hb6, trivial⟩ (by first | rfl | (exfalso; simp_all)) hsim
            · skip
              exact go_ret O25_ok Try.func5 (r' := .one (.raw (.bool false))) (cs := [((!((if right F G C = true then (0 : Int) else (1 : Int)) == (0 : Int)) == right F G C) = false), (((primM F G C v).fst != (primM F G C v).fst) = false), (((primM F G C v).snd != (primM F G C v).snd) = false), ((!right F G C) = true), ((nM F G C == (0 : Int)) = false)]) [false,false,false,true,false] (by kernel_rfl) ⟨hb1, hb2, hb3, hb4, hb5, trivial⟩ (by first | rfl | (exfalso; simp_all)) hsim
          · skip
            rcases Bool.eq_false_or_eq_true (nM F G C == IntKind.i64.wrap (IntKind.i64.wrap ((3 : Int) * F) + (1 : Int))) with hb9 | hb9
            · skip
              rcases Bool.eq_false_or_eq_true (needM F G C == IntKind.i64.wrap (IntKind.i64.wrap ((2 : Int) * F) + (1 : Int))) with hb10 | hb10
              · skip
                rcases Bool.eq_false_or_eq_true (someM F G C == IntKind.i64.wrap (F + (1 : Int))) with hb11 | hb11
                · skip
                  rcases Bool.eq_false_or_eq_true (endsM F G C == (↑(endsRef F G C).length : Int)) with hb12 | hb12
                  · skip
                    exact go_ret O25_ok Try.func5 (r' := .one (.raw (.bool true))) (cs := [((!((if right F G C = true then (0 : Int) else (1 : Int)) == (0 : Int)) == right F G C) = false), (((primM F G C v).fst != (primM F G C v).fst) = false), (((primM F G C v).snd != (primM F G C v).snd) = false), ((!right F G C) = false), ((nM F G C == IntKind.i64.wrap (IntKind.i64.wrap ((3 : Int) * F) + (1 : Int))) = true), ((needM F G C == IntKind.i64.wrap (IntKind.i64.wrap ((2 : Int) * F) + (1 : Int))) = true), ((someM F G C == IntKind.i64.wrap (F + (1 : Int))) = true), ((endsM F G C == (↑(endsRef F G C).length : Int)) = true)]) [false,false,false,false,true,true,true,true] (by kernel_rfl) ⟨hb1, hb2, hb3, hb4, hb9, hb10, hb11, hb12, trivial⟩ (by first | rfl | (exfalso; simp_all)) hsim
                  · skip
                    exact go_ret O25_ok Try.func5 (r' := .one (.raw (.bool false))) (cs := [((!((if right F G C = true then (0 : Int) else (1 : Int)) == (0 : Int)) == right F G C) = false), (((primM F G C v).fst != (primM F G C v).fst) = false), (((primM F G C v).snd != (primM F G C v).snd) = false), ((!right F G C) = false), ((nM F G C == IntKind.i64.wrap (IntKind.i64.wrap ((3 : Int) * F) + (1 : Int))) = true), ((needM F G C == IntKind.i64.wrap (IntKind.i64.wrap ((2 : Int) * F) + (1 : Int))) = true), ((someM F G C == IntKind.i64.wrap (F + (1 : Int))) = true), ((endsM F G C == (↑(endsRef F G C).length : Int)) = false)]) [false,false,false,false,true,true,true,false] (by kernel_rfl) ⟨hb1, hb2, hb3, hb4, hb9, hb10, hb11, hb12, trivial⟩ (by first | rfl | (exfalso; simp_all)) hsim
                · skip
                  exact go_ret O25_ok Try.func5 (r' := .one (.raw (.bool false))) (cs := [((!((if right F G C = true then (0 : Int) else (1 : Int)) == (0 : Int)) == right F G C) = false), (((primM F G C v).fst != (primM F G C v).fst) = false), (((primM F G C v).snd != (primM F G C v).snd) = false), ((!right F G C) = false), ((nM F G C == IntKind.i64.wrap (IntKind.i64.wrap ((3 : Int) * F) + (1 : Int))) = true), ((needM F G C == IntKind.i64.wrap (IntKind.i64.wrap ((2 : Int) * F) + (1 : Int))) = true), ((someM F G C == IntKind.i64.wrap (F + (1 : Int))) = false)]) [false,false,false,false,true,true,false] (by kernel_rfl) ⟨hb1, hb2, hb3, hb4, hb9, hb10, hb11, trivial⟩ (by first | rfl | (exfalso; simp_all)) hsim
              · skip
                exact go_ret O25_ok Try.func5 (r' := .one (.raw (.bool false))) (cs := [((!((if right F G C = true then (0 : Int) else (1 : Int)) == (0 : Int)) == right F G C) = false), (((primM F G C v).fst != (primM F G C v).fst) = false), (((primM F G C v).snd != (primM F G C v).snd) = false), ((!right F G C) = false), ((nM F G C == IntKind.i64.wrap (IntKind.i64.wrap ((3 : Int) * F) + (1 : Int))) = true), ((needM F G C == IntKind.i64.wrap (IntKind.i64.wrap ((2 : Int) * F) + (1 : Int))) = false)]) [false,false,false,false,true,false] (by kernel_rfl) ⟨hb1, hb2, hb3, hb4, hb9, hb10, trivial⟩ (by first | rfl | (exfalso; simp_all)) hsim
            · skip
              exact go_ret O25_ok Try.func5 (r' := .one (.raw (.bool false))) (cs := [((!((if right F G C = true then (0 : Int) else (1 : Int)) == (0 : Int)) == right F G C) = false), (((primM F G C v).fst != (primM F G C v).fst) = false), (((primM F G C v).snd != (primM F G C v).snd) = false), ((!right F G C) = false), ((nM F G C == IntKind.i64.wrap (IntKind.i64.wrap ((3 : Int) * F) + (1 : Int))) = false)]) [false,false,false,false,false] (by kernel_rfl) ⟨hb1, hb2, hb3, hb4, hb9, trivial⟩ (by first | rfl | (exfalso; simp_all)) hsim
end Go.Ros
