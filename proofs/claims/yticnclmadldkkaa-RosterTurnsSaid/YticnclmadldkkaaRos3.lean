/-
  Contracts of the given functions, and the statement's own walk. No condition.
-/
import Derived.Test.YticnclmadldkkaaRos1
namespace Go.Ros
open Go Go.Abs Go.Proofs
set_option linter.unusedVariables false
theorem f18_ok (F G C e : Int) : PureSpec Try.prog 18 [ros F G C, I e] (.tup [Pt (partyM F G C e).1, I (partyM F G C e).2]) := by
  refine pure_fn Try.func18 rfl fun {w N E a} hsim => ?_
  have fin : ∀ (a b c : Int), partyM F G C e = ((a, b), c) → Ret.tup [.agg [D.raw (Value.int IntKind.i64 a), D.raw (Value.int IntKind.i64 b)], D.raw (Value.int IntKind.i64 c)] = Ret.tup [Pt (partyM F G C e).1, I (partyM F G C e).2] := fun a b c h => by rw [h]; rfl
  cases hR : right F G C with
  | false =>
    have hn := nM_wrong hR
    rcases Bool.eq_false_or_eq_true (nM F G C == (0 : Int)) with hb1 | hb1
    · skip
      exact go_ret O9_ok Try.func18 (r' := .tup [.agg [.raw (.int .i64 ((0 : Int))), .raw (.int .i64 ((0 : Int)))], .raw (.int .i64 ((1 : Int)))]) (cs := [((nM F G C == (0 : Int)) = true)]) [true] (by kernel_rfl) ⟨hb1, trivial⟩ (by first | (exfalso; rw [hn] at hb1; cases hb1; done) | (refine fin _ _ _ ?_; simp [partyM, hR])) hsim
    · skip
      rcases Bool.eq_false_or_eq_true (decide (e < (0 : Int))) with hb2 | hb2
      · skip
        exact go_ret O9_ok Try.func18 (r' := .tup [.agg [.raw (.int .i64 ((0 : Int))), .raw (.int .i64 ((0 : Int)))], .raw (.int .i64 ((6 : Int)))]) (cs := [((nM F G C == (0 : Int)) = false), ((decide (e < (0 : Int))) = true)]) [false,true] (by kernel_rfl) ⟨hb1, hb2, trivial⟩ (by first | (exfalso; rw [hn] at hb1; cases hb1; done) | (refine fin _ _ _ ?_; simp [partyM, hR])) hsim
      · skip
        rcases Bool.eq_false_or_eq_true (decide (e ≥ endsM F G C)) with hb3 | hb3
        · skip
          exact go_ret O9_ok Try.func18 (r' := .tup [.agg [.raw (.int .i64 ((0 : Int))), .raw (.int .i64 ((0 : Int)))], .raw (.int .i64 ((6 : Int)))]) (cs := [((nM F G C == (0 : Int)) = false), ((decide (e < (0 : Int))) = false), ((decide (e ≥ endsM F G C)) = true)]) [false,false,true] (by kernel_rfl) ⟨hb1, hb2, hb3, trivial⟩ (by first | (exfalso; rw [hn] at hb1; cases hb1; done) | (refine fin _ _ _ ?_; simp [partyM, hR])) hsim
        · skip
          rcases Bool.eq_false_or_eq_true (decide (e ≥ IntKind.i64.wrap (nM F G C * IntKind.i64.wrap (G + (1 : Int))))) with hb4 | hb4
          · skip
            exact go_ret O9_ok Try.func18 (r' := .tup [.agg [.raw (.int .i64 ((-1 : Int))), .raw (.int .i64 (IntKind.i64.wrap (e - IntKind.i64.wrap (nM F G C * IntKind.i64.wrap (G + (1 : Int))))))], .raw (.int .i64 ((0 : Int)))]) (cs := [((nM F G C == (0 : Int)) = false), ((decide (e < (0 : Int))) = false), ((decide (e ≥ endsM F G C)) = false), ((decide (e ≥ IntKind.i64.wrap (nM F G C * IntKind.i64.wrap (G + (1 : Int))))) = true)]) [false,false,false,true] (by kernel_rfl) ⟨hb1, hb2, hb3, hb4, trivial⟩ (by first | (exfalso; rw [hn] at hb1; cases hb1; done) | (refine fin _ _ _ ?_; simp [partyM, hR])) hsim
          · skip
            exact go_ret O9_ok Try.func18 (r' := .tup [.agg [.raw (.int .i64 (IntKind.i64.wrap (e.tdiv (nM F G C)))), .raw (.int .i64 (e.tmod (nM F G C)))], .raw (.int .i64 ((0 : Int)))]) (cs := [((nM F G C == (0 : Int)) = false), ((decide (e < (0 : Int))) = false), ((decide (e ≥ endsM F G C)) = false), ((decide (e ≥ IntKind.i64.wrap (nM F G C * IntKind.i64.wrap (G + (1 : Int))))) = false), (nM F G C ≠ (0 : Int)), (nM F G C ≠ (0 : Int))]) [false,false,false,false] (by kernel_rfl) ⟨hb1, hb2, hb3, hb4, (by exfalso; rw [hn] at hb1; cases hb1), (by exfalso; rw [hn] at hb1; cases hb1), trivial⟩ (by first | (exfalso; rw [hn] at hb1; cases hb1; done) | (refine fin _ _ _ ?_; simp [partyM, hR])) hsim
  | true =>
    have hn := nM_right hR
    have hr := right_iff.1 hR
    have hmb := mul_bd (G := G) hr.1 hr.2.1 (x := G + 1) (by omega) (by omega)
    have hm : IntKind.i64.wrap (nM F G C * IntKind.i64.wrap (G + 1)) = (3 * F + 1) * (G + 1) := by rw [hn, w64 (x := G + 1) (by omega), w64 (by omega)]
    have hE : endsM F G C = (3 * F + 1) * (G + 1) + C := by simp [endsM, onlyM, hR]
    have hp : partyM F G C e = if e < 0 ∨ (3 * F + 1) * (G + 1) + C ≤ e then ((0, 0), 6) else if (3 * F + 1) * (G + 1) ≤ e then ((-1, e - (3 * F + 1) * (G + 1)), 0) else ((e / (3 * F + 1), e % (3 * F + 1)), 0) := by unfold partyM; rw [if_pos hR, hE]
    have w1 : 0 ≤ e → e ≤ 1000 → IntKind.i64.wrap (e - IntKind.i64.wrap (nM F G C * IntKind.i64.wrap (G + 1))) = e - (3 * F + 1) * (G + 1) := fun h1 h2 => by rw [hm, w64 (by omega)]
    have w2 : 0 ≤ e → e ≤ 1000 → IntKind.i64.wrap (e.tdiv (nM F G C)) = e / (3 * F + 1) := fun h1 h2 => by
      rw [hn, Int.tdiv_eq_ediv_of_nonneg h1]
      have h3 : e / (3 * F + 1) ≤ e := Int.ediv_le_self _ h1
      have h4 : 0 ≤ e / (3 * F + 1) := Int.ediv_nonneg h1 (by omega)
      rw [w64 (by omega)]
    have w3 : 0 ≤ e → e.tmod (nM F G C) = e % (3 * F + 1) := fun h1 => by rw [hn, Int.tmod_eq_emod_of_nonneg h1]
    have hM : ∃ m, (3 * F + 1) * (G + 1) = m := ⟨_, rfl⟩
    rcases Bool.eq_false_or_eq_true (nM F G C == (0 : Int)) with hb1 | hb1
    · skip
      exact go_ret O9_ok Try.func18 (r' := .tup [.agg [.raw (.int .i64 ((0 : Int))), .raw (.int .i64 ((0 : Int)))], .raw (.int .i64 ((1 : Int)))]) (cs := [((nM F G C == (0 : Int)) = true)]) [true] (by kernel_rfl) ⟨hb1, trivial⟩ (by (try rw [hm] at hb4); (try rw [hE] at hb3); first | (exfalso; rw [hn] at hb1; simp at hb1; omega) | ((simp only [decide_eq_true_eq, decide_eq_false_iff_not] at *); refine fin _ _ _ (hp.trans ?_); clear fin hp; obtain ⟨m, hM⟩ := hM; first | (rw [if_pos (by omega)]; done) | (rw [w1 (by omega) (by omega), if_neg (by omega), if_pos (by omega)]; done) | (rw [w2 (by omega) (by omega), w3 (by omega), if_neg (by omega), if_neg (by omega)]; done))) hsim
    · skip
      rcases Bool.eq_false_or_eq_true (decide (e < (0 : Int))) with hb2 | hb2
      · skip
        exact go_ret O9_ok Try.func18 (r' := .tup [.agg [.raw (.int .i64 ((0 : Int))), .raw (.int .i64 ((0 : Int)))], .raw (.int .i64 ((6 : Int)))]) (cs := [((nM F G C == (0 : Int)) = false), ((decide (e < (0 : Int))) = true)]) [false,true] (by kernel_rfl) ⟨hb1, hb2, trivial⟩ (by (try rw [hm] at hb4); (try rw [hE] at hb3); first | (exfalso; rw [hn] at hb1; simp at hb1; omega) | ((simp only [decide_eq_true_eq, decide_eq_false_iff_not] at *); refine fin _ _ _ (hp.trans ?_); clear fin hp; obtain ⟨m, hM⟩ := hM; first | (rw [if_pos (by omega)]; done) | (rw [w1 (by omega) (by omega), if_neg (by omega), if_pos (by omega)]; done) | (rw [w2 (by omega) (by omega), w3 (by omega), if_neg (by omega), if_neg (by omega)]; done))) hsim
      · skip
        rcases Bool.eq_false_or_eq_true (decide (e ≥ endsM F G C)) with hb3 | hb3
        · skip
          exact go_ret O9_ok Try.func18 (r' := .tup [.agg [.raw (.int .i64 ((0 : Int))), .raw (.int .i64 ((0 : Int)))], .raw (.int .i64 ((6 : Int)))]) (cs := [((nM F G C == (0 : Int)) = false), ((decide (e < (0 : Int))) = false), ((decide (e ≥ endsM F G C)) = true)]) [false,false,true] (by kernel_rfl) ⟨hb1, hb2, hb3, trivial⟩ (by (try rw [hm] at hb4); (try rw [hE] at hb3); first | (exfalso; rw [hn] at hb1; simp at hb1; omega) | ((simp only [decide_eq_true_eq, decide_eq_false_iff_not] at *); refine fin _ _ _ (hp.trans ?_); clear fin hp; obtain ⟨m, hM⟩ := hM; first | (rw [if_pos (by omega)]; done) | (rw [w1 (by omega) (by omega), if_neg (by omega), if_pos (by omega)]; done) | (rw [w2 (by omega) (by omega), w3 (by omega), if_neg (by omega), if_neg (by omega)]; done))) hsim
        · skip
          rcases Bool.eq_false_or_eq_true (decide (e ≥ IntKind.i64.wrap (nM F G C * IntKind.i64.wrap (G + (1 : Int))))) with hb4 | hb4
          · skip
            exact go_ret O9_ok Try.func18 (r' := .tup [.agg [.raw (.int .i64 ((-1 : Int))), .raw (.int .i64 (IntKind.i64.wrap (e - IntKind.i64.wrap (nM F G C * IntKind.i64.wrap (G + (1 : Int))))))], .raw (.int .i64 ((0 : Int)))]) (cs := [((nM F G C == (0 : Int)) = false), ((decide (e < (0 : Int))) = false), ((decide (e ≥ endsM F G C)) = false), ((decide (e ≥ IntKind.i64.wrap (nM F G C * IntKind.i64.wrap (G + (1 : Int))))) = true)]) [false,false,false,true] (by kernel_rfl) ⟨hb1, hb2, hb3, hb4, trivial⟩ (by (try rw [hm] at hb4); (try rw [hE] at hb3); first | (exfalso; rw [hn] at hb1; simp at hb1; omega) | ((simp only [decide_eq_true_eq, decide_eq_false_iff_not] at *); refine fin _ _ _ (hp.trans ?_); clear fin hp; obtain ⟨m, hM⟩ := hM; first | (rw [if_pos (by omega)]; done) | (rw [w1 (by omega) (by omega), if_neg (by omega), if_pos (by omega)]; done) | (rw [w2 (by omega) (by omega), w3 (by omega), if_neg (by omega), if_neg (by omega)]; done))) hsim
          · skip
            exact go_ret O9_ok Try.func18 (r' := .tup [.agg [.raw (.int .i64 (IntKind.i64.wrap (e.tdiv (nM F G C)))), .raw (.int .i64 (e.tmod (nM F G C)))], .raw (.int .i64 ((0 : Int)))]) (cs := [((nM F G C == (0 : Int)) = false), ((decide (e < (0 : Int))) = false), ((decide (e ≥ endsM F G C)) = false), ((decide (e ≥ IntKind.i64.wrap (nM F G C * IntKind.i64.wrap (G + (1 : Int))))) = false), (nM F G C ≠ (0 : Int)), (nM F G C ≠ (0 : Int))]) [false,false,false,false] (by kernel_rfl) ⟨hb1, hb2, hb3, hb4, (by (try rw [hn]); omega), (by (try rw [hn]); omega), trivial⟩ (by (try rw [hm] at hb4); (try rw [hE] at hb3); first | (exfalso; rw [hn] at hb1; simp at hb1; omega) | ((simp only [decide_eq_true_eq, decide_eq_false_iff_not] at *); refine fin _ _ _ (hp.trans ?_); clear fin hp; obtain ⟨m, hM⟩ := hM; first | (rw [if_pos (by omega)]; done) | (rw [w1 (by omega) (by omega), if_neg (by omega), if_pos (by omega)]; done) | (rw [w2 (by omega) (by omega), w3 (by omega), if_neg (by omega), if_neg (by omega)]; done))) hsim
theorem O18_ok : OrcOK Try.prog O18 := O9_ok.add 18 m18 fun args r cs h hc => by
  unfold m18 at h; split at h
  · cases h; exact f18_ok _ _ _ _
  · cases h
theorem f13_ok (F G C v : Int) : PureSpec Try.prog 13 [ros F G C, I v] (.tup [I (primM F G C v).1, I (primM F G C v).2]) := by
  refine pure_fn Try.func13 rfl fun {w N E a} hsim => ?_
  have fin : ∀ (a b : Int), primM F G C v = (a, b) → Ret.tup [D.raw (Value.int IntKind.i64 a), D.raw (Value.int IntKind.i64 b)] = Ret.tup [I (primM F G C v).1, I (primM F G C v).2] := fun a b h => by rw [h]; rfl
  cases hR : right F G C with
  | false =>
    rcases Bool.eq_false_or_eq_true ((if right F G C = true then (0 : Int) else (1 : Int)) != (0 : Int)) with hb1 | hb1
    · skip
      exact go_ret O18_ok Try.func13 (r' := .tup [.raw (.int .i64 ((0 : Int))), .raw (.int .i64 ((1 : Int)))]) (cs := [(((if right F G C = true then (0 : Int) else (1 : Int)) != (0 : Int)) = true)]) [true] (by kernel_rfl) ⟨hb1, trivial⟩ (by first | (exfalso; simp [hR] at hb1; done) | (refine fin _ _ ?_; simp [primM, hR])) hsim
    · skip
      rcases Bool.eq_false_or_eq_true (decide (v < (0 : Int))) with hb2 | hb2
      · skip
        exact go_ret O18_ok Try.func13 (r' := .tup [.raw (.int .i64 ((0 : Int))), .raw (.int .i64 ((1 : Int)))]) (cs := [(((if right F G C = true then (0 : Int) else (1 : Int)) != (0 : Int)) = false), ((decide (v < (0 : Int))) = true)]) [false,true] (by kernel_rfl) ⟨hb1, hb2, trivial⟩ (by first | (exfalso; simp [hR] at hb1; done) | (refine fin _ _ ?_; simp [primM, hR])) hsim
      · skip
        rcases Bool.eq_false_or_eq_true (decide (v > (1099511627776 : Int))) with hb3 | hb3
        · skip
          exact go_ret O18_ok Try.func13 (r' := .tup [.raw (.int .i64 ((0 : Int))), .raw (.int .i64 ((1 : Int)))]) (cs := [(((if right F G C = true then (0 : Int) else (1 : Int)) != (0 : Int)) = false), ((decide (v < (0 : Int))) = false), ((decide (v > (1099511627776 : Int))) = true)]) [false,false,true] (by kernel_rfl) ⟨hb1, hb2, hb3, trivial⟩ (by first | (exfalso; simp [hR] at hb1; done) | (refine fin _ _ ?_; simp [primM, hR])) hsim
        · skip
          exact go_ret O18_ok Try.func13 (r' := .tup [.raw (.int .i64 (v.tmod (nM F G C))), .raw (.int .i64 ((0 : Int)))]) (cs := [(((if right F G C = true then (0 : Int) else (1 : Int)) != (0 : Int)) = false), ((decide (v < (0 : Int))) = false), ((decide (v > (1099511627776 : Int))) = false), (nM F G C ≠ (0 : Int))]) [false,false,false] (by kernel_rfl) ⟨hb1, hb2, hb3, (by exfalso; simp [hR] at hb1), trivial⟩ (by first | (exfalso; simp [hR] at hb1; done) | (refine fin _ _ ?_; simp [primM, hR])) hsim
  | true =>
    have hn := nM_right hR
    have hr := right_iff.1 hR
    have w3 : 0 ≤ v → v.tmod (nM F G C) = v % (3 * F + 1) := fun h1 => by rw [hn, Int.tmod_eq_emod_of_nonneg h1]
    rcases Bool.eq_false_or_eq_true ((if right F G C = true then (0 : Int) else (1 : Int)) != (0 : Int)) with hb1 | hb1
    · skip
      exact go_ret O18_ok Try.func13 (r' := .tup [.raw (.int .i64 ((0 : Int))), .raw (.int .i64 ((1 : Int)))]) (cs := [(((if right F G C = true then (0 : Int) else (1 : Int)) != (0 : Int)) = true)]) [true] (by kernel_rfl) ⟨hb1, trivial⟩ (by first | (exfalso; simp [hR] at hb1; done) | (refine fin _ _ ?_; simp only [decide_eq_true_eq, decide_eq_false_iff_not] at *; unfold primM; first | (rw [if_neg (by simp [hR]; omega)]; done) | (rw [w3 (by omega), if_pos ⟨hR, by omega, by omega⟩]; done))) hsim
    · skip
      rcases Bool.eq_false_or_eq_true (decide (v < (0 : Int))) with hb2 | hb2
      · skip
        exact go_ret O18_ok Try.func13 (r' := .tup [.raw (.int .i64 ((0 : Int))), .raw (.int .i64 ((1 : Int)))]) (cs := [(((if right F G C = true then (0 : Int) else (1 : Int)) != (0 : Int)) = false), ((decide (v < (0 : Int))) = true)]) [false,true] (by kernel_rfl) ⟨hb1, hb2, trivial⟩ (by first | (exfalso; simp [hR] at hb1; done) | (refine fin _ _ ?_; simp only [decide_eq_true_eq, decide_eq_false_iff_not] at *; unfold primM; first | (rw [if_neg (by simp [hR]; omega)]; done) | (rw [w3 (by omega), if_pos ⟨hR, by omega, by omega⟩]; done))) hsim
      · skip
        rcases Bool.eq_false_or_eq_true (decide (v > (1099511627776 : Int))) with hb3 | hb3
        · skip
          exact go_ret O18_ok Try.func13 (r' := .tup [.raw (.int .i64 ((0 : Int))), .raw (.int .i64 ((1 : Int)))]) (cs := [(((if right F G C = true then (0 : Int) else (1 : Int)) != (0 : Int)) = false), ((decide (v < (0 : Int))) = false), ((decide (v > (1099511627776 : Int))) = true)]) [false,false,true] (by kernel_rfl) ⟨hb1, hb2, hb3, trivial⟩ (by first | (exfalso; simp [hR] at hb1; done) | (refine fin _ _ ?_; simp only [decide_eq_true_eq, decide_eq_false_iff_not] at *; unfold primM; first | (rw [if_neg (by simp [hR]; omega)]; done) | (rw [w3 (by omega), if_pos ⟨hR, by omega, by omega⟩]; done))) hsim
        · skip
          exact go_ret O18_ok Try.func13 (r' := .tup [.raw (.int .i64 (v.tmod (nM F G C))), .raw (.int .i64 ((0 : Int)))]) (cs := [(((if right F G C = true then (0 : Int) else (1 : Int)) != (0 : Int)) = false), ((decide (v < (0 : Int))) = false), ((decide (v > (1099511627776 : Int))) = false), (nM F G C ≠ (0 : Int))]) [false,false,false] (by kernel_rfl) ⟨hb1, hb2, hb3, (by rw [hn]; omega), trivial⟩ (by first | (exfalso; simp [hR] at hb1; done) | (refine fin _ _ ?_; simp only [decide_eq_true_eq, decide_eq_false_iff_not] at *; unfold primM; first | (rw [if_neg (by simp [hR]; omega)]; done) | (rw [w3 (by omega), if_pos ⟨hR, by omega, by omega⟩]; done))) hsim
theorem O13_ok : OrcOK Try.prog O13 := O18_ok.add 13 m13 fun args r cs h hc => by
  unfold m13 at h; split at h
  · cases h; exact f13_ok _ _ _ _
  · cases h
theorem f14_ok (F G C : Int) : PureSpec Try.prog 14 [I F, I G, I C] (.one (Bo (right F G C))) := by
  refine pure_fn Try.func14 rfl fun {w N E a} hsim => ?_
  rcases Bool.eq_false_or_eq_true (decide (F ≥ (0 : Int))) with hb1 | hb1
  · skip
    rcases Bool.eq_false_or_eq_true (decide (F ≤ (3 : Int))) with hb2 | hb2
    · skip
      rcases Bool.eq_false_or_eq_true (decide (G ≥ (1 : Int))) with hb3 | hb3
      · skip
        rcases Bool.eq_false_or_eq_true (decide (G ≤ (4 : Int))) with hb4 | hb4
        · skip
          rcases Bool.eq_false_or_eq_true (decide (C ≥ (1 : Int))) with hb5 | hb5
          · skip
            exact go_ret O13_ok Try.func14 (r' := .one (.raw (.bool (decide (C ≤ (8 : Int)))))) (cs := [((decide (F ≥ (0 : Int))) = true), ((decide (F ≤ (3 : Int))) = true), ((decide (G ≥ (1 : Int))) = true), ((decide (G ≤ (4 : Int))) = true), ((decide (C ≥ (1 : Int))) = true)]) [true,true,true,true,true] (by kernel_rfl) ⟨hb1, hb2, hb3, hb4, hb5, trivial⟩ (by refine congrArg (fun b => Ret.one (.raw (.bool b))) ?_; rw [Bool.eq_iff_iff]; simp [right]; (simp at *) <;> omega) hsim
          · skip
            exact go_ret O13_ok Try.func14 (r' := .one (.raw (.bool false))) (cs := [((decide (F ≥ (0 : Int))) = true), ((decide (F ≤ (3 : Int))) = true), ((decide (G ≥ (1 : Int))) = true), ((decide (G ≤ (4 : Int))) = true), ((decide (C ≥ (1 : Int))) = false)]) [true,true,true,true,false] (by kernel_rfl) ⟨hb1, hb2, hb3, hb4, hb5, trivial⟩ (by refine congrArg (fun b => Ret.one (.raw (.bool b))) ?_; rw [Bool.eq_iff_iff]; simp [right]; (simp at *) <;> omega) hsim
        · skip
          exact go_ret O13_ok Try.func14 (r' := .one (.raw (.bool false))) (cs := [((decide (F ≥ (0 : Int))) = true), ((decide (F ≤ (3 : Int))) = true), ((decide (G ≥ (1 : Int))) = true), ((decide (G ≤ (4 : Int))) = false)]) [true,true,true,false] (by kernel_rfl) ⟨hb1, hb2, hb3, hb4, trivial⟩ (by refine congrArg (fun b => Ret.one (.raw (.bool b))) ?_; rw [Bool.eq_iff_iff]; simp [right]; (simp at *) <;> omega) hsim
      · skip
        exact go_ret O13_ok Try.func14 (r' := .one (.raw (.bool false))) (cs := [((decide (F ≥ (0 : Int))) = true), ((decide (F ≤ (3 : Int))) = true), ((decide (G ≥ (1 : Int))) = false)]) [true,true,false] (by kernel_rfl) ⟨hb1, hb2, hb3, trivial⟩ (by refine congrArg (fun b => Ret.one (.raw (.bool b))) ?_; rw [Bool.eq_iff_iff]; simp [right]; (simp at *) <;> omega) hsim
    · skip
      exact go_ret O13_ok Try.func14 (r' := .one (.raw (.bool false))) (cs := [((decide (F ≥ (0 : Int))) = true), ((decide (F ≤ (3 : Int))) = false)]) [true,false] (by kernel_rfl) ⟨hb1, hb2, trivial⟩ (by refine congrArg (fun b => Ret.one (.raw (.bool b))) ?_; rw [Bool.eq_iff_iff]; simp [right]; (simp at *) <;> omega) hsim
  · skip
    exact go_ret O13_ok Try.func14 (r' := .one (.raw (.bool false))) (cs := [((decide (F ≥ (0 : Int))) = false)]) [false] (by kernel_rfl) ⟨hb1, trivial⟩ (by refine congrArg (fun b => Ret.one (.raw (.bool b))) ?_; rw [Bool.eq_iff_iff]; simp [right]; (simp at *) <;> omega) hsim
theorem O14_ok : OrcOK Try.prog O14 := O13_ok.add 14 m14 fun args r cs h hc => by
  unfold m14 at h; split at h
  · cases h; exact f14_ok _ _ _
  · cases h
theorem f15_ok (F G C v : Int) : PureSpec Try.prog 15 [I F, I G, I C, I v] (.tup [I (primM F G C v).1, I (primM F G C v).2]) := by
  refine pure_fn Try.func15 rfl fun {w N E a} hsim => ?_
  have fin : ∀ (a b : Int), primM F G C v = (a, b) → Ret.tup [D.raw (Value.int IntKind.i64 a), D.raw (Value.int IntKind.i64 b)] = Ret.tup [I (primM F G C v).1, I (primM F G C v).2] := fun a b h => by rw [h]; rfl
  cases hR : right F G C with
  | false =>
    rcases Bool.eq_false_or_eq_true (!right F G C) with hb1 | hb1
    · skip
      exact go_ret O14_ok Try.func15 (r' := .tup [.raw (.int .i64 ((0 : Int))), .raw (.int .i64 ((1 : Int)))]) (cs := [((!right F G C) = true)]) [true] (by kernel_rfl) ⟨hb1, trivial⟩ (by first | (exfalso; simp [hR] at hb1; done) | (refine fin _ _ ?_; simp [primM, hR])) hsim
    · skip
      rcases Bool.eq_false_or_eq_true (decide (v < (0 : Int))) with hb2 | hb2
      · skip
        exact go_ret O14_ok Try.func15 (r' := .tup [.raw (.int .i64 ((0 : Int))), .raw (.int .i64 ((1 : Int)))]) (cs := [((!right F G C) = false), ((decide (v < (0 : Int))) = true)]) [false,true] (by kernel_rfl) ⟨hb1, hb2, trivial⟩ (by first | (exfalso; simp [hR] at hb1; done) | (refine fin _ _ ?_; simp [primM, hR])) hsim
      · skip
        rcases Bool.eq_false_or_eq_true (decide (v > (1099511627776 : Int))) with hb3 | hb3
        · skip
          exact go_ret O14_ok Try.func15 (r' := .tup [.raw (.int .i64 ((0 : Int))), .raw (.int .i64 ((1 : Int)))]) (cs := [((!right F G C) = false), ((decide (v < (0 : Int))) = false), ((decide (v > (1099511627776 : Int))) = true)]) [false,false,true] (by kernel_rfl) ⟨hb1, hb2, hb3, trivial⟩ (by first | (exfalso; simp [hR] at hb1; done) | (refine fin _ _ ?_; simp [primM, hR])) hsim
        · skip
          exact go_ret O14_ok Try.func15 (r' := .tup [.raw (.int .i64 (v.tmod (IntKind.i64.wrap (IntKind.i64.wrap ((3 : Int) * F) + (1 : Int))))), .raw (.int .i64 ((0 : Int)))]) (cs := [((!right F G C) = false), ((decide (v < (0 : Int))) = false), ((decide (v > (1099511627776 : Int))) = false), (IntKind.i64.wrap (IntKind.i64.wrap ((3 : Int) * F) + (1 : Int)) ≠ (0 : Int))]) [false,false,false] (by kernel_rfl) ⟨hb1, hb2, hb3, (by exfalso; simp [hR] at hb1), trivial⟩ (by first | (exfalso; simp [hR] at hb1; done) | (refine fin _ _ ?_; simp [primM, hR])) hsim
  | true =>
    have hr := right_iff.1 hR
    have hn : IntKind.i64.wrap (IntKind.i64.wrap (3 * F) + 1) = 3 * F + 1 := by rw [w64 (x := 3 * F) (by omega), w64 (by omega)]
    have w3 : 0 ≤ v → v.tmod (IntKind.i64.wrap (IntKind.i64.wrap (3 * F) + 1)) = v % (3 * F + 1) := fun h1 => by rw [hn, Int.tmod_eq_emod_of_nonneg h1]
    rcases Bool.eq_false_or_eq_true (!right F G C) with hb1 | hb1
    · skip
      exact go_ret O14_ok Try.func15 (r' := .tup [.raw (.int .i64 ((0 : Int))), .raw (.int .i64 ((1 : Int)))]) (cs := [((!right F G C) = true)]) [true] (by kernel_rfl) ⟨hb1, trivial⟩ (by first | (exfalso; simp [hR] at hb1; done) | (refine fin _ _ ?_; simp only [decide_eq_true_eq, decide_eq_false_iff_not] at *; unfold primM; first | (rw [if_neg (by simp [hR]; omega)]; done) | (rw [w3 (by omega), if_pos ⟨hR, by omega, by omega⟩]; done))) hsim
    · skip
      rcases Bool.eq_false_or_eq_true (decide (v < (0 : Int))) with hb2 | hb2
      · skip
        exact go_ret O14_ok Try.func15 (r' := .tup [.raw (.int .i64 ((0 : Int))), .raw (.int .i64 ((1 : Int)))]) (cs := [((!right F G C) = false), ((decide (v < (0 : Int))) = true)]) [false,true] (by kernel_rfl) ⟨hb1, hb2, trivial⟩ (by first | (exfalso; simp [hR] at hb1; done) | (refine fin _ _ ?_; simp only [decide_eq_true_eq, decide_eq_false_iff_not] at *; unfold primM; first | (rw [if_neg (by simp [hR]; omega)]; done) | (rw [w3 (by omega), if_pos ⟨hR, by omega, by omega⟩]; done))) hsim
      · skip
        rcases Bool.eq_false_or_eq_true (decide (v > (1099511627776 : Int))) with hb3 | hb3
        · skip
          exact go_ret O14_ok Try.func15 (r' := .tup [.raw (.int .i64 ((0 : Int))), .raw (.int .i64 ((1 : Int)))]) (cs := [((!right F G C) = false), ((decide (v < (0 : Int))) = false), ((decide (v > (1099511627776 : Int))) = true)]) [false,false,true] (by kernel_rfl) ⟨hb1, hb2, hb3, trivial⟩ (by first | (exfalso; simp [hR] at hb1; done) | (refine fin _ _ ?_; simp only [decide_eq_true_eq, decide_eq_false_iff_not] at *; unfold primM; first | (rw [if_neg (by simp [hR]; omega)]; done) | (rw [w3 (by omega), if_pos ⟨hR, by omega, by omega⟩]; done))) hsim
        · skip
          exact go_ret O14_ok Try.func15 (r' := .tup [.raw (.int .i64 (v.tmod (IntKind.i64.wrap (IntKind.i64.wrap ((3 : Int) * F) + (1 : Int))))), .raw (.int .i64 ((0 : Int)))]) (cs := [((!right F G C) = false), ((decide (v < (0 : Int))) = false), ((decide (v > (1099511627776 : Int))) = false), (IntKind.i64.wrap (IntKind.i64.wrap ((3 : Int) * F) + (1 : Int)) ≠ (0 : Int))]) [false,false,false] (by kernel_rfl) ⟨hb1, hb2, hb3, (by rw [hn]; omega), trivial⟩ (by first | (exfalso; simp [hR] at hb1; done) | (refine fin _ _ ?_; simp only [decide_eq_true_eq, decide_eq_false_iff_not] at *; unfold primM; first | (rw [if_neg (by simp [hR]; omega)]; done) | (rw [w3 (by omega), if_pos ⟨hR, by omega, by omega⟩]; done))) hsim
theorem O15_ok : OrcOK Try.prog O15 := O14_ok.add 15 m15 fun args r cs h hc => by
  unfold m15 at h; split at h
  · cases h; exact f15_ok _ _ _ _
  · cases h
end Go.Ros
