/-
  Contracts of the given functions, and the statement's own walk. No condition.
-/
import Derived.Test.YticnclmadldkkaaRos5
namespace Go.Ros
open Go Go.Abs Go.Proofs
set_option linter.unusedVariables false
theorem unP_Pt (x : Int × Int) : unP (Pt x) = x := rfl
theorem idx_found {xs : List (Int × Int)} {p : Int × Int} {k : Nat} (hk : k < xs.length) (hn : p ∉ xs.take k) (h : xs.getD k default = p) : xs.idxOf p = k := by
  have e : xs = xs.take k ++ p :: xs.drop (k + 1) := by
    rw [← h, List.getD_eq_getElem?_getD, List.getElem?_eq_getElem hk, Option.getD_some]
    exact (List.take_append_drop k xs).symm.trans (by rw [← List.drop_eq_getElem_cons hk])
  have hl : (xs.take k).length = k := by rw [List.length_take]; omega
  conv => lhs; rw [e]
  rw [List.idxOf_append, if_neg hn, List.idxOf_cons_self, hl]; omega
theorem f21_loop (xs : List (Int × Int)) (g i : Int) (hx : xs ≠ []) (hl : xs.length ≤ 9223372036854775807) {w0 : World} {N : Nat → Prop} (d : Nat) : ∀ (k : Nat) (E : Env) (a : Act) (w : World), (g, i) ∉ xs.take k → k + d = xs.length → Sim w0.heap.size w0 N E (S21 xs g i k) a w →
    Goes Try.prog 21 (loopAt Try.f21 0) (RPure w0 N (.tup [I (endR xs (g, i)).1, I (endR xs (g, i)).2])) a w := by
  have fin : ∀ (a b : Int), endR xs (g, i) = (a, b) → Ret.tup [D.raw (Value.int IntKind.i64 a), D.raw (Value.int IntKind.i64 b)] = Ret.tup [I (endR xs (g, i)).1, I (endR xs (g, i)).2] := fun a b h => by rw [h]; rfl
  induction d with
  | zero =>
    intro k E a w hn hd hsim
    have hk : decide ((k : Int) < xs.length) = false := by simp; omega
    rw [List.take_of_length_le (by omega)] at hn
    have he : endR xs (g, i) = (0, 6) := by
      unfold endR; rw [if_neg hx, if_neg (by rw [List.idxOf_lt_length_iff]; exact hn)]
    exact go_ret O17_ok Try.func21 (r' := .tup [.raw (.int .i64 ((0 : Int))), .raw (.int .i64 ((6 : Int)))]) (cs := [((decide ((↑k : Int) < (↑xs.length : Int))) = false)]) [false] (by kernel_rfl) ⟨hk, trivial⟩ (by exact fin _ _ he) hsim
  | succ d ih =>
    intro k E a w hn hd hsim
    have hk : decide ((k : Int) < xs.length) = true := by simp; omega
    have hlt : k < xs.length := by omega
    have hw : IntKind.i64.wrap ((k : Int) + 1) = ((k + 1 : Nat) : Int) := by rw [w64 (by omega)]; rfl
    have hg : xs.getD (k : Int).toNat default = xs[k] := by rw [Int.toNat_natCast, List.getD_eq_getElem?_getD, List.getElem?_eq_getElem hlt, Option.getD_some]
    have yes : ((xs.getD (k : Int).toNat default).1 == g && ((xs.getD (k : Int).toNat default).2 == i && true)) = true → endR xs (g, i) = ((k : Int), 0) := fun h => by
      simp only [Bool.and_eq_true, beq_iff_eq, Int.toNat_natCast] at h
      have e := idx_found hlt hn (Prod.ext h.1 h.2.1)
      unfold endR; rw [if_neg hx, e, if_pos hlt]
    have no : ((xs.getD (k : Int).toNat default).1 == g && ((xs.getD (k : Int).toNat default).2 == i && true)) = false → (g, i) ∉ xs.take (k + 1) := fun h h2 => by
      rw [List.take_add_one, List.getElem?_eq_getElem hlt] at h2
      rcases List.mem_append.1 h2 with h3 | h3
      · exact hn h3
      · simp only [Option.toList_some, List.mem_singleton] at h3
        rw [hg, ← h3] at h
        simp at h
    rcases Bool.eq_false_or_eq_true ((xs.getD (↑k : Int).toNat default).fst == g && ((xs.getD (↑k : Int).toNat default).snd == i && true)) with hb1 | hb1
    · skip
      exact go_ret O17_ok Try.func21 (r' := .tup [.raw (.int .i64 ((↑k : Int))), .raw (.int .i64 ((0 : Int)))]) (cs := [((decide ((↑k : Int) < (↑xs.length : Int))) = true), ((0 : Int) ≤ (↑k : Int) ∧ (↑k : Int) < (↑xs.length : Int)), (((xs.getD (↑k : Int).toNat default).fst == g && ((xs.getD (↑k : Int).toNat default).snd == i && true)) = true)]) [true,true] (by kernel_rfl) ⟨hk, (by omega), hb1, trivial⟩ (by exact fin _ _ (yes hb1)) hsim
    · skip
      refine go_head O17_ok (k' := loopAt Try.f21 0) (s' := mk 23 [(3, .ref 3 (0)), (11, .d (.list 2 (xs.length) (fun i => Pt (xs.getD i default)))), (12, .d (.raw (.int .i64 ((↑xs.length : Int))))), (13, .d (.raw (.int .i64 (IntKind.i64.wrap ((↑k : Int) + (1 : Int))))))] [(3, ⟨40, [.d (.raw (.int .i64 (g))), .d (.raw (.int .i64 (i)))]⟩)] []) (cs := [((decide ((↑k : Int) < (↑xs.length : Int))) = true), ((0 : Int) ≤ (↑k : Int) ∧ (↑k : Int) < (↑xs.length : Int)), (((xs.getD (↑k : Int).toNat default).fst == g && ((xs.getD (↑k : Int).toNat default).snd == i && true)) = false)]) [true,false] [3,11,12,13] [3] [] (by kernel_rfl) ⟨hk, (by omega), hb1, trivial⟩ hsim fun E a w hsim => ?_
      rw [hw] at hsim
      exact ih (k + 1) E a w (no hb1) (by omega) hsim
theorem f21_ok (xs : List (Int × Int)) (g i : Int) : PureSpec Try.prog 21 [L 2 Pt xs, Pt (g, i)] (.tup [I (endR xs (g, i)).1, I (endR xs (g, i)).2]) := by
  refine pure_fn Try.func21 rfl fun {w N E a} hsim => ?_
  have hx : xs.length ≤ 9223372036854775807 := hsim.len_le 0 rfl
  have hz : ((xs.length : Int) == 0) = true → xs = [] := fun h => by simpa using h
  have hz2 : ((xs.length : Int) == 0) = false → xs ≠ [] := fun h => by simpa using h
  rcases Bool.eq_false_or_eq_true ((↑xs.length : Int) == (0 : Int)) with hb1 | hb1
  · skip
    exact go_ret O17_ok Try.func21 (r' := .tup [.raw (.int .i64 ((0 : Int))), .raw (.int .i64 ((1 : Int)))]) (cs := [(((↑xs.length : Int) == (0 : Int)) = true)]) [true] (by kernel_rfl) ⟨hb1, trivial⟩ (by rw [hz hb1]; rfl) hsim
  · skip
    refine go_head O17_ok (k' := loopAt Try.f21 0) (s' := mk 23 [(3, .ref 3 (0)), (11, .d (.list 2 (xs.length) (fun i => Pt (xs.getD i default)))), (12, .d (.raw (.int .i64 ((↑xs.length : Int))))), (13, .d (.raw (.int .i64 ((0 : Int)))))] [(3, ⟨40, [.d (.raw (.int .i64 ((g, i).fst))), .d (.raw (.int .i64 ((g, i).snd)))]⟩)] []) (cs := [(((↑xs.length : Int) == (0 : Int)) = false)]) [false] [3,11,12,13] [3] [] (by kernel_rfl) ⟨hb1, trivial⟩ hsim fun E a w hsim => ?_
    exact f21_loop xs g i (hz2 hb1) hx xs.length 0 E a w (by simp) (by omega) hsim
theorem O21_ok : OrcOK Try.prog O21 := O17_ok.add 21 m21 fun args r cs h hc => by
  unfold m21 at h; split at h
  · split at h
    · rename_i h1
      cases h
      intro w N vs hN hv
      refine f21_ok _ _ _ w N vs hN ⟨hv.1, fun i x v hx hu => ?_⟩
      match i with
      | 0 => cases hx; exact VD_asList h1 hc.1 (hv.2 0 _ v rfl hu)
      | 1 => cases hx; exact hv.2 1 _ v rfl hu
    · cases h
  · cases h
theorem f22_ok (xs : List (Int × Int)) (e : Int) : PureSpec Try.prog 22 [L 2 Pt xs, I e] (.tup [Pt (partyR xs e).1, I (partyR xs e).2]) := by
  refine pure_fn Try.func22 rfl fun {w N E a} hsim => ?_
  have fin : ∀ (a b c : Int), partyR xs e = ((a, b), c) → Ret.tup [.agg [D.raw (Value.int IntKind.i64 a), D.raw (Value.int IntKind.i64 b)], D.raw (Value.int IntKind.i64 c)] = Ret.tup [Pt (partyR xs e).1, I (partyR xs e).2] := fun a b c h => by rw [h]; rfl
  have hz : ((xs.length : Int) == 0) = true → xs = [] := fun h => by simpa using h
  have hz2 : ((xs.length : Int) == 0) = false → xs ≠ [] := fun h => by simpa using h
  rcases Bool.eq_false_or_eq_true ((↑xs.length : Int) == (0 : Int)) with hb1 | hb1
  · skip
    exact go_ret O21_ok Try.func22 (r' := .tup [.agg [.raw (.int .i64 ((0 : Int))), .raw (.int .i64 ((0 : Int)))], .raw (.int .i64 ((1 : Int)))]) (cs := [(((↑xs.length : Int) == (0 : Int)) = true)]) [true] (by kernel_rfl) ⟨hb1, trivial⟩ (by refine fin _ _ _ ?_; unfold partyR; first | (rw [if_pos (hz hb1)]; done) | (rw [if_neg (hz2 hb1)]; simp only [decide_eq_true_eq, decide_eq_false_iff_not] at *; first | (rw [if_pos (by omega)]; done) | (rw [if_neg (by omega)]; done))) hsim
  · skip
    rcases Bool.eq_false_or_eq_true (decide (e < (0 : Int))) with hb2 | hb2
    · skip
      exact go_ret O21_ok Try.func22 (r' := .tup [.agg [.raw (.int .i64 ((0 : Int))), .raw (.int .i64 ((0 : Int)))], .raw (.int .i64 ((6 : Int)))]) (cs := [(((↑xs.length : Int) == (0 : Int)) = false), ((decide (e < (0 : Int))) = true)]) [false,true] (by kernel_rfl) ⟨hb1, hb2, trivial⟩ (by refine fin _ _ _ ?_; unfold partyR; first | (rw [if_pos (hz hb1)]; done) | (rw [if_neg (hz2 hb1)]; simp only [decide_eq_true_eq, decide_eq_false_iff_not] at *; first | (rw [if_pos (by omega)]; done) | (rw [if_neg (by omega)]; done))) hsim
    · skip
      rcases Bool.eq_false_or_eq_true (decide (e ≥ (↑xs.length : Int))) with hb3 | hb3
      · skip
        exact go_ret O21_ok Try.func22 (r' := .tup [.agg [.raw (.int .i64 ((0 : Int))), .raw (.int .i64 ((0 : Int)))], .raw (.int .i64 ((6 : Int)))]) (cs := [(((↑xs.length : Int) == (0 : Int)) = false), ((decide (e < (0 : Int))) = false), ((decide (e ≥ (↑xs.length : Int))) = true)]) [false,false,true] (by kernel_rfl) ⟨hb1, hb2, hb3, trivial⟩ (by refine fin _ _ _ ?_; unfold partyR; first | (rw [if_pos (hz hb1)]; done) | (rw [if_neg (hz2 hb1)]; simp only [decide_eq_true_eq, decide_eq_false_iff_not] at *; first | (rw [if_pos (by omega)]; done) | (rw [if_neg (by omega)]; done))) hsim
      · skip
        exact go_ret O21_ok Try.func22 (r' := .tup [.agg [.raw (.int .i64 ((xs.getD e.toNat default).fst)), .raw (.int .i64 ((xs.getD e.toNat default).snd))], .raw (.int .i64 ((0 : Int)))]) (cs := [(((↑xs.length : Int) == (0 : Int)) = false), ((decide (e < (0 : Int))) = false), ((decide (e ≥ (↑xs.length : Int))) = false), ((0 : Int) ≤ e ∧ e < (↑xs.length : Int))]) [false,false,false] (by kernel_rfl) ⟨hb1, hb2, hb3, (by simp at *; omega), trivial⟩ (by refine fin _ _ _ ?_; unfold partyR; first | (rw [if_pos (hz hb1)]; done) | (rw [if_neg (hz2 hb1)]; simp only [decide_eq_true_eq, decide_eq_false_iff_not] at *; first | (rw [if_pos (by omega)]; done) | (rw [if_neg (by omega)]; done))) hsim
theorem O22_ok : OrcOK Try.prog O22 := O21_ok.add 22 m22 fun args r cs h hc => by
  unfold m22 at h; split at h
  · split at h
    · rename_i h1
      cases h
      intro w N vs hN hv
      refine f22_ok _ _ w N vs hN ⟨hv.1, fun i x v hx hu => ?_⟩
      match i with
      | 0 => cases hx; exact VD_asList h1 hc.1 (hv.2 0 _ v rfl hu)
      | 1 => cases hx; exact hv.2 1 _ v rfl hu
    · cases h
  · cases h
theorem groupR_succ (xs : List (Int × Int)) (g b : Int) (k : Nat) : groupR xs g b (k + 1) = if (xs.getD k default).1 = g ∧ 0 ≤ g ∧ (xs.getD k default).2 ≠ b then groupR xs g b k ++ [(k : Int)] else groupR xs g b k := by
  simp only [groupR, List.range_succ, List.filterMap_append]
  split <;> rename_i h
  · rw [List.filterMap_cons, if_pos h]; rfl
  · rw [List.filterMap_cons, if_neg h]; simp
theorem groupR_len (xs : List (Int × Int)) (g b : Int) (k : Nat) : (groupR xs g b k).length ≤ k := by
  have := List.length_filterMap_le (fun i => if (xs.getD i default).1 = g ∧ 0 ≤ g ∧ (xs.getD i default).2 ≠ b then some (i : Int) else none) (List.range k)
  simpa [groupR] using this
theorem f23_loop (xs : List (Int × Int)) (g b : Int) (hl : xs.length ≤ 1000) {w0 : World} {N : Nat → Prop} (d : Nat) : ∀ (k : Nat) (ys : List Int) (E : Env) (a : Act) (w : World), ys = groupR xs g b k → k + d = xs.length → Sim w0.heap.size w0 N E (S23 xs g b k ys) a w →
    Goes Try.prog 23 (loopAt Try.f23 0) (RPure w0 N (.one (L 1 I (groupR xs g b xs.length)))) a w := by
  induction d with
  | zero =>
    intro k ys E a w hys hd hsim
    have hk : decide ((k : Int) < xs.length) = false := by simp; omega
    exact go_ret O22_ok Try.func23 (r' := .one (.list 1 (((34 : Nat), LRow (3 : Nat) (1 : Nat) I ys).snd.n) (((34 : Nat), LRow (3 : Nat) (1 : Nat) I ys).snd.el))) (cs := [((decide ((↑k : Int) < (↑xs.length : Int))) = false)]) [false] (by kernel_rfl) ⟨hk, trivial⟩ (by rw [show xs.length = k by omega, ← hys]; rfl) hsim
  | succ d ih =>
    intro k ys E a w hys hd hsim
    have hk : decide ((k : Int) < xs.length) = true := by simp; omega
    have hlt : k < xs.length := by omega
    have hw : IntKind.i64.wrap ((k : Int) + 1) = ((k + 1 : Nat) : Int) := by rw [w64 (by omega)]; rfl
    have hyl := groupR_len xs g b k
    rw [← hys] at hyl
    have hs := groupR_succ xs g b k
    rcases Bool.eq_false_or_eq_true ((xs.getD (↑k : Int).toNat default).fst == g) with hb1 | hb1
    · skip
      rcases Bool.eq_false_or_eq_true (decide (g ≥ (0 : Int))) with hb2 | hb2
      · skip
        rcases Bool.eq_false_or_eq_true ((xs.getD (↑k : Int).toNat default).snd != b) with hb3 | hb3
        · skip
          refine go_head O22_ok (k' := loopAt Try.f23 0) (s' := mk 37 [(1, .d (.raw (.int .i64 (g)))), (2, .d (.raw (.int .i64 (b)))), (7, .own 34), (10, .d (.list 2 (xs.length) (fun i => Pt (xs.getD i default)))), (11, .d (.raw (.int .i64 ((↑xs.length : Int))))), (12, .d (.raw (.int .i64 (IntKind.i64.wrap ((↑k : Int) + (1 : Int))))))] [] [(34, ⟨3, 1, ((34 : Nat), LRow (3 : Nat) (1 : Nat) I ys).snd.n + (Row.mk (3 : Nat) Try.prog.types[(3 : Nat)].size (1 : Nat) (segD false Try.prog.types[(3 : Nat)].size (splice (List.map (fun j => (List.map D.raw (Value.int IntKind.i64 (0 : Int)).cells.toList).getD (j % (List.map D.raw (Value.int IntKind.i64 (0 : Int)).cells.toList).length) default) (List.range ((1 : Nat) * Try.prog.types[(3 : Nat)].size))) ((0 : Nat) * Try.prog.types[(3 : Nat)].size) (I (↑k : Int)).cells))).n, fun j => if j < ((34 : Nat), LRow (3 : Nat) (1 : Nat) I ys).snd.n then ((34 : Nat), LRow (3 : Nat) (1 : Nat) I ys).snd.el j else (Row.mk (3 : Nat) Try.prog.types[(3 : Nat)].size (1 : Nat) (segD false Try.prog.types[(3 : Nat)].size (splice (List.map (fun j => (List.map D.raw (Value.int IntKind.i64 (0 : Int)).cells.toList).getD (j % (List.map D.raw (Value.int IntKind.i64 (0 : Int)).cells.toList).length) default) (List.range ((1 : Nat) * Try.prog.types[(3 : Nat)].size))) ((0 : Nat) * Try.prog.types[(3 : Nat)].size) (I (↑k : Int)).cells))).el (j - ((34 : Nat), LRow (3 : Nat) (1 : Nat) I ys).snd.n)⟩)]) (cs := [((decide ((↑k : Int) < (↑xs.length : Int))) = true), ((0 : Int) ≤ (↑k : Int) ∧ (↑k : Int) < (↑xs.length : Int)), (((xs.getD (↑k : Int).toNat default).fst == g) = true), ((decide (g ≥ (0 : Int))) = true), (((xs.getD (↑k : Int).toNat default).snd != b) = true), (((34 : Nat), LRow (3 : Nat) (1 : Nat) I ys).snd.n + (Row.mk (3 : Nat) Try.prog.types[(3 : Nat)].size (1 : Nat) (segD false Try.prog.types[(3 : Nat)].size (splice (List.map (fun j => (List.map D.raw (Value.int IntKind.i64 (0 : Int)).cells.toList).getD (j % (List.map D.raw (Value.int IntKind.i64 (0 : Int)).cells.toList).length) default) (List.range ((1 : Nat) * Try.prog.types[(3 : Nat)].size))) ((0 : Nat) * Try.prog.types[(3 : Nat)].size) (I (↑k : Int)).cells))).n ≤ (9223372036854775807 : Nat) ∧ (((34 : Nat), LRow (3 : Nat) (1 : Nat) I ys).snd.n + (Row.mk (3 : Nat) Try.prog.types[(3 : Nat)].size (1 : Nat) (segD false Try.prog.types[(3 : Nat)].size (splice (List.map (fun j => (List.map D.raw (Value.int IntKind.i64 (0 : Int)).cells.toList).getD (j % (List.map D.raw (Value.int IntKind.i64 (0 : Int)).cells.toList).length) default) (List.range ((1 : Nat) * Try.prog.types[(3 : Nat)].size))) ((0 : Nat) * Try.prog.types[(3 : Nat)].size) (I (↑k : Int)).cells))).n) * Try.prog.types[(3 : Nat)].bytes ≤ (140737488355328 : Nat))]) [true,true,true,true] [1,2,7,10,11,12] [] [34] (by kernel_rfl) ⟨hk, (by first | omega | (show ys.length + 1 ≤ _ ∧ (ys.length + 1) * 8 ≤ _; omega)), hb1, hb2, hb3, (by first | omega | (show ys.length + 1 ≤ _ ∧ (ys.length + 1) * 8 ≤ _; omega)), trivial⟩ hsim fun E a w hsim => ?_
          rw [hw] at hsim
          (simp only [Int.toNat_natCast, beq_iff_eq, bne_iff_ne, bne_eq_false_iff_eq, beq_eq_false_iff_ne, decide_eq_true_eq, decide_eq_false_iff_not] at *)
          first | exact ih (k + 1) ys E a w (by rw [hs, if_neg (by omega)]; exact hys) (by omega) hsim | exact ih (k + 1) (ys ++ [(k : Int)]) E a w (by rw [hs, if_pos ⟨by omega, by omega, by omega⟩, hys]) (by omega) (Sim.snoc I hsim 34 (T := 3) (sz := 1) (xs := ys) (x := (k : Int)) rfl fun j hj => snoc_el hj rfl)
        · skip
          refine go_head O22_ok (k' := loopAt Try.f23 0) (s' := mk 37 [(1, .d (.raw (.int .i64 (g)))), (2, .d (.raw (.int .i64 (b)))), (7, .own 34), (10, .d (.list 2 (xs.length) (fun i => Pt (xs.getD i default)))), (11, .d (.raw (.int .i64 ((↑xs.length : Int))))), (12, .d (.raw (.int .i64 (IntKind.i64.wrap ((↑k : Int) + (1 : Int))))))] [] [(34, ⟨3, 1, ys.length, fun i => I (ys.getD i default)⟩)]) (cs := [((decide ((↑k : Int) < (↑xs.length : Int))) = true), ((0 : Int) ≤ (↑k : Int) ∧ (↑k : Int) < (↑xs.length : Int)), (((xs.getD (↑k : Int).toNat default).fst == g) = true), ((decide (g ≥ (0 : Int))) = true), (((xs.getD (↑k : Int).toNat default).snd != b) = false)]) [true,true,true,false] [1,2,7,10,11,12] [] [34] (by kernel_rfl) ⟨hk, (by first | omega | (show ys.length + 1 ≤ _ ∧ (ys.length + 1) * 8 ≤ _; omega)), hb1, hb2, hb3, trivial⟩ hsim fun E a w hsim => ?_
          rw [hw] at hsim
          (simp only [Int.toNat_natCast, beq_iff_eq, bne_iff_ne, bne_eq_false_iff_eq, beq_eq_false_iff_ne, decide_eq_true_eq, decide_eq_false_iff_not] at *)
          first | exact ih (k + 1) ys E a w (by rw [hs, if_neg (by omega)]; exact hys) (by omega) hsim | exact ih (k + 1) (ys ++ [(k : Int)]) E a w (by rw [hs, if_pos ⟨by omega, by omega, by omega⟩, hys]) (by omega) (Sim.snoc I hsim 34 (T := 3) (sz := 1) (xs := ys) (x := (k : Int)) rfl fun j hj => snoc_el hj rfl)
      · skip
        refine go_head O22_ok (k' := loopAt Try.f23 0) (s' := mk 37 [(1, .d (.raw (.int .i64 (g)))), (2, .d (.raw (.int .i64 (b)))), (7, .own 34), (10, .d (.list 2 (xs.length) (fun i => Pt (xs.getD i default)))), (11, .d (.raw (.int .i64 ((↑xs.length : Int))))), (12, .d (.raw (.int .i64 (IntKind.i64.wrap ((↑k : Int) + (1 : Int))))))] [] [(34, ⟨3, 1, ys.length, fun i => I (ys.getD i default)⟩)]) (cs := [((decide ((↑k : Int) < (↑xs.length : Int))) = true), ((0 : Int) ≤ (↑k : Int) ∧ (↑k : Int) < (↑xs.length : Int)), (((xs.getD (↑k : Int).toNat default).fst == g) = true), ((decide (g ≥ (0 : Int))) = false)]) [true,true,false] [1,2,7,10,11,12] [] [34] (by kernel_rfl) ⟨hk, (by first | omega | (show ys.length + 1 ≤ _ ∧ (ys.length + 1) * 8 ≤ _; omega)), hb1, hb2, trivial⟩ hsim fun E a w hsim => ?_
        rw [hw] at hsim
        (simp only [Int.toNat_natCast, beq_iff_eq, bne_iff_ne, bne_eq_false_iff_eq, beq_eq_false_iff_ne, decide_eq_true_eq, decide_eq_false_iff_not] at *)
        first | exact ih (k + 1) ys E a w (by rw [hs, if_neg (by omega)]; exact hys) (by omega) hsim | exact ih (k + 1) (ys ++ [(k : Int)]) E a w (by rw [hs, if_pos ⟨by omega, by omega, by omega⟩, hys]) (by omega) (Sim.snoc I hsim 34 (T := 3) (sz := 1) (xs := ys) (x := (k : Int)) rfl fun j hj => snoc_el hj rfl)
    · skip
      refine go_head O22_ok (k' := loopAt Try.f23 0) (s' := mk 37 [(1, .d (.raw (.int .i64 (g)))), (2, .d (.raw (.int .i64 (b)))), (7, .own 34), (10, .d (.list 2 (xs.length) (fun i => Pt (xs.getD i default)))), (11, .d (.raw (.int .i64 ((↑xs.length : Int))))), (12, .d (.raw (.int .i64 (IntKind.i64.wrap ((↑k : Int) + (1 : Int))))))] [] [(34, ⟨3, 1, ys.length, fun i => I (ys.getD i default)⟩)]) (cs := [((decide ((↑k : Int) < (↑xs.length : Int))) = true), ((0 : Int) ≤ (↑k : Int) ∧ (↑k : Int) < (↑xs.length : Int)), (((xs.getD (↑k : Int).toNat default).fst == g) = false)]) [true,false] [1,2,7,10,11,12] [] [34] (by kernel_rfl) ⟨hk, (by first | omega | (show ys.length + 1 ≤ _ ∧ (ys.length + 1) * 8 ≤ _; omega)), hb1, trivial⟩ hsim fun E a w hsim => ?_
      rw [hw] at hsim
      (simp only [Int.toNat_natCast, beq_iff_eq, bne_iff_ne, bne_eq_false_iff_eq, beq_eq_false_iff_ne, decide_eq_true_eq, decide_eq_false_iff_not] at *)
      first | exact ih (k + 1) ys E a w (by rw [hs, if_neg (by omega)]; exact hys) (by omega) hsim | exact ih (k + 1) (ys ++ [(k : Int)]) E a w (by rw [hs, if_pos ⟨by omega, by omega, by omega⟩, hys]) (by omega) (Sim.snoc I hsim 34 (T := 3) (sz := 1) (xs := ys) (x := (k : Int)) rfl fun j hj => snoc_el hj rfl)
theorem f23_ok (xs : List (Int × Int)) (g b : Int) (hl : xs.length ≤ 1000) : PureSpec Try.prog 23 [L 2 Pt xs, I g, I b] (.one (L 1 I (groupR xs g b xs.length))) := by
  refine pure_fn Try.func23 rfl fun {w N E a} hsim => ?_
  refine go_head O22_ok (k' := loopAt Try.f23 0) (s' := mk 37 [(1, .d (.raw (.int .i64 (g)))), (2, .d (.raw (.int .i64 (b)))), (7, .d (.raw (Value.slice none (0 : Nat) (0 : Nat)))), (10, .d (.list 2 (xs.length) (fun i => Pt (xs.getD i default)))), (11, .d (.raw (.int .i64 ((↑xs.length : Int))))), (12, .d (.raw (.int .i64 ((0 : Int)))))] [] []) (cs := []) [] [1,2,7,10,11,12] [] [] (by kernel_rfl) trivial hsim fun E a w hsim => ?_
  obtain ⟨E', h2⟩ := hsim.adopt 7 34 3 1 (fun i => I (([] : List Int).getD i default)) (by show 34 < 37; omega) rfl
  exact f23_loop xs g b hl xs.length 0 [] E' a w rfl (by omega) h2
theorem unL_len {α : Type} (dec : D → α) (n : Nat) (el : Nat → D) : (unL dec n el).length = n := by simp [unL]
theorem O23_ok : OrcOK Try.prog O23 := O22_ok.add 23 m23 fun args r cs h hc => by
  unfold m23 at h; split at h
  · split at h
    · rename_i n el h1
      cases h
      intro w N vs hN hv
      have h2 := f23_ok (unL unP n el) _ _ (by rw [unL_len]; exact hc.2.1) w N vs hN ⟨hv.1, fun i x v hx hu => by
        match i with
        | 0 => cases hx; exact VD_asList h1 hc.1 (hv.2 0 _ v rfl hu)
        | 1 => cases hx; exact hv.2 1 _ v rfl hu
        | 2 => cases hx; exact hv.2 2 _ v rfl hu⟩
      rw [unL_len] at h2
      exact h2
    · cases h
  · cases h
theorem f25_ok (F G C g n : Int) : PureSpec Try.prog 25 [ros F G C, pty g n] (.one (L 1 I (othersM F G C g n))) := by
  refine pure_fn Try.func25 rfl fun {w N E a} hsim => ?_
  rcases Bool.eq_false_or_eq_true ((endM F G C g n).snd != (0 : Int)) with hb1 | hb1
  · skip
    exact go_says O23_ok Try.func25 (r' := .one (.raw (Value.slice none (0 : Nat) (0 : Nat)))) (cs := [(((endM F G C g n).snd != (0 : Int)) = true)]) [true] (by kernel_rfl) ⟨hb1, trivial⟩ (by (simp at hb1); (try simp at hb2); first | exact says_nil 1 I (show othersM F G C g n = [] from if_pos (by omega)) | (rw [show othersM F G C g n = groupL F G C g n from if_neg (by omega)]; exact Ret.Says.eq rfl)) hsim
  · skip
    rcases Bool.eq_false_or_eq_true (decide (g < (0 : Int))) with hb2 | hb2
    · skip
      exact go_says O23_ok Try.func25 (r' := .one (.raw (Value.slice none (0 : Nat) (0 : Nat)))) (cs := [(((endM F G C g n).snd != (0 : Int)) = false), ((decide (g < (0 : Int))) = true)]) [false,true] (by kernel_rfl) ⟨hb1, hb2, trivial⟩ (by (simp at hb1); (try simp at hb2); first | exact says_nil 1 I (show othersM F G C g n = [] from if_pos (by omega)) | (rw [show othersM F G C g n = groupL F G C g n from if_neg (by omega)]; exact Ret.Says.eq rfl)) hsim
    · skip
      exact go_says O23_ok Try.func25 (r' := .one (.list 1 ((groupL F G C g n).length) (fun i => I ((groupL F G C g n).getD i default)))) (cs := [(((endM F G C g n).snd != (0 : Int)) = false), ((decide (g < (0 : Int))) = false)]) [false,false] (by kernel_rfl) ⟨hb1, hb2, trivial⟩ (by (simp at hb1); (try simp at hb2); first | exact says_nil 1 I (show othersM F G C g n = [] from if_pos (by omega)) | (rw [show othersM F G C g n = groupL F G C g n from if_neg (by omega)]; exact Ret.Says.eq rfl)) hsim
theorem O25_ok : OrcOK Try.prog O25 := O23_ok.add 25 m25 fun args r cs h hc => by
  unfold m25 at h; split at h
  · cases h; exact f25_ok _ _ _ _ _
  · cases h
end Go.Ros
