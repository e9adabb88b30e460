/-
  Contracts of given functions, or plain laws that they need. No condition.
-/
import Derived.Test.YtmhfkicgmdhooaaDoorUrA
import Derived.Test.YtmhfkicgmdhooaaDoorUnlG
import Derived.Test.YtmhfkicgmdhooaaDoorUnlB
import Derived.Test.YtmhfkicgmdhooaaDoorTsA
namespace Go.Tab
open Go Go.Eng Go.Proofs Go.Nest
set_option linter.unusedVariables false
set_option linter.unusedSimpArgs false
set_option maxRecDepth 100000
set_option maxHeartbeats 4000000
theorem LR_ok (r : List ByteArray) (f : Int) : OrcOK Tryd.prog (LR r f) := (((OrcOK.none _).add _ false (mUnpV r f) fun args H ret H' cs h hc => by
  unfold mUnpV at h
  split at h
  · cases h; obtain ⟨hs, rfl, rfl, -⟩ := hc; exact unpackR_ok _ hs
  · cases h).add _ false mCheck fun args H r H' cs h hc => by
  unfold mCheck at h
  split at h
  · cases h; exact rcheck_ok _ _ _ _
  · cases h)
theorem lr_good {w0 : World} {N : Nat → Prop} {E0 : Env} (r : List ByteArray) (f : Int) (K : Nat) (hK : r.length = 2 * K) (hK2 : K ≤ 16) (hok : ∀ j, j < K → okAt r j) : ∀ (d k : Nat) (i : Int), i = 2 * (k : Int) → k + d = K → ∀ l, l = prs r k → ∀ (E : Env) (a : Act) (w : World),
    Sim (cx Tryd.prog (fun _ => none) w0 N E0 []) E (lr1 r l i) a w → Goes Tryd.prog 20 (loopAt Tryd.f20 0) (RSpec (cx Tryd.prog (fun _ => none) w0 N E0 []) ⟨0, [.tup [.d (.agg [.list 2 (prs r K).length (rowEl (prs r K))]), .d (.raw (.int .i64 0))]], []⟩) a w := by
  intro d
  induction d with
  | zero =>
    intro k i hi hd l hl E a w hsim
    have e : l = prs r K := by rw [hl, show k = K by omega]
    rcases Bool.eq_false_or_eq_true (decide (i < (↑r.length : Int))) with hb1 | hb1
    · skip
      rcases Bool.eq_false_or_eq_true (checkM (2 : Int) (r.getD i.toNat ByteArray.empty) (r.getD (IntKind.i64.wrap (i + (1 : Int))).toNat ByteArray.empty) (ByteArray.mk #[]) != (0 : Int)) with hb2 | hb2
      · skip
        exact go_says (LR_ok r f) rfl rfl Tryd.func20 (sr' := ⟨0, [.tup [.d (.agg [.raw (Value.slice none (0 : Nat) (0 : Nat))]), .d (.raw (.int .i64 ((4 : Int))))]], []⟩) (cs := [((decide (i < (↑r.length : Int))) = true), ((0 : Int) ≤ i ∧ i < (↑r.length : Int)), ((0 : Int) ≤ IntKind.i64.wrap (i + (1 : Int)) ∧ IntKind.i64.wrap (i + (1 : Int)) < (↑r.length : Int)), ((checkM (2 : Int) (r.getD i.toNat ByteArray.empty) (r.getD (IntKind.i64.wrap (i + (1 : Int))).toNat ByteArray.empty) (ByteArray.mk #[]) != (0 : Int)) = true)]) [true, true] true (by kernel_rfl) (by kernel_rfl) ⟨hb1, (by first | omega | exact absurd (of_decide_eq_true hb1) (by omega)), (by first | omega | exact absurd (of_decide_eq_true hb1) (by omega)), hb2, trivial⟩ (by first | (rw [← e]; exact Says.refl _) | exact absurd (of_decide_eq_true hb1) (by omega)) hsim
      · skip
        rcases Bool.eq_false_or_eq_true (decide (i > (0 : Int))) with hb3 | hb3
        · skip
          rcases Bool.eq_false_or_eq_true (!Op.bytesLess (r.getD (IntKind.i64.wrap (i - (2 : Int))).toNat ByteArray.empty).toList (r.getD i.toNat ByteArray.empty).toList) with hb4 | hb4
          · skip
            have q0_ : ((0 : Int) ≤ i ∧ i < (↑r.length : Int)) := (by first | omega | exact absurd (of_decide_eq_true hb1) (by omega))
            have q1_ : ((0 : Int) ≤ IntKind.i64.wrap (i + (1 : Int)) ∧ IntKind.i64.wrap (i + (1 : Int)) < (↑r.length : Int)) := (by first | omega | exact absurd (of_decide_eq_true hb1) (by omega))
            have q2_ : (l.length + (1 : Nat) ≤ (9223372036854775807 : Nat) ∧ (l.length + (1 : Nat)) * (32 : Nat) ≤ (140737488355328 : Nat)) := (by first | omega | exact absurd (of_decide_eq_true hb1) (by omega))
            exact go_says (LR_ok r f) rfl rfl Tryd.func20 (sr' := ⟨0, [.tup [.d (.agg [.raw (Value.slice none (0 : Nat) (0 : Nat))]), .d (.raw (.int .i64 ((4 : Int))))]], []⟩) (cs := ((fun (c0 c1 c2 : Prop) => [((decide (i < (↑r.length : Int))) = true), c0, c1, ((checkM (2 : Int) (r.getD i.toNat ByteArray.empty) (r.getD (IntKind.i64.wrap (i + (1 : Int))).toNat ByteArray.empty) (ByteArray.mk #[]) != (0 : Int)) = false), c0, c1, c2, c2, ((decide (i > (0 : Int))) = true), ((0 : Int) ≤ IntKind.i64.wrap (i - (2 : Int)) ∧ IntKind.i64.wrap (i - (2 : Int)) < (↑r.length : Int)), c0, ((!Op.bytesLess (r.getD (IntKind.i64.wrap (i - (2 : Int))).toNat ByteArray.empty).toList (r.getD i.toNat ByteArray.empty).toList) = true)]) ((0 : Int) ≤ i ∧ i < (↑r.length : Int)) ((0 : Int) ≤ IntKind.i64.wrap (i + (1 : Int)) ∧ IntKind.i64.wrap (i + (1 : Int)) < (↑r.length : Int)) (l.length + (1 : Nat) ≤ (9223372036854775807 : Nat) ∧ (l.length + (1 : Nat)) * (32 : Nat) ≤ (140737488355328 : Nat)))) [true, false, true, true] true (by kernel_rfl) (by kernel_rfl) ⟨hb1, q0_, q1_, hb2, q0_, q1_, q2_, q2_, hb3, (by first | omega | exact absurd (of_decide_eq_true hb1) (by omega)), q0_, hb4, trivial⟩ (by first | (rw [← e]; exact Says.refl _) | exact absurd (of_decide_eq_true hb1) (by omega)) hsim
          · skip
            have q0_ : ((0 : Int) ≤ i ∧ i < (↑r.length : Int)) := (by first | omega | exact absurd (of_decide_eq_true hb1) (by omega))
            have q1_ : ((0 : Int) ≤ IntKind.i64.wrap (i + (1 : Int)) ∧ IntKind.i64.wrap (i + (1 : Int)) < (↑r.length : Int)) := (by first | omega | exact absurd (of_decide_eq_true hb1) (by omega))
            have q2_ : (l.length + (1 : Nat) ≤ (9223372036854775807 : Nat) ∧ (l.length + (1 : Nat)) * (32 : Nat) ≤ (140737488355328 : Nat)) := (by first | omega | exact absurd (of_decide_eq_true hb1) (by omega))
            refine go_head (LR_ok r f) rfl rfl (k' := loopAt Tryd.f20 0) (s' := mk 0 78 [(2, .ref 0 0), (4, .d (.list 1 (r.length) (strEl r))), (6, .ref 1 0), (7, .d (.raw (.int .i64 (IntKind.i64.wrap (i + (2 : Int))))))] [(0, .obj 36 [.d (.raw (Value.slice none (0 : Nat) (0 : Nat)))]), (1, .obj 36 [.own 2]), (2, .row 65 2 (l.length + (1 : Nat)) (fun j => if j < l.length then rowEl l j else segD true (2 : Nat) (splice (List.map (fun j => (List.map D.raw (Value.agg #[Value.string (ByteArray.mk #[]), Value.string (ByteArray.mk #[])]).cells.toList).getD (j % (2 : Nat)) default) (List.range (2 : Nat))) (0 : Nat) (D.agg [D.raw (Value.string (r.getD i.toNat ByteArray.empty)), D.raw (Value.string (r.getD (IntKind.i64.wrap (i + (1 : Int))).toNat ByteArray.empty))]).cells) (j - l.length)))]) (cs := ((fun (c0 c1 c2 : Prop) => [((decide (i < (↑r.length : Int))) = true), c0, c1, ((checkM (2 : Int) (r.getD i.toNat ByteArray.empty) (r.getD (IntKind.i64.wrap (i + (1 : Int))).toNat ByteArray.empty) (ByteArray.mk #[]) != (0 : Int)) = false), c0, c1, c2, c2, ((decide (i > (0 : Int))) = true), ((0 : Int) ≤ IntKind.i64.wrap (i - (2 : Int)) ∧ IntKind.i64.wrap (i - (2 : Int)) < (↑r.length : Int)), c0, ((!Op.bytesLess (r.getD (IntKind.i64.wrap (i - (2 : Int))).toNat ByteArray.empty).toList (r.getD i.toNat ByteArray.empty).toList) = false)]) ((0 : Int) ≤ i ∧ i < (↑r.length : Int)) ((0 : Int) ≤ IntKind.i64.wrap (i + (1 : Int)) ∧ IntKind.i64.wrap (i + (1 : Int)) < (↑r.length : Int)) (l.length + (1 : Nat) ≤ (9223372036854775807 : Nat) ∧ (l.length + (1 : Nat)) * (32 : Nat) ≤ (140737488355328 : Nat)))) [true, false, true, false] [2,4,6,7] (by kernel_rfl) (by kernel_rfl) ⟨hb1, q0_, q1_, hb2, q0_, q1_, q2_, q2_, hb3, (by first | omega | exact absurd (of_decide_eq_true hb1) (by omega)), q0_, hb4, trivial⟩ hsim fun E a w hsim => ?_
            exact absurd (of_decide_eq_true hb1) (by omega)
        · skip
          have q0_ : ((0 : Int) ≤ i ∧ i < (↑r.length : Int)) := (by first | omega | exact absurd (of_decide_eq_true hb1) (by omega))
          have q1_ : ((0 : Int) ≤ IntKind.i64.wrap (i + (1 : Int)) ∧ IntKind.i64.wrap (i + (1 : Int)) < (↑r.length : Int)) := (by first | omega | exact absurd (of_decide_eq_true hb1) (by omega))
          have q2_ : (l.length + (1 : Nat) ≤ (9223372036854775807 : Nat) ∧ (l.length + (1 : Nat)) * (32 : Nat) ≤ (140737488355328 : Nat)) := (by first | omega | exact absurd (of_decide_eq_true hb1) (by omega))
          refine go_head (LR_ok r f) rfl rfl (k' := loopAt Tryd.f20 0) (s' := mk 0 78 [(2, .ref 0 0), (4, .d (.list 1 (r.length) (strEl r))), (6, .ref 1 0), (7, .d (.raw (.int .i64 (IntKind.i64.wrap (i + (2 : Int))))))] [(0, .obj 36 [.d (.raw (Value.slice none (0 : Nat) (0 : Nat)))]), (1, .obj 36 [.own 2]), (2, .row 65 2 (l.length + (1 : Nat)) (fun j => if j < l.length then rowEl l j else segD true (2 : Nat) (splice (List.map (fun j => (List.map D.raw (Value.agg #[Value.string (ByteArray.mk #[]), Value.string (ByteArray.mk #[])]).cells.toList).getD (j % (2 : Nat)) default) (List.range (2 : Nat))) (0 : Nat) (D.agg [D.raw (Value.string (r.getD i.toNat ByteArray.empty)), D.raw (Value.string (r.getD (IntKind.i64.wrap (i + (1 : Int))).toNat ByteArray.empty))]).cells) (j - l.length)))]) (cs := ((fun (c0 c1 c2 : Prop) => [((decide (i < (↑r.length : Int))) = true), c0, c1, ((checkM (2 : Int) (r.getD i.toNat ByteArray.empty) (r.getD (IntKind.i64.wrap (i + (1 : Int))).toNat ByteArray.empty) (ByteArray.mk #[]) != (0 : Int)) = false), c0, c1, c2, c2, ((decide (i > (0 : Int))) = false)]) ((0 : Int) ≤ i ∧ i < (↑r.length : Int)) ((0 : Int) ≤ IntKind.i64.wrap (i + (1 : Int)) ∧ IntKind.i64.wrap (i + (1 : Int)) < (↑r.length : Int)) (l.length + (1 : Nat) ≤ (9223372036854775807 : Nat) ∧ (l.length + (1 : Nat)) * (32 : Nat) ≤ (140737488355328 : Nat)))) [true, false, false] [2,4,6,7] (by kernel_rfl) (by kernel_rfl) ⟨hb1, q0_, q1_, hb2, q0_, q1_, q2_, q2_, hb3, trivial⟩ hsim fun E a w hsim => ?_
          exact absurd (of_decide_eq_true hb1) (by omega)
    · skip
      exact go_says (LR_ok r f) rfl rfl Tryd.func20 (sr' := ⟨0, [.tup [.d (.agg [.list 2 (l.length) (rowEl l)]), .d (.raw (.int .i64 ((0 : Int))))]], []⟩) (cs := [((decide (i < (↑r.length : Int))) = false)]) [false] true (by kernel_rfl) (by kernel_rfl) ⟨hb1, trivial⟩ (by first | (rw [← e]; exact Says.refl _) | exact absurd (of_decide_eq_true hb1) (by omega)) hsim
  | succ d ih =>
    intro k i hi hd l hl E a w hsim
    obtain ⟨o1, o2⟩ := hok k (by omega)
    have hlen : l.length = k := by rw [hl, prs_len]
    have hw1 : IntKind.i64.wrap (i + 1) = i + 1 := wrapI _ (by omega)
    have hw2 : IntKind.i64.wrap (i + 2) = i + 2 := wrapI _ (by omega)
    have hw3 : IntKind.i64.wrap (i - 2) = i - 2 := wrapI _ (by omega)
    have t0 : i.toNat = 2 * k := by omega
    have t1 : (i + 1).toNat = 2 * k + 1 := by omega
    have t2 : (i - 2).toNat = 2 * k - 2 := by omega
    have hc : (checkM (2 : Int) (r.getD i.toNat ByteArray.empty) (r.getD (IntKind.i64.wrap (i + (1 : Int))).toNat ByteArray.empty) (ByteArray.mk #[]) != (0 : Int)) = false := by
      rw [hw1, t0, t1, mk_empty, o1]; rfl
    have ho : (decide (i > (0 : Int))) = true → (!Op.bytesLess (r.getD (IntKind.i64.wrap (i - (2 : Int))).toNat ByteArray.empty).toList (r.getD i.toNat ByteArray.empty).toList) = false := fun h => by
      have := of_decide_eq_true h
      have h3 := o2 (by omega)
      unfold ltB at h3
      rw [hw3, t0, t2, h3]; rfl
    obtain ⟨l2, hl2⟩ : ∃ l2, l2 = prs r (k + 1) := ⟨_, rfl⟩
    have eqL : l2 = l ++ [(r.getD i.toNat ByteArray.empty, r.getD (IntKind.i64.wrap (i + (1 : Int))).toNat ByteArray.empty)] := by rw [hl2, prs_succ, hl, hw1, t0, t1]
    have hll : l.length + 1 = l2.length := by rw [eqL]; simp
    have hlo : ∀ j, j < l.length → rowEl l j = rowEl l2 j := fun j hj => by
      rw [eqL]; unfold rowEl; simp [List.getD, List.getElem?_append_left hj]
    have hh0 : rowEl l2 l.length = .agg [.raw (.string (r.getD i.toNat ByteArray.empty)), .raw (.string (r.getD (IntKind.i64.wrap (i + (1 : Int))).toNat ByteArray.empty))] := by rw [eqL]; unfold rowEl; simp [List.getD]
    have ih := ih (k + 1) (IntKind.i64.wrap (i + 2)) (by rw [hw2]; omega) (by omega) l2 hl2
    rcases Bool.eq_false_or_eq_true (decide (i < (↑r.length : Int))) with hb1 | hb1
    · skip
      rcases Bool.eq_false_or_eq_true (checkM (2 : Int) (r.getD i.toNat ByteArray.empty) (r.getD (IntKind.i64.wrap (i + (1 : Int))).toNat ByteArray.empty) (ByteArray.mk #[]) != (0 : Int)) with hb2 | hb2
      · skip
        exact go_ret (LR_ok r f) rfl rfl Tryd.func20 (sr' := ⟨0, [.tup [.d (.agg [.raw (Value.slice none (0 : Nat) (0 : Nat))]), .d (.raw (.int .i64 ((4 : Int))))]], []⟩) (cs := [((decide (i < (↑r.length : Int))) = true), ((0 : Int) ≤ i ∧ i < (↑r.length : Int)), ((0 : Int) ≤ IntKind.i64.wrap (i + (1 : Int)) ∧ IntKind.i64.wrap (i + (1 : Int)) < (↑r.length : Int)), ((checkM (2 : Int) (r.getD i.toNat ByteArray.empty) (r.getD (IntKind.i64.wrap (i + (1 : Int))).toNat ByteArray.empty) (ByteArray.mk #[]) != (0 : Int)) = true)]) [true, true] true (by kernel_rfl) (by kernel_rfl) ⟨hb1, (by first | omega | (rw [hw1]; omega) | (rw [hw3]; have := of_decide_eq_true hb3; omega) | exact absurd (of_decide_eq_false hb1) (by omega)), (by first | omega | (rw [hw1]; omega) | (rw [hw3]; have := of_decide_eq_true hb3; omega) | exact absurd (of_decide_eq_false hb1) (by omega)), hb2, trivial⟩ (by first | exact absurd (of_decide_eq_false hb1) (by omega) | exact absurd hb2 (by rw [hc]; decide) | exact absurd hb4 (by rw [ho hb3]; decide)) hsim
      · skip
        rcases Bool.eq_false_or_eq_true (decide (i > (0 : Int))) with hb3 | hb3
        · skip
          rcases Bool.eq_false_or_eq_true (!Op.bytesLess (r.getD (IntKind.i64.wrap (i - (2 : Int))).toNat ByteArray.empty).toList (r.getD i.toNat ByteArray.empty).toList) with hb4 | hb4
          · skip
            have q0_ : ((0 : Int) ≤ i ∧ i < (↑r.length : Int)) := (by first | omega | (rw [hw1]; omega) | (rw [hw3]; have := of_decide_eq_true hb3; omega) | exact absurd (of_decide_eq_false hb1) (by omega))
            have q1_ : ((0 : Int) ≤ IntKind.i64.wrap (i + (1 : Int)) ∧ IntKind.i64.wrap (i + (1 : Int)) < (↑r.length : Int)) := (by first | omega | (rw [hw1]; omega) | (rw [hw3]; have := of_decide_eq_true hb3; omega) | exact absurd (of_decide_eq_false hb1) (by omega))
            have q2_ : (l.length + (1 : Nat) ≤ (9223372036854775807 : Nat) ∧ (l.length + (1 : Nat)) * (32 : Nat) ≤ (140737488355328 : Nat)) := (by first | omega | (rw [hw1]; omega) | (rw [hw3]; have := of_decide_eq_true hb3; omega) | exact absurd (of_decide_eq_false hb1) (by omega))
            exact go_ret (LR_ok r f) rfl rfl Tryd.func20 (sr' := ⟨0, [.tup [.d (.agg [.raw (Value.slice none (0 : Nat) (0 : Nat))]), .d (.raw (.int .i64 ((4 : Int))))]], []⟩) (cs := ((fun (c0 c1 c2 : Prop) => [((decide (i < (↑r.length : Int))) = true), c0, c1, ((checkM (2 : Int) (r.getD i.toNat ByteArray.empty) (r.getD (IntKind.i64.wrap (i + (1 : Int))).toNat ByteArray.empty) (ByteArray.mk #[]) != (0 : Int)) = false), c0, c1, c2, c2, ((decide (i > (0 : Int))) = true), ((0 : Int) ≤ IntKind.i64.wrap (i - (2 : Int)) ∧ IntKind.i64.wrap (i - (2 : Int)) < (↑r.length : Int)), c0, ((!Op.bytesLess (r.getD (IntKind.i64.wrap (i - (2 : Int))).toNat ByteArray.empty).toList (r.getD i.toNat ByteArray.empty).toList) = true)]) ((0 : Int) ≤ i ∧ i < (↑r.length : Int)) ((0 : Int) ≤ IntKind.i64.wrap (i + (1 : Int)) ∧ IntKind.i64.wrap (i + (1 : Int)) < (↑r.length : Int)) (l.length + (1 : Nat) ≤ (9223372036854775807 : Nat) ∧ (l.length + (1 : Nat)) * (32 : Nat) ≤ (140737488355328 : Nat)))) [true, false, true, true] true (by kernel_rfl) (by kernel_rfl) ⟨hb1, q0_, q1_, hb2, q0_, q1_, q2_, q2_, hb3, (by first | omega | (rw [hw1]; omega) | (rw [hw3]; have := of_decide_eq_true hb3; omega) | exact absurd (of_decide_eq_false hb1) (by omega)), q0_, hb4, trivial⟩ (by first | exact absurd (of_decide_eq_false hb1) (by omega) | exact absurd hb2 (by rw [hc]; decide) | exact absurd hb4 (by rw [ho hb3]; decide)) hsim
          · skip
            have q0_ : ((0 : Int) ≤ i ∧ i < (↑r.length : Int)) := (by first | omega | (rw [hw1]; omega) | (rw [hw3]; have := of_decide_eq_true hb3; omega) | exact absurd (of_decide_eq_false hb1) (by omega))
            have q1_ : ((0 : Int) ≤ IntKind.i64.wrap (i + (1 : Int)) ∧ IntKind.i64.wrap (i + (1 : Int)) < (↑r.length : Int)) := (by first | omega | (rw [hw1]; omega) | (rw [hw3]; have := of_decide_eq_true hb3; omega) | exact absurd (of_decide_eq_false hb1) (by omega))
            have q2_ : (l.length + (1 : Nat) ≤ (9223372036854775807 : Nat) ∧ (l.length + (1 : Nat)) * (32 : Nat) ≤ (140737488355328 : Nat)) := (by first | omega | (rw [hw1]; omega) | (rw [hw3]; have := of_decide_eq_true hb3; omega) | exact absurd (of_decide_eq_false hb1) (by omega))
            refine go_head (LR_ok r f) rfl rfl (k' := loopAt Tryd.f20 0) (s' := mk 0 78 [(2, .ref 0 0), (4, .d (.list 1 (r.length) (strEl r))), (6, .ref 1 0), (7, .d (.raw (.int .i64 (IntKind.i64.wrap (i + (2 : Int))))))] [(0, .obj 36 [.d (.raw (Value.slice none (0 : Nat) (0 : Nat)))]), (1, .obj 36 [.own 2]), (2, .row 65 2 (l.length + (1 : Nat)) (fun j => if j < l.length then rowEl l j else segD true (2 : Nat) (splice (List.map (fun j => (List.map D.raw (Value.agg #[Value.string (ByteArray.mk #[]), Value.string (ByteArray.mk #[])]).cells.toList).getD (j % (2 : Nat)) default) (List.range (2 : Nat))) (0 : Nat) (D.agg [D.raw (Value.string (r.getD i.toNat ByteArray.empty)), D.raw (Value.string (r.getD (IntKind.i64.wrap (i + (1 : Int))).toNat ByteArray.empty))]).cells) (j - l.length)))]) (cs := ((fun (c0 c1 c2 : Prop) => [((decide (i < (↑r.length : Int))) = true), c0, c1, ((checkM (2 : Int) (r.getD i.toNat ByteArray.empty) (r.getD (IntKind.i64.wrap (i + (1 : Int))).toNat ByteArray.empty) (ByteArray.mk #[]) != (0 : Int)) = false), c0, c1, c2, c2, ((decide (i > (0 : Int))) = true), ((0 : Int) ≤ IntKind.i64.wrap (i - (2 : Int)) ∧ IntKind.i64.wrap (i - (2 : Int)) < (↑r.length : Int)), c0, ((!Op.bytesLess (r.getD (IntKind.i64.wrap (i - (2 : Int))).toNat ByteArray.empty).toList (r.getD i.toNat ByteArray.empty).toList) = false)]) ((0 : Int) ≤ i ∧ i < (↑r.length : Int)) ((0 : Int) ≤ IntKind.i64.wrap (i + (1 : Int)) ∧ IntKind.i64.wrap (i + (1 : Int)) < (↑r.length : Int)) (l.length + (1 : Nat) ≤ (9223372036854775807 : Nat) ∧ (l.length + (1 : Nat)) * (32 : Nat) ≤ (140737488355328 : Nat)))) [true, false, true, false] [2,4,6,7] (by kernel_rfl) (by kernel_rfl) ⟨hb1, q0_, q1_, hb2, q0_, q1_, q2_, q2_, hb3, (by first | omega | (rw [hw1]; omega) | (rw [hw3]; have := of_decide_eq_true hb3; omega) | exact absurd (of_decide_eq_false hb1) (by omega)), q0_, hb4, trivial⟩ hsim fun E a w hsim => ?_
            (
              obtain ⟨E2, hs⟩ := (says_rowTo (k := 2) rfl l2.length (rowEl l2) hll (fun j hj => by
                by_cases hjr : j < l.length
                · exact (if_pos hjr).trans (hlo j hjr)
                · obtain rfl : j = l.length := by omega
                  rw [hh0]
                  exact (if_neg hjr).trans (by rw [Nat.sub_self]; rfl))).out E a w hsim
              exact ih E2 a w hs)
        · skip
          have q0_ : ((0 : Int) ≤ i ∧ i < (↑r.length : Int)) := (by first | omega | (rw [hw1]; omega) | (rw [hw3]; have := of_decide_eq_true hb3; omega) | exact absurd (of_decide_eq_false hb1) (by omega))
          have q1_ : ((0 : Int) ≤ IntKind.i64.wrap (i + (1 : Int)) ∧ IntKind.i64.wrap (i + (1 : Int)) < (↑r.length : Int)) := (by first | omega | (rw [hw1]; omega) | (rw [hw3]; have := of_decide_eq_true hb3; omega) | exact absurd (of_decide_eq_false hb1) (by omega))
          have q2_ : (l.length + (1 : Nat) ≤ (9223372036854775807 : Nat) ∧ (l.length + (1 : Nat)) * (32 : Nat) ≤ (140737488355328 : Nat)) := (by first | omega | (rw [hw1]; omega) | (rw [hw3]; have := of_decide_eq_true hb3; omega) | exact absurd (of_decide_eq_false hb1) (by omega))
          refine go_head (LR_ok r f) rfl rfl (k' := loopAt Tryd.f20 0) (s' := mk 0 78 [(2, .ref 0 0), (4, .d (.list 1 (r.length) (strEl r))), (6, .ref 1 0), (7, .d (.raw (.int .i64 (IntKind.i64.wrap (i + (2 : Int))))))] [(0, .obj 36 [.d (.raw (Value.slice none (0 : Nat) (0 : Nat)))]), (1, .obj 36 [.own 2]), (2, .row 65 2 (l.length + (1 : Nat)) (fun j => if j < l.length then rowEl l j else segD true (2 : Nat) (splice (List.map (fun j => (List.map D.raw (Value.agg #[Value.string (ByteArray.mk #[]), Value.string (ByteArray.mk #[])]).cells.toList).getD (j % (2 : Nat)) default) (List.range (2 : Nat))) (0 : Nat) (D.agg [D.raw (Value.string (r.getD i.toNat ByteArray.empty)), D.raw (Value.string (r.getD (IntKind.i64.wrap (i + (1 : Int))).toNat ByteArray.empty))]).cells) (j - l.length)))]) (cs := ((fun (c0 c1 c2 : Prop) => [((decide (i < (↑r.length : Int))) = true), c0, c1, ((checkM (2 : Int) (r.getD i.toNat ByteArray.empty) (r.getD (IntKind.i64.wrap (i + (1 : Int))).toNat ByteArray.empty) (ByteArray.mk #[]) != (0 : Int)) = false), c0, c1, c2, c2, ((decide (i > (0 : Int))) = false)]) ((0 : Int) ≤ i ∧ i < (↑r.length : Int)) ((0 : Int) ≤ IntKind.i64.wrap (i + (1 : Int)) ∧ IntKind.i64.wrap (i + (1 : Int)) < (↑r.length : Int)) (l.length + (1 : Nat) ≤ (9223372036854775807 : Nat) ∧ (l.length + (1 : Nat)) * (32 : Nat) ≤ (140737488355328 : Nat)))) [true, false, false] [2,4,6,7] (by kernel_rfl) (by kernel_rfl) ⟨hb1, q0_, q1_, hb2, q0_, q1_, q2_, q2_, hb3, trivial⟩ hsim fun E a w hsim => ?_
          (
            obtain ⟨E2, hs⟩ := (says_rowTo (k := 2) rfl l2.length (rowEl l2) hll (fun j hj => by
              by_cases hjr : j < l.length
              · exact (if_pos hjr).trans (hlo j hjr)
              · obtain rfl : j = l.length := by omega
                rw [hh0]
                exact (if_neg hjr).trans (by rw [Nat.sub_self]; rfl))).out E a w hsim
            exact ih E2 a w hs)
    · skip
      exact go_ret (LR_ok r f) rfl rfl Tryd.func20 (sr' := ⟨0, [.tup [.d (.agg [.list 2 (l.length) (rowEl l)]), .d (.raw (.int .i64 ((0 : Int))))]], []⟩) (cs := [((decide (i < (↑r.length : Int))) = false)]) [false] true (by kernel_rfl) (by kernel_rfl) ⟨hb1, trivial⟩ (by first | exact absurd (of_decide_eq_false hb1) (by omega) | exact absurd hb2 (by rw [hc]; decide) | exact absurd hb4 (by rw [ho hb3]; decide)) hsim
theorem lr_bad {w0 : World} {N : Nat → Prop} {E0 : Env} (r : List ByteArray) (f : Int) (K : Nat) (hK : r.length = 2 * K) (hK2 : K ≤ 16) : ∀ (d k : Nat) (i : Int), i = 2 * (k : Int) → k + d = K → (∃ j, k ≤ j ∧ j < K ∧ ¬ okAt r j) → ∀ l, l = prs r k → ∀ (E : Env) (a : Act) (w : World),
    Sim (cx Tryd.prog (fun _ => none) w0 N E0 []) E (lr1 r l i) a w → Goes Tryd.prog 20 (loopAt Tryd.f20 0) (RSpec (cx Tryd.prog (fun _ => none) w0 N E0 []) ⟨0, [.tup [.d (.agg [.raw (.slice none 0 0)]), .d (.raw (.int .i64 4))]], []⟩) a w := by
  intro d
  induction d with
  | zero =>
    intro k i hi hd hbad
    obtain ⟨j, h3, h4, -⟩ := hbad
    omega
  | succ d ih =>
    intro k i hi hd hbad l hl E a w hsim
    have hlen : l.length = k := by rw [hl, prs_len]
    have hw1 : IntKind.i64.wrap (i + 1) = i + 1 := wrapI _ (by omega)
    have hw2 : IntKind.i64.wrap (i + 2) = i + 2 := wrapI _ (by omega)
    have hw3 : IntKind.i64.wrap (i - 2) = i - 2 := wrapI _ (by omega)
    have t0 : i.toNat = 2 * k := by omega
    have t1 : (i + 1).toNat = 2 * k + 1 := by omega
    have t2 : (i - 2).toNat = 2 * k - 2 := by omega
    have hgo : (checkM (2 : Int) (r.getD i.toNat ByteArray.empty) (r.getD (IntKind.i64.wrap (i + (1 : Int))).toNat ByteArray.empty) (ByteArray.mk #[]) != (0 : Int)) = false → ((decide (i > (0 : Int))) = true → (!Op.bytesLess (r.getD (IntKind.i64.wrap (i - (2 : Int))).toNat ByteArray.empty).toList (r.getD i.toNat ByteArray.empty).toList) = false) → ∃ j, k + 1 ≤ j ∧ j < K ∧ ¬ okAt r j := fun c1 c2 => by
      obtain ⟨j, h3, h4, h5⟩ := hbad
      refine ⟨j, ?_, h4, h5⟩
      rcases Nat.lt_or_ge k j with h | h
      · exact h
      · exfalso
        obtain rfl : j = k := by omega
        apply h5
        rw [hw1, t0, t1, mk_empty] at c1
        refine ⟨by simpa using c1, fun hj => ?_⟩
        have := c2 (decide_eq_true (by omega))
        rw [hw3, t0, t2] at this
        unfold ltB
        simpa using this
    obtain ⟨l2, hl2⟩ : ∃ l2, l2 = prs r (k + 1) := ⟨_, rfl⟩
    have eqL : l2 = l ++ [(r.getD i.toNat ByteArray.empty, r.getD (IntKind.i64.wrap (i + (1 : Int))).toNat ByteArray.empty)] := by rw [hl2, prs_succ, hl, hw1, t0, t1]
    have hll : l.length + 1 = l2.length := by rw [eqL]; simp
    have hlo : ∀ j, j < l.length → rowEl l j = rowEl l2 j := fun j hj => by
      rw [eqL]; unfold rowEl; simp [List.getD, List.getElem?_append_left hj]
    have hh0 : rowEl l2 l.length = .agg [.raw (.string (r.getD i.toNat ByteArray.empty)), .raw (.string (r.getD (IntKind.i64.wrap (i + (1 : Int))).toNat ByteArray.empty))] := by rw [eqL]; unfold rowEl; simp [List.getD]
    have ih := fun hb => ih (k + 1) (IntKind.i64.wrap (i + 2)) (by rw [hw2]; omega) (by omega) hb l2 hl2
    rcases Bool.eq_false_or_eq_true (decide (i < (↑r.length : Int))) with hb1 | hb1
    · skip
      rcases Bool.eq_false_or_eq_true (checkM (2 : Int) (r.getD i.toNat ByteArray.empty) (r.getD (IntKind.i64.wrap (i + (1 : Int))).toNat ByteArray.empty) (ByteArray.mk #[]) != (0 : Int)) with hb2 | hb2
      · skip
        exact go_ret (LR_ok r f) rfl rfl Tryd.func20 (sr' := ⟨0, [.tup [.d (.agg [.raw (Value.slice none (0 : Nat) (0 : Nat))]), .d (.raw (.int .i64 ((4 : Int))))]], []⟩) (cs := [((decide (i < (↑r.length : Int))) = true), ((0 : Int) ≤ i ∧ i < (↑r.length : Int)), ((0 : Int) ≤ IntKind.i64.wrap (i + (1 : Int)) ∧ IntKind.i64.wrap (i + (1 : Int)) < (↑r.length : Int)), ((checkM (2 : Int) (r.getD i.toNat ByteArray.empty) (r.getD (IntKind.i64.wrap (i + (1 : Int))).toNat ByteArray.empty) (ByteArray.mk #[]) != (0 : Int)) = true)]) [true, true] true (by kernel_rfl) (by kernel_rfl) ⟨hb1, (by first | omega | (rw [hw1]; omega) | (rw [hw3]; have := of_decide_eq_true hb3; omega) | exact absurd (of_decide_eq_false hb1) (by omega)), (by first | omega | (rw [hw1]; omega) | (rw [hw3]; have := of_decide_eq_true hb3; omega) | exact absurd (of_decide_eq_false hb1) (by omega)), hb2, trivial⟩ (by first | rfl | exact absurd (of_decide_eq_false hb1) (by omega)) hsim
      · skip
        rcases Bool.eq_false_or_eq_true (decide (i > (0 : Int))) with hb3 | hb3
        · skip
          rcases Bool.eq_false_or_eq_true (!Op.bytesLess (r.getD (IntKind.i64.wrap (i - (2 : Int))).toNat ByteArray.empty).toList (r.getD i.toNat ByteArray.empty).toList) with hb4 | hb4
          · skip
            have q0_ : ((0 : Int) ≤ i ∧ i < (↑r.length : Int)) := (by first | omega | (rw [hw1]; omega) | (rw [hw3]; have := of_decide_eq_true hb3; omega) | exact absurd (of_decide_eq_false hb1) (by omega))
            have q1_ : ((0 : Int) ≤ IntKind.i64.wrap (i + (1 : Int)) ∧ IntKind.i64.wrap (i + (1 : Int)) < (↑r.length : Int)) := (by first | omega | (rw [hw1]; omega) | (rw [hw3]; have := of_decide_eq_true hb3; omega) | exact absurd (of_decide_eq_false hb1) (by omega))
            have q2_ : (l.length + (1 : Nat) ≤ (9223372036854775807 : Nat) ∧ (l.length + (1 : Nat)) * (32 : Nat) ≤ (140737488355328 : Nat)) := (by first | omega | (rw [hw1]; omega) | (rw [hw3]; have := of_decide_eq_true hb3; omega) | exact absurd (of_decide_eq_false hb1) (by omega))
            exact go_ret (LR_ok r f) rfl rfl Tryd.func20 (sr' := ⟨0, [.tup [.d (.agg [.raw (Value.slice none (0 : Nat) (0 : Nat))]), .d (.raw (.int .i64 ((4 : Int))))]], []⟩) (cs := ((fun (c0 c1 c2 : Prop) => [((decide (i < (↑r.length : Int))) = true), c0, c1, ((checkM (2 : Int) (r.getD i.toNat ByteArray.empty) (r.getD (IntKind.i64.wrap (i + (1 : Int))).toNat ByteArray.empty) (ByteArray.mk #[]) != (0 : Int)) = false), c0, c1, c2, c2, ((decide (i > (0 : Int))) = true), ((0 : Int) ≤ IntKind.i64.wrap (i - (2 : Int)) ∧ IntKind.i64.wrap (i - (2 : Int)) < (↑r.length : Int)), c0, ((!Op.bytesLess (r.getD (IntKind.i64.wrap (i - (2 : Int))).toNat ByteArray.empty).toList (r.getD i.toNat ByteArray.empty).toList) = true)]) ((0 : Int) ≤ i ∧ i < (↑r.length : Int)) ((0 : Int) ≤ IntKind.i64.wrap (i + (1 : Int)) ∧ IntKind.i64.wrap (i + (1 : Int)) < (↑r.length : Int)) (l.length + (1 : Nat) ≤ (9223372036854775807 : Nat) ∧ (l.length + (1 : Nat)) * (32 : Nat) ≤ (140737488355328 : Nat)))) [true, false, true, true] true (by kernel_rfl) (by kernel_rfl) ⟨hb1, q0_, q1_, hb2, q0_, q1_, q2_, q2_, hb3, (by first | omega | (rw [hw1]; omega) | (rw [hw3]; have := of_decide_eq_true hb3; omega) | exact absurd (of_decide_eq_false hb1) (by omega)), q0_, hb4, trivial⟩ (by first | rfl | exact absurd (of_decide_eq_false hb1) (by omega)) hsim
          · skip
            have q0_ : ((0 : Int) ≤ i ∧ i < (↑r.length : Int)) := (by first | omega | (rw [hw1]; omega) | (rw [hw3]; have := of_decide_eq_true hb3; omega) | exact absurd (of_decide_eq_false hb1) (by omega))
            have q1_ : ((0 : Int) ≤ IntKind.i64.wrap (i + (1 : Int)) ∧ IntKind.i64.wrap (i + (1 : Int)) < (↑r.length : Int)) := (by first | omega | (rw [hw1]; omega) | (rw [hw3]; have := of_decide_eq_true hb3; omega) | exact absurd (of_decide_eq_false hb1) (by omega))
            have q2_ : (l.length + (1 : Nat) ≤ (9223372036854775807 : Nat) ∧ (l.length + (1 : Nat)) * (32 : Nat) ≤ (140737488355328 : Nat)) := (by first | omega | (rw [hw1]; omega) | (rw [hw3]; have := of_decide_eq_true hb3; omega) | exact absurd (of_decide_eq_false hb1) (by omega))
            refine go_head (LR_ok r f) rfl rfl (k' := loopAt Tryd.f20 0) (s' := mk 0 78 [(2, .ref 0 0), (4, .d (.list 1 (r.length) (strEl r))), (6, .ref 1 0), (7, .d (.raw (.int .i64 (IntKind.i64.wrap (i + (2 : Int))))))] [(0, .obj 36 [.d (.raw (Value.slice none (0 : Nat) (0 : Nat)))]), (1, .obj 36 [.own 2]), (2, .row 65 2 (l.length + (1 : Nat)) (fun j => if j < l.length then rowEl l j else segD true (2 : Nat) (splice (List.map (fun j => (List.map D.raw (Value.agg #[Value.string (ByteArray.mk #[]), Value.string (ByteArray.mk #[])]).cells.toList).getD (j % (2 : Nat)) default) (List.range (2 : Nat))) (0 : Nat) (D.agg [D.raw (Value.string (r.getD i.toNat ByteArray.empty)), D.raw (Value.string (r.getD (IntKind.i64.wrap (i + (1 : Int))).toNat ByteArray.empty))]).cells) (j - l.length)))]) (cs := ((fun (c0 c1 c2 : Prop) => [((decide (i < (↑r.length : Int))) = true), c0, c1, ((checkM (2 : Int) (r.getD i.toNat ByteArray.empty) (r.getD (IntKind.i64.wrap (i + (1 : Int))).toNat ByteArray.empty) (ByteArray.mk #[]) != (0 : Int)) = false), c0, c1, c2, c2, ((decide (i > (0 : Int))) = true), ((0 : Int) ≤ IntKind.i64.wrap (i - (2 : Int)) ∧ IntKind.i64.wrap (i - (2 : Int)) < (↑r.length : Int)), c0, ((!Op.bytesLess (r.getD (IntKind.i64.wrap (i - (2 : Int))).toNat ByteArray.empty).toList (r.getD i.toNat ByteArray.empty).toList) = false)]) ((0 : Int) ≤ i ∧ i < (↑r.length : Int)) ((0 : Int) ≤ IntKind.i64.wrap (i + (1 : Int)) ∧ IntKind.i64.wrap (i + (1 : Int)) < (↑r.length : Int)) (l.length + (1 : Nat) ≤ (9223372036854775807 : Nat) ∧ (l.length + (1 : Nat)) * (32 : Nat) ≤ (140737488355328 : Nat)))) [true, false, true, false] [2,4,6,7] (by kernel_rfl) (by kernel_rfl) ⟨hb1, q0_, q1_, hb2, q0_, q1_, q2_, q2_, hb3, (by first | omega | (rw [hw1]; omega) | (rw [hw3]; have := of_decide_eq_true hb3; omega) | exact absurd (of_decide_eq_false hb1) (by omega)), q0_, hb4, trivial⟩ hsim fun E a w hsim => ?_
            (
              have hb := hgo hb2 (fun h => by first | exact hb4 | (rw [hb3] at h; cases h))
              obtain ⟨E2, hs⟩ := (says_rowTo (k := 2) rfl l2.length (rowEl l2) hll (fun j hj => by
                by_cases hjr : j < l.length
                · exact (if_pos hjr).trans (hlo j hjr)
                · obtain rfl : j = l.length := by omega
                  rw [hh0]
                  exact (if_neg hjr).trans (by rw [Nat.sub_self]; rfl))).out E a w hsim
              exact ih hb E2 a w hs)
        · skip
          have q0_ : ((0 : Int) ≤ i ∧ i < (↑r.length : Int)) := (by first | omega | (rw [hw1]; omega) | (rw [hw3]; have := of_decide_eq_true hb3; omega) | exact absurd (of_decide_eq_false hb1) (by omega))
          have q1_ : ((0 : Int) ≤ IntKind.i64.wrap (i + (1 : Int)) ∧ IntKind.i64.wrap (i + (1 : Int)) < (↑r.length : Int)) := (by first | omega | (rw [hw1]; omega) | (rw [hw3]; have := of_decide_eq_true hb3; omega) | exact absurd (of_decide_eq_false hb1) (by omega))
          have q2_ : (l.length + (1 : Nat) ≤ (9223372036854775807 : Nat) ∧ (l.length + (1 : Nat)) * (32 : Nat) ≤ (140737488355328 : Nat)) := (by first | omega | (rw [hw1]; omega) | (rw [hw3]; have := of_decide_eq_true hb3; omega) | exact absurd (of_decide_eq_false hb1) (by omega))
          refine go_head (LR_ok r f) rfl rfl (k' := loopAt Tryd.f20 0) (s' := mk 0 78 [(2, .ref 0 0), (4, .d (.list 1 (r.length) (strEl r))), (6, .ref 1 0), (7, .d (.raw (.int .i64 (IntKind.i64.wrap (i + (2 : Int))))))] [(0, .obj 36 [.d (.raw (Value.slice none (0 : Nat) (0 : Nat)))]), (1, .obj 36 [.own 2]), (2, .row 65 2 (l.length + (1 : Nat)) (fun j => if j < l.length then rowEl l j else segD true (2 : Nat) (splice (List.map (fun j => (List.map D.raw (Value.agg #[Value.string (ByteArray.mk #[]), Value.string (ByteArray.mk #[])]).cells.toList).getD (j % (2 : Nat)) default) (List.range (2 : Nat))) (0 : Nat) (D.agg [D.raw (Value.string (r.getD i.toNat ByteArray.empty)), D.raw (Value.string (r.getD (IntKind.i64.wrap (i + (1 : Int))).toNat ByteArray.empty))]).cells) (j - l.length)))]) (cs := ((fun (c0 c1 c2 : Prop) => [((decide (i < (↑r.length : Int))) = true), c0, c1, ((checkM (2 : Int) (r.getD i.toNat ByteArray.empty) (r.getD (IntKind.i64.wrap (i + (1 : Int))).toNat ByteArray.empty) (ByteArray.mk #[]) != (0 : Int)) = false), c0, c1, c2, c2, ((decide (i > (0 : Int))) = false)]) ((0 : Int) ≤ i ∧ i < (↑r.length : Int)) ((0 : Int) ≤ IntKind.i64.wrap (i + (1 : Int)) ∧ IntKind.i64.wrap (i + (1 : Int)) < (↑r.length : Int)) (l.length + (1 : Nat) ≤ (9223372036854775807 : Nat) ∧ (l.length + (1 : Nat)) * (32 : Nat) ≤ (140737488355328 : Nat)))) [true, false, false] [2,4,6,7] (by kernel_rfl) (by kernel_rfl) ⟨hb1, q0_, q1_, hb2, q0_, q1_, q2_, q2_, hb3, trivial⟩ hsim fun E a w hsim => ?_
          (
            have hb := hgo hb2 (fun h => by first | exact hb4 | (rw [hb3] at h; cases h))
            obtain ⟨E2, hs⟩ := (says_rowTo (k := 2) rfl l2.length (rowEl l2) hll (fun j hj => by
              by_cases hjr : j < l.length
              · exact (if_pos hjr).trans (hlo j hjr)
              · obtain rfl : j = l.length := by omega
                rw [hh0]
                exact (if_neg hjr).trans (by rw [Nat.sub_self]; rfl))).out E a w hsim
            exact ih hb E2 a w hs)
    · skip
      exact go_ret (LR_ok r f) rfl rfl Tryd.func20 (sr' := ⟨0, [.tup [.d (.agg [.list 2 (l.length) (rowEl l)]), .d (.raw (.int .i64 ((0 : Int))))]], []⟩) (cs := [((decide (i < (↑r.length : Int))) = false)]) [false] true (by kernel_rfl) (by kernel_rfl) ⟨hb1, trivial⟩ (by first | rfl | exact absurd (of_decide_eq_false hb1) (by omega)) hsim
end Go.Tab

namespace Go.Tab
open Go Go.Eng Go.Proofs Go.Nest
set_option linter.unusedVariables false
set_option linter.unusedSimpArgs false
set_option maxRecDepth 100000
set_option maxHeartbeats 4000000
/-- An object's one cell that is a nil slice, as a row of its own. -/
theorem nilCell1 {C : Cx} {E : Env} {s : St} {a : Act} {w : World} (hs : Sim C E s a w) {k : Nat} {T : TypeId} (hk : s.th k = some (.obj T [.d (.raw (.slice none 0 0))])) (hne : k ≠ s.fresh) (R sz : Nat) (el : Nat → D) :
    ∃ E', Sim C E' ((s.newTh none s.fresh (.row R sz 0 el)).setTh k (.obj T [.own s.fresh])) a w := by
  obtain ⟨h1, h2, h3, h4⟩ := hs.fit.newTh (w' := w) none s.fresh (fresh_base s) (.row R sz 0 el) (.slice none 0 0) rfl rfl rfl (Nat.le_refl _) (fun _ _ _ => rfl) (fun b hb => by cases hb)
    (fun {E' N'} _ _ _ _ => ⟨[], ⟨by simp, .inl ⟨rfl, rfl⟩⟩, fun i hi => absurd hi (by omega)⟩)
  have h5 : Sim C (E.set s.fresh (.slice none 0 0)) (s.newTh none s.fresh (.row R sz 0 el)) a w := ⟨h1, hs.newTh_tm h4, hs.df⟩
  refine ⟨_, sim_th h5 (k := k) (t := .obj T [.d (.raw (.slice none 0 0))]) ?_ (t' := .obj T [.own s.fresh]) fun N v h => ?_⟩
  · rw [St.newTh_th, if_neg (Ne.symm hne), if_neg (by simp), hk]; rfl
  · obtain ⟨b, vs, e1, e2, e3⟩ := h
    refine ⟨b, vs, e1, e2, ?_⟩
    rw [VAs_cons] at e3 ⊢
    obtain ⟨x, xs, rfl, hx, hxs⟩ := e3
    refine ⟨x, xs, rfl, ?_, by unfold VAs at hxs ⊢; exact hxs⟩
    unfold VA at hx ⊢
    rw [(VD_raw_inv hx).1]
    exact ⟨by simp [Env.set], none, 0, 0, rfl⟩
theorem loadR_good (text : ByteArray) (hs : text.size ≤ 1073741824) (hg : goodT text) : Eng.Spec Tryd.prog (fun _ => none) 20 [.d (.raw (.string text))] [] (.tup [.d (.agg [.list 2 (prs (unpR text).1 ((unpR text).1.length / 2)).length (rowEl (prs (unpR text).1 ((unpR text).1.length / 2)))]), .d (.raw (.int .i64 0))]) [] := by
  refine spec_fn Tryd.func20 rfl fun {w N E a} hsim => ?_
  obtain ⟨g1, g2, g3, g4⟩ := hg
  obtain ⟨r, hr⟩ : ∃ r, r = (unpR text).1 := ⟨_, rfl⟩
  obtain ⟨f, hf⟩ : ∃ f, f = (unpR text).2 := ⟨_, rfl⟩
  rw [← hf] at g1
  rw [← hr] at g2 g3 g4 ⊢
  have c1 : (f != (0 : Int)) = false := by rw [g1]; rfl
  have c2 : ((r.length : Int).tmod 2 != (0 : Int)) = false := by rw [tmod_two, g2]; rfl
  rcases Bool.eq_false_or_eq_true (f != (0 : Int)) with hb1 | hb1
  · skip
    exact go_ret (LR_ok r f) rfl rfl Tryd.func20 (sr' := ⟨0, [.tup [.d (.agg [.raw (Value.slice none (0 : Nat) (0 : Nat))]), .d (.raw (.int .i64 ((4 : Int))))]], []⟩) (cs := [(text.size ≤ (1073741824 : Nat)), (r = (unpR text).fst), (f = (unpR text).snd), ((f != (0 : Int)) = true)]) [true] true (by kernel_rfl) (by kernel_rfl) ⟨(by first | exact hs | exact hr | exact hf | decide), (by first | exact hs | exact hr | exact hf | decide), (by first | exact hs | exact hr | exact hf | decide), hb1, trivial⟩ (by first | exact absurd hb1 (by rw [c1]; decide) | exact absurd hb2 (by rw [c2]; decide) | exact absurd (of_decide_eq_true hb3) (by omega)) hsim
  · skip
    rcases Bool.eq_false_or_eq_true ((↑r.length : Int).tmod (2 : Int) != (0 : Int)) with hb2 | hb2
    · skip
      exact go_ret (LR_ok r f) rfl rfl Tryd.func20 (sr' := ⟨0, [.tup [.d (.agg [.raw (Value.slice none (0 : Nat) (0 : Nat))]), .d (.raw (.int .i64 ((4 : Int))))]], []⟩) (cs := [(text.size ≤ (1073741824 : Nat)), (r = (unpR text).fst), (f = (unpR text).snd), ((f != (0 : Int)) = false), (Nz 2), (((↑r.length : Int).tmod (2 : Int) != (0 : Int)) = true)]) [false, true] true (by kernel_rfl) (by kernel_rfl) ⟨(by first | exact hs | exact hr | exact hf | decide), (by first | exact hs | exact hr | exact hf | decide), (by first | exact hs | exact hr | exact hf | decide), hb1, (by decide), hb2, trivial⟩ (by first | exact absurd hb1 (by rw [c1]; decide) | exact absurd hb2 (by rw [c2]; decide) | exact absurd (of_decide_eq_true hb3) (by omega)) hsim
    · skip
      rcases Bool.eq_false_or_eq_true (decide ((↑r.length : Int) > (32 : Int))) with hb3 | hb3
      · skip
        exact go_ret (LR_ok r f) rfl rfl Tryd.func20 (sr' := ⟨0, [.tup [.d (.agg [.raw (Value.slice none (0 : Nat) (0 : Nat))]), .d (.raw (.int .i64 ((4 : Int))))]], []⟩) (cs := [(text.size ≤ (1073741824 : Nat)), (r = (unpR text).fst), (f = (unpR text).snd), ((f != (0 : Int)) = false), (Nz 2), (((↑r.length : Int).tmod (2 : Int) != (0 : Int)) = false), ((decide ((↑r.length : Int) > (32 : Int))) = true)]) [false, false, true] true (by kernel_rfl) (by kernel_rfl) ⟨(by first | exact hs | exact hr | exact hf | decide), (by first | exact hs | exact hr | exact hf | decide), (by first | exact hs | exact hr | exact hf | decide), hb1, (by decide), hb2, hb3, trivial⟩ (by first | exact absurd hb1 (by rw [c1]; decide) | exact absurd hb2 (by rw [c2]; decide) | exact absurd (of_decide_eq_true hb3) (by omega)) hsim
      · skip
        refine go_head (LR_ok r f) rfl rfl (k' := loopAt Tryd.f20 0) (s' := mk 0 78 [(2, .ref 0 0), (4, .d (.list 1 (r.length) (strEl r))), (6, .ref 1 0), (7, .d (.raw (.int .i64 ((0 : Int)))))] [(0, .obj 36 [.d (.raw (Value.slice none (0 : Nat) (0 : Nat)))]), (1, .obj 36 [.d (.raw (Value.slice none (0 : Nat) (0 : Nat)))])]) (cs := [(text.size ≤ (1073741824 : Nat)), (r = (unpR text).fst), (f = (unpR text).snd), ((f != (0 : Int)) = false), (Nz 2), (((↑r.length : Int).tmod (2 : Int) != (0 : Int)) = false), ((decide ((↑r.length : Int) > (32 : Int))) = false)]) [false, false, false] [2,4,6,7] (by kernel_rfl) (by kernel_rfl) ⟨(by first | exact hs | exact hr | exact hf | decide), (by first | exact hs | exact hr | exact hf | decide), (by first | exact hs | exact hr | exact hf | decide), hb1, (by decide), hb2, hb3, trivial⟩ hsim fun E a w hsim => ?_
        obtain ⟨E2, h3⟩ := nilCell1 hsim (k := 1) rfl (by show 1 ≠ 2; decide) 65 2 (rowEl [])
        exact lr_good r f (r.length / 2) (by omega) (by omega) g4 (r.length / 2) 0 0 rfl (by omega) [] rfl E2 a w ((congrArg (fun s => Sim _ E2 s a w) (by kernel_rfl)).mp h3)
theorem loadR_bad (text : ByteArray) (hs : text.size ≤ 1073741824) (hg : ¬ goodT text) : Eng.Spec Tryd.prog (fun _ => none) 20 [.d (.raw (.string text))] [] (.tup [.d (.agg [.raw (.slice none 0 0)]), .d (.raw (.int .i64 4))]) [] := by
  refine spec_fn Tryd.func20 rfl fun {w N E a} hsim => ?_
  unfold goodT at hg
  obtain ⟨r, hr⟩ : ∃ r, r = (unpR text).1 := ⟨_, rfl⟩
  obtain ⟨f, hf⟩ : ∃ f, f = (unpR text).2 := ⟨_, rfl⟩
  rw [← hf, ← hr] at hg
  have key : (f != (0 : Int)) = false → ((r.length : Int).tmod 2 != (0 : Int)) = false → decide ((r.length : Int) > 32) = false → ∃ j, 0 ≤ j ∧ j < r.length / 2 ∧ ¬ okAt r j := fun c1 c2 c3 => by
    rw [tmod_two] at c2
    have c1 : f = 0 := by simpa using c1
    have c2 : r.length % 2 = 0 := by simpa using c2
    have c3 := of_decide_eq_false c3
    apply Classical.byContradiction
    intro hn
    apply hg
    refine ⟨c1, c2, by omega, fun j hj => ?_⟩
    apply Classical.byContradiction
    intro ho
    exact hn ⟨j, Nat.zero_le _, hj, ho⟩
  rcases Bool.eq_false_or_eq_true (f != (0 : Int)) with hb1 | hb1
  · skip
    exact go_ret (LR_ok r f) rfl rfl Tryd.func20 (sr' := ⟨0, [.tup [.d (.agg [.raw (Value.slice none (0 : Nat) (0 : Nat))]), .d (.raw (.int .i64 ((4 : Int))))]], []⟩) (cs := [(text.size ≤ (1073741824 : Nat)), (r = (unpR text).fst), (f = (unpR text).snd), ((f != (0 : Int)) = true)]) [true] true (by kernel_rfl) (by kernel_rfl) ⟨(by first | exact hs | exact hr | exact hf | decide), (by first | exact hs | exact hr | exact hf | decide), (by first | exact hs | exact hr | exact hf | decide), hb1, trivial⟩ (by rfl) hsim
  · skip
    rcases Bool.eq_false_or_eq_true ((↑r.length : Int).tmod (2 : Int) != (0 : Int)) with hb2 | hb2
    · skip
      exact go_ret (LR_ok r f) rfl rfl Tryd.func20 (sr' := ⟨0, [.tup [.d (.agg [.raw (Value.slice none (0 : Nat) (0 : Nat))]), .d (.raw (.int .i64 ((4 : Int))))]], []⟩) (cs := [(text.size ≤ (1073741824 : Nat)), (r = (unpR text).fst), (f = (unpR text).snd), ((f != (0 : Int)) = false), (Nz 2), (((↑r.length : Int).tmod (2 : Int) != (0 : Int)) = true)]) [false, true] true (by kernel_rfl) (by kernel_rfl) ⟨(by first | exact hs | exact hr | exact hf | decide), (by first | exact hs | exact hr | exact hf | decide), (by first | exact hs | exact hr | exact hf | decide), hb1, (by decide), hb2, trivial⟩ (by rfl) hsim
    · skip
      rcases Bool.eq_false_or_eq_true (decide ((↑r.length : Int) > (32 : Int))) with hb3 | hb3
      · skip
        exact go_ret (LR_ok r f) rfl rfl Tryd.func20 (sr' := ⟨0, [.tup [.d (.agg [.raw (Value.slice none (0 : Nat) (0 : Nat))]), .d (.raw (.int .i64 ((4 : Int))))]], []⟩) (cs := [(text.size ≤ (1073741824 : Nat)), (r = (unpR text).fst), (f = (unpR text).snd), ((f != (0 : Int)) = false), (Nz 2), (((↑r.length : Int).tmod (2 : Int) != (0 : Int)) = false), ((decide ((↑r.length : Int) > (32 : Int))) = true)]) [false, false, true] true (by kernel_rfl) (by kernel_rfl) ⟨(by first | exact hs | exact hr | exact hf | decide), (by first | exact hs | exact hr | exact hf | decide), (by first | exact hs | exact hr | exact hf | decide), hb1, (by decide), hb2, hb3, trivial⟩ (by rfl) hsim
      · skip
        refine go_head (LR_ok r f) rfl rfl (k' := loopAt Tryd.f20 0) (s' := mk 0 78 [(2, .ref 0 0), (4, .d (.list 1 (r.length) (strEl r))), (6, .ref 1 0), (7, .d (.raw (.int .i64 ((0 : Int)))))] [(0, .obj 36 [.d (.raw (Value.slice none (0 : Nat) (0 : Nat)))]), (1, .obj 36 [.d (.raw (Value.slice none (0 : Nat) (0 : Nat)))])]) (cs := [(text.size ≤ (1073741824 : Nat)), (r = (unpR text).fst), (f = (unpR text).snd), ((f != (0 : Int)) = false), (Nz 2), (((↑r.length : Int).tmod (2 : Int) != (0 : Int)) = false), ((decide ((↑r.length : Int) > (32 : Int))) = false)]) [false, false, false] [2,4,6,7] (by kernel_rfl) (by kernel_rfl) ⟨(by first | exact hs | exact hr | exact hf | decide), (by first | exact hs | exact hr | exact hf | decide), (by first | exact hs | exact hr | exact hf | decide), hb1, (by decide), hb2, hb3, trivial⟩ hsim fun E a w hsim => ?_
        have h3 := hb3
        rw [tmod_two] at hb2
        have c2 : r.length % 2 = 0 := by (simpa using hb2)
        have c3 := of_decide_eq_false hb3
        obtain ⟨E2, h4⟩ := nilCell1 hsim (k := 1) rfl (by show 1 ≠ 2; decide) 65 2 (rowEl [])
        exact lr_bad r f (r.length / 2) (by omega) (by omega) (r.length / 2) 0 0 rfl (by omega) (key hb1 (by rw [tmod_two]; exact hb2) h3) [] rfl E2 a w ((congrArg (fun s => Sim _ E2 s a w) (by kernel_rfl)).mp h4)
end Go.Tab

namespace Go.Tab
open Go Go.Eng Go.Proofs Go.Nest
set_option linter.unusedVariables false
/-- What Take takes, it takes off a text of that form. -/
theorem take_inv {s : ByteArray} (h : (takeM s).2.2 = 0) : s.data.toList = Lib.decDigits (takeM s).1.size ++ 58 :: ((takeM s).1.data.toList ++ 44 :: (takeM s).2.1.data.toList) := by
  by_cases hc : foundM s = true ∧ (numM (headM s)).2 = 0 ∧ (headM s).size ≤ 9 ∧ 0 ≤ (numM (headM s)).1 ∧ (numM (headM s)).1 < ((restM s).size : Int) ∧ byteAt (restM s) (numM (headM s)).1.toNat = 44
  · have ht : takeM s = ((restM s).extract 0 (numM (headM s)).1.toNat, (restM s).extract ((numM (headM s)).1.toNat + 1) (restM s).size, 0) := if_pos hc
    obtain ⟨c1, c2, c3, c4, c5, c6⟩ := hc
    obtain ⟨n, hn⟩ : ∃ n : Nat, n = (numM (headM s)).1.toNat := ⟨_, rfl⟩
    rw [← hn] at ht c6
    have hnr : n < (restM s).size := by omega
    rw [ht]
    have hsz : ((restM s).extract 0 n).size = n := by rw [ByteArray.size_extract]; omega
    show s.data.toList = Lib.decDigits ((restM s).extract 0 n).size ++ 58 :: (((restM s).extract 0 n).data.toList ++ 44 :: ((restM s).extract (n + 1) (restM s).size).data.toList)
    rw [hsz]
    have hh : (headM s).data.toList = Lib.decDigits n := by
      rcases numM_cases (headM s) with h2 | ⟨v, h2, h3⟩
      · rw [h2] at c2; cases c2
      · rw [h2] at hn c4
        rw [← h3]
        unfold Lib.itoa
        have hv : ¬ v < 0 := by have : (0 : Int) ≤ v := c4; omega
        rw [if_neg hv, hn]
    have hr : ((restM s).extract 0 n).data.toList ++ 44 :: ((restM s).extract (n + 1) (restM s).size).data.toList = (restM s).data.toList := by
      rw [extract_ba, extract_ba]
      have hl : n < (restM s).data.toList.length := by rw [← size_ba]; exact hnr
      have h44 : (restM s).data.toList[n] = 44 := by
        rw [byteAt_list _ n hnr] at c6
        apply UInt8.toNat_inj.1
        show _ = 44
        omega
      rw [List.take_of_length_le (l := List.drop (n + 1) (restM s).data.toList) (by rw [List.length_drop, ← size_ba]; omega)]
      conv => rhs; rw [← List.take_append_drop n (restM s).data.toList, List.drop_eq_getElem_cons hl, h44]
      simp
    rw [hr, ← hh]
    unfold foundM at c1
    show s.data.toList = (Lib.cut s.data.toList [58]).1 ++ 58 :: (Lib.cut s.data.toList [58]).2.1
    unfold Lib.cut at c1 ⊢
    split at c1
    · rename_i h0
      rw [if_pos h0]
      obtain ⟨k, hk⟩ : ∃ k : Nat, Lib.index s.data.toList [58] = (k : Int) := ⟨(Lib.index s.data.toList [58]).toNat, by omega⟩
      have hat := idxB_at 58 s.data.toList k (by rw [← Lib.index_one]; exact hk)
      obtain ⟨hks, hke⟩ := List.getElem?_eq_some_iff.1 hat
      rw [hk, Int.toNat_natCast]
      show s.data.toList = List.take k s.data.toList ++ 58 :: List.drop (k + 1) s.data.toList
      conv => lhs; rw [← List.take_append_drop k s.data.toList, List.drop_eq_getElem_cons hks, hke]
    · cases c1
  · have ht : takeM s = (ByteArray.empty, ByteArray.empty, 4) := if_neg hc
    rw [ht] at h; cases h
theorem unp_inv : ∀ (d : Nat) (s : ByteArray) (xs : List ByteArray), unpF d s = some xs → s = packB xs
  | 0, s, xs, h => by
    unfold unpF at h
    split at h
    · rename_i h0; cases h; apply ext_ba; rw [size_ba] at h0; exact List.length_eq_zero_iff.1 h0
    · cases h
  | d + 1, s, xs, h => by
    unfold unpF at h
    split at h
    · rename_i h0; cases h; apply ext_ba; rw [size_ba] at h0; exact List.length_eq_zero_iff.1 h0
    · split at h
      · rename_i h1
        obtain ⟨ys, hy, rfl⟩ := Option.map_eq_some_iff.1 h
        have ih := unp_inv d _ ys hy
        apply ext_ba
        rw [take_inv h1, ih]
        simp [packB, packL]
      · cases h
theorem unpR_inv {s : ByteArray} (h : (unpR s).2 = 0) : s = packB (unpR s).1 := by
  unfold unpR at h ⊢
  split
  · rename_i xs hx; exact unp_inv _ _ _ hx
  · rename_i hx; rw [hx] at h; cases h
theorem flat_prs (r : List ByteArray) : ∀ K, r.length = 2 * K → flatM (prs r K) = r := by
  intro K hK
  have key : ∀ k, k ≤ K → flatM (prs r k) = r.take (2 * k) := by
    intro k
    induction k with
    | zero => intro _; rfl
    | succ k ih =>
      intro hk
      have e : r.take (2 * (k + 1)) = r.take (2 * k) ++ [r.getD (2 * k) ByteArray.empty, r.getD (2 * k + 1) ByteArray.empty] := by
        have e1 : r.take (2 * k + 1) = r.take (2 * k) ++ [r.getD (2 * k) ByteArray.empty] := by
          rw [List.take_add_one, List.getElem?_eq_getElem (by omega : 2 * k < r.length), List.getD_eq_getElem?_getD, List.getElem?_eq_getElem (by omega : 2 * k < r.length)]; rfl
        have e2 : r.take (2 * k + 1 + 1) = r.take (2 * k + 1) ++ [r.getD (2 * k + 1) ByteArray.empty] := by
          rw [List.take_add_one, List.getElem?_eq_getElem (by omega : 2 * k + 1 < r.length), List.getD_eq_getElem?_getD, List.getElem?_eq_getElem (by omega : 2 * k + 1 < r.length)]; rfl
        rw [show 2 * (k + 1) = 2 * k + 1 + 1 by omega, e2, e1, List.append_assoc]; rfl
      rw [prs_succ, flatM_append, ih (by omega), e]
      rfl
  rw [key K (Nat.le_refl _), List.take_of_length_le (by omega)]
theorem good_text {text : ByteArray} (hg : goodT text) : packB (flatM (prs (unpR text).1 ((unpR text).1.length / 2))) = text := by
  obtain ⟨g1, g2, g3, g4⟩ := hg
  rw [flat_prs _ _ (by omega)]
  exact (unpR_inv g1).symm
theorem good_tidy {text : ByteArray} (hg : goodT text) : Tidy (prs (unpR text).1 ((unpR text).1.length / 2)) := by
  obtain ⟨g1, g2, g3, g4⟩ := hg
  obtain ⟨r, hr⟩ : ∃ r, r = (unpR text).1 := ⟨_, rfl⟩
  rw [← hr] at g2 g3 g4 ⊢
  obtain ⟨K, hK⟩ : ∃ K, K = r.length / 2 := ⟨_, rfl⟩
  rw [← hK] at g4 ⊢
  have hget : ∀ i (h : i < (prs r K).length), (prs r K)[i] = (r.getD (2 * i) ByteArray.empty, r.getD (2 * i + 1) ByteArray.empty) := fun i h => by unfold prs; simp
  have hadj : ∀ i, 0 < i → i < K → ltB (r.getD (2 * (i - 1)) ByteArray.empty) (r.getD (2 * i) ByteArray.empty) = true := fun i h0 h => by
    have := (g4 i h).2 h0
    rwa [show 2 * i - 2 = 2 * (i - 1) by omega] at this
  have hlt : ∀ d i, i + d + 1 < K → ltB (r.getD (2 * i) ByteArray.empty) (r.getD (2 * (i + d + 1)) ByteArray.empty) = true := by
    intro d
    induction d with
    | zero => intro i h; exact hadj (i + 1) (by omega) h
    | succ d ih =>
      intro i h
      exact ltB_trans (ih i (by omega)) (hadj (i + (d + 1) + 1) (by omega) h)
  refine ⟨List.pairwise_iff_getElem.2 fun i j hi hj hij => ?_, by rw [prs_len]; omega, fun q hq => ?_⟩
  · rw [hget, hget]
    rw [prs_len] at hi hj
    have := hlt (j - i - 1) i (by omega)
    rwa [show i + (j - i - 1) + 1 = j by omega] at this
  · obtain ⟨i, hi, rfl⟩ := List.getElem_of_mem hq
    rw [hget]
    rw [prs_len] at hi
    obtain ⟨-, h1, h2, -⟩ := check_sizes (g4 i hi).1
    exact ⟨h1.1, h1.2, h2⟩
end Go.Tab

namespace Go.Tab
open Go Go.Eng Go.Proofs Go.Nest
set_option linter.unusedVariables false
set_option linter.unusedSimpArgs false
set_option maxRecDepth 100000
set_option maxHeartbeats 4000000
theorem W5_ok (m : Int) (e1 e2 : Value) (h1 : ErrV e1) (h2 : ErrV e2) (t : ByteArray) (l : List Rw) (hl : goodT t → l = prs (unpR t).1 ((unpR t).1.length / 2)) : OrcOK Tryd.prog (W5 m e1 e2 t l (t.size ≤ 1073741824 ∧ goodT t)) := ((((((OrcOK.none (glU m e1 e2)).add _ false (mLoadG t l _) fun args H r H' cs h hc => by
  unfold mLoadG at h
  split at h
  · cases h; obtain ⟨rfl, ⟨hs, hg⟩, -⟩ := hc; rw [hl hg]; exact load_good m e1 e2 h1 h2 _ hs hg
  · cases h).add _ false (mLoadRG t l _) fun args H r H' cs h hc => by
  unfold mLoadRG at h
  split at h
  · cases h; obtain ⟨rfl, ⟨hs, hg⟩, -⟩ := hc; rw [hl hg]; exact Spec.glAny (loadR_good _ hs hg)
  · cases h).add _ false (mTextV l t) fun args H r H' cs h hc => by
  unfold mTextV at h
  split at h
  · cases h; obtain ⟨rfl, rfl, rfl, rfl, ⟨ht, rfl⟩, -⟩ := hc; exact Spec.glAny (text_ok l ht)
  · cases h).add _ false (mLen l) fun args H r H' cs h hc => by
  unfold mLen at h
  split at h
  · cases h; obtain ⟨rfl, rfl, rfl, rfl, -⟩ := hc; exact Spec.glAny (len_ok l)
  · cases h).add _ false mFour fun args H r H' cs h hc => by
  unfold mFour at h
  split at h
  · cases h; exact Spec.glAny four_ok
  · cases h)
theorem W6_ok (m : Int) (e1 e2 : Value) (h1 : ErrV e1) (h2 : ErrV e2) (t : ByteArray) : OrcOK Tryd.prog (W6 m e1 e2 t (t.size ≤ 1073741824 ∧ ¬ goodT t)) := ((((OrcOK.none (glU m e1 e2)).add _ false (mLoadB t _) fun args H r H' cs h hc => by
  unfold mLoadB at h
  split at h
  · cases h; obtain ⟨rfl, ⟨hs, hg⟩, -⟩ := hc; exact load_bad m e1 e2 h1 h2 _ hs hg
  · cases h).add _ false (mLoadRB t _) fun args H r H' cs h hc => by
  unfold mLoadRB at h
  split at h
  · cases h; obtain ⟨rfl, ⟨hs, hg⟩, -⟩ := hc; exact Spec.glAny (loadR_bad _ hs hg)
  · cases h).add _ false mFour fun args H r H' cs h hc => by
  unfold mFour at h
  split at h
  · cases h; exact Spec.glAny four_ok
  · cases h)
theorem law_loads_ok (m : Int) (e1 e2 : Value) (h1 : ErrV e1) (h2 : ErrV e2) (t : ByteArray) : Eng.Spec Tryd.prog (glU m e1 e2) 8 [.d (.raw (.string t))] [] (.d (.raw (.bool true))) [] := by
  by_cases hg : goodT t
  · have ht := good_tidy hg
    have he := good_text hg
    obtain ⟨l, hl⟩ : ∃ l, l = prs (unpR t).1 ((unpR t).1.length / 2) := ⟨_, rfl⟩
    rw [← hl] at ht he
    refine spec_fn Tryd.func8 rfl fun {w N E a} hsim => ?_
    obtain ⟨P, hP⟩ : ∃ P, P = (t.size ≤ 1073741824 ∧ goodT t) := ⟨_, rfl⟩
    have hO := W5_ok m e1 e2 h1 h2 t l fun _ => hl
    rw [← hP] at hO
    have hPt : decide ((t.size : Int) > 20000) = false → P := fun h => by rw [hP]; exact ⟨by have := of_decide_eq_false h; omega, hg⟩
    rcases Bool.eq_false_or_eq_true (decide ((↑t.size : Int) > (20000 : Int))) with hb1 | hb1
    · skip
      exact go_ret hO rfl rfl Tryd.func8 (sr' := ⟨0, [.d (.raw (.bool (true)))], []⟩) (cs := [((decide ((↑t.size : Int) > (20000 : Int))) = true)]) [true] true (by kernel_rfl) (by kernel_rfl) ⟨hb1, trivial⟩ (by first | rfl | (exfalso; clear hsim; simp_all; done)) hsim
    · skip
      rcases Bool.eq_false_or_eq_true (t.toList == t.toList) with hb2 | hb2
      · skip
        rcases Bool.eq_false_or_eq_true ((↑l.length : Int) == (↑l.length : Int)) with hb3 | hb3
        · skip
          have q0_ : (t = t) := (by first | rfl | exact hPt hb1 | exact ⟨ht, he.symm⟩)
          have q1_ : (P) := (by first | rfl | exact hPt hb1 | exact ⟨ht, he.symm⟩)
          have q2_ : ((56 : Nat) = (56 : Nat)) := (by first | rfl | exact hPt hb1 | exact ⟨ht, he.symm⟩)
          have q3_ : ((60 : Nat) = (60 : Nat)) := (by first | rfl | exact hPt hb1 | exact ⟨ht, he.symm⟩)
          have q4_ : (l.length = l.length) := (by first | rfl | exact hPt hb1 | exact ⟨ht, he.symm⟩)
          have q5_ : (rowEl l = rowEl l) := (by first | rfl | exact hPt hb1 | exact ⟨ht, he.symm⟩)
          exact go_ret hO rfl rfl Tryd.func8 (sr' := ⟨0, [.d (.raw (.bool (true)))], []⟩) (cs := ((fun (c0 c1 c2 c3 c4 c5 : Prop) => [((decide ((↑t.size : Int) > (20000 : Int))) = false), c0, c1, c0, c1, ((false) = false), ((false) = false), ((false) = false), c2, c3, c4, c5, (Tidy l ∧ t = packB (flatM l)), ((t.toList == t.toList) = true), c2, c3, c4, c5, (((↑l.length : Int) == (↑l.length : Int)) = true)]) (t = t) (P) ((56 : Nat) = (56 : Nat)) ((60 : Nat) = (60 : Nat)) (l.length = l.length) (rowEl l = rowEl l))) ((List.replicate 4 false) ++ [true, true]) true (by kernel_rfl) (by kernel_rfl) ⟨hb1, q0_, q1_, q0_, q1_, rfl, rfl, rfl, q2_, q3_, q4_, q5_, (by first | rfl | exact hPt hb1 | exact ⟨ht, he.symm⟩), hb2, q2_, q3_, q4_, q5_, hb3, trivial⟩ (by first | rfl | (exfalso; clear hsim; simp_all; done)) hsim
        · skip
          have q0_ : (t = t) := (by first | rfl | exact hPt hb1 | exact ⟨ht, he.symm⟩)
          have q1_ : (P) := (by first | rfl | exact hPt hb1 | exact ⟨ht, he.symm⟩)
          have q2_ : ((56 : Nat) = (56 : Nat)) := (by first | rfl | exact hPt hb1 | exact ⟨ht, he.symm⟩)
          have q3_ : ((60 : Nat) = (60 : Nat)) := (by first | rfl | exact hPt hb1 | exact ⟨ht, he.symm⟩)
          have q4_ : (l.length = l.length) := (by first | rfl | exact hPt hb1 | exact ⟨ht, he.symm⟩)
          have q5_ : (rowEl l = rowEl l) := (by first | rfl | exact hPt hb1 | exact ⟨ht, he.symm⟩)
          exact go_ret hO rfl rfl Tryd.func8 (sr' := ⟨0, [.d (.raw (.bool (false)))], []⟩) (cs := ((fun (c0 c1 c2 c3 c4 c5 : Prop) => [((decide ((↑t.size : Int) > (20000 : Int))) = false), c0, c1, c0, c1, ((false) = false), ((false) = false), ((false) = false), c2, c3, c4, c5, (Tidy l ∧ t = packB (flatM l)), ((t.toList == t.toList) = true), c2, c3, c4, c5, (((↑l.length : Int) == (↑l.length : Int)) = false)]) (t = t) (P) ((56 : Nat) = (56 : Nat)) ((60 : Nat) = (60 : Nat)) (l.length = l.length) (rowEl l = rowEl l))) ((List.replicate 4 false) ++ [true, false]) true (by kernel_rfl) (by kernel_rfl) ⟨hb1, q0_, q1_, q0_, q1_, rfl, rfl, rfl, q2_, q3_, q4_, q5_, (by first | rfl | exact hPt hb1 | exact ⟨ht, he.symm⟩), hb2, q2_, q3_, q4_, q5_, hb3, trivial⟩ (by first | rfl | (exfalso; clear hsim; simp_all; done)) hsim
      · skip
        have q0_ : (t = t) := (by first | rfl | exact hPt hb1 | exact ⟨ht, he.symm⟩)
        have q1_ : (P) := (by first | rfl | exact hPt hb1 | exact ⟨ht, he.symm⟩)
        exact go_ret hO rfl rfl Tryd.func8 (sr' := ⟨0, [.d (.raw (.bool (false)))], []⟩) (cs := ((fun (c0 c1 : Prop) => [((decide ((↑t.size : Int) > (20000 : Int))) = false), c0, c1, c0, c1, ((false) = false), ((false) = false), ((false) = false), ((56 : Nat) = (56 : Nat)), ((60 : Nat) = (60 : Nat)), (l.length = l.length), (rowEl l = rowEl l), (Tidy l ∧ t = packB (flatM l)), ((t.toList == t.toList) = false)]) (t = t) (P))) ((List.replicate 5 false)) true (by kernel_rfl) (by kernel_rfl) ⟨hb1, q0_, q1_, q0_, q1_, rfl, rfl, rfl, (by first | rfl | exact hPt hb1 | exact ⟨ht, he.symm⟩), (by first | rfl | exact hPt hb1 | exact ⟨ht, he.symm⟩), (by first | rfl | exact hPt hb1 | exact ⟨ht, he.symm⟩), (by first | rfl | exact hPt hb1 | exact ⟨ht, he.symm⟩), (by first | rfl | exact hPt hb1 | exact ⟨ht, he.symm⟩), hb2, trivial⟩ (by first | rfl | (exfalso; clear hsim; simp_all; done)) hsim
  · refine spec_fn Tryd.func8 rfl fun {w N E a} hsim => ?_
    obtain ⟨P, hP⟩ : ∃ P, P = (t.size ≤ 1073741824 ∧ ¬ goodT t) := ⟨_, rfl⟩
    have hO := W6_ok m e1 e2 h1 h2 t
    rw [← hP] at hO
    have hPt : decide ((t.size : Int) > 20000) = false → P := fun h => by rw [hP]; exact ⟨by have := of_decide_eq_false h; omega, hg⟩
    rcases Bool.eq_false_or_eq_true (decide ((↑t.size : Int) > (20000 : Int))) with hb1 | hb1
    · skip
      exact go_ret hO rfl rfl Tryd.func8 (sr' := ⟨0, [.d (.raw (.bool (true)))], []⟩) (cs := [((decide ((↑t.size : Int) > (20000 : Int))) = true)]) [true] true (by kernel_rfl) (by kernel_rfl) ⟨hb1, trivial⟩ (by first | rfl | (exfalso; clear hsim; simp_all; done)) hsim
    · skip
      have q0_ : (t = t) := (by first | rfl | exact hPt hb1)
      have q1_ : (P) := (by first | rfl | exact hPt hb1)
      exact go_ret hO rfl rfl Tryd.func8 (sr' := ⟨0, [.d (.raw (.bool (true)))], []⟩) (cs := ((fun (c0 c1 : Prop) => [((decide ((↑t.size : Int) > (20000 : Int))) = false), c0, c1, c0, c1, ((false) = false), ((false) = false), ((true) = true)]) (t = t) (P))) [false, false, false, true] true (by kernel_rfl) (by kernel_rfl) ⟨hb1, q0_, q1_, q0_, q1_, rfl, rfl, rfl, trivial⟩ (by first | rfl | (exfalso; clear hsim; simp_all; done)) hsim
end Go.Tab
