/-
  Contracts of given functions, or plain laws that they need. No condition.
-/
import Derived.Test.YtmhfkicgmdhooaaDoorUnpT
import Derived.Test.YtmhfkicgmdhooaaDoorUnlG
import Derived.Test.YtmhfkicgmdhooaaDoorTabM
import Derived.Test.YtmhfkicgmdhooaaDoorTabP
namespace Go.Tab
open Go Go.Eng Go.Proofs Go.Nest
set_option linter.unusedVariables false
set_option linter.unusedSimpArgs false
set_option maxRecDepth 100000
set_option maxHeartbeats 4000000
theorem LO_ok (m : Int) (e1 e2 : Value) (h1 : ErrV e1) (h2 : ErrV e2) (r : List ByteArray) (f : Int) : OrcOK Tryd.prog (LO m e1 e2 r f) := ((((OrcOK.none (glU m e1 e2)).add _ false (mUnpV r f) fun args H ret H' cs h hc => by
  unfold mUnpV at h
  split at h
  · cases h; obtain ⟨hs, rfl, rfl, -⟩ := hc; exact unpack_ok m e1 e2 h1 h2 _ hs
  · cases h).add _ false mNew fun args H r H' cs h hc => by
  unfold mNew at h
  split at h
  · cases h; exact Spec.glAny new_ok
  · cases h).add _ false mCheck fun args H r H' cs h hc => by
  unfold mCheck at h
  split at h
  · cases h; exact Spec.glAny (check_ok _ _ _ _)
  · cases h)
/-- The rows of the first 2 k texts. -/
def prs (r : List ByteArray) (k : Nat) : List Rw := (List.range k).map fun j => (r.getD (2 * j) ByteArray.empty, r.getD (2 * j + 1) ByteArray.empty)
theorem prs_succ (r : List ByteArray) (k : Nat) : prs r (k + 1) = prs r k ++ [(r.getD (2 * k) ByteArray.empty, r.getD (2 * k + 1) ByteArray.empty)] := by
  unfold prs; rw [List.range_succ, List.map_append]; rfl
theorem prs_len (r : List ByteArray) (k : Nat) : (prs r k).length = k := by unfold prs; simp
def okAt (r : List ByteArray) (k : Nat) : Prop := checkM 2 (r.getD (2 * k) ByteArray.empty) (r.getD (2 * k + 1) ByteArray.empty) ByteArray.empty = 0 ∧ (0 < k → ltB (r.getD (2 * k - 2) ByteArray.empty) (r.getD (2 * k) ByteArray.empty) = true)
theorem ld_good {m : Int} {e1 e2 : Value} (h1 : ErrV e1) (h2 : ErrV e2) {w0 : World} {N : Nat → Prop} {E0 : Env} (r : List ByteArray) (f : Int) (K : Nat) (hK : r.length = 2 * K) (hK2 : K ≤ 16) (hok : ∀ j, j < K → okAt r j) : ∀ (d k : Nat) (i : Int), i = 2 * (k : Int) → k + d = K → ∀ l, l = prs r k → ∀ (E : Env) (a : Act) (w : World),
    Sim (cx Tryd.prog (glU m e1 e2) w0 N E0 []) E (ld1 r l i) a w → Goes Tryd.prog 19 (loopAt Tryd.f19 0) (RSpec (cx Tryd.prog (glU m e1 e2) w0 N E0 []) ⟨0, [.tup [.ref 0 0, .d (.raw (.int .i64 0))]], tab0 (prs r K)⟩) a w := by
  intro d
  induction d with
  | zero =>
    intro k i hi hd l hl E a w hsim
    have e : l = prs r K := by rw [hl, show k = K by omega]
    rcases Bool.eq_false_or_eq_true (decide (i < (↑r.length : Int))) with hb1 | hb1
    · skip
      rcases Bool.eq_false_or_eq_true (checkM (2 : Int) (r.getD i.toNat ByteArray.empty) (r.getD (IntKind.i64.wrap (i + (1 : Int))).toNat ByteArray.empty) (ByteArray.mk #[]) != (0 : Int)) with hb2 | hb2
      · skip
        exact go_ret (LO_ok m e1 e2 h1 h2 r f) rfl rfl Tryd.func19 (sr' := ⟨0, [.tup [.d (.raw (Value.pointer none)), .d (.raw (.int .i64 ((4 : Int))))]], []⟩) (cs := [((decide (i < (↑r.length : Int))) = true), ((0 : Int) ≤ i ∧ i < (↑r.length : Int)), ((0 : Int) ≤ IntKind.i64.wrap (i + (1 : Int)) ∧ IntKind.i64.wrap (i + (1 : Int)) < (↑r.length : Int)), ((checkM (2 : Int) (r.getD i.toNat ByteArray.empty) (r.getD (IntKind.i64.wrap (i + (1 : Int))).toNat ByteArray.empty) (ByteArray.mk #[]) != (0 : Int)) = true)]) [true, true] true (by kernel_rfl) (by kernel_rfl) ⟨hb1, (by first | omega | exact absurd (of_decide_eq_true hb1) (by omega)), (by first | omega | exact absurd (of_decide_eq_true hb1) (by omega)), hb2, trivial⟩ (by first | (rw [← e]; rfl) | exact absurd (of_decide_eq_true hb1) (by omega)) hsim
      · skip
        rcases Bool.eq_false_or_eq_true (decide (i > (0 : Int))) with hb3 | hb3
        · skip
          rcases Bool.eq_false_or_eq_true (!Op.bytesLess (r.getD (IntKind.i64.wrap (i - (2 : Int))).toNat ByteArray.empty).toList (r.getD i.toNat ByteArray.empty).toList) with hb4 | hb4
          · skip
            have q0_ : ((0 : Int) ≤ i ∧ i < (↑r.length : Int)) := (by first | omega | exact absurd (of_decide_eq_true hb1) (by omega))
            exact go_ret (LO_ok m e1 e2 h1 h2 r f) rfl rfl Tryd.func19 (sr' := ⟨0, [.tup [.d (.raw (Value.pointer none)), .d (.raw (.int .i64 ((4 : Int))))]], []⟩) (cs := ((fun (c0 : Prop) => [((decide (i < (↑r.length : Int))) = true), c0, ((0 : Int) ≤ IntKind.i64.wrap (i + (1 : Int)) ∧ IntKind.i64.wrap (i + (1 : Int)) < (↑r.length : Int)), ((checkM (2 : Int) (r.getD i.toNat ByteArray.empty) (r.getD (IntKind.i64.wrap (i + (1 : Int))).toNat ByteArray.empty) (ByteArray.mk #[]) != (0 : Int)) = false), ((decide (i > (0 : Int))) = true), ((0 : Int) ≤ IntKind.i64.wrap (i - (2 : Int)) ∧ IntKind.i64.wrap (i - (2 : Int)) < (↑r.length : Int)), c0, ((!Op.bytesLess (r.getD (IntKind.i64.wrap (i - (2 : Int))).toNat ByteArray.empty).toList (r.getD i.toNat ByteArray.empty).toList) = true)]) ((0 : Int) ≤ i ∧ i < (↑r.length : Int)))) [true, false, true, true] true (by kernel_rfl) (by kernel_rfl) ⟨hb1, q0_, (by first | omega | exact absurd (of_decide_eq_true hb1) (by omega)), hb2, hb3, (by first | omega | exact absurd (of_decide_eq_true hb1) (by omega)), q0_, hb4, trivial⟩ (by first | (rw [← e]; rfl) | exact absurd (of_decide_eq_true hb1) (by omega)) hsim
          · skip
            have q0_ : ((0 : Int) ≤ i ∧ i < (↑r.length : Int)) := (by first | omega | exact absurd (of_decide_eq_true hb1) (by omega))
            have q1_ : ((0 : Int) ≤ IntKind.i64.wrap (i + (1 : Int)) ∧ IntKind.i64.wrap (i + (1 : Int)) < (↑r.length : Int)) := (by first | omega | exact absurd (of_decide_eq_true hb1) (by omega))
            have q2_ : (l.length + (1 : Nat) ≤ (9223372036854775807 : Nat) ∧ (l.length + (1 : Nat)) * (32 : Nat) ≤ (140737488355328 : Nat)) := (by first | omega | exact absurd (of_decide_eq_true hb1) (by omega))
            refine go_head (LO_ok m e1 e2 h1 h2 r f) rfl rfl (k' := loopAt Tryd.f19 0) (s' := mk 0 81 [(4, .d (.list 1 (r.length) (strEl r))), (6, .ref 0 0), (7, .d (.raw (.int .i64 (IntKind.i64.wrap (i + (2 : Int))))))] [(0, .obj 56 [.own 1]), (1, .row 60 2 (l.length + (1 : Nat)) (fun j => if j < l.length then rowEl l j else segD true (2 : Nat) (splice (List.map (fun j => (List.map D.raw (Value.agg #[Value.string (ByteArray.mk #[]), Value.string (ByteArray.mk #[])]).cells.toList).getD (j % (2 : Nat)) default) (List.range (2 : Nat))) (0 : Nat) (D.agg [D.raw (Value.string (r.getD i.toNat ByteArray.empty)), D.raw (Value.string (r.getD (IntKind.i64.wrap (i + (1 : Int))).toNat ByteArray.empty))]).cells) (j - l.length)))]) (cs := ((fun (c0 c1 c2 : Prop) => [((decide (i < (↑r.length : Int))) = true), c0, c1, ((checkM (2 : Int) (r.getD i.toNat ByteArray.empty) (r.getD (IntKind.i64.wrap (i + (1 : Int))).toNat ByteArray.empty) (ByteArray.mk #[]) != (0 : Int)) = false), ((decide (i > (0 : Int))) = true), ((0 : Int) ≤ IntKind.i64.wrap (i - (2 : Int)) ∧ IntKind.i64.wrap (i - (2 : Int)) < (↑r.length : Int)), c0, ((!Op.bytesLess (r.getD (IntKind.i64.wrap (i - (2 : Int))).toNat ByteArray.empty).toList (r.getD i.toNat ByteArray.empty).toList) = false), c0, c1, c2, c2]) ((0 : Int) ≤ i ∧ i < (↑r.length : Int)) ((0 : Int) ≤ IntKind.i64.wrap (i + (1 : Int)) ∧ IntKind.i64.wrap (i + (1 : Int)) < (↑r.length : Int)) (l.length + (1 : Nat) ≤ (9223372036854775807 : Nat) ∧ (l.length + (1 : Nat)) * (32 : Nat) ≤ (140737488355328 : Nat)))) [true, false, true, false] [4,6,7] (by kernel_rfl) (by kernel_rfl) ⟨hb1, q0_, q1_, hb2, hb3, (by first | omega | exact absurd (of_decide_eq_true hb1) (by omega)), q0_, hb4, q0_, q1_, q2_, q2_, trivial⟩ hsim fun E a w hsim => ?_
            exact absurd (of_decide_eq_true hb1) (by omega)
        · skip
          have q0_ : ((0 : Int) ≤ i ∧ i < (↑r.length : Int)) := (by first | omega | exact absurd (of_decide_eq_true hb1) (by omega))
          have q1_ : ((0 : Int) ≤ IntKind.i64.wrap (i + (1 : Int)) ∧ IntKind.i64.wrap (i + (1 : Int)) < (↑r.length : Int)) := (by first | omega | exact absurd (of_decide_eq_true hb1) (by omega))
          have q2_ : (l.length + (1 : Nat) ≤ (9223372036854775807 : Nat) ∧ (l.length + (1 : Nat)) * (32 : Nat) ≤ (140737488355328 : Nat)) := (by first | omega | exact absurd (of_decide_eq_true hb1) (by omega))
          refine go_head (LO_ok m e1 e2 h1 h2 r f) rfl rfl (k' := loopAt Tryd.f19 0) (s' := mk 0 81 [(4, .d (.list 1 (r.length) (strEl r))), (6, .ref 0 0), (7, .d (.raw (.int .i64 (IntKind.i64.wrap (i + (2 : Int))))))] [(0, .obj 56 [.own 1]), (1, .row 60 2 (l.length + (1 : Nat)) (fun j => if j < l.length then rowEl l j else segD true (2 : Nat) (splice (List.map (fun j => (List.map D.raw (Value.agg #[Value.string (ByteArray.mk #[]), Value.string (ByteArray.mk #[])]).cells.toList).getD (j % (2 : Nat)) default) (List.range (2 : Nat))) (0 : Nat) (D.agg [D.raw (Value.string (r.getD i.toNat ByteArray.empty)), D.raw (Value.string (r.getD (IntKind.i64.wrap (i + (1 : Int))).toNat ByteArray.empty))]).cells) (j - l.length)))]) (cs := ((fun (c0 c1 c2 : Prop) => [((decide (i < (↑r.length : Int))) = true), c0, c1, ((checkM (2 : Int) (r.getD i.toNat ByteArray.empty) (r.getD (IntKind.i64.wrap (i + (1 : Int))).toNat ByteArray.empty) (ByteArray.mk #[]) != (0 : Int)) = false), ((decide (i > (0 : Int))) = false), c0, c1, c2, c2]) ((0 : Int) ≤ i ∧ i < (↑r.length : Int)) ((0 : Int) ≤ IntKind.i64.wrap (i + (1 : Int)) ∧ IntKind.i64.wrap (i + (1 : Int)) < (↑r.length : Int)) (l.length + (1 : Nat) ≤ (9223372036854775807 : Nat) ∧ (l.length + (1 : Nat)) * (32 : Nat) ≤ (140737488355328 : Nat)))) [true, false, false] [4,6,7] (by kernel_rfl) (by kernel_rfl) ⟨hb1, q0_, q1_, hb2, hb3, q0_, q1_, q2_, q2_, trivial⟩ hsim fun E a w hsim => ?_
          exact absurd (of_decide_eq_true hb1) (by omega)
    · skip
      exact go_ret (LO_ok m e1 e2 h1 h2 r f) rfl rfl Tryd.func19 (sr' := ⟨0, [.tup [.ref 0 0, .d (.raw (.int .i64 ((0 : Int))))]], [(0, .obj 56 [.own 1]), (1, .row 60 2 (l.length) (rowEl l))]⟩) (cs := [((decide (i < (↑r.length : Int))) = false)]) [false] true (by kernel_rfl) (by kernel_rfl) ⟨hb1, trivial⟩ (by first | (rw [← e]; rfl) | exact absurd (of_decide_eq_true hb1) (by omega)) hsim
  | succ d ih =>
    intro k i hi hd l hl E a w hsim
    obtain ⟨o1, o2⟩ := hok k (by omega)
    have hlen : l.length = k := by rw [hl, prs_len]
    have hw1 : IntKind.i64.wrap (i + 1) = i + 1 := wrapI _ (by omega)
    have hw2 : IntKind.i64.wrap (i + 2) = i + 2 := wrapI _ (by omega)
    have hw3 : IntKind.i64.wrap (i - 2) = i - 2 := wrapI _ (by omega)
    have t0 : i.toNat = 2 * k := by omega
    have t1 : (i + 1).toNat = 2 * k + 1 := by omega
    have t2 : (i - 2).toNat = 2 * k - 2 := by omega
    have hc : (checkM (2 : Int) (r.getD i.toNat ByteArray.empty) (r.getD (IntKind.i64.wrap (i + (1 : Int))).toNat ByteArray.empty) (ByteArray.mk #[]) != (0 : Int)) = false := by
      rw [hw1, t0, t1, mk_empty, o1]; rfl
    have ho : (decide (i > (0 : Int))) = true → (!Op.bytesLess (r.getD (IntKind.i64.wrap (i - (2 : Int))).toNat ByteArray.empty).toList (r.getD i.toNat ByteArray.empty).toList) = false := fun h => by
      have := of_decide_eq_true h
      have h3 := o2 (by omega)
      unfold ltB at h3
      rw [hw3, t0, t2, h3]; rfl
    obtain ⟨l2, hl2⟩ : ∃ l2, l2 = prs r (k + 1) := ⟨_, rfl⟩
    have eqL : l2 = l ++ [(r.getD i.toNat ByteArray.empty, r.getD (IntKind.i64.wrap (i + (1 : Int))).toNat ByteArray.empty)] := by rw [hl2, prs_succ, hl, hw1, t0, t1]
    have hll : l.length + 1 = l2.length := by rw [eqL]; simp
    have hlo : ∀ j, j < l.length → rowEl l j = rowEl l2 j := fun j hj => by
      rw [eqL]; unfold rowEl; simp [List.getD, List.getElem?_append_left hj]
    have hh0 : rowEl l2 l.length = .agg [.raw (.string (r.getD i.toNat ByteArray.empty)), .raw (.string (r.getD (IntKind.i64.wrap (i + (1 : Int))).toNat ByteArray.empty))] := by rw [eqL]; unfold rowEl; simp [List.getD]
    have ih := ih (k + 1) (IntKind.i64.wrap (i + 2)) (by rw [hw2]; omega) (by omega) l2 hl2
    rcases Bool.eq_false_or_eq_true (decide (i < (↑r.length : Int))) with hb1 | hb1
    · skip
      rcases Bool.eq_false_or_eq_true (checkM (2 : Int) (r.getD i.toNat ByteArray.empty) (r.getD (IntKind.i64.wrap (i + (1 : Int))).toNat ByteArray.empty) (ByteArray.mk #[]) != (0 : Int)) with hb2 | hb2
      · skip
        exact go_ret (LO_ok m e1 e2 h1 h2 r f) rfl rfl Tryd.func19 (sr' := ⟨0, [.tup [.d (.raw (Value.pointer none)), .d (.raw (.int .i64 ((4 : Int))))]], []⟩) (cs := [((decide (i < (↑r.length : Int))) = true), ((0 : Int) ≤ i ∧ i < (↑r.length : Int)), ((0 : Int) ≤ IntKind.i64.wrap (i + (1 : Int)) ∧ IntKind.i64.wrap (i + (1 : Int)) < (↑r.length : Int)), ((checkM (2 : Int) (r.getD i.toNat ByteArray.empty) (r.getD (IntKind.i64.wrap (i + (1 : Int))).toNat ByteArray.empty) (ByteArray.mk #[]) != (0 : Int)) = true)]) [true, true] true (by kernel_rfl) (by kernel_rfl) ⟨hb1, (by first | omega | (rw [hw1]; omega) | (rw [hw3]; have := of_decide_eq_true hb3; omega) | exact absurd (of_decide_eq_false hb1) (by omega)), (by first | omega | (rw [hw1]; omega) | (rw [hw3]; have := of_decide_eq_true hb3; omega) | exact absurd (of_decide_eq_false hb1) (by omega)), hb2, trivial⟩ (by first | exact absurd (of_decide_eq_false hb1) (by omega) | exact absurd hb2 (by rw [hc]; decide) | exact absurd hb4 (by rw [ho hb3]; decide)) hsim
      · skip
        rcases Bool.eq_false_or_eq_true (decide (i > (0 : Int))) with hb3 | hb3
        · skip
          rcases Bool.eq_false_or_eq_true (!Op.bytesLess (r.getD (IntKind.i64.wrap (i - (2 : Int))).toNat ByteArray.empty).toList (r.getD i.toNat ByteArray.empty).toList) with hb4 | hb4
          · skip
            have q0_ : ((0 : Int) ≤ i ∧ i < (↑r.length : Int)) := (by first | omega | (rw [hw1]; omega) | (rw [hw3]; have := of_decide_eq_true hb3; omega) | exact absurd (of_decide_eq_false hb1) (by omega))
            exact go_ret (LO_ok m e1 e2 h1 h2 r f) rfl rfl Tryd.func19 (sr' := ⟨0, [.tup [.d (.raw (Value.pointer none)), .d (.raw (.int .i64 ((4 : Int))))]], []⟩) (cs := ((fun (c0 : Prop) => [((decide (i < (↑r.length : Int))) = true), c0, ((0 : Int) ≤ IntKind.i64.wrap (i + (1 : Int)) ∧ IntKind.i64.wrap (i + (1 : Int)) < (↑r.length : Int)), ((checkM (2 : Int) (r.getD i.toNat ByteArray.empty) (r.getD (IntKind.i64.wrap (i + (1 : Int))).toNat ByteArray.empty) (ByteArray.mk #[]) != (0 : Int)) = false), ((decide (i > (0 : Int))) = true), ((0 : Int) ≤ IntKind.i64.wrap (i - (2 : Int)) ∧ IntKind.i64.wrap (i - (2 : Int)) < (↑r.length : Int)), c0, ((!Op.bytesLess (r.getD (IntKind.i64.wrap (i - (2 : Int))).toNat ByteArray.empty).toList (r.getD i.toNat ByteArray.empty).toList) = true)]) ((0 : Int) ≤ i ∧ i < (↑r.length : Int)))) [true, false, true, true] true (by kernel_rfl) (by kernel_rfl) ⟨hb1, q0_, (by first | omega | (rw [hw1]; omega) | (rw [hw3]; have := of_decide_eq_true hb3; omega) | exact absurd (of_decide_eq_false hb1) (by omega)), hb2, hb3, (by first | omega | (rw [hw1]; omega) | (rw [hw3]; have := of_decide_eq_true hb3; omega) | exact absurd (of_decide_eq_false hb1) (by omega)), q0_, hb4, trivial⟩ (by first | exact absurd (of_decide_eq_false hb1) (by omega) | exact absurd hb2 (by rw [hc]; decide) | exact absurd hb4 (by rw [ho hb3]; decide)) hsim
          · skip
            have q0_ : ((0 : Int) ≤ i ∧ i < (↑r.length : Int)) := (by first | omega | (rw [hw1]; omega) | (rw [hw3]; have := of_decide_eq_true hb3; omega) | exact absurd (of_decide_eq_false hb1) (by omega))
            have q1_ : ((0 : Int) ≤ IntKind.i64.wrap (i + (1 : Int)) ∧ IntKind.i64.wrap (i + (1 : Int)) < (↑r.length : Int)) := (by first | omega | (rw [hw1]; omega) | (rw [hw3]; have := of_decide_eq_true hb3; omega) | exact absurd (of_decide_eq_false hb1) (by omega))
            have q2_ : (l.length + (1 : Nat) ≤ (9223372036854775807 : Nat) ∧ (l.length + (1 : Nat)) * (32 : Nat) ≤ (140737488355328 : Nat)) := (by first | omega | (rw [hw1]; omega) | (rw [hw3]; have := of_decide_eq_true hb3; omega) | exact absurd (of_decide_eq_false hb1) (by omega))
            refine go_head (LO_ok m e1 e2 h1 h2 r f) rfl rfl (k' := loopAt Tryd.f19 0) (s' := mk 0 81 [(4, .d (.list 1 (r.length) (strEl r))), (6, .ref 0 0), (7, .d (.raw (.int .i64 (IntKind.i64.wrap (i + (2 : Int))))))] [(0, .obj 56 [.own 1]), (1, .row 60 2 (l.length + (1 : Nat)) (fun j => if j < l.length then rowEl l j else segD true (2 : Nat) (splice (List.map (fun j => (List.map D.raw (Value.agg #[Value.string (ByteArray.mk #[]), Value.string (ByteArray.mk #[])]).cells.toList).getD (j % (2 : Nat)) default) (List.range (2 : Nat))) (0 : Nat) (D.agg [D.raw (Value.string (r.getD i.toNat ByteArray.empty)), D.raw (Value.string (r.getD (IntKind.i64.wrap (i + (1 : Int))).toNat ByteArray.empty))]).cells) (j - l.length)))]) (cs := ((fun (c0 c1 c2 : Prop) => [((decide (i < (↑r.length : Int))) = true), c0, c1, ((checkM (2 : Int) (r.getD i.toNat ByteArray.empty) (r.getD (IntKind.i64.wrap (i + (1 : Int))).toNat ByteArray.empty) (ByteArray.mk #[]) != (0 : Int)) = false), ((decide (i > (0 : Int))) = true), ((0 : Int) ≤ IntKind.i64.wrap (i - (2 : Int)) ∧ IntKind.i64.wrap (i - (2 : Int)) < (↑r.length : Int)), c0, ((!Op.bytesLess (r.getD (IntKind.i64.wrap (i - (2 : Int))).toNat ByteArray.empty).toList (r.getD i.toNat ByteArray.empty).toList) = false), c0, c1, c2, c2]) ((0 : Int) ≤ i ∧ i < (↑r.length : Int)) ((0 : Int) ≤ IntKind.i64.wrap (i + (1 : Int)) ∧ IntKind.i64.wrap (i + (1 : Int)) < (↑r.length : Int)) (l.length + (1 : Nat) ≤ (9223372036854775807 : Nat) ∧ (l.length + (1 : Nat)) * (32 : Nat) ≤ (140737488355328 : Nat)))) [true, false, true, false] [4,6,7] (by kernel_rfl) (by kernel_rfl) ⟨hb1, q0_, q1_, hb2, hb3, (by first | omega | (rw [hw1]; omega) | (rw [hw3]; have := of_decide_eq_true hb3; omega) | exact absurd (of_decide_eq_false hb1) (by omega)), q0_, hb4, q0_, q1_, q2_, q2_, trivial⟩ hsim fun E a w hsim => ?_
            (
              obtain ⟨E2, hs⟩ := (says_rowTo (k := 1) rfl l2.length (rowEl l2) hll (fun j hj => by
                by_cases hjr : j < l.length
                · exact (if_pos hjr).trans (hlo j hjr)
                · obtain rfl : j = l.length := by omega
                  rw [hh0]
                  exact (if_neg hjr).trans (by rw [Nat.sub_self]; rfl))).out E a w hsim
              exact ih E2 a w hs)
        · skip
          have q0_ : ((0 : Int) ≤ i ∧ i < (↑r.length : Int)) := (by first | omega | (rw [hw1]; omega) | (rw [hw3]; have := of_decide_eq_true hb3; omega) | exact absurd (of_decide_eq_false hb1) (by omega))
          have q1_ : ((0 : Int) ≤ IntKind.i64.wrap (i + (1 : Int)) ∧ IntKind.i64.wrap (i + (1 : Int)) < (↑r.length : Int)) := (by first | omega | (rw [hw1]; omega) | (rw [hw3]; have := of_decide_eq_true hb3; omega) | exact absurd (of_decide_eq_false hb1) (by omega))
          have q2_ : (l.length + (1 : Nat) ≤ (9223372036854775807 : Nat) ∧ (l.length + (1 : Nat)) * (32 : Nat) ≤ (140737488355328 : Nat)) := (by first | omega | (rw [hw1]; omega) | (rw [hw3]; have := of_decide_eq_true hb3; omega) | exact absurd (of_decide_eq_false hb1) (by omega))
          refine go_head (LO_ok m e1 e2 h1 h2 r f) rfl rfl (k' := loopAt Tryd.f19 0) (s' := mk 0 81 [(4, .d (.list 1 (r.length) (strEl r))), (6, .ref 0 0), (7, .d (.raw (.int .i64 (IntKind.i64.wrap (i + (2 : Int))))))] [(0, .obj 56 [.own 1]), (1, .row 60 2 (l.length + (1 : Nat)) (fun j => if j < l.length then rowEl l j else segD true (2 : Nat) (splice (List.map (fun j => (List.map D.raw (Value.agg #[Value.string (ByteArray.mk #[]), Value.string (ByteArray.mk #[])]).cells.toList).getD (j % (2 : Nat)) default) (List.range (2 : Nat))) (0 : Nat) (D.agg [D.raw (Value.string (r.getD i.toNat ByteArray.empty)), D.raw (Value.string (r.getD (IntKind.i64.wrap (i + (1 : Int))).toNat ByteArray.empty))]).cells) (j - l.length)))]) (cs := ((fun (c0 c1 c2 : Prop) => [((decide (i < (↑r.length : Int))) = true), c0, c1, ((checkM (2 : Int) (r.getD i.toNat ByteArray.empty) (r.getD (IntKind.i64.wrap (i + (1 : Int))).toNat ByteArray.empty) (ByteArray.mk #[]) != (0 : Int)) = false), ((decide (i > (0 : Int))) = false), c0, c1, c2, c2]) ((0 : Int) ≤ i ∧ i < (↑r.length : Int)) ((0 : Int) ≤ IntKind.i64.wrap (i + (1 : Int)) ∧ IntKind.i64.wrap (i + (1 : Int)) < (↑r.length : Int)) (l.length + (1 : Nat) ≤ (9223372036854775807 : Nat) ∧ (l.length + (1 : Nat)) * (32 : Nat) ≤ (140737488355328 : Nat)))) [true, false, false] [4,6,7] (by kernel_rfl) (by kernel_rfl) ⟨hb1, q0_, q1_, hb2, hb3, q0_, q1_, q2_, q2_, trivial⟩ hsim fun E a w hsim => ?_
          (
            obtain ⟨E2, hs⟩ := (says_rowTo (k := 1) rfl l2.length (rowEl l2) hll (fun j hj => by
              by_cases hjr : j < l.length
              · exact (if_pos hjr).trans (hlo j hjr)
              · obtain rfl : j = l.length := by omega
                rw [hh0]
                exact (if_neg hjr).trans (by rw [Nat.sub_self]; rfl))).out E a w hsim
            exact ih E2 a w hs)
    · skip
      exact go_ret (LO_ok m e1 e2 h1 h2 r f) rfl rfl Tryd.func19 (sr' := ⟨0, [.tup [.ref 0 0, .d (.raw (.int .i64 ((0 : Int))))]], [(0, .obj 56 [.own 1]), (1, .row 60 2 (l.length) (rowEl l))]⟩) (cs := [((decide (i < (↑r.length : Int))) = false)]) [false] true (by kernel_rfl) (by kernel_rfl) ⟨hb1, trivial⟩ (by first | exact absurd (of_decide_eq_false hb1) (by omega) | exact absurd hb2 (by rw [hc]; decide) | exact absurd hb4 (by rw [ho hb3]; decide)) hsim
theorem ld_bad {m : Int} {e1 e2 : Value} (h1 : ErrV e1) (h2 : ErrV e2) {w0 : World} {N : Nat → Prop} {E0 : Env} (r : List ByteArray) (f : Int) (K : Nat) (hK : r.length = 2 * K) (hK2 : K ≤ 16) : ∀ (d k : Nat) (i : Int), i = 2 * (k : Int) → k + d = K → (∃ j, k ≤ j ∧ j < K ∧ ¬ okAt r j) → ∀ l, l = prs r k → ∀ (E : Env) (a : Act) (w : World),
    Sim (cx Tryd.prog (glU m e1 e2) w0 N E0 []) E (ld1 r l i) a w → Goes Tryd.prog 19 (loopAt Tryd.f19 0) (RSpec (cx Tryd.prog (glU m e1 e2) w0 N E0 []) ⟨0, [.tup [.d (.raw (.pointer none)), .d (.raw (.int .i64 4))]], []⟩) a w := by
  intro d
  induction d with
  | zero =>
    intro k i hi hd hbad
    obtain ⟨j, h3, h4, -⟩ := hbad
    omega
  | succ d ih =>
    intro k i hi hd hbad l hl E a w hsim
    have hlen : l.length = k := by rw [hl, prs_len]
    have hw1 : IntKind.i64.wrap (i + 1) = i + 1 := wrapI _ (by omega)
    have hw2 : IntKind.i64.wrap (i + 2) = i + 2 := wrapI _ (by omega)
    have hw3 : IntKind.i64.wrap (i - 2) = i - 2 := wrapI _ (by omega)
    have t0 : i.toNat = 2 * k := by omega
    have t1 : (i + 1).toNat = 2 * k + 1 := by omega
    have t2 : (i - 2).toNat = 2 * k - 2 := by omega
    have hgo : (checkM (2 : Int) (r.getD i.toNat ByteArray.empty) (r.getD (IntKind.i64.wrap (i + (1 : Int))).toNat ByteArray.empty) (ByteArray.mk #[]) != (0 : Int)) = false → ((decide (i > (0 : Int))) = true → (!Op.bytesLess (r.getD (IntKind.i64.wrap (i - (2 : Int))).toNat ByteArray.empty).toList (r.getD i.toNat ByteArray.empty).toList) = false) → ∃ j, k + 1 ≤ j ∧ j < K ∧ ¬ okAt r j := fun c1 c2 => by
      obtain ⟨j, h3, h4, h5⟩ := hbad
      refine ⟨j, ?_, h4, h5⟩
      rcases Nat.lt_or_ge k j with h | h
      · exact h
      · exfalso
        obtain rfl : j = k := by omega
        apply h5
        rw [hw1, t0, t1, mk_empty] at c1
        refine ⟨by simpa using c1, fun hj => ?_⟩
        have := c2 (decide_eq_true (by omega))
        rw [hw3, t0, t2] at this
        unfold ltB
        simpa using this
    obtain ⟨l2, hl2⟩ : ∃ l2, l2 = prs r (k + 1) := ⟨_, rfl⟩
    have eqL : l2 = l ++ [(r.getD i.toNat ByteArray.empty, r.getD (IntKind.i64.wrap (i + (1 : Int))).toNat ByteArray.empty)] := by rw [hl2, prs_succ, hl, hw1, t0, t1]
    have hll : l.length + 1 = l2.length := by rw [eqL]; simp
    have hlo : ∀ j, j < l.length → rowEl l j = rowEl l2 j := fun j hj => by
      rw [eqL]; unfold rowEl; simp [List.getD, List.getElem?_append_left hj]
    have hh0 : rowEl l2 l.length = .agg [.raw (.string (r.getD i.toNat ByteArray.empty)), .raw (.string (r.getD (IntKind.i64.wrap (i + (1 : Int))).toNat ByteArray.empty))] := by rw [eqL]; unfold rowEl; simp [List.getD]
    have ih := fun hb => ih (k + 1) (IntKind.i64.wrap (i + 2)) (by rw [hw2]; omega) (by omega) hb l2 hl2
    rcases Bool.eq_false_or_eq_true (decide (i < (↑r.length : Int))) with hb1 | hb1
    · skip
      rcases Bool.eq_false_or_eq_true (checkM (2 : Int) (r.getD i.toNat ByteArray.empty) (r.getD (IntKind.i64.wrap (i + (1 : Int))).toNat ByteArray.empty) (ByteArray.mk #[]) != (0 : Int)) with hb2 | hb2
      · skip
        exact go_ret (LO_ok m e1 e2 h1 h2 r f) rfl rfl Tryd.func19 (sr' := ⟨0, [.tup [.d (.raw (Value.pointer none)), .d (.raw (.int .i64 ((4 : Int))))]], []⟩) (cs := [((decide (i < (↑r.length : Int))) = true), ((0 : Int) ≤ i ∧ i < (↑r.length : Int)), ((0 : Int) ≤ IntKind.i64.wrap (i + (1 : Int)) ∧ IntKind.i64.wrap (i + (1 : Int)) < (↑r.length : Int)), ((checkM (2 : Int) (r.getD i.toNat ByteArray.empty) (r.getD (IntKind.i64.wrap (i + (1 : Int))).toNat ByteArray.empty) (ByteArray.mk #[]) != (0 : Int)) = true)]) [true, true] true (by kernel_rfl) (by kernel_rfl) ⟨hb1, (by first | omega | (rw [hw1]; omega) | (rw [hw3]; have := of_decide_eq_true hb3; omega) | exact absurd (of_decide_eq_false hb1) (by omega)), (by first | omega | (rw [hw1]; omega) | (rw [hw3]; have := of_decide_eq_true hb3; omega) | exact absurd (of_decide_eq_false hb1) (by omega)), hb2, trivial⟩ (by first | rfl | exact absurd (of_decide_eq_false hb1) (by omega)) hsim
      · skip
        rcases Bool.eq_false_or_eq_true (decide (i > (0 : Int))) with hb3 | hb3
        · skip
          rcases Bool.eq_false_or_eq_true (!Op.bytesLess (r.getD (IntKind.i64.wrap (i - (2 : Int))).toNat ByteArray.empty).toList (r.getD i.toNat ByteArray.empty).toList) with hb4 | hb4
          · skip
            have q0_ : ((0 : Int) ≤ i ∧ i < (↑r.length : Int)) := (by first | omega | (rw [hw1]; omega) | (rw [hw3]; have := of_decide_eq_true hb3; omega) | exact absurd (of_decide_eq_false hb1) (by omega))
            exact go_ret (LO_ok m e1 e2 h1 h2 r f) rfl rfl Tryd.func19 (sr' := ⟨0, [.tup [.d (.raw (Value.pointer none)), .d (.raw (.int .i64 ((4 : Int))))]], []⟩) (cs := ((fun (c0 : Prop) => [((decide (i < (↑r.length : Int))) = true), c0, ((0 : Int) ≤ IntKind.i64.wrap (i + (1 : Int)) ∧ IntKind.i64.wrap (i + (1 : Int)) < (↑r.length : Int)), ((checkM (2 : Int) (r.getD i.toNat ByteArray.empty) (r.getD (IntKind.i64.wrap (i + (1 : Int))).toNat ByteArray.empty) (ByteArray.mk #[]) != (0 : Int)) = false), ((decide (i > (0 : Int))) = true), ((0 : Int) ≤ IntKind.i64.wrap (i - (2 : Int)) ∧ IntKind.i64.wrap (i - (2 : Int)) < (↑r.length : Int)), c0, ((!Op.bytesLess (r.getD (IntKind.i64.wrap (i - (2 : Int))).toNat ByteArray.empty).toList (r.getD i.toNat ByteArray.empty).toList) = true)]) ((0 : Int) ≤ i ∧ i < (↑r.length : Int)))) [true, false, true, true] true (by kernel_rfl) (by kernel_rfl) ⟨hb1, q0_, (by first | omega | (rw [hw1]; omega) | (rw [hw3]; have := of_decide_eq_true hb3; omega) | exact absurd (of_decide_eq_false hb1) (by omega)), hb2, hb3, (by first | omega | (rw [hw1]; omega) | (rw [hw3]; have := of_decide_eq_true hb3; omega) | exact absurd (of_decide_eq_false hb1) (by omega)), q0_, hb4, trivial⟩ (by first | rfl | exact absurd (of_decide_eq_false hb1) (by omega)) hsim
          · skip
            have q0_ : ((0 : Int) ≤ i ∧ i < (↑r.length : Int)) := (by first | omega | (rw [hw1]; omega) | (rw [hw3]; have := of_decide_eq_true hb3; omega) | exact absurd (of_decide_eq_false hb1) (by omega))
            have q1_ : ((0 : Int) ≤ IntKind.i64.wrap (i + (1 : Int)) ∧ IntKind.i64.wrap (i + (1 : Int)) < (↑r.length : Int)) := (by first | omega | (rw [hw1]; omega) | (rw [hw3]; have := of_decide_eq_true hb3; omega) | exact absurd (of_decide_eq_false hb1) (by omega))
            have q2_ : (l.length + (1 : Nat) ≤ (9223372036854775807 : Nat) ∧ (l.length + (1 : Nat)) * (32 : Nat) ≤ (140737488355328 : Nat)) := (by first | omega | (rw [hw1]; omega) | (rw [hw3]; have := of_decide_eq_true hb3; omega) | exact absurd (of_decide_eq_false hb1) (by omega))
            refine go_head (LO_ok m e1 e2 h1 h2 r f) rfl rfl (k' := loopAt Tryd.f19 0) (s' := mk 0 81 [(4, .d (.list 1 (r.length) (strEl r))), (6, .ref 0 0), (7, .d (.raw (.int .i64 (IntKind.i64.wrap (i + (2 : Int))))))] [(0, .obj 56 [.own 1]), (1, .row 60 2 (l.length + (1 : Nat)) (fun j => if j < l.length then rowEl l j else segD true (2 : Nat) (splice (List.map (fun j => (List.map D.raw (Value.agg #[Value.string (ByteArray.mk #[]), Value.string (ByteArray.mk #[])]).cells.toList).getD (j % (2 : Nat)) default) (List.range (2 : Nat))) (0 : Nat) (D.agg [D.raw (Value.string (r.getD i.toNat ByteArray.empty)), D.raw (Value.string (r.getD (IntKind.i64.wrap (i + (1 : Int))).toNat ByteArray.empty))]).cells) (j - l.length)))]) (cs := ((fun (c0 c1 c2 : Prop) => [((decide (i < (↑r.length : Int))) = true), c0, c1, ((checkM (2 : Int) (r.getD i.toNat ByteArray.empty) (r.getD (IntKind.i64.wrap (i + (1 : Int))).toNat ByteArray.empty) (ByteArray.mk #[]) != (0 : Int)) = false), ((decide (i > (0 : Int))) = true), ((0 : Int) ≤ IntKind.i64.wrap (i - (2 : Int)) ∧ IntKind.i64.wrap (i - (2 : Int)) < (↑r.length : Int)), c0, ((!Op.bytesLess (r.getD (IntKind.i64.wrap (i - (2 : Int))).toNat ByteArray.empty).toList (r.getD i.toNat ByteArray.empty).toList) = false), c0, c1, c2, c2]) ((0 : Int) ≤ i ∧ i < (↑r.length : Int)) ((0 : Int) ≤ IntKind.i64.wrap (i + (1 : Int)) ∧ IntKind.i64.wrap (i + (1 : Int)) < (↑r.length : Int)) (l.length + (1 : Nat) ≤ (9223372036854775807 : Nat) ∧ (l.length + (1 : Nat)) * (32 : Nat) ≤ (140737488355328 : Nat)))) [true, false, true, false] [4,6,7] (by kernel_rfl) (by kernel_rfl) ⟨hb1, q0_, q1_, hb2, hb3, (by first | omega | (rw [hw1]; omega) | (rw [hw3]; have := of_decide_eq_true hb3; omega) | exact absurd (of_decide_eq_false hb1) (by omega)), q0_, hb4, q0_, q1_, q2_, q2_, trivial⟩ hsim fun E a w hsim => ?_
            (
              have hb := hgo hb2 (fun h => by first | exact hb4 | (rw [hb3] at h; cases h))
              obtain ⟨E2, hs⟩ := (says_rowTo (k := 1) rfl l2.length (rowEl l2) hll (fun j hj => by
                by_cases hjr : j < l.length
                · exact (if_pos hjr).trans (hlo j hjr)
                · obtain rfl : j = l.length := by omega
                  rw [hh0]
                  exact (if_neg hjr).trans (by rw [Nat.sub_self]; rfl))).out E a w hsim
              exact ih hb E2 a w hs)
        · skip
          have q0_ : ((0 : Int) ≤ i ∧ i < (↑r.length : Int)) := (by first | omega | (rw [hw1]; omega) | (rw [hw3]; have := of_decide_eq_true hb3; omega) | exact absurd (of_decide_eq_false hb1) (by omega))
          have q1_ : ((0 : Int) ≤ IntKind.i64.wrap (i + (1 : Int)) ∧ IntKind.i64.wrap (i + (1 : Int)) < (↑r.length : Int)) := (by first | omega | (rw [hw1]; omega) | (rw [hw3]; have := of_decide_eq_true hb3; omega) | exact absurd (of_decide_eq_false hb1) (by omega))
          have q2_ : (l.length + (1 : Nat) ≤ (9223372036854775807 : Nat) ∧ (l.length + (1 : Nat)) * (32 : Nat) ≤ (140737488355328 : Nat)) := (by first | omega | (rw [hw1]; omega) | (rw [hw3]; have := of_decide_eq_true hb3; omega) | exact absurd (of_decide_eq_false hb1) (by omega))
          refine go_head (LO_ok m e1 e2 h1 h2 r f) rfl rfl (k' := loopAt Tryd.f19 0) (s' := mk 0 81 [(4, .d (.list 1 (r.length) (strEl r))), (6, .ref 0 0), (7, .d (.raw (.int .i64 (IntKind.i64.wrap (i + (2 : Int))))))] [(0, .obj 56 [.own 1]), (1, .row 60 2 (l.length + (1 : Nat)) (fun j => if j < l.length then rowEl l j else segD true (2 : Nat) (splice (List.map (fun j => (List.map D.raw (Value.agg #[Value.string (ByteArray.mk #[]), Value.string (ByteArray.mk #[])]).cells.toList).getD (j % (2 : Nat)) default) (List.range (2 : Nat))) (0 : Nat) (D.agg [D.raw (Value.string (r.getD i.toNat ByteArray.empty)), D.raw (Value.string (r.getD (IntKind.i64.wrap (i + (1 : Int))).toNat ByteArray.empty))]).cells) (j - l.length)))]) (cs := ((fun (c0 c1 c2 : Prop) => [((decide (i < (↑r.length : Int))) = true), c0, c1, ((checkM (2 : Int) (r.getD i.toNat ByteArray.empty) (r.getD (IntKind.i64.wrap (i + (1 : Int))).toNat ByteArray.empty) (ByteArray.mk #[]) != (0 : Int)) = false), ((decide (i > (0 : Int))) = false), c0, c1, c2, c2]) ((0 : Int) ≤ i ∧ i < (↑r.length : Int)) ((0 : Int) ≤ IntKind.i64.wrap (i + (1 : Int)) ∧ IntKind.i64.wrap (i + (1 : Int)) < (↑r.length : Int)) (l.length + (1 : Nat) ≤ (9223372036854775807 : Nat) ∧ (l.length + (1 : Nat)) * (32 : Nat) ≤ (140737488355328 : Nat)))) [true, false, false] [4,6,7] (by kernel_rfl) (by kernel_rfl) ⟨hb1, q0_, q1_, hb2, hb3, q0_, q1_, q2_, q2_, trivial⟩ hsim fun E a w hsim => ?_
          (
            have hb := hgo hb2 (fun h => by first | exact hb4 | (rw [hb3] at h; cases h))
            obtain ⟨E2, hs⟩ := (says_rowTo (k := 1) rfl l2.length (rowEl l2) hll (fun j hj => by
              by_cases hjr : j < l.length
              · exact (if_pos hjr).trans (hlo j hjr)
              · obtain rfl : j = l.length := by omega
                rw [hh0]
                exact (if_neg hjr).trans (by rw [Nat.sub_self]; rfl))).out E a w hsim
            exact ih hb E2 a w hs)
    · skip
      exact go_ret (LO_ok m e1 e2 h1 h2 r f) rfl rfl Tryd.func19 (sr' := ⟨0, [.tup [.ref 0 0, .d (.raw (.int .i64 ((0 : Int))))]], [(0, .obj 56 [.own 1]), (1, .row 60 2 (l.length) (rowEl l))]⟩) (cs := [((decide (i < (↑r.length : Int))) = false)]) [false] true (by kernel_rfl) (by kernel_rfl) ⟨hb1, trivial⟩ (by first | rfl | exact absurd (of_decide_eq_false hb1) (by omega)) hsim
end Go.Tab
