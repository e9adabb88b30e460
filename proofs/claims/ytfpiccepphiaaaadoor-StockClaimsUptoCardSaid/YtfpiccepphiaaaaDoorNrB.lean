/-
  Contracts of given functions, or plain laws that they need. No condition.
-/
import Derived.Test.YtfpiccepphiaaaaDoorNrA
import Derived.Test.YtfpiccepphiaaaaDoorUnpQ
namespace Go.Nest
open Go Go.Eng Go.Proofs Go.RowKit
set_option linter.unusedVariables false
set_option linter.unusedSimpArgs false
set_option maxRecDepth 100000
set_option maxHeartbeats 4000000
theorem UN_ok (q : ByteArray) : OrcOK Tryd.prog (UN q) := (OrcOK.none _).add _ false (mNumJ q) fun args H r H' cs h hc => by
  unfold mNumJ at h
  split at h
  · cases h; obtain ⟨rfl, hb, -⟩ := hc; exact num_ok _ hb
  · cases h
abbrev GoN (s : ByteArray) (w0 : World) (N : Nat → Prop) (E0 : Env) (k : List Item) (st : St) : Prop := ∀ (E : Env) (a : Act) (w : World), Sim (cx Tryd.prog (fun _ => none) w0 N E0 []) E st a w → Goes Tryd.prog 28 k (RSpec (cx Tryd.prog (fun _ => none) w0 N E0 []) ⟨0, [.tup [.d (.raw (.int .i64 (numM s).1)), .d (.raw (.int .i64 (numM s).2))]], []⟩) a w
theorem tn_go {w0 : World} {N : Nat → Prop} {E0 : Env} (s d : ByteArray) (hd : d = dOf s) (hsz : d.size ≤ 19) : ∀ (j k : Nat) (i n : Int), i = (k : Int) → k + j = d.size → n = IntKind.i64.wrap (-(valL (d.data.toList.take k))) → GoN s w0 N E0 (loopAt Tryd.f28 0) (tn1 s d n i) := by
  intro j
  induction j with
  | zero =>
    intro k i n hi hk hn E a w hsim
    have hall : d.data.toList.take k = d.data.toList := List.take_of_length_le (by rw [← size_ba]; omega)
    rw [hall] at hn
    obtain ⟨n', hn'⟩ : ∃ n', n' = if d.size = s.size then IntKind.i64.wrap ((0 : Int) - n) else n := ⟨_, rfl⟩
    have hnb : -9223372036854775808 ≤ n' ∧ n' < 9223372036854775808 := by
      rw [hn']; split
      · exact wrap_bd _
      · rw [hn]; exact wrap_bd _
    have hnn : -9223372036854775808 ≤ n ∧ n < 9223372036854775808 := by rw [hn]; exact wrap_bd _
    have hn0 := wrap_bd ((0 : Int) - n)
    obtain ⟨q, hq⟩ : ∃ q, q = numJ n' := ⟨_, rfl⟩
    have f1 : (!q.toList == s.toList) = true → numM s = (0, 4) := fun h => by
      rcases numM_cases s with h2 | ⟨v, h2, h3⟩
      · exact h2
      · exfalso
        have hvb := numM_bounds s
        rw [h2] at hvb
        have hvb : -9223372036854775808 ≤ v ∧ v ≤ 9223372036854775807 := hvb
        obtain ⟨a1, a2⟩ := dOf_itoa h3
        rw [← hd] at a1 a2
        rw [a1, valL_dec] at hn
        have hv : n' = v := by
          rw [hn']
          split
          · rename_i hh; have := a2.1 hh; rw [hn, wrapE, wrapE]; omega
          · rename_i hh; have : ¬ 0 ≤ v := fun h => hh (a2.2 h); rw [hn, wrapE]; omega
        have : q = s := by apply ext_ba; rw [hq, hv]; exact h3
        rw [this] at h; simp at h
    have f2 : (!q.toList == s.toList) = false → numM s = (n', 0) := fun h => by
      have e : q.toList = s.toList := by simpa using h
      rw [toList_ba, toList_ba] at e
      exact numM_itoa hnb (by rw [← e, hq]; rfl)
    have q1 : ((d.size : Int) == (s.size : Int)) = true → q = numJ (IntKind.i64.wrap ((0 : Int) - n)) ∧ n' = IntKind.i64.wrap ((0 : Int) - n) := fun h => by
      have h : (d.size : Int) = (s.size : Int) := by simpa using h
      have : d.size = s.size := by omega
      rw [hq, hn', if_pos this]; exact ⟨rfl, rfl⟩
    have q2 : ((d.size : Int) == (s.size : Int)) = false → q = numJ n ∧ n' = n := fun h => by
      have h : ¬ (d.size : Int) = (s.size : Int) := by simpa using h
      have : ¬ d.size = s.size := by omega
      rw [hq, hn', if_neg this]; exact ⟨rfl, rfl⟩
    rcases Bool.eq_false_or_eq_true (decide (i < (↑d.size : Int))) with hb1 | hb1
    · skip
      rcases Bool.eq_false_or_eq_true (decide (byteAt d i.toNat < (48 : Int))) with hb2 | hb2
      · skip
        exact go_ret (UN_ok q) rfl rfl Tryd.func28 (sr' := ⟨0, [.tup [.d (.raw (.int .i64 ((0 : Int)))), .d (.raw (.int .i64 ((4 : Int))))]], []⟩) (cs := [((decide (i < (↑d.size : Int))) = true), ((0 : Int) ≤ i ∧ i < (↑d.size : Int)), ((decide (byteAt d i.toNat < (48 : Int))) = true)]) [true, true] true (by kernel_rfl) (by kernel_rfl) ⟨hb1, (by first | exact (q1 hb4).1 | exact (q2 hb4).1 | exact hn0 | exact hnn | omega | exact absurd (of_decide_eq_true hb1) (by omega)), hb2, trivial⟩ (by first | (rw [f1 hb5]; done) | (rw [f2 hb5, (q1 hb4).2]; done) | (rw [f1 hb6]; done) | (rw [f2 hb6, (q2 hb4).2]; done) | (rw [f1 hb5]; rfl) | (rw [f2 hb5, (q1 hb4).2]; rfl) | (rw [f1 hb6]; rfl) | (rw [f2 hb6, (q2 hb4).2]; rfl) | exact absurd (of_decide_eq_true hb1) (by omega)) hsim
      · skip
        rcases Bool.eq_false_or_eq_true (decide (byteAt d i.toNat > (57 : Int))) with hb3 | hb3
        · skip
          have q0_ : ((0 : Int) ≤ i ∧ i < (↑d.size : Int)) := (by first | exact (q1 hb4).1 | exact (q2 hb4).1 | exact hn0 | exact hnn | omega | exact absurd (of_decide_eq_true hb1) (by omega))
          exact go_ret (UN_ok q) rfl rfl Tryd.func28 (sr' := ⟨0, [.tup [.d (.raw (.int .i64 ((0 : Int)))), .d (.raw (.int .i64 ((4 : Int))))]], []⟩) (cs := ((fun (c0 : Prop) => [((decide (i < (↑d.size : Int))) = true), c0, ((decide (byteAt d i.toNat < (48 : Int))) = false), c0, ((decide (byteAt d i.toNat > (57 : Int))) = true)]) ((0 : Int) ≤ i ∧ i < (↑d.size : Int)))) [true, false, true] true (by kernel_rfl) (by kernel_rfl) ⟨hb1, q0_, hb2, q0_, hb3, trivial⟩ (by first | (rw [f1 hb5]; done) | (rw [f2 hb5, (q1 hb4).2]; done) | (rw [f1 hb6]; done) | (rw [f2 hb6, (q2 hb4).2]; done) | (rw [f1 hb5]; rfl) | (rw [f2 hb5, (q1 hb4).2]; rfl) | (rw [f1 hb6]; rfl) | (rw [f2 hb6, (q2 hb4).2]; rfl) | exact absurd (of_decide_eq_true hb1) (by omega)) hsim
        · skip
          have q0_ : ((0 : Int) ≤ i ∧ i < (↑d.size : Int)) := (by first | exact (q1 hb4).1 | exact (q2 hb4).1 | exact hn0 | exact hnn | omega | exact absurd (of_decide_eq_true hb1) (by omega))
          refine go_head (UN_ok q) rfl rfl (k' := loopAt Tryd.f28 0) (s' := mk 0 62 [(0, .d (.raw (.string (s)))), (4, .d (.raw (.string (d)))), (5, .d (.raw (.int .i64 (IntKind.i64.wrap (IntKind.i64.wrap ((10 : Int) * n) - IntKind.i64.wrap (IntKind.i64.wrap (byteAt d i.toNat) - (48 : Int))))))), (6, .d (.raw (.int .i64 (IntKind.i64.wrap (i + (1 : Int))))))] []) (cs := ((fun (c0 : Prop) => [((decide (i < (↑d.size : Int))) = true), c0, ((decide (byteAt d i.toNat < (48 : Int))) = false), c0, ((decide (byteAt d i.toNat > (57 : Int))) = false), c0]) ((0 : Int) ≤ i ∧ i < (↑d.size : Int)))) [true, false, false] [0,4,5,6] (by kernel_rfl) (by kernel_rfl) ⟨hb1, q0_, hb2, q0_, hb3, q0_, trivial⟩ hsim fun E a w hsim => ?_
          exact absurd (of_decide_eq_true hb1) (by omega)
    · skip
      rcases Bool.eq_false_or_eq_true ((↑d.size : Int) == (↑s.size : Int)) with hb4 | hb4
      · skip
        rcases Bool.eq_false_or_eq_true (!q.toList == s.toList) with hb5 | hb5
        · skip
          exact go_ret (UN_ok q) rfl rfl Tryd.func28 (sr' := ⟨0, [.tup [.d (.raw (.int .i64 ((0 : Int)))), .d (.raw (.int .i64 ((4 : Int))))]], []⟩) (cs := [((decide (i < (↑d.size : Int))) = false), (((↑d.size : Int) == (↑s.size : Int)) = true), (q = numJ (IntKind.i64.wrap ((0 : Int) - n))), ((-9223372036854775808 : Int) ≤ IntKind.i64.wrap ((0 : Int) - n) ∧ IntKind.i64.wrap ((0 : Int) - n) < (9223372036854775808 : Int)), ((!q.toList == s.toList) = true)]) [false, true, true] true (by kernel_rfl) (by kernel_rfl) ⟨hb1, hb4, (by first | exact (q1 hb4).1 | exact (q2 hb4).1 | exact hn0 | exact hnn | omega | exact absurd (of_decide_eq_true hb1) (by omega)), (by first | exact (q1 hb4).1 | exact (q2 hb4).1 | exact hn0 | exact hnn | omega | exact absurd (of_decide_eq_true hb1) (by omega)), hb5, trivial⟩ (by first | (rw [f1 hb5]; done) | (rw [f2 hb5, (q1 hb4).2]; done) | (rw [f1 hb6]; done) | (rw [f2 hb6, (q2 hb4).2]; done) | (rw [f1 hb5]; rfl) | (rw [f2 hb5, (q1 hb4).2]; rfl) | (rw [f1 hb6]; rfl) | (rw [f2 hb6, (q2 hb4).2]; rfl) | exact absurd (of_decide_eq_true hb1) (by omega)) hsim
        · skip
          exact go_ret (UN_ok q) rfl rfl Tryd.func28 (sr' := ⟨0, [.tup [.d (.raw (.int .i64 (IntKind.i64.wrap ((0 : Int) - n)))), .d (.raw (.int .i64 ((0 : Int))))]], []⟩) (cs := [((decide (i < (↑d.size : Int))) = false), (((↑d.size : Int) == (↑s.size : Int)) = true), (q = numJ (IntKind.i64.wrap ((0 : Int) - n))), ((-9223372036854775808 : Int) ≤ IntKind.i64.wrap ((0 : Int) - n) ∧ IntKind.i64.wrap ((0 : Int) - n) < (9223372036854775808 : Int)), ((!q.toList == s.toList) = false)]) [false, true, false] true (by kernel_rfl) (by kernel_rfl) ⟨hb1, hb4, (by first | exact (q1 hb4).1 | exact (q2 hb4).1 | exact hn0 | exact hnn | omega | exact absurd (of_decide_eq_true hb1) (by omega)), (by first | exact (q1 hb4).1 | exact (q2 hb4).1 | exact hn0 | exact hnn | omega | exact absurd (of_decide_eq_true hb1) (by omega)), hb5, trivial⟩ (by first | (rw [f1 hb5]; done) | (rw [f2 hb5, (q1 hb4).2]; done) | (rw [f1 hb6]; done) | (rw [f2 hb6, (q2 hb4).2]; done) | (rw [f1 hb5]; rfl) | (rw [f2 hb5, (q1 hb4).2]; rfl) | (rw [f1 hb6]; rfl) | (rw [f2 hb6, (q2 hb4).2]; rfl) | exact absurd (of_decide_eq_true hb1) (by omega)) hsim
      · skip
        rcases Bool.eq_false_or_eq_true (!q.toList == s.toList) with hb6 | hb6
        · skip
          exact go_ret (UN_ok q) rfl rfl Tryd.func28 (sr' := ⟨0, [.tup [.d (.raw (.int .i64 ((0 : Int)))), .d (.raw (.int .i64 ((4 : Int))))]], []⟩) (cs := [((decide (i < (↑d.size : Int))) = false), (((↑d.size : Int) == (↑s.size : Int)) = false), (q = numJ n), ((-9223372036854775808 : Int) ≤ n ∧ n < (9223372036854775808 : Int)), ((!q.toList == s.toList) = true)]) [false, false, true] true (by kernel_rfl) (by kernel_rfl) ⟨hb1, hb4, (by first | exact (q1 hb4).1 | exact (q2 hb4).1 | exact hn0 | exact hnn | omega | exact absurd (of_decide_eq_true hb1) (by omega)), (by first | exact (q1 hb4).1 | exact (q2 hb4).1 | exact hn0 | exact hnn | omega | exact absurd (of_decide_eq_true hb1) (by omega)), hb6, trivial⟩ (by first | (rw [f1 hb5]; done) | (rw [f2 hb5, (q1 hb4).2]; done) | (rw [f1 hb6]; done) | (rw [f2 hb6, (q2 hb4).2]; done) | (rw [f1 hb5]; rfl) | (rw [f2 hb5, (q1 hb4).2]; rfl) | (rw [f1 hb6]; rfl) | (rw [f2 hb6, (q2 hb4).2]; rfl) | exact absurd (of_decide_eq_true hb1) (by omega)) hsim
        · skip
          exact go_ret (UN_ok q) rfl rfl Tryd.func28 (sr' := ⟨0, [.tup [.d (.raw (.int .i64 (n))), .d (.raw (.int .i64 ((0 : Int))))]], []⟩) (cs := [((decide (i < (↑d.size : Int))) = false), (((↑d.size : Int) == (↑s.size : Int)) = false), (q = numJ n), ((-9223372036854775808 : Int) ≤ n ∧ n < (9223372036854775808 : Int)), ((!q.toList == s.toList) = false)]) [false, false, false] true (by kernel_rfl) (by kernel_rfl) ⟨hb1, hb4, (by first | exact (q1 hb4).1 | exact (q2 hb4).1 | exact hn0 | exact hnn | omega | exact absurd (of_decide_eq_true hb1) (by omega)), (by first | exact (q1 hb4).1 | exact (q2 hb4).1 | exact hn0 | exact hnn | omega | exact absurd (of_decide_eq_true hb1) (by omega)), hb6, trivial⟩ (by first | (rw [f1 hb5]; done) | (rw [f2 hb5, (q1 hb4).2]; done) | (rw [f1 hb6]; done) | (rw [f2 hb6, (q2 hb4).2]; done) | (rw [f1 hb5]; rfl) | (rw [f2 hb5, (q1 hb4).2]; rfl) | (rw [f1 hb6]; rfl) | (rw [f2 hb6, (q2 hb4).2]; rfl) | exact absurd (of_decide_eq_true hb1) (by omega)) hsim
  | succ j ih =>
    intro k i n hi hk hn E a w hsim
    let q : ByteArray := ByteArray.empty
    have hkd : k < d.size := by omega
    have ti : i.toNat = k := by omega
    have hlt := byteAt_lt d k
    have bad : ¬ (48 ≤ byteAt d k ∧ byteAt d k ≤ 57) → numM s = (0, 4) := fun h => by
      rcases numM_cases s with h2 | ⟨v, h2, h3⟩
      · exact h2
      · exact absurd (by have := digits_of h3 k (by rw [← hd]; exact hkd); rw [← hd] at this; exact this) h
    have w2 : IntKind.i64.wrap (byteAt d i.toNat) = byteAt d k := by rw [ti]; exact wrapI _ (by omega)
    have w3 : IntKind.i64.wrap (IntKind.i64.wrap (byteAt d i.toNat) - 48) = byteAt d k - 48 := by rw [w2]; exact wrapI _ (by omega)
    have hval : valL (d.data.toList.take (k + 1)) = 10 * valL (d.data.toList.take k) + (byteAt d k - 48) := by
      rw [List.take_add_one, List.getElem?_eq_getElem (by rw [← size_ba]; exact hkd), byteAt_list d k hkd]
      exact valL_snoc _ _
    have w4 : IntKind.i64.wrap (IntKind.i64.wrap ((10 : Int) * n) - IntKind.i64.wrap (IntKind.i64.wrap (byteAt d i.toNat) - 48)) = IntKind.i64.wrap (-(valL (d.data.toList.take (k + 1)))) := by
      rw [w3, hval, hn]
      generalize valL (d.data.toList.take k) = V
      generalize byteAt d k = b
      rw [wrapE, wrapE (10 * _), wrapE (-V), wrapE (-(10 * V + (b - 48)))]
      omega
    have ih := fun (g1 : 48 ≤ byteAt d k) (g2 : byteAt d k ≤ 57) => ih (k + 1) (IntKind.i64.wrap (i + 1)) (IntKind.i64.wrap (IntKind.i64.wrap ((10 : Int) * n) - IntKind.i64.wrap (IntKind.i64.wrap (byteAt d i.toNat) - 48))) (by rw [wrapI (i + 1) (by omega)]; omega) (by omega) w4
    rcases Bool.eq_false_or_eq_true (decide (i < (↑d.size : Int))) with hb1 | hb1
    · skip
      rcases Bool.eq_false_or_eq_true (decide (byteAt d i.toNat < (48 : Int))) with hb2 | hb2
      · skip
        exact go_ret (UN_ok q) rfl rfl Tryd.func28 (sr' := ⟨0, [.tup [.d (.raw (.int .i64 ((0 : Int)))), .d (.raw (.int .i64 ((4 : Int))))]], []⟩) (cs := [((decide (i < (↑d.size : Int))) = true), ((0 : Int) ≤ i ∧ i < (↑d.size : Int)), ((decide (byteAt d i.toNat < (48 : Int))) = true)]) [true, true] true (by kernel_rfl) (by kernel_rfl) ⟨hb1, (by first | omega | exact absurd (of_decide_eq_false hb1) (by omega)), hb2, trivial⟩ (by first | (have := of_decide_eq_true hb2; rw [ti] at this; rw [bad (by omega)]; done) | (have := of_decide_eq_true hb3; rw [ti] at this; rw [bad (by omega)]; done) | (have := of_decide_eq_true hb2; rw [ti] at this; rw [bad (by omega)]; rfl) | (have := of_decide_eq_true hb3; rw [ti] at this; rw [bad (by omega)]; rfl) | exact absurd (of_decide_eq_false hb1) (by omega)) hsim
      · skip
        rcases Bool.eq_false_or_eq_true (decide (byteAt d i.toNat > (57 : Int))) with hb3 | hb3
        · skip
          have q0_ : ((0 : Int) ≤ i ∧ i < (↑d.size : Int)) := (by first | omega | exact absurd (of_decide_eq_false hb1) (by omega))
          exact go_ret (UN_ok q) rfl rfl Tryd.func28 (sr' := ⟨0, [.tup [.d (.raw (.int .i64 ((0 : Int)))), .d (.raw (.int .i64 ((4 : Int))))]], []⟩) (cs := ((fun (c0 : Prop) => [((decide (i < (↑d.size : Int))) = true), c0, ((decide (byteAt d i.toNat < (48 : Int))) = false), c0, ((decide (byteAt d i.toNat > (57 : Int))) = true)]) ((0 : Int) ≤ i ∧ i < (↑d.size : Int)))) [true, false, true] true (by kernel_rfl) (by kernel_rfl) ⟨hb1, q0_, hb2, q0_, hb3, trivial⟩ (by first | (have := of_decide_eq_true hb2; rw [ti] at this; rw [bad (by omega)]; done) | (have := of_decide_eq_true hb3; rw [ti] at this; rw [bad (by omega)]; done) | (have := of_decide_eq_true hb2; rw [ti] at this; rw [bad (by omega)]; rfl) | (have := of_decide_eq_true hb3; rw [ti] at this; rw [bad (by omega)]; rfl) | exact absurd (of_decide_eq_false hb1) (by omega)) hsim
        · skip
          have q0_ : ((0 : Int) ≤ i ∧ i < (↑d.size : Int)) := (by first | omega | exact absurd (of_decide_eq_false hb1) (by omega))
          refine go_head (UN_ok q) rfl rfl (k' := loopAt Tryd.f28 0) (s' := mk 0 62 [(0, .d (.raw (.string (s)))), (4, .d (.raw (.string (d)))), (5, .d (.raw (.int .i64 (IntKind.i64.wrap (IntKind.i64.wrap ((10 : Int) * n) - IntKind.i64.wrap (IntKind.i64.wrap (byteAt d i.toNat) - (48 : Int))))))), (6, .d (.raw (.int .i64 (IntKind.i64.wrap (i + (1 : Int))))))] []) (cs := ((fun (c0 : Prop) => [((decide (i < (↑d.size : Int))) = true), c0, ((decide (byteAt d i.toNat < (48 : Int))) = false), c0, ((decide (byteAt d i.toNat > (57 : Int))) = false), c0]) ((0 : Int) ≤ i ∧ i < (↑d.size : Int)))) [true, false, false] [0,4,5,6] (by kernel_rfl) (by kernel_rfl) ⟨hb1, q0_, hb2, q0_, hb3, q0_, trivial⟩ hsim fun E a w hsim => ?_
          have g1 := of_decide_eq_false hb2
          have g2 := of_decide_eq_false hb3
          rw [ti] at g1 g2
          exact ih (by omega) (by omega) E a w hsim
    · skip
      rcases Bool.eq_false_or_eq_true ((↑d.size : Int) == (↑s.size : Int)) with hb4 | hb4
      · skip
        rcases Bool.eq_false_or_eq_true (!q.toList == s.toList) with hb5 | hb5
        · skip
          exact go_ret (UN_ok q) rfl rfl Tryd.func28 (sr' := ⟨0, [.tup [.d (.raw (.int .i64 ((0 : Int)))), .d (.raw (.int .i64 ((4 : Int))))]], []⟩) (cs := [((decide (i < (↑d.size : Int))) = false), (((↑d.size : Int) == (↑s.size : Int)) = true), (q = numJ (IntKind.i64.wrap ((0 : Int) - n))), ((-9223372036854775808 : Int) ≤ IntKind.i64.wrap ((0 : Int) - n) ∧ IntKind.i64.wrap ((0 : Int) - n) < (9223372036854775808 : Int)), ((!q.toList == s.toList) = true)]) [false, true, true] true (by kernel_rfl) (by kernel_rfl) ⟨hb1, hb4, (by first | omega | exact absurd (of_decide_eq_false hb1) (by omega)), (by first | omega | exact absurd (of_decide_eq_false hb1) (by omega)), hb5, trivial⟩ (by first | (have := of_decide_eq_true hb2; rw [ti] at this; rw [bad (by omega)]; done) | (have := of_decide_eq_true hb3; rw [ti] at this; rw [bad (by omega)]; done) | (have := of_decide_eq_true hb2; rw [ti] at this; rw [bad (by omega)]; rfl) | (have := of_decide_eq_true hb3; rw [ti] at this; rw [bad (by omega)]; rfl) | exact absurd (of_decide_eq_false hb1) (by omega)) hsim
        · skip
          exact go_ret (UN_ok q) rfl rfl Tryd.func28 (sr' := ⟨0, [.tup [.d (.raw (.int .i64 (IntKind.i64.wrap ((0 : Int) - n)))), .d (.raw (.int .i64 ((0 : Int))))]], []⟩) (cs := [((decide (i < (↑d.size : Int))) = false), (((↑d.size : Int) == (↑s.size : Int)) = true), (q = numJ (IntKind.i64.wrap ((0 : Int) - n))), ((-9223372036854775808 : Int) ≤ IntKind.i64.wrap ((0 : Int) - n) ∧ IntKind.i64.wrap ((0 : Int) - n) < (9223372036854775808 : Int)), ((!q.toList == s.toList) = false)]) [false, true, false] true (by kernel_rfl) (by kernel_rfl) ⟨hb1, hb4, (by first | omega | exact absurd (of_decide_eq_false hb1) (by omega)), (by first | omega | exact absurd (of_decide_eq_false hb1) (by omega)), hb5, trivial⟩ (by first | (have := of_decide_eq_true hb2; rw [ti] at this; rw [bad (by omega)]; done) | (have := of_decide_eq_true hb3; rw [ti] at this; rw [bad (by omega)]; done) | (have := of_decide_eq_true hb2; rw [ti] at this; rw [bad (by omega)]; rfl) | (have := of_decide_eq_true hb3; rw [ti] at this; rw [bad (by omega)]; rfl) | exact absurd (of_decide_eq_false hb1) (by omega)) hsim
      · skip
        rcases Bool.eq_false_or_eq_true (!q.toList == s.toList) with hb6 | hb6
        · skip
          exact go_ret (UN_ok q) rfl rfl Tryd.func28 (sr' := ⟨0, [.tup [.d (.raw (.int .i64 ((0 : Int)))), .d (.raw (.int .i64 ((4 : Int))))]], []⟩) (cs := [((decide (i < (↑d.size : Int))) = false), (((↑d.size : Int) == (↑s.size : Int)) = false), (q = numJ n), ((-9223372036854775808 : Int) ≤ n ∧ n < (9223372036854775808 : Int)), ((!q.toList == s.toList) = true)]) [false, false, true] true (by kernel_rfl) (by kernel_rfl) ⟨hb1, hb4, (by first | omega | exact absurd (of_decide_eq_false hb1) (by omega)), (by first | omega | exact absurd (of_decide_eq_false hb1) (by omega)), hb6, trivial⟩ (by first | (have := of_decide_eq_true hb2; rw [ti] at this; rw [bad (by omega)]; done) | (have := of_decide_eq_true hb3; rw [ti] at this; rw [bad (by omega)]; done) | (have := of_decide_eq_true hb2; rw [ti] at this; rw [bad (by omega)]; rfl) | (have := of_decide_eq_true hb3; rw [ti] at this; rw [bad (by omega)]; rfl) | exact absurd (of_decide_eq_false hb1) (by omega)) hsim
        · skip
          exact go_ret (UN_ok q) rfl rfl Tryd.func28 (sr' := ⟨0, [.tup [.d (.raw (.int .i64 (n))), .d (.raw (.int .i64 ((0 : Int))))]], []⟩) (cs := [((decide (i < (↑d.size : Int))) = false), (((↑d.size : Int) == (↑s.size : Int)) = false), (q = numJ n), ((-9223372036854775808 : Int) ≤ n ∧ n < (9223372036854775808 : Int)), ((!q.toList == s.toList) = false)]) [false, false, false] true (by kernel_rfl) (by kernel_rfl) ⟨hb1, hb4, (by first | omega | exact absurd (of_decide_eq_false hb1) (by omega)), (by first | omega | exact absurd (of_decide_eq_false hb1) (by omega)), hb6, trivial⟩ (by first | (have := of_decide_eq_true hb2; rw [ti] at this; rw [bad (by omega)]; done) | (have := of_decide_eq_true hb3; rw [ti] at this; rw [bad (by omega)]; done) | (have := of_decide_eq_true hb2; rw [ti] at this; rw [bad (by omega)]; rfl) | (have := of_decide_eq_true hb3; rw [ti] at this; rw [bad (by omega)]; rfl) | exact absurd (of_decide_eq_false hb1) (by omega)) hsim
theorem toNumR_ok (s : ByteArray) (hs : s.size ≤ 1073741824) : Eng.Spec Tryd.prog (fun _ => none) 28 [.d (.raw (.string s))] [] (.tup [.d (.raw (.int .i64 (numM s).1)), .d (.raw (.int .i64 (numM s).2))]) [] := by
  refine spec_fn Tryd.func28 rfl fun {w N E a} hsim => ?_
  let q : ByteArray := ByteArray.empty
  have hlen : (dOf s).size < 1 → numM s = (0, 4) := fun h => by
    rcases numM_cases s with h2 | ⟨v, h2, h3⟩
    · exact h2
    · exfalso
      have := (dOf_itoa h3).1
      rw [size_ba, this] at h
      cases hl : Lib.decDigits v.natAbs with
      | nil => exact absurd hl (dec_ne _)
      | cons c r => rw [hl] at h; simp at h
  have d1 : decide ((s.size : Int) > 0) = true → (byteAt s 0 == (45 : Int)) = true → s.extract 1 (s.size : Int).toNat = dOf s := fun a b => by
    have a := of_decide_eq_true a
    have b : byteAt s 0 = 45 := by simpa using b
    unfold dOf; rw [if_pos ⟨by omega, b⟩, Int.toNat_natCast]
  have d2 : (byteAt s 0 == (45 : Int)) = false → s = dOf s := fun b => by
    have b : ¬ byteAt s 0 = 45 := by simpa using b
    unfold dOf; rw [if_neg (fun h => b h.2)]
  have d3 : decide ((s.size : Int) > 0) = false → s = dOf s := fun a => by
    have a := of_decide_eq_false a
    unfold dOf; rw [if_neg (fun h => by omega)]
  have hlen2 : 19 < (dOf s).size → numM s = (0, 4) := fun h => by
    rcases numM_cases s with h2 | ⟨v, h2, h3⟩
    · exact h2
    · exfalso
      have hvb := numM_bounds s
      rw [h2] at hvb
      have hvb : -9223372036854775808 ≤ v ∧ v ≤ 9223372036854775807 := hvb
      have := (dOf_itoa h3).1
      rw [size_ba, this] at h
      have := dec_len19 v (by omega)
      omega
  have z0 : (0 : Int) = IntKind.i64.wrap (-(valL (List.take 0 s.data.toList))) := by rw [List.take_zero]; decide +kernel
  have z1 : (0 : Int) = IntKind.i64.wrap (-(valL (List.take 0 (s.extract 1 (s.size : Int).toNat).data.toList))) := by rw [List.take_zero]; decide +kernel
  rcases Bool.eq_false_or_eq_true (decide ((↑s.size : Int) > (0 : Int))) with hb1 | hb1
  · skip
    rcases Bool.eq_false_or_eq_true (byteAt s (0 : Nat) == (45 : Int)) with hb2 | hb2
    · skip
      rcases Bool.eq_false_or_eq_true (decide ((↑(s.extract (1 : Nat) (↑s.size : Int).toNat).size : Int) < (1 : Int))) with hb3 | hb3
      · skip
        exact go_ret (UN_ok q) rfl rfl Tryd.func28 (sr' := ⟨0, [.tup [.d (.raw (.int .i64 ((0 : Int)))), .d (.raw (.int .i64 ((4 : Int))))]], []⟩) (cs := [((decide ((↑s.size : Int) > (0 : Int))) = true), ((0 : Int) ≤ (0 : Int) ∧ (0 : Int) < (↑s.size : Int)), ((byteAt s (0 : Nat) == (45 : Int)) = true), ((0 : Int) ≤ (1 : Int) ∧ (1 : Int) ≤ (↑s.size : Int) ∧ (↑s.size : Int) ≤ (↑s.size : Int)), ((decide ((↑(s.extract (1 : Nat) (↑s.size : Int).toNat).size : Int) < (1 : Int))) = true)]) [true, true, true] true (by kernel_rfl) (by kernel_rfl) ⟨hb1, (by first | omega | (have := of_decide_eq_true hb1; omega)), hb2, (by first | omega | (have := of_decide_eq_true hb1; omega)), hb3, trivial⟩ (by first | (have h := of_decide_eq_true hb3; rw [d1 hb1 hb2] at h; rw [hlen (by omega)]; done) | (have h := of_decide_eq_true hb5; rw [hlen (by rw [← d2 hb2]; omega)]; done) | (have h := of_decide_eq_true hb7; rw [hlen (by rw [← d3 hb1]; omega)]; done) | (have h := of_decide_eq_true hb3; rw [d1 hb1 hb2] at h; rw [hlen (by omega)]; rfl) | (have h := of_decide_eq_true hb5; rw [hlen (by rw [← d2 hb2]; omega)]; rfl) | (have h := of_decide_eq_true hb7; rw [hlen (by rw [← d3 hb1]; omega)]; rfl) | (have h := of_decide_eq_true hb4; rw [d1 hb1 hb2] at h; rw [hlen2 (by omega)]; done) | (have h := of_decide_eq_true hb6; rw [hlen2 (by rw [← d2 hb2]; omega)]; done) | (have h := of_decide_eq_true hb8; rw [hlen2 (by rw [← d3 hb1]; omega)]; done) | (have h := of_decide_eq_true hb4; rw [d1 hb1 hb2] at h; rw [hlen2 (by omega)]; rfl) | (have h := of_decide_eq_true hb6; rw [hlen2 (by rw [← d2 hb2]; omega)]; rfl) | (have h := of_decide_eq_true hb8; rw [hlen2 (by rw [← d3 hb1]; omega)]; rfl)) hsim
      · skip
        rcases Bool.eq_false_or_eq_true (decide ((↑(s.extract (1 : Nat) (↑s.size : Int).toNat).size : Int) > (19 : Int))) with hb4 | hb4
        · skip
          exact go_ret (UN_ok q) rfl rfl Tryd.func28 (sr' := ⟨0, [.tup [.d (.raw (.int .i64 ((0 : Int)))), .d (.raw (.int .i64 ((4 : Int))))]], []⟩) (cs := [((decide ((↑s.size : Int) > (0 : Int))) = true), ((0 : Int) ≤ (0 : Int) ∧ (0 : Int) < (↑s.size : Int)), ((byteAt s (0 : Nat) == (45 : Int)) = true), ((0 : Int) ≤ (1 : Int) ∧ (1 : Int) ≤ (↑s.size : Int) ∧ (↑s.size : Int) ≤ (↑s.size : Int)), ((decide ((↑(s.extract (1 : Nat) (↑s.size : Int).toNat).size : Int) < (1 : Int))) = false), ((decide ((↑(s.extract (1 : Nat) (↑s.size : Int).toNat).size : Int) > (19 : Int))) = true)]) [true, true, false, true] true (by kernel_rfl) (by kernel_rfl) ⟨hb1, (by first | omega | (have := of_decide_eq_true hb1; omega)), hb2, (by first | omega | (have := of_decide_eq_true hb1; omega)), hb3, hb4, trivial⟩ (by first | (have h := of_decide_eq_true hb3; rw [d1 hb1 hb2] at h; rw [hlen (by omega)]; done) | (have h := of_decide_eq_true hb5; rw [hlen (by rw [← d2 hb2]; omega)]; done) | (have h := of_decide_eq_true hb7; rw [hlen (by rw [← d3 hb1]; omega)]; done) | (have h := of_decide_eq_true hb3; rw [d1 hb1 hb2] at h; rw [hlen (by omega)]; rfl) | (have h := of_decide_eq_true hb5; rw [hlen (by rw [← d2 hb2]; omega)]; rfl) | (have h := of_decide_eq_true hb7; rw [hlen (by rw [← d3 hb1]; omega)]; rfl) | (have h := of_decide_eq_true hb4; rw [d1 hb1 hb2] at h; rw [hlen2 (by omega)]; done) | (have h := of_decide_eq_true hb6; rw [hlen2 (by rw [← d2 hb2]; omega)]; done) | (have h := of_decide_eq_true hb8; rw [hlen2 (by rw [← d3 hb1]; omega)]; done) | (have h := of_decide_eq_true hb4; rw [d1 hb1 hb2] at h; rw [hlen2 (by omega)]; rfl) | (have h := of_decide_eq_true hb6; rw [hlen2 (by rw [← d2 hb2]; omega)]; rfl) | (have h := of_decide_eq_true hb8; rw [hlen2 (by rw [← d3 hb1]; omega)]; rfl)) hsim
        · skip
          refine go_head (UN_ok q) rfl rfl (k' := loopAt Tryd.f28 0) (s' := mk 0 62 [(0, .d (.raw (.string (s)))), (4, .d (.raw (.string (s.extract (1 : Nat) (↑s.size : Int).toNat)))), (5, .d (.raw (.int .i64 ((0 : Int))))), (6, .d (.raw (.int .i64 ((0 : Int)))))] []) (cs := [((decide ((↑s.size : Int) > (0 : Int))) = true), ((0 : Int) ≤ (0 : Int) ∧ (0 : Int) < (↑s.size : Int)), ((byteAt s (0 : Nat) == (45 : Int)) = true), ((0 : Int) ≤ (1 : Int) ∧ (1 : Int) ≤ (↑s.size : Int) ∧ (↑s.size : Int) ≤ (↑s.size : Int)), ((decide ((↑(s.extract (1 : Nat) (↑s.size : Int).toNat).size : Int) < (1 : Int))) = false), ((decide ((↑(s.extract (1 : Nat) (↑s.size : Int).toNat).size : Int) > (19 : Int))) = false)]) [true, true, false, false] [0,4,5,6] (by kernel_rfl) (by kernel_rfl) ⟨hb1, (by first | omega | (have := of_decide_eq_true hb1; omega)), hb2, (by first | omega | (have := of_decide_eq_true hb1; omega)), hb3, hb4, trivial⟩ hsim fun E a w hsim => ?_
          first | exact tn_go s (s.extract 1 (s.size : Int).toNat) (d1 hb1 hb2) (by have h := of_decide_eq_false hb4; omega) (s.extract 1 (s.size : Int).toNat).size 0 0 0 rfl (by omega) z1 E a w hsim | exact tn_go s s (d2 hb2) (by have h := of_decide_eq_false hb6; omega) s.size 0 0 0 rfl (by omega) z0 E a w hsim | exact tn_go s s (d3 hb1) (by have h := of_decide_eq_false hb8; omega) s.size 0 0 0 rfl (by omega) z0 E a w hsim
    · skip
      rcases Bool.eq_false_or_eq_true (decide ((↑s.size : Int) < (1 : Int))) with hb5 | hb5
      · skip
        exact go_ret (UN_ok q) rfl rfl Tryd.func28 (sr' := ⟨0, [.tup [.d (.raw (.int .i64 ((0 : Int)))), .d (.raw (.int .i64 ((4 : Int))))]], []⟩) (cs := [((decide ((↑s.size : Int) > (0 : Int))) = true), ((0 : Int) ≤ (0 : Int) ∧ (0 : Int) < (↑s.size : Int)), ((byteAt s (0 : Nat) == (45 : Int)) = false), ((decide ((↑s.size : Int) < (1 : Int))) = true)]) [true, false, true] true (by kernel_rfl) (by kernel_rfl) ⟨hb1, (by first | omega | (have := of_decide_eq_true hb1; omega)), hb2, hb5, trivial⟩ (by first | (have h := of_decide_eq_true hb3; rw [d1 hb1 hb2] at h; rw [hlen (by omega)]; done) | (have h := of_decide_eq_true hb5; rw [hlen (by rw [← d2 hb2]; omega)]; done) | (have h := of_decide_eq_true hb7; rw [hlen (by rw [← d3 hb1]; omega)]; done) | (have h := of_decide_eq_true hb3; rw [d1 hb1 hb2] at h; rw [hlen (by omega)]; rfl) | (have h := of_decide_eq_true hb5; rw [hlen (by rw [← d2 hb2]; omega)]; rfl) | (have h := of_decide_eq_true hb7; rw [hlen (by rw [← d3 hb1]; omega)]; rfl) | (have h := of_decide_eq_true hb4; rw [d1 hb1 hb2] at h; rw [hlen2 (by omega)]; done) | (have h := of_decide_eq_true hb6; rw [hlen2 (by rw [← d2 hb2]; omega)]; done) | (have h := of_decide_eq_true hb8; rw [hlen2 (by rw [← d3 hb1]; omega)]; done) | (have h := of_decide_eq_true hb4; rw [d1 hb1 hb2] at h; rw [hlen2 (by omega)]; rfl) | (have h := of_decide_eq_true hb6; rw [hlen2 (by rw [← d2 hb2]; omega)]; rfl) | (have h := of_decide_eq_true hb8; rw [hlen2 (by rw [← d3 hb1]; omega)]; rfl)) hsim
      · skip
        rcases Bool.eq_false_or_eq_true (decide ((↑s.size : Int) > (19 : Int))) with hb6 | hb6
        · skip
          exact go_ret (UN_ok q) rfl rfl Tryd.func28 (sr' := ⟨0, [.tup [.d (.raw (.int .i64 ((0 : Int)))), .d (.raw (.int .i64 ((4 : Int))))]], []⟩) (cs := [((decide ((↑s.size : Int) > (0 : Int))) = true), ((0 : Int) ≤ (0 : Int) ∧ (0 : Int) < (↑s.size : Int)), ((byteAt s (0 : Nat) == (45 : Int)) = false), ((decide ((↑s.size : Int) < (1 : Int))) = false), ((decide ((↑s.size : Int) > (19 : Int))) = true)]) [true, false, false, true] true (by kernel_rfl) (by kernel_rfl) ⟨hb1, (by first | omega | (have := of_decide_eq_true hb1; omega)), hb2, hb5, hb6, trivial⟩ (by first | (have h := of_decide_eq_true hb3; rw [d1 hb1 hb2] at h; rw [hlen (by omega)]; done) | (have h := of_decide_eq_true hb5; rw [hlen (by rw [← d2 hb2]; omega)]; done) | (have h := of_decide_eq_true hb7; rw [hlen (by rw [← d3 hb1]; omega)]; done) | (have h := of_decide_eq_true hb3; rw [d1 hb1 hb2] at h; rw [hlen (by omega)]; rfl) | (have h := of_decide_eq_true hb5; rw [hlen (by rw [← d2 hb2]; omega)]; rfl) | (have h := of_decide_eq_true hb7; rw [hlen (by rw [← d3 hb1]; omega)]; rfl) | (have h := of_decide_eq_true hb4; rw [d1 hb1 hb2] at h; rw [hlen2 (by omega)]; done) | (have h := of_decide_eq_true hb6; rw [hlen2 (by rw [← d2 hb2]; omega)]; done) | (have h := of_decide_eq_true hb8; rw [hlen2 (by rw [← d3 hb1]; omega)]; done) | (have h := of_decide_eq_true hb4; rw [d1 hb1 hb2] at h; rw [hlen2 (by omega)]; rfl) | (have h := of_decide_eq_true hb6; rw [hlen2 (by rw [← d2 hb2]; omega)]; rfl) | (have h := of_decide_eq_true hb8; rw [hlen2 (by rw [← d3 hb1]; omega)]; rfl)) hsim
        · skip
          refine go_head (UN_ok q) rfl rfl (k' := loopAt Tryd.f28 0) (s' := mk 0 62 [(0, .d (.raw (.string (s)))), (4, .d (.raw (.string (s)))), (5, .d (.raw (.int .i64 ((0 : Int))))), (6, .d (.raw (.int .i64 ((0 : Int)))))] []) (cs := [((decide ((↑s.size : Int) > (0 : Int))) = true), ((0 : Int) ≤ (0 : Int) ∧ (0 : Int) < (↑s.size : Int)), ((byteAt s (0 : Nat) == (45 : Int)) = false), ((decide ((↑s.size : Int) < (1 : Int))) = false), ((decide ((↑s.size : Int) > (19 : Int))) = false)]) [true, false, false, false] [0,4,5,6] (by kernel_rfl) (by kernel_rfl) ⟨hb1, (by first | omega | (have := of_decide_eq_true hb1; omega)), hb2, hb5, hb6, trivial⟩ hsim fun E a w hsim => ?_
          first | exact tn_go s (s.extract 1 (s.size : Int).toNat) (d1 hb1 hb2) (by have h := of_decide_eq_false hb4; omega) (s.extract 1 (s.size : Int).toNat).size 0 0 0 rfl (by omega) z1 E a w hsim | exact tn_go s s (d2 hb2) (by have h := of_decide_eq_false hb6; omega) s.size 0 0 0 rfl (by omega) z0 E a w hsim | exact tn_go s s (d3 hb1) (by have h := of_decide_eq_false hb8; omega) s.size 0 0 0 rfl (by omega) z0 E a w hsim
  · skip
    rcases Bool.eq_false_or_eq_true (decide ((↑s.size : Int) < (1 : Int))) with hb7 | hb7
    · skip
      exact go_ret (UN_ok q) rfl rfl Tryd.func28 (sr' := ⟨0, [.tup [.d (.raw (.int .i64 ((0 : Int)))), .d (.raw (.int .i64 ((4 : Int))))]], []⟩) (cs := [((decide ((↑s.size : Int) > (0 : Int))) = false), ((decide ((↑s.size : Int) < (1 : Int))) = true)]) [false, true] true (by kernel_rfl) (by kernel_rfl) ⟨hb1, hb7, trivial⟩ (by first | (have h := of_decide_eq_true hb3; rw [d1 hb1 hb2] at h; rw [hlen (by omega)]; done) | (have h := of_decide_eq_true hb5; rw [hlen (by rw [← d2 hb2]; omega)]; done) | (have h := of_decide_eq_true hb7; rw [hlen (by rw [← d3 hb1]; omega)]; done) | (have h := of_decide_eq_true hb3; rw [d1 hb1 hb2] at h; rw [hlen (by omega)]; rfl) | (have h := of_decide_eq_true hb5; rw [hlen (by rw [← d2 hb2]; omega)]; rfl) | (have h := of_decide_eq_true hb7; rw [hlen (by rw [← d3 hb1]; omega)]; rfl) | (have h := of_decide_eq_true hb4; rw [d1 hb1 hb2] at h; rw [hlen2 (by omega)]; done) | (have h := of_decide_eq_true hb6; rw [hlen2 (by rw [← d2 hb2]; omega)]; done) | (have h := of_decide_eq_true hb8; rw [hlen2 (by rw [← d3 hb1]; omega)]; done) | (have h := of_decide_eq_true hb4; rw [d1 hb1 hb2] at h; rw [hlen2 (by omega)]; rfl) | (have h := of_decide_eq_true hb6; rw [hlen2 (by rw [← d2 hb2]; omega)]; rfl) | (have h := of_decide_eq_true hb8; rw [hlen2 (by rw [← d3 hb1]; omega)]; rfl)) hsim
    · skip
      rcases Bool.eq_false_or_eq_true (decide ((↑s.size : Int) > (19 : Int))) with hb8 | hb8
      · skip
        exact go_ret (UN_ok q) rfl rfl Tryd.func28 (sr' := ⟨0, [.tup [.d (.raw (.int .i64 ((0 : Int)))), .d (.raw (.int .i64 ((4 : Int))))]], []⟩) (cs := [((decide ((↑s.size : Int) > (0 : Int))) = false), ((decide ((↑s.size : Int) < (1 : Int))) = false), ((decide ((↑s.size : Int) > (19 : Int))) = true)]) [false, false, true] true (by kernel_rfl) (by kernel_rfl) ⟨hb1, hb7, hb8, trivial⟩ (by first | (have h := of_decide_eq_true hb3; rw [d1 hb1 hb2] at h; rw [hlen (by omega)]; done) | (have h := of_decide_eq_true hb5; rw [hlen (by rw [← d2 hb2]; omega)]; done) | (have h := of_decide_eq_true hb7; rw [hlen (by rw [← d3 hb1]; omega)]; done) | (have h := of_decide_eq_true hb3; rw [d1 hb1 hb2] at h; rw [hlen (by omega)]; rfl) | (have h := of_decide_eq_true hb5; rw [hlen (by rw [← d2 hb2]; omega)]; rfl) | (have h := of_decide_eq_true hb7; rw [hlen (by rw [← d3 hb1]; omega)]; rfl) | (have h := of_decide_eq_true hb4; rw [d1 hb1 hb2] at h; rw [hlen2 (by omega)]; done) | (have h := of_decide_eq_true hb6; rw [hlen2 (by rw [← d2 hb2]; omega)]; done) | (have h := of_decide_eq_true hb8; rw [hlen2 (by rw [← d3 hb1]; omega)]; done) | (have h := of_decide_eq_true hb4; rw [d1 hb1 hb2] at h; rw [hlen2 (by omega)]; rfl) | (have h := of_decide_eq_true hb6; rw [hlen2 (by rw [← d2 hb2]; omega)]; rfl) | (have h := of_decide_eq_true hb8; rw [hlen2 (by rw [← d3 hb1]; omega)]; rfl)) hsim
      · skip
        refine go_head (UN_ok q) rfl rfl (k' := loopAt Tryd.f28 0) (s' := mk 0 62 [(0, .d (.raw (.string (s)))), (4, .d (.raw (.string (s)))), (5, .d (.raw (.int .i64 ((0 : Int))))), (6, .d (.raw (.int .i64 ((0 : Int)))))] []) (cs := [((decide ((↑s.size : Int) > (0 : Int))) = false), ((decide ((↑s.size : Int) < (1 : Int))) = false), ((decide ((↑s.size : Int) > (19 : Int))) = false)]) [false, false, false] [0,4,5,6] (by kernel_rfl) (by kernel_rfl) ⟨hb1, hb7, hb8, trivial⟩ hsim fun E a w hsim => ?_
        first | exact tn_go s (s.extract 1 (s.size : Int).toNat) (d1 hb1 hb2) (by have h := of_decide_eq_false hb4; omega) (s.extract 1 (s.size : Int).toNat).size 0 0 0 rfl (by omega) z1 E a w hsim | exact tn_go s s (d2 hb2) (by have h := of_decide_eq_false hb6; omega) s.size 0 0 0 rfl (by omega) z0 E a w hsim | exact tn_go s s (d3 hb1) (by have h := of_decide_eq_false hb8; omega) s.size 0 0 0 rfl (by omega) z0 E a w hsim
end Go.Nest
