/-
  Contracts of given functions, or plain laws that they need. No condition.
-/
import Derived.Test.YtmhfkicgmdhooaaDoorUnpT
import Derived.Test.YtmhfkicgmdhooaaDoorUnlG
import Derived.Test.YtmhfkicgmdhooaaDoorTsD
namespace Go.Nest
open Go Go.Eng Go.Proofs
set_option linter.unusedVariables false
set_option linter.unusedSimpArgs false
set_option maxRecDepth 100000
set_option maxHeartbeats 4000000
theorem UN_ok (q : ByteArray) : OrcOK Tryd.prog (UN q) := (OrcOK.none _).add _ false (mNumJ q) fun args H r H' cs h hc => by
  unfold mNumJ at h
  split at h
  · cases h; obtain ⟨rfl, hb, -⟩ := hc; exact Go.Tab.num_ok _ hb
  · cases h
theorem numM_cases (s : ByteArray) : numM s = (0, 4) ∨ ∃ v, numM s = (v, 0) ∧ Lib.itoa v = s.data.toList := by
  unfold numM
  split
  · rename_i v h
    by_cases hx : (!Lib.itoa v == s.toList) = true
    · rw [if_pos hx]; exact .inl rfl
    · rw [if_neg hx]
      refine .inr ⟨v, rfl, ?_⟩
      rw [← toList_ba]; simpa using hx
  · exact .inl rfl
theorem atoi_itoa (v : Int) (hv : -9223372036854775808 < v ∧ v < 9223372036854775808) : Lib.atoiAll (Lib.itoa v) = .ok v := by
  by_cases h : v < 0
  · unfold Lib.itoa
    rw [if_pos h]
    have hp : Lib.parseMag (Lib.decDigits v.natAbs) = .ok v.natAbs := by
      unfold Lib.parseMag
      rw [if_neg (dec_ne _)]
      have := parse_dec v.natAbs [] (by omega)
      rw [List.append_nil] at this
      rw [this]; rfl
    unfold Lib.atoiAll
    simp only
    rw [if_pos (by right; decide), hp]
    simp only
    have e45 : (45 : UInt8).toNat = 45 := rfl
    rw [if_neg (by rw [e45]; simp), if_neg (by omega), if_pos e45]
    congr 1; omega
  · unfold Lib.itoa
    rw [if_neg h]
    have := atoi_dec v.toNat (by omega)
    rw [this]; congr 1; omega
theorem numM_itoa {s : ByteArray} {v : Int} (hv : -9223372036854775808 < v ∧ v < 9223372036854775808) (h : Lib.itoa v = s.data.toList) : numM s = (v, 0) := by
  unfold numM
  rw [← h, atoi_itoa v hv]
  simp only
  rw [toList_ba, ← h]; simp
/-- The digits of a text, behind its sign. -/
def dOf (s : ByteArray) : ByteArray := if 0 < s.size ∧ byteAt s 0 = 45 then s.extract 1 s.size else s
def valL (l : List UInt8) : Int := l.foldl (fun (a : Int) c => 10 * a + ((c.toNat : Int) - 48)) 0
theorem valL_snoc (l : List UInt8) (c : UInt8) : valL (l ++ [c]) = 10 * valL l + ((c.toNat : Int) - 48) := by unfold valL; rw [List.foldl_append]; rfl
theorem valL_dec (n : Nat) : valL (Lib.decDigits n) = (n : Int) := by
  induction n using Nat.strongRecOn with
  | ind n ih =>
    by_cases h : n < 10
    · rw [ddec_small h]
      show 10 * 0 + (((dgt n).toNat : Int) - 48) = _
      rw [dgt_toNat h]; omega
    · rw [ddec_big h, valL_snoc, ih (n / 10) (by omega), dgt_toNat (Nat.mod_lt _ (by decide))]; omega
theorem byteAt_list (s : ByteArray) (i : Nat) (hi : i < s.size) : byteAt s i = ((s.data.toList[i]'(by rw [← size_ba]; exact hi)).toNat : Int) := by
  unfold byteAt
  rw [List.getD_eq_getElem?_getD, List.getElem?_eq_getElem (by rw [← size_ba]; exact hi)]; rfl
theorem dOf_itoa {s : ByteArray} {v : Int} (h : Lib.itoa v = s.data.toList) : (dOf s).data.toList = Lib.decDigits v.natAbs ∧ ((dOf s).size = s.size ↔ 0 ≤ v) := by
  unfold Lib.itoa at h
  by_cases hv : v < 0
  · rw [if_pos hv] at h
    have hs : s.size = (Lib.decDigits v.natAbs).length + 1 := by rw [size_ba, ← h]; rfl
    have hb : byteAt s 0 = 45 := by unfold byteAt; rw [← h]; rfl
    unfold dOf
    rw [if_pos ⟨by omega, hb⟩]
    have e : (s.extract 1 s.size).data.toList = Lib.decDigits v.natAbs := by
      rw [extract_ba, ← h, hs]
      show List.take ((Lib.decDigits v.natAbs).length + 1 - 1) (Lib.decDigits v.natAbs) = _
      rw [Nat.add_sub_cancel, List.take_length]
    refine ⟨e, ?_⟩
    rw [size_ba, e, hs]; omega
  · rw [if_neg hv] at h
    have hb : byteAt s 0 ≠ 45 := by
      unfold byteAt
      rw [← h]
      cases hl : Lib.decDigits v.toNat with
      | nil => exact absurd hl (dec_ne _)
      | cons c r =>
        have := dec_digits v.toNat c (by rw [hl]; simp)
        show ((c.toNat : Int)) ≠ 45
        omega
    unfold dOf
    rw [if_neg (fun h => hb h.2), show v.natAbs = v.toNat by omega]
    exact ⟨h.symm, ⟨fun _ => by omega, fun _ => rfl⟩⟩
theorem digits_of {s : ByteArray} {v : Int} (h : Lib.itoa v = s.data.toList) (i : Nat) (hi : i < (dOf s).size) : 48 ≤ byteAt (dOf s) i ∧ byteAt (dOf s) i ≤ 57 := by
  rw [byteAt_list _ _ hi]
  have := dec_digits v.natAbs ((dOf s).data.toList[i]'(by rw [← size_ba]; exact hi)) (by rw [← (dOf_itoa h).1]; exact List.getElem_mem _)
  omega
abbrev GoN (s : ByteArray) (w0 : World) (N : Nat → Prop) (E0 : Env) (k : List Item) (st : St) : Prop := ∀ (E : Env) (a : Act) (w : World), Sim (cx Tryd.prog (fun _ => none) w0 N E0 []) E st a w → Goes Tryd.prog 43 k (RSpec (cx Tryd.prog (fun _ => none) w0 N E0 []) ⟨0, [.tup [.d (.raw (.int .i64 (numM s).1)), .d (.raw (.int .i64 (numM s).2))]], []⟩) a w
theorem tn_go {w0 : World} {N : Nat → Prop} {E0 : Env} (s d : ByteArray) (hd : d = dOf s) (hsz : d.size ≤ 9) : ∀ (j k : Nat) (i n : Int), i = (k : Int) → k + j = d.size → n = -(valL (d.data.toList.take k)) → 0 ≤ -n → -n < (10 : Int) ^ k → GoN s w0 N E0 (loopAt Tryd.f43 0) (tn1 s d n i) := by
  have hp : ∀ k, k ≤ 9 → (10 : Int) ^ k ≤ 1000000000 := by decide +kernel
  intro j
  induction j with
  | zero =>
    intro k i n hi hk hn h0 h1 E a w hsim
    have hb := hp k (by omega)
    have hall : d.data.toList.take k = d.data.toList := List.take_of_length_le (by rw [← size_ba]; omega)
    rw [hall] at hn
    have hw : IntKind.i64.wrap ((0 : Int) - n) = 0 - n := wrapI _ (by omega)
    obtain ⟨n', hn'⟩ : ∃ n', n' = if d.size = s.size then 0 - n else n := ⟨_, rfl⟩
    have hnb : -9223372036854775808 < n' ∧ n' < 9223372036854775808 := by rw [hn']; split <;> omega
    obtain ⟨q, hq⟩ : ∃ q, q = numJ n' := ⟨_, rfl⟩
    have f1 : (!q.toList == s.toList) = true → numM s = (0, 4) := fun h => by
      rcases numM_cases s with h2 | ⟨v, h2, h3⟩
      · exact h2
      · exfalso
        obtain ⟨a1, a2⟩ := dOf_itoa h3
        rw [← hd] at a1 a2
        rw [a1, valL_dec] at hn
        have hv : n' = v := by
          rw [hn']
          split
          · rename_i hh; have := a2.1 hh; omega
          · rename_i hh; have : ¬ 0 ≤ v := fun h => hh (a2.2 h); omega
        have : q = s := by apply ext_ba; rw [hq, hv]; exact h3
        rw [this] at h; simp at h
    have f2 : (!q.toList == s.toList) = false → numM s = (n', 0) := fun h => by
      have e : q.toList = s.toList := by simpa using h
      rw [toList_ba, toList_ba] at e
      exact numM_itoa hnb (by rw [← e, hq]; rfl)
    have q1 : ((d.size : Int) == (s.size : Int)) = true → q = numJ (IntKind.i64.wrap ((0 : Int) - n)) ∧ n' = IntKind.i64.wrap ((0 : Int) - n) := fun h => by
      have h : (d.size : Int) = (s.size : Int) := by simpa using h
      have : d.size = s.size := by omega
      rw [hq, hn', hw, if_pos this]; exact ⟨rfl, rfl⟩
    have q2 : ((d.size : Int) == (s.size : Int)) = false → q = numJ n ∧ n' = n := fun h => by
      have h : ¬ (d.size : Int) = (s.size : Int) := by simpa using h
      have : ¬ d.size = s.size := by omega
      rw [hq, hn', if_neg this]; exact ⟨rfl, rfl⟩
    rcases Bool.eq_false_or_eq_true (decide (i < (↑d.size : Int))) with hb1 | hb1
    · skip
      rcases Bool.eq_false_or_eq_true (decide (byteAt d i.toNat < (48 : Int))) with hb2 | hb2
      · skip
        exact go_ret (UN_ok q) rfl rfl Tryd.func43 (sr' := ⟨0, [.tup [.d (.raw (.int .i64 ((0 : Int)))), .d (.raw (.int .i64 ((4 : Int))))]], []⟩) (cs := [((decide (i < (↑d.size : Int))) = true), ((0 : Int) ≤ i ∧ i < (↑d.size : Int)), ((decide (byteAt d i.toNat < (48 : Int))) = true)]) [true, true] true (by kernel_rfl) (by kernel_rfl) ⟨hb1, (by first | exact (q1 hb4).1 | exact (q2 hb4).1 | (rw [hw]; omega) | omega | exact absurd (of_decide_eq_true hb1) (by omega)), hb2, trivial⟩ (by first | (rw [f1 hb5]; done) | (rw [f2 hb5, (q1 hb4).2]; done) | (rw [f1 hb6]; done) | (rw [f2 hb6, (q2 hb4).2]; done) | (rw [f1 hb5]; rfl) | (rw [f2 hb5, (q1 hb4).2]; rfl) | (rw [f1 hb6]; rfl) | (rw [f2 hb6, (q2 hb4).2]; rfl) | exact absurd (of_decide_eq_true hb1) (by omega)) hsim
      · skip
        rcases Bool.eq_false_or_eq_true (decide (byteAt d i.toNat > (57 : Int))) with hb3 | hb3
        · skip
          have q0_ : ((0 : Int) ≤ i ∧ i < (↑d.size : Int)) := (by first | exact (q1 hb4).1 | exact (q2 hb4).1 | (rw [hw]; omega) | omega | exact absurd (of_decide_eq_true hb1) (by omega))
          exact go_ret (UN_ok q) rfl rfl Tryd.func43 (sr' := ⟨0, [.tup [.d (.raw (.int .i64 ((0 : Int)))), .d (.raw (.int .i64 ((4 : Int))))]], []⟩) (cs := ((fun (c0 : Prop) => [((decide (i < (↑d.size : Int))) = true), c0, ((decide (byteAt d i.toNat < (48 : Int))) = false), c0, ((decide (byteAt d i.toNat > (57 : Int))) = true)]) ((0 : Int) ≤ i ∧ i < (↑d.size : Int)))) [true, false, true] true (by kernel_rfl) (by kernel_rfl) ⟨hb1, q0_, hb2, q0_, hb3, trivial⟩ (by first | (rw [f1 hb5]; done) | (rw [f2 hb5, (q1 hb4).2]; done) | (rw [f1 hb6]; done) | (rw [f2 hb6, (q2 hb4).2]; done) | (rw [f1 hb5]; rfl) | (rw [f2 hb5, (q1 hb4).2]; rfl) | (rw [f1 hb6]; rfl) | (rw [f2 hb6, (q2 hb4).2]; rfl) | exact absurd (of_decide_eq_true hb1) (by omega)) hsim
        · skip
          have q0_ : ((0 : Int) ≤ i ∧ i < (↑d.size : Int)) := (by first | exact (q1 hb4).1 | exact (q2 hb4).1 | (rw [hw]; omega) | omega | exact absurd (of_decide_eq_true hb1) (by omega))
          refine go_head (UN_ok q) rfl rfl (k' := loopAt Tryd.f43 0) (s' := mk 0 62 [(0, .d (.raw (.string (s)))), (4, .d (.raw (.string (d)))), (5, .d (.raw (.int .i64 (IntKind.i64.wrap (IntKind.i64.wrap ((10 : Int) * n) - IntKind.i64.wrap (IntKind.i64.wrap (byteAt d i.toNat) - (48 : Int))))))), (6, .d (.raw (.int .i64 (IntKind.i64.wrap (i + (1 : Int))))))] []) (cs := ((fun (c0 : Prop) => [((decide (i < (↑d.size : Int))) = true), c0, ((decide (byteAt d i.toNat < (48 : Int))) = false), c0, ((decide (byteAt d i.toNat > (57 : Int))) = false), c0]) ((0 : Int) ≤ i ∧ i < (↑d.size : Int)))) [true, false, false] [0,4,5,6] (by kernel_rfl) (by kernel_rfl) ⟨hb1, q0_, hb2, q0_, hb3, q0_, trivial⟩ hsim fun E a w hsim => ?_
          exact absurd (of_decide_eq_true hb1) (by omega)
    · skip
      rcases Bool.eq_false_or_eq_true ((↑d.size : Int) == (↑s.size : Int)) with hb4 | hb4
      · skip
        rcases Bool.eq_false_or_eq_true (!q.toList == s.toList) with hb5 | hb5
        · skip
          exact go_ret (UN_ok q) rfl rfl Tryd.func43 (sr' := ⟨0, [.tup [.d (.raw (.int .i64 ((0 : Int)))), .d (.raw (.int .i64 ((4 : Int))))]], []⟩) (cs := [((decide (i < (↑d.size : Int))) = false), (((↑d.size : Int) == (↑s.size : Int)) = true), (q = numJ (IntKind.i64.wrap ((0 : Int) - n))), ((-9223372036854775808 : Int) < IntKind.i64.wrap ((0 : Int) - n) ∧ IntKind.i64.wrap ((0 : Int) - n) < (9223372036854775808 : Int)), ((!q.toList == s.toList) = true)]) [false, true, true] true (by kernel_rfl) (by kernel_rfl) ⟨hb1, hb4, (by first | exact (q1 hb4).1 | exact (q2 hb4).1 | (rw [hw]; omega) | omega | exact absurd (of_decide_eq_true hb1) (by omega)), (by first | exact (q1 hb4).1 | exact (q2 hb4).1 | (rw [hw]; omega) | omega | exact absurd (of_decide_eq_true hb1) (by omega)), hb5, trivial⟩ (by first | (rw [f1 hb5]; done) | (rw [f2 hb5, (q1 hb4).2]; done) | (rw [f1 hb6]; done) | (rw [f2 hb6, (q2 hb4).2]; done) | (rw [f1 hb5]; rfl) | (rw [f2 hb5, (q1 hb4).2]; rfl) | (rw [f1 hb6]; rfl) | (rw [f2 hb6, (q2 hb4).2]; rfl) | exact absurd (of_decide_eq_true hb1) (by omega)) hsim
        · skip
          exact go_ret (UN_ok q) rfl rfl Tryd.func43 (sr' := ⟨0, [.tup [.d (.raw (.int .i64 (IntKind.i64.wrap ((0 : Int) - n)))), .d (.raw (.int .i64 ((0 : Int))))]], []⟩) (cs := [((decide (i < (↑d.size : Int))) = false), (((↑d.size : Int) == (↑s.size : Int)) = true), (q = numJ (IntKind.i64.wrap ((0 : Int) - n))), ((-9223372036854775808 : Int) < IntKind.i64.wrap ((0 : Int) - n) ∧ IntKind.i64.wrap ((0 : Int) - n) < (9223372036854775808 : Int)), ((!q.toList == s.toList) = false)]) [false, true, false] true (by kernel_rfl) (by kernel_rfl) ⟨hb1, hb4, (by first | exact (q1 hb4).1 | exact (q2 hb4).1 | (rw [hw]; omega) | omega | exact absurd (of_decide_eq_true hb1) (by omega)), (by first | exact (q1 hb4).1 | exact (q2 hb4).1 | (rw [hw]; omega) | omega | exact absurd (of_decide_eq_true hb1) (by omega)), hb5, trivial⟩ (by first | (rw [f1 hb5]; done) | (rw [f2 hb5, (q1 hb4).2]; done) | (rw [f1 hb6]; done) | (rw [f2 hb6, (q2 hb4).2]; done) | (rw [f1 hb5]; rfl) | (rw [f2 hb5, (q1 hb4).2]; rfl) | (rw [f1 hb6]; rfl) | (rw [f2 hb6, (q2 hb4).2]; rfl) | exact absurd (of_decide_eq_true hb1) (by omega)) hsim
      · skip
        rcases Bool.eq_false_or_eq_true (!q.toList == s.toList) with hb6 | hb6
        · skip
          exact go_ret (UN_ok q) rfl rfl Tryd.func43 (sr' := ⟨0, [.tup [.d (.raw (.int .i64 ((0 : Int)))), .d (.raw (.int .i64 ((4 : Int))))]], []⟩) (cs := [((decide (i < (↑d.size : Int))) = false), (((↑d.size : Int) == (↑s.size : Int)) = false), (q = numJ n), ((-9223372036854775808 : Int) < n ∧ n < (9223372036854775808 : Int)), ((!q.toList == s.toList) = true)]) [false, false, true] true (by kernel_rfl) (by kernel_rfl) ⟨hb1, hb4, (by first | exact (q1 hb4).1 | exact (q2 hb4).1 | (rw [hw]; omega) | omega | exact absurd (of_decide_eq_true hb1) (by omega)), (by first | exact (q1 hb4).1 | exact (q2 hb4).1 | (rw [hw]; omega) | omega | exact absurd (of_decide_eq_true hb1) (by omega)), hb6, trivial⟩ (by first | (rw [f1 hb5]; done) | (rw [f2 hb5, (q1 hb4).2]; done) | (rw [f1 hb6]; done) | (rw [f2 hb6, (q2 hb4).2]; done) | (rw [f1 hb5]; rfl) | (rw [f2 hb5, (q1 hb4).2]; rfl) | (rw [f1 hb6]; rfl) | (rw [f2 hb6, (q2 hb4).2]; rfl) | exact absurd (of_decide_eq_true hb1) (by omega)) hsim
        · skip
          exact go_ret (UN_ok q) rfl rfl Tryd.func43 (sr' := ⟨0, [.tup [.d (.raw (.int .i64 (n))), .d (.raw (.int .i64 ((0 : Int))))]], []⟩) (cs := [((decide (i < (↑d.size : Int))) = false), (((↑d.size : Int) == (↑s.size : Int)) = false), (q = numJ n), ((-9223372036854775808 : Int) < n ∧ n < (9223372036854775808 : Int)), ((!q.toList == s.toList) = false)]) [false, false, false] true (by kernel_rfl) (by kernel_rfl) ⟨hb1, hb4, (by first | exact (q1 hb4).1 | exact (q2 hb4).1 | (rw [hw]; omega) | omega | exact absurd (of_decide_eq_true hb1) (by omega)), (by first | exact (q1 hb4).1 | exact (q2 hb4).1 | (rw [hw]; omega) | omega | exact absurd (of_decide_eq_true hb1) (by omega)), hb6, trivial⟩ (by first | (rw [f1 hb5]; done) | (rw [f2 hb5, (q1 hb4).2]; done) | (rw [f1 hb6]; done) | (rw [f2 hb6, (q2 hb4).2]; done) | (rw [f1 hb5]; rfl) | (rw [f2 hb5, (q1 hb4).2]; rfl) | (rw [f1 hb6]; rfl) | (rw [f2 hb6, (q2 hb4).2]; rfl) | exact absurd (of_decide_eq_true hb1) (by omega)) hsim
  | succ j ih =>
    intro k i n hi hk hn h0 h1 E a w hsim
    have hb := hp k (by omega)
    let q : ByteArray := ByteArray.empty
    have hkd : k < d.size := by omega
    have ti : i.toNat = k := by omega
    have hlt := byteAt_lt d k
    have bad : ¬ (48 ≤ byteAt d k ∧ byteAt d k ≤ 57) → numM s = (0, 4) := fun h => by
      rcases numM_cases s with h2 | ⟨v, h2, h3⟩
      · exact h2
      · exact absurd (by have := digits_of h3 k (by rw [← hd]; exact hkd); rw [← hd] at this; exact this) h
    have w1 : IntKind.i64.wrap ((10 : Int) * n) = 10 * n := wrapI _ (by omega)
    have w2 : IntKind.i64.wrap (byteAt d i.toNat) = byteAt d k := by rw [ti]; exact wrapI _ (by omega)
    have w3 : IntKind.i64.wrap (IntKind.i64.wrap (byteAt d i.toNat) - 48) = byteAt d k - 48 := by rw [w2]; exact wrapI _ (by omega)
    have w4 : IntKind.i64.wrap (IntKind.i64.wrap ((10 : Int) * n) - IntKind.i64.wrap (IntKind.i64.wrap (byteAt d i.toNat) - 48)) = 10 * n - (byteAt d k - 48) := by rw [w1, w3]; exact wrapI _ (by omega)
    have hval : valL (d.data.toList.take (k + 1)) = 10 * valL (d.data.toList.take k) + (byteAt d k - 48) := by
      rw [List.take_add_one, List.getElem?_eq_getElem (by rw [← size_ba]; exact hkd), byteAt_list d k hkd]
      exact valL_snoc _ _
    have ih := fun (g1 : 48 ≤ byteAt d k) (g2 : byteAt d k ≤ 57) => ih (k + 1) (IntKind.i64.wrap (i + 1)) (IntKind.i64.wrap (IntKind.i64.wrap ((10 : Int) * n) - IntKind.i64.wrap (IntKind.i64.wrap (byteAt d i.toNat) - 48))) (by rw [wrapI (i + 1) (by omega)]; omega) (by omega) (by rw [w4, hval]; omega) (by rw [w4]; omega) (by rw [w4, Int.pow_succ]; omega)
    rcases Bool.eq_false_or_eq_true (decide (i < (↑d.size : Int))) with hb1 | hb1
    · skip
      rcases Bool.eq_false_or_eq_true (decide (byteAt d i.toNat < (48 : Int))) with hb2 | hb2
      · skip
        exact go_ret (UN_ok q) rfl rfl Tryd.func43 (sr' := ⟨0, [.tup [.d (.raw (.int .i64 ((0 : Int)))), .d (.raw (.int .i64 ((4 : Int))))]], []⟩) (cs := [((decide (i < (↑d.size : Int))) = true), ((0 : Int) ≤ i ∧ i < (↑d.size : Int)), ((decide (byteAt d i.toNat < (48 : Int))) = true)]) [true, true] true (by kernel_rfl) (by kernel_rfl) ⟨hb1, (by first | omega | exact absurd (of_decide_eq_false hb1) (by omega)), hb2, trivial⟩ (by first | (have := of_decide_eq_true hb2; rw [ti] at this; rw [bad (by omega)]; done) | (have := of_decide_eq_true hb3; rw [ti] at this; rw [bad (by omega)]; done) | (have := of_decide_eq_true hb2; rw [ti] at this; rw [bad (by omega)]; rfl) | (have := of_decide_eq_true hb3; rw [ti] at this; rw [bad (by omega)]; rfl) | exact absurd (of_decide_eq_false hb1) (by omega)) hsim
      · skip
        rcases Bool.eq_false_or_eq_true (decide (byteAt d i.toNat > (57 : Int))) with hb3 | hb3
        · skip
          have q0_ : ((0 : Int) ≤ i ∧ i < (↑d.size : Int)) := (by first | omega | exact absurd (of_decide_eq_false hb1) (by omega))
          exact go_ret (UN_ok q) rfl rfl Tryd.func43 (sr' := ⟨0, [.tup [.d (.raw (.int .i64 ((0 : Int)))), .d (.raw (.int .i64 ((4 : Int))))]], []⟩) (cs := ((fun (c0 : Prop) => [((decide (i < (↑d.size : Int))) = true), c0, ((decide (byteAt d i.toNat < (48 : Int))) = false), c0, ((decide (byteAt d i.toNat > (57 : Int))) = true)]) ((0 : Int) ≤ i ∧ i < (↑d.size : Int)))) [true, false, true] true (by kernel_rfl) (by kernel_rfl) ⟨hb1, q0_, hb2, q0_, hb3, trivial⟩ (by first | (have := of_decide_eq_true hb2; rw [ti] at this; rw [bad (by omega)]; done) | (have := of_decide_eq_true hb3; rw [ti] at this; rw [bad (by omega)]; done) | (have := of_decide_eq_true hb2; rw [ti] at this; rw [bad (by omega)]; rfl) | (have := of_decide_eq_true hb3; rw [ti] at this; rw [bad (by omega)]; rfl) | exact absurd (of_decide_eq_false hb1) (by omega)) hsim
        · skip
          have q0_ : ((0 : Int) ≤ i ∧ i < (↑d.size : Int)) := (by first | omega | exact absurd (of_decide_eq_false hb1) (by omega))
          refine go_head (UN_ok q) rfl rfl (k' := loopAt Tryd.f43 0) (s' := mk 0 62 [(0, .d (.raw (.string (s)))), (4, .d (.raw (.string (d)))), (5, .d (.raw (.int .i64 (IntKind.i64.wrap (IntKind.i64.wrap ((10 : Int) * n) - IntKind.i64.wrap (IntKind.i64.wrap (byteAt d i.toNat) - (48 : Int))))))), (6, .d (.raw (.int .i64 (IntKind.i64.wrap (i + (1 : Int))))))] []) (cs := ((fun (c0 : Prop) => [((decide (i < (↑d.size : Int))) = true), c0, ((decide (byteAt d i.toNat < (48 : Int))) = false), c0, ((decide (byteAt d i.toNat > (57 : Int))) = false), c0]) ((0 : Int) ≤ i ∧ i < (↑d.size : Int)))) [true, false, false] [0,4,5,6] (by kernel_rfl) (by kernel_rfl) ⟨hb1, q0_, hb2, q0_, hb3, q0_, trivial⟩ hsim fun E a w hsim => ?_
          have g1 := of_decide_eq_false hb2
          have g2 := of_decide_eq_false hb3
          rw [ti] at g1 g2
          exact ih (by omega) (by omega) E a w hsim
    · skip
      rcases Bool.eq_false_or_eq_true ((↑d.size : Int) == (↑s.size : Int)) with hb4 | hb4
      · skip
        rcases Bool.eq_false_or_eq_true (!q.toList == s.toList) with hb5 | hb5
        · skip
          exact go_ret (UN_ok q) rfl rfl Tryd.func43 (sr' := ⟨0, [.tup [.d (.raw (.int .i64 ((0 : Int)))), .d (.raw (.int .i64 ((4 : Int))))]], []⟩) (cs := [((decide (i < (↑d.size : Int))) = false), (((↑d.size : Int) == (↑s.size : Int)) = true), (q = numJ (IntKind.i64.wrap ((0 : Int) - n))), ((-9223372036854775808 : Int) < IntKind.i64.wrap ((0 : Int) - n) ∧ IntKind.i64.wrap ((0 : Int) - n) < (9223372036854775808 : Int)), ((!q.toList == s.toList) = true)]) [false, true, true] true (by kernel_rfl) (by kernel_rfl) ⟨hb1, hb4, (by first | omega | exact absurd (of_decide_eq_false hb1) (by omega)), (by first | omega | exact absurd (of_decide_eq_false hb1) (by omega)), hb5, trivial⟩ (by first | (have := of_decide_eq_true hb2; rw [ti] at this; rw [bad (by omega)]; done) | (have := of_decide_eq_true hb3; rw [ti] at this; rw [bad (by omega)]; done) | (have := of_decide_eq_true hb2; rw [ti] at this; rw [bad (by omega)]; rfl) | (have := of_decide_eq_true hb3; rw [ti] at this; rw [bad (by omega)]; rfl) | exact absurd (of_decide_eq_false hb1) (by omega)) hsim
        · skip
          exact go_ret (UN_ok q) rfl rfl Tryd.func43 (sr' := ⟨0, [.tup [.d (.raw (.int .i64 (IntKind.i64.wrap ((0 : Int) - n)))), .d (.raw (.int .i64 ((0 : Int))))]], []⟩) (cs := [((decide (i < (↑d.size : Int))) = false), (((↑d.size : Int) == (↑s.size : Int)) = true), (q = numJ (IntKind.i64.wrap ((0 : Int) - n))), ((-9223372036854775808 : Int) < IntKind.i64.wrap ((0 : Int) - n) ∧ IntKind.i64.wrap ((0 : Int) - n) < (9223372036854775808 : Int)), ((!q.toList == s.toList) = false)]) [false, true, false] true (by kernel_rfl) (by kernel_rfl) ⟨hb1, hb4, (by first | omega | exact absurd (of_decide_eq_false hb1) (by omega)), (by first | omega | exact absurd (of_decide_eq_false hb1) (by omega)), hb5, trivial⟩ (by first | (have := of_decide_eq_true hb2; rw [ti] at this; rw [bad (by omega)]; done) | (have := of_decide_eq_true hb3; rw [ti] at this; rw [bad (by omega)]; done) | (have := of_decide_eq_true hb2; rw [ti] at this; rw [bad (by omega)]; rfl) | (have := of_decide_eq_true hb3; rw [ti] at this; rw [bad (by omega)]; rfl) | exact absurd (of_decide_eq_false hb1) (by omega)) hsim
      · skip
        rcases Bool.eq_false_or_eq_true (!q.toList == s.toList) with hb6 | hb6
        · skip
          exact go_ret (UN_ok q) rfl rfl Tryd.func43 (sr' := ⟨0, [.tup [.d (.raw (.int .i64 ((0 : Int)))), .d (.raw (.int .i64 ((4 : Int))))]], []⟩) (cs := [((decide (i < (↑d.size : Int))) = false), (((↑d.size : Int) == (↑s.size : Int)) = false), (q = numJ n), ((-9223372036854775808 : Int) < n ∧ n < (9223372036854775808 : Int)), ((!q.toList == s.toList) = true)]) [false, false, true] true (by kernel_rfl) (by kernel_rfl) ⟨hb1, hb4, (by first | omega | exact absurd (of_decide_eq_false hb1) (by omega)), (by first | omega | exact absurd (of_decide_eq_false hb1) (by omega)), hb6, trivial⟩ (by first | (have := of_decide_eq_true hb2; rw [ti] at this; rw [bad (by omega)]; done) | (have := of_decide_eq_true hb3; rw [ti] at this; rw [bad (by omega)]; done) | (have := of_decide_eq_true hb2; rw [ti] at this; rw [bad (by omega)]; rfl) | (have := of_decide_eq_true hb3; rw [ti] at this; rw [bad (by omega)]; rfl) | exact absurd (of_decide_eq_false hb1) (by omega)) hsim
        · skip
          exact go_ret (UN_ok q) rfl rfl Tryd.func43 (sr' := ⟨0, [.tup [.d (.raw (.int .i64 (n))), .d (.raw (.int .i64 ((0 : Int))))]], []⟩) (cs := [((decide (i < (↑d.size : Int))) = false), (((↑d.size : Int) == (↑s.size : Int)) = false), (q = numJ n), ((-9223372036854775808 : Int) < n ∧ n < (9223372036854775808 : Int)), ((!q.toList == s.toList) = false)]) [false, false, false] true (by kernel_rfl) (by kernel_rfl) ⟨hb1, hb4, (by first | omega | exact absurd (of_decide_eq_false hb1) (by omega)), (by first | omega | exact absurd (of_decide_eq_false hb1) (by omega)), hb6, trivial⟩ (by first | (have := of_decide_eq_true hb2; rw [ti] at this; rw [bad (by omega)]; done) | (have := of_decide_eq_true hb3; rw [ti] at this; rw [bad (by omega)]; done) | (have := of_decide_eq_true hb2; rw [ti] at this; rw [bad (by omega)]; rfl) | (have := of_decide_eq_true hb3; rw [ti] at this; rw [bad (by omega)]; rfl) | exact absurd (of_decide_eq_false hb1) (by omega)) hsim
theorem toNumR_ok (s : ByteArray) (hs : s.size ≤ 9) : Eng.Spec Tryd.prog (fun _ => none) 43 [.d (.raw (.string s))] [] (.tup [.d (.raw (.int .i64 (numM s).1)), .d (.raw (.int .i64 (numM s).2))]) [] := by
  refine spec_fn Tryd.func43 rfl fun {w N E a} hsim => ?_
  let q : ByteArray := ByteArray.empty
  have hlen : (dOf s).size < 1 → numM s = (0, 4) := fun h => by
    rcases numM_cases s with h2 | ⟨v, h2, h3⟩
    · exact h2
    · exfalso
      have := (dOf_itoa h3).1
      rw [size_ba, this] at h
      cases hl : Lib.decDigits v.natAbs with
      | nil => exact absurd hl (dec_ne _)
      | cons c r => rw [hl] at h; simp at h
  have d1 : decide ((s.size : Int) > 0) = true → (byteAt s 0 == (45 : Int)) = true → s.extract 1 (s.size : Int).toNat = dOf s := fun a b => by
    have a := of_decide_eq_true a
    have b : byteAt s 0 = 45 := by simpa using b
    unfold dOf; rw [if_pos ⟨by omega, b⟩, Int.toNat_natCast]
  have d2 : (byteAt s 0 == (45 : Int)) = false → s = dOf s := fun b => by
    have b : ¬ byteAt s 0 = 45 := by simpa using b
    unfold dOf; rw [if_neg (fun h => b h.2)]
  have d3 : decide ((s.size : Int) > 0) = false → s = dOf s := fun a => by
    have a := of_decide_eq_false a
    unfold dOf; rw [if_neg (fun h => by omega)]
  have hds : (dOf s).size ≤ 9 := by
    unfold dOf; split
    · rw [ByteArray.size_extract]; omega
    · exact hs
  rcases Bool.eq_false_or_eq_true (decide ((↑s.size : Int) > (0 : Int))) with hb1 | hb1
  · skip
    rcases Bool.eq_false_or_eq_true (byteAt s (0 : Nat) == (45 : Int)) with hb2 | hb2
    · skip
      rcases Bool.eq_false_or_eq_true (decide ((↑(s.extract (1 : Nat) (↑s.size : Int).toNat).size : Int) < (1 : Int))) with hb3 | hb3
      · skip
        exact go_ret (UN_ok q) rfl rfl Tryd.func43 (sr' := ⟨0, [.tup [.d (.raw (.int .i64 ((0 : Int)))), .d (.raw (.int .i64 ((4 : Int))))]], []⟩) (cs := [((decide ((↑s.size : Int) > (0 : Int))) = true), ((0 : Int) ≤ (0 : Int) ∧ (0 : Int) < (↑s.size : Int)), ((byteAt s (0 : Nat) == (45 : Int)) = true), ((0 : Int) ≤ (1 : Int) ∧ (1 : Int) ≤ (↑s.size : Int) ∧ (↑s.size : Int) ≤ (↑s.size : Int)), ((decide ((↑(s.extract (1 : Nat) (↑s.size : Int).toNat).size : Int) < (1 : Int))) = true)]) [true, true, true] true (by kernel_rfl) (by kernel_rfl) ⟨hb1, (by first | omega | (have := of_decide_eq_true hb1; omega)), hb2, (by first | omega | (have := of_decide_eq_true hb1; omega)), hb3, trivial⟩ (by first | (have h := of_decide_eq_true hb3; rw [d1 hb1 hb2] at h; rw [hlen (by omega)]; done) | (have h := of_decide_eq_true hb5; rw [hlen (by rw [← d2 hb2]; omega)]; done) | (have h := of_decide_eq_true hb7; rw [hlen (by rw [← d3 hb1]; omega)]; done) | (have h := of_decide_eq_true hb3; rw [d1 hb1 hb2] at h; rw [hlen (by omega)]; rfl) | (have h := of_decide_eq_true hb5; rw [hlen (by rw [← d2 hb2]; omega)]; rfl) | (have h := of_decide_eq_true hb7; rw [hlen (by rw [← d3 hb1]; omega)]; rfl) | (exfalso; have h := of_decide_eq_true hb4; rw [d1 hb1 hb2] at h; omega) | (exfalso; have h := of_decide_eq_true hb6; omega) | (exfalso; have h := of_decide_eq_true hb8; omega)) hsim
      · skip
        rcases Bool.eq_false_or_eq_true (decide ((↑(s.extract (1 : Nat) (↑s.size : Int).toNat).size : Int) > (19 : Int))) with hb4 | hb4
        · skip
          exact go_ret (UN_ok q) rfl rfl Tryd.func43 (sr' := ⟨0, [.tup [.d (.raw (.int .i64 ((0 : Int)))), .d (.raw (.int .i64 ((4 : Int))))]], []⟩) (cs := [((decide ((↑s.size : Int) > (0 : Int))) = true), ((0 : Int) ≤ (0 : Int) ∧ (0 : Int) < (↑s.size : Int)), ((byteAt s (0 : Nat) == (45 : Int)) = true), ((0 : Int) ≤ (1 : Int) ∧ (1 : Int) ≤ (↑s.size : Int) ∧ (↑s.size : Int) ≤ (↑s.size : Int)), ((decide ((↑(s.extract (1 : Nat) (↑s.size : Int).toNat).size : Int) < (1 : Int))) = false), ((decide ((↑(s.extract (1 : Nat) (↑s.size : Int).toNat).size : Int) > (19 : Int))) = true)]) [true, true, false, true] true (by kernel_rfl) (by kernel_rfl) ⟨hb1, (by first | omega | (have := of_decide_eq_true hb1; omega)), hb2, (by first | omega | (have := of_decide_eq_true hb1; omega)), hb3, hb4, trivial⟩ (by first | (have h := of_decide_eq_true hb3; rw [d1 hb1 hb2] at h; rw [hlen (by omega)]; done) | (have h := of_decide_eq_true hb5; rw [hlen (by rw [← d2 hb2]; omega)]; done) | (have h := of_decide_eq_true hb7; rw [hlen (by rw [← d3 hb1]; omega)]; done) | (have h := of_decide_eq_true hb3; rw [d1 hb1 hb2] at h; rw [hlen (by omega)]; rfl) | (have h := of_decide_eq_true hb5; rw [hlen (by rw [← d2 hb2]; omega)]; rfl) | (have h := of_decide_eq_true hb7; rw [hlen (by rw [← d3 hb1]; omega)]; rfl) | (exfalso; have h := of_decide_eq_true hb4; rw [d1 hb1 hb2] at h; omega) | (exfalso; have h := of_decide_eq_true hb6; omega) | (exfalso; have h := of_decide_eq_true hb8; omega)) hsim
        · skip
          refine go_head (UN_ok q) rfl rfl (k' := loopAt Tryd.f43 0) (s' := mk 0 62 [(0, .d (.raw (.string (s)))), (4, .d (.raw (.string (s.extract (1 : Nat) (↑s.size : Int).toNat)))), (5, .d (.raw (.int .i64 ((0 : Int))))), (6, .d (.raw (.int .i64 ((0 : Int)))))] []) (cs := [((decide ((↑s.size : Int) > (0 : Int))) = true), ((0 : Int) ≤ (0 : Int) ∧ (0 : Int) < (↑s.size : Int)), ((byteAt s (0 : Nat) == (45 : Int)) = true), ((0 : Int) ≤ (1 : Int) ∧ (1 : Int) ≤ (↑s.size : Int) ∧ (↑s.size : Int) ≤ (↑s.size : Int)), ((decide ((↑(s.extract (1 : Nat) (↑s.size : Int).toNat).size : Int) < (1 : Int))) = false), ((decide ((↑(s.extract (1 : Nat) (↑s.size : Int).toNat).size : Int) > (19 : Int))) = false)]) [true, true, false, false] [0,4,5,6] (by kernel_rfl) (by kernel_rfl) ⟨hb1, (by first | omega | (have := of_decide_eq_true hb1; omega)), hb2, (by first | omega | (have := of_decide_eq_true hb1; omega)), hb3, hb4, trivial⟩ hsim fun E a w hsim => ?_
          first | exact tn_go s (s.extract 1 (s.size : Int).toNat) (d1 hb1 hb2) (by rw [d1 hb1 hb2]; exact hds) (s.extract 1 (s.size : Int).toNat).size 0 0 0 rfl (by omega) (by rw [List.take_zero]; rfl) (by decide) (by decide) E a w hsim | exact tn_go s s (d2 hb2) hs s.size 0 0 0 rfl (by omega) (by rw [List.take_zero]; rfl) (by decide) (by decide) E a w hsim | exact tn_go s s (d3 hb1) hs s.size 0 0 0 rfl (by omega) (by rw [List.take_zero]; rfl) (by decide) (by decide) E a w hsim
    · skip
      rcases Bool.eq_false_or_eq_true (decide ((↑s.size : Int) < (1 : Int))) with hb5 | hb5
      · skip
        exact go_ret (UN_ok q) rfl rfl Tryd.func43 (sr' := ⟨0, [.tup [.d (.raw (.int .i64 ((0 : Int)))), .d (.raw (.int .i64 ((4 : Int))))]], []⟩) (cs := [((decide ((↑s.size : Int) > (0 : Int))) = true), ((0 : Int) ≤ (0 : Int) ∧ (0 : Int) < (↑s.size : Int)), ((byteAt s (0 : Nat) == (45 : Int)) = false), ((decide ((↑s.size : Int) < (1 : Int))) = true)]) [true, false, true] true (by kernel_rfl) (by kernel_rfl) ⟨hb1, (by first | omega | (have := of_decide_eq_true hb1; omega)), hb2, hb5, trivial⟩ (by first | (have h := of_decide_eq_true hb3; rw [d1 hb1 hb2] at h; rw [hlen (by omega)]; done) | (have h := of_decide_eq_true hb5; rw [hlen (by rw [← d2 hb2]; omega)]; done) | (have h := of_decide_eq_true hb7; rw [hlen (by rw [← d3 hb1]; omega)]; done) | (have h := of_decide_eq_true hb3; rw [d1 hb1 hb2] at h; rw [hlen (by omega)]; rfl) | (have h := of_decide_eq_true hb5; rw [hlen (by rw [← d2 hb2]; omega)]; rfl) | (have h := of_decide_eq_true hb7; rw [hlen (by rw [← d3 hb1]; omega)]; rfl) | (exfalso; have h := of_decide_eq_true hb4; rw [d1 hb1 hb2] at h; omega) | (exfalso; have h := of_decide_eq_true hb6; omega) | (exfalso; have h := of_decide_eq_true hb8; omega)) hsim
      · skip
        rcases Bool.eq_false_or_eq_true (decide ((↑s.size : Int) > (19 : Int))) with hb6 | hb6
        · skip
          exact go_ret (UN_ok q) rfl rfl Tryd.func43 (sr' := ⟨0, [.tup [.d (.raw (.int .i64 ((0 : Int)))), .d (.raw (.int .i64 ((4 : Int))))]], []⟩) (cs := [((decide ((↑s.size : Int) > (0 : Int))) = true), ((0 : Int) ≤ (0 : Int) ∧ (0 : Int) < (↑s.size : Int)), ((byteAt s (0 : Nat) == (45 : Int)) = false), ((decide ((↑s.size : Int) < (1 : Int))) = false), ((decide ((↑s.size : Int) > (19 : Int))) = true)]) [true, false, false, true] true (by kernel_rfl) (by kernel_rfl) ⟨hb1, (by first | omega | (have := of_decide_eq_true hb1; omega)), hb2, hb5, hb6, trivial⟩ (by first | (have h := of_decide_eq_true hb3; rw [d1 hb1 hb2] at h; rw [hlen (by omega)]; done) | (have h := of_decide_eq_true hb5; rw [hlen (by rw [← d2 hb2]; omega)]; done) | (have h := of_decide_eq_true hb7; rw [hlen (by rw [← d3 hb1]; omega)]; done) | (have h := of_decide_eq_true hb3; rw [d1 hb1 hb2] at h; rw [hlen (by omega)]; rfl) | (have h := of_decide_eq_true hb5; rw [hlen (by rw [← d2 hb2]; omega)]; rfl) | (have h := of_decide_eq_true hb7; rw [hlen (by rw [← d3 hb1]; omega)]; rfl) | (exfalso; have h := of_decide_eq_true hb4; rw [d1 hb1 hb2] at h; omega) | (exfalso; have h := of_decide_eq_true hb6; omega) | (exfalso; have h := of_decide_eq_true hb8; omega)) hsim
        · skip
          refine go_head (UN_ok q) rfl rfl (k' := loopAt Tryd.f43 0) (s' := mk 0 62 [(0, .d (.raw (.string (s)))), (4, .d (.raw (.string (s)))), (5, .d (.raw (.int .i64 ((0 : Int))))), (6, .d (.raw (.int .i64 ((0 : Int)))))] []) (cs := [((decide ((↑s.size : Int) > (0 : Int))) = true), ((0 : Int) ≤ (0 : Int) ∧ (0 : Int) < (↑s.size : Int)), ((byteAt s (0 : Nat) == (45 : Int)) = false), ((decide ((↑s.size : Int) < (1 : Int))) = false), ((decide ((↑s.size : Int) > (19 : Int))) = false)]) [true, false, false, false] [0,4,5,6] (by kernel_rfl) (by kernel_rfl) ⟨hb1, (by first | omega | (have := of_decide_eq_true hb1; omega)), hb2, hb5, hb6, trivial⟩ hsim fun E a w hsim => ?_
          first | exact tn_go s (s.extract 1 (s.size : Int).toNat) (d1 hb1 hb2) (by rw [d1 hb1 hb2]; exact hds) (s.extract 1 (s.size : Int).toNat).size 0 0 0 rfl (by omega) (by rw [List.take_zero]; rfl) (by decide) (by decide) E a w hsim | exact tn_go s s (d2 hb2) hs s.size 0 0 0 rfl (by omega) (by rw [List.take_zero]; rfl) (by decide) (by decide) E a w hsim | exact tn_go s s (d3 hb1) hs s.size 0 0 0 rfl (by omega) (by rw [List.take_zero]; rfl) (by decide) (by decide) E a w hsim
  · skip
    rcases Bool.eq_false_or_eq_true (decide ((↑s.size : Int) < (1 : Int))) with hb7 | hb7
    · skip
      exact go_ret (UN_ok q) rfl rfl Tryd.func43 (sr' := ⟨0, [.tup [.d (.raw (.int .i64 ((0 : Int)))), .d (.raw (.int .i64 ((4 : Int))))]], []⟩) (cs := [((decide ((↑s.size : Int) > (0 : Int))) = false), ((decide ((↑s.size : Int) < (1 : Int))) = true)]) [false, true] true (by kernel_rfl) (by kernel_rfl) ⟨hb1, hb7, trivial⟩ (by first | (have h := of_decide_eq_true hb3; rw [d1 hb1 hb2] at h; rw [hlen (by omega)]; done) | (have h := of_decide_eq_true hb5; rw [hlen (by rw [← d2 hb2]; omega)]; done) | (have h := of_decide_eq_true hb7; rw [hlen (by rw [← d3 hb1]; omega)]; done) | (have h := of_decide_eq_true hb3; rw [d1 hb1 hb2] at h; rw [hlen (by omega)]; rfl) | (have h := of_decide_eq_true hb5; rw [hlen (by rw [← d2 hb2]; omega)]; rfl) | (have h := of_decide_eq_true hb7; rw [hlen (by rw [← d3 hb1]; omega)]; rfl) | (exfalso; have h := of_decide_eq_true hb4; rw [d1 hb1 hb2] at h; omega) | (exfalso; have h := of_decide_eq_true hb6; omega) | (exfalso; have h := of_decide_eq_true hb8; omega)) hsim
    · skip
      rcases Bool.eq_false_or_eq_true (decide ((↑s.size : Int) > (19 : Int))) with hb8 | hb8
      · skip
        exact go_ret (UN_ok q) rfl rfl Tryd.func43 (sr' := ⟨0, [.tup [.d (.raw (.int .i64 ((0 : Int)))), .d (.raw (.int .i64 ((4 : Int))))]], []⟩) (cs := [((decide ((↑s.size : Int) > (0 : Int))) = false), ((decide ((↑s.size : Int) < (1 : Int))) = false), ((decide ((↑s.size : Int) > (19 : Int))) = true)]) [false, false, true] true (by kernel_rfl) (by kernel_rfl) ⟨hb1, hb7, hb8, trivial⟩ (by first | (have h := of_decide_eq_true hb3; rw [d1 hb1 hb2] at h; rw [hlen (by omega)]; done) | (have h := of_decide_eq_true hb5; rw [hlen (by rw [← d2 hb2]; omega)]; done) | (have h := of_decide_eq_true hb7; rw [hlen (by rw [← d3 hb1]; omega)]; done) | (have h := of_decide_eq_true hb3; rw [d1 hb1 hb2] at h; rw [hlen (by omega)]; rfl) | (have h := of_decide_eq_true hb5; rw [hlen (by rw [← d2 hb2]; omega)]; rfl) | (have h := of_decide_eq_true hb7; rw [hlen (by rw [← d3 hb1]; omega)]; rfl) | (exfalso; have h := of_decide_eq_true hb4; rw [d1 hb1 hb2] at h; omega) | (exfalso; have h := of_decide_eq_true hb6; omega) | (exfalso; have h := of_decide_eq_true hb8; omega)) hsim
      · skip
        refine go_head (UN_ok q) rfl rfl (k' := loopAt Tryd.f43 0) (s' := mk 0 62 [(0, .d (.raw (.string (s)))), (4, .d (.raw (.string (s)))), (5, .d (.raw (.int .i64 ((0 : Int))))), (6, .d (.raw (.int .i64 ((0 : Int)))))] []) (cs := [((decide ((↑s.size : Int) > (0 : Int))) = false), ((decide ((↑s.size : Int) < (1 : Int))) = false), ((decide ((↑s.size : Int) > (19 : Int))) = false)]) [false, false, false] [0,4,5,6] (by kernel_rfl) (by kernel_rfl) ⟨hb1, hb7, hb8, trivial⟩ hsim fun E a w hsim => ?_
        first | exact tn_go s (s.extract 1 (s.size : Int).toNat) (d1 hb1 hb2) (by rw [d1 hb1 hb2]; exact hds) (s.extract 1 (s.size : Int).toNat).size 0 0 0 rfl (by omega) (by rw [List.take_zero]; rfl) (by decide) (by decide) E a w hsim | exact tn_go s s (d2 hb2) hs s.size 0 0 0 rfl (by omega) (by rw [List.take_zero]; rfl) (by decide) (by decide) E a w hsim | exact tn_go s s (d3 hb1) hs s.size 0 0 0 rfl (by omega) (by rw [List.take_zero]; rfl) (by decide) (by decide) E a w hsim
end Go.Nest

namespace Go.Nest
open Go Go.Eng Go.Proofs
set_option linter.unusedVariables false
set_option linter.unusedSimpArgs false
set_option maxRecDepth 100000
set_option maxHeartbeats 4000000
theorem numM_bounds (s : ByteArray) : -9223372036854775808 ≤ (numM s).1 ∧ (numM s).1 ≤ 9223372036854775807 := by
  unfold numM
  split
  · rename_i v h
    have := Lib.atoiAll_bounds h
    split
    · exact ⟨by show -9223372036854775808 ≤ (0 : Int); omega, by show (0 : Int) ≤ _; omega⟩
    · exact this
  · exact ⟨by show -9223372036854775808 ≤ (0 : Int); omega, by show (0 : Int) ≤ _; omega⟩
theorem UK_ok (n f : Int) : OrcOK Tryd.prog (UK n f) := (OrcOK.none _).add _ false (mToNumR n f) fun args H r H' cs h hc => by
  unfold mToNumR at h
  split at h
  · cases h; obtain ⟨hs, rfl, rfl, -⟩ := hc; exact toNumR_ok _ hs
  · cases h
theorem idxB_at (c : UInt8) : ∀ (l : List UInt8) (k : Nat), Lib.indexByte l c = (k : Int) → l[k]? = some c
  | [], k, h => by unfold Lib.indexByte at h; omega
  | b :: l, k, h => by
    unfold Lib.indexByte at h
    split at h
    · rename_i hb
      obtain rfl : k = 0 := by omega
      have : b = c := by simpa using hb
      rw [this]; rfl
    · split at h
      · omega
      · rename_i h1 h2
        obtain ⟨k', rfl⟩ : ∃ k', k = k' + 1 := by
          cases k with
          | zero =>
            exfalso
            have h3 : Lib.indexByte l c ≠ -1 := by simpa using h2
            rcases Lib.index_spec l [c] with ⟨e, _⟩ | ⟨i, e, _⟩
            · rw [Lib.index_one] at e; exact h3 e
            · rw [Lib.index_one] at e; omega
          | succ k' => exact ⟨k', rfl⟩
        rw [List.getElem?_cons_succ]
        exact idxB_at c l k' (by omega)
/-- No colon among the first i. -/
def noC (s : ByteArray) (i : Nat) : Prop := ∀ j, j < i → j < s.size → byteAt s j ≠ 58
theorem cut_at {s : ByteArray} {i : Nat} (h : noC s i) (hi : i < s.size) (hc : byteAt s i = 58) : headM s = s.extract 0 i ∧ restM s = s.extract (i + 1) s.size ∧ foundM s = true := by
  have hl : i < s.data.toList.length := by rw [← size_ba]; exact hi
  have hci : s.data.toList[i] = 58 := by
    rw [byteAt_list s i hi] at hc
    apply UInt8.toNat_inj.1
    show _ = 58
    omega
  have e : s.data.toList = s.data.toList.take i ++ 58 :: s.data.toList.drop (i + 1) := by
    conv => lhs; rw [← List.take_append_drop i s.data.toList, List.drop_eq_getElem_cons hl, hci]
  have hx : Lib.index s.data.toList [58] = (i : Int) := by
    rw [Lib.index_one, e, idx_byte]
    · rw [List.length_take]; omega
    · intro b hb
      obtain ⟨j, hj, e2⟩ := List.mem_take_iff_getElem.1 hb
      intro e3
      have hji : j < i := by omega
      have hjs : j < s.size := by omega
      apply h j hji hjs
      rw [byteAt_list s j hjs, e2, e3]; rfl
  have hcut : Lib.cut s.data.toList [58] = (s.data.toList.take i, s.data.toList.drop (i + 1), true) := by
    unfold Lib.cut
    rw [hx, if_pos (by omega), Int.toNat_natCast]; rfl
  refine ⟨?_, ?_, ?_⟩
  · apply ext_ba
    rw [extract_ba]
    show (Lib.cut s.data.toList [58]).1 = _
    rw [hcut]; simp
  · apply ext_ba
    rw [extract_ba]
    show (Lib.cut s.data.toList [58]).2.1 = _
    rw [hcut]
    show List.drop (i + 1) s.data.toList = _
    rw [List.take_of_length_le (by rw [List.length_drop, ← size_ba]; omega)]
  · unfold foundM; rw [hcut]
theorem take_none {s : ByteArray} {i : Nat} (h : noC s i) (hi : s.size ≤ i ∨ 9 < i) : takeM s = (ByteArray.empty, ByteArray.empty, 4) := by
  unfold takeM
  refine if_neg ?_
  rintro ⟨c1, c2, c3, -⟩
  unfold foundM Lib.cut at c1
  split at c1
  · rename_i h0
    obtain ⟨k, hk⟩ : ∃ k : Nat, Lib.index s.data.toList [58] = (k : Int) := ⟨(Lib.index s.data.toList [58]).toNat, by omega⟩
    have hat := idxB_at 58 s.data.toList k (by rw [← Lib.index_one]; exact hk)
    obtain ⟨hks, hke⟩ := List.getElem?_eq_some_iff.1 hat
    have hks' : k < s.size := by rw [size_ba]; exact hks
    have hb : byteAt s k = 58 := by rw [byteAt_list s k hks', hke]; rfl
    have hh : (headM s).size = k := by
      rw [size_ba]
      show (Lib.cut s.data.toList [58]).1.length = k
      unfold Lib.cut
      rw [if_pos h0, hk, Int.toNat_natCast]
      show (List.take k _).length = k
      rw [List.length_take]; omega
    exact h k (by omega) hks' hb
  · cases c1
abbrev GoK (s : ByteArray) (w0 : World) (N : Nat → Prop) (E0 : Env) (k : List Item) (st : St) : Prop := ∀ (E : Env) (a : Act) (w : World), Sim (cx Tryd.prog (fun _ => none) w0 N E0 []) E st a w → Goes Tryd.prog 37 k (RSpec (cx Tryd.prog (fun _ => none) w0 N E0 []) ⟨0, [.tup [.d (.raw (.string (takeM s).1)), .d (.raw (.string (takeM s).2.1)), .d (.raw (.int .i64 (takeM s).2.2))]], []⟩) a w
theorem tk_go {w0 : World} {N : Nat → Prop} {E0 : Env} (s : ByteArray) (hs : s.size ≤ 1073741824) : ∀ (j k : Nat) (i : Int), i = (k : Int) → k + j = 10 → noC s k → GoK s w0 N E0 (loopAt Tryd.f37 0) (tk1 s i) := by
  intro j
  induction j with
  | zero =>
    intro k i hi hk hno E a w hsim
    have e := take_none hno (.inr (by omega))
    let n : Int := 0
    let f : Int := 0
    rcases Bool.eq_false_or_eq_true (decide (i < (↑s.size : Int))) with hb1 | hb1
    · skip
      rcases Bool.eq_false_or_eq_true (decide (i ≤ (9 : Int))) with hb2 | hb2
      · skip
        rcases Bool.eq_false_or_eq_true (byteAt s i.toNat != (58 : Int)) with hb3 | hb3
        · skip
          refine go_head (UK_ok n f) rfl rfl (k' := loopAt Tryd.f37 0) (s' := mk 0 67 [(0, .d (.raw (.string (s)))), (5, .d (.raw (.int .i64 (IntKind.i64.wrap (i + (1 : Int))))))] []) (cs := [((decide (i < (↑s.size : Int))) = true), ((decide (i ≤ (9 : Int))) = true), ((0 : Int) ≤ i ∧ i < (↑s.size : Int)), ((byteAt s i.toNat != (58 : Int)) = true)]) [true, true, true] [0,5] (by kernel_rfl) (by kernel_rfl) ⟨hb1, hb2, (by first | omega | exact absurd (of_decide_eq_true hb2) (by omega)), hb3, trivial⟩ hsim fun E a w hsim => ?_
          exact absurd (of_decide_eq_true hb2) (by omega)
        · skip
          rcases Bool.eq_false_or_eq_true (f != (0 : Int)) with hb4 | hb4
          · skip
            exact go_ret (UK_ok n f) rfl rfl Tryd.func37 (sr' := ⟨0, [.tup [.d (.raw (.string (ByteArray.mk #[]))), .d (.raw (.string (ByteArray.mk #[]))), .d (.raw (.int .i64 ((4 : Int))))]], []⟩) (cs := [((decide (i < (↑s.size : Int))) = true), ((decide (i ≤ (9 : Int))) = true), ((0 : Int) ≤ i ∧ i < (↑s.size : Int)), ((byteAt s i.toNat != (58 : Int)) = false), ((0 : Int) ≤ (0 : Int) ∧ (0 : Int) ≤ i ∧ i ≤ (↑s.size : Int)), ((s.extract (0 : Nat) i.toNat).size ≤ (9 : Nat)), (n = (numM (s.extract (0 : Nat) i.toNat)).fst), (f = (numM (s.extract (0 : Nat) i.toNat)).snd), ((f != (0 : Int)) = true)]) [true, true, false, true] true (by kernel_rfl) (by kernel_rfl) ⟨hb1, hb2, (by first | omega | exact absurd (of_decide_eq_true hb2) (by omega)), hb3, (by first | omega | exact absurd (of_decide_eq_true hb2) (by omega)), (by first | omega | exact absurd (of_decide_eq_true hb2) (by omega)), (by first | omega | exact absurd (of_decide_eq_true hb2) (by omega)), (by first | omega | exact absurd (of_decide_eq_true hb2) (by omega)), hb4, trivial⟩ (by first | (rw [e]; rfl) | exact absurd (of_decide_eq_true hb2) (by omega)) hsim
          · skip
            rcases Bool.eq_false_or_eq_true (decide (n < (0 : Int))) with hb5 | hb5
            · skip
              exact go_ret (UK_ok n f) rfl rfl Tryd.func37 (sr' := ⟨0, [.tup [.d (.raw (.string (ByteArray.mk #[]))), .d (.raw (.string (ByteArray.mk #[]))), .d (.raw (.int .i64 ((4 : Int))))]], []⟩) (cs := [((decide (i < (↑s.size : Int))) = true), ((decide (i ≤ (9 : Int))) = true), ((0 : Int) ≤ i ∧ i < (↑s.size : Int)), ((byteAt s i.toNat != (58 : Int)) = false), ((0 : Int) ≤ (0 : Int) ∧ (0 : Int) ≤ i ∧ i ≤ (↑s.size : Int)), ((s.extract (0 : Nat) i.toNat).size ≤ (9 : Nat)), (n = (numM (s.extract (0 : Nat) i.toNat)).fst), (f = (numM (s.extract (0 : Nat) i.toNat)).snd), ((f != (0 : Int)) = false), ((decide (n < (0 : Int))) = true)]) [true, true, false, false, true] true (by kernel_rfl) (by kernel_rfl) ⟨hb1, hb2, (by first | omega | exact absurd (of_decide_eq_true hb2) (by omega)), hb3, (by first | omega | exact absurd (of_decide_eq_true hb2) (by omega)), (by first | omega | exact absurd (of_decide_eq_true hb2) (by omega)), (by first | omega | exact absurd (of_decide_eq_true hb2) (by omega)), (by first | omega | exact absurd (of_decide_eq_true hb2) (by omega)), hb4, hb5, trivial⟩ (by first | (rw [e]; rfl) | exact absurd (of_decide_eq_true hb2) (by omega)) hsim
            · skip
              rcases Bool.eq_false_or_eq_true (decide (IntKind.i64.wrap (IntKind.i64.wrap ((↑s.size : Int) - i) - (1 : Int)) ≤ n)) with hb6 | hb6
              · skip
                exact go_ret (UK_ok n f) rfl rfl Tryd.func37 (sr' := ⟨0, [.tup [.d (.raw (.string (ByteArray.mk #[]))), .d (.raw (.string (ByteArray.mk #[]))), .d (.raw (.int .i64 ((4 : Int))))]], []⟩) (cs := [((decide (i < (↑s.size : Int))) = true), ((decide (i ≤ (9 : Int))) = true), ((0 : Int) ≤ i ∧ i < (↑s.size : Int)), ((byteAt s i.toNat != (58 : Int)) = false), ((0 : Int) ≤ (0 : Int) ∧ (0 : Int) ≤ i ∧ i ≤ (↑s.size : Int)), ((s.extract (0 : Nat) i.toNat).size ≤ (9 : Nat)), (n = (numM (s.extract (0 : Nat) i.toNat)).fst), (f = (numM (s.extract (0 : Nat) i.toNat)).snd), ((f != (0 : Int)) = false), ((decide (n < (0 : Int))) = false), ((decide (IntKind.i64.wrap (IntKind.i64.wrap ((↑s.size : Int) - i) - (1 : Int)) ≤ n)) = true)]) [true, true, false, false, false, true] true (by kernel_rfl) (by kernel_rfl) ⟨hb1, hb2, (by first | omega | exact absurd (of_decide_eq_true hb2) (by omega)), hb3, (by first | omega | exact absurd (of_decide_eq_true hb2) (by omega)), (by first | omega | exact absurd (of_decide_eq_true hb2) (by omega)), (by first | omega | exact absurd (of_decide_eq_true hb2) (by omega)), (by first | omega | exact absurd (of_decide_eq_true hb2) (by omega)), hb4, hb5, hb6, trivial⟩ (by first | (rw [e]; rfl) | exact absurd (of_decide_eq_true hb2) (by omega)) hsim
              · skip
                rcases Bool.eq_false_or_eq_true (byteAt s (IntKind.i64.wrap (IntKind.i64.wrap (i + (1 : Int)) + n)).toNat != (44 : Int)) with hb7 | hb7
                · skip
                  exact go_ret (UK_ok n f) rfl rfl Tryd.func37 (sr' := ⟨0, [.tup [.d (.raw (.string (ByteArray.mk #[]))), .d (.raw (.string (ByteArray.mk #[]))), .d (.raw (.int .i64 ((4 : Int))))]], []⟩) (cs := [((decide (i < (↑s.size : Int))) = true), ((decide (i ≤ (9 : Int))) = true), ((0 : Int) ≤ i ∧ i < (↑s.size : Int)), ((byteAt s i.toNat != (58 : Int)) = false), ((0 : Int) ≤ (0 : Int) ∧ (0 : Int) ≤ i ∧ i ≤ (↑s.size : Int)), ((s.extract (0 : Nat) i.toNat).size ≤ (9 : Nat)), (n = (numM (s.extract (0 : Nat) i.toNat)).fst), (f = (numM (s.extract (0 : Nat) i.toNat)).snd), ((f != (0 : Int)) = false), ((decide (n < (0 : Int))) = false), ((decide (IntKind.i64.wrap (IntKind.i64.wrap ((↑s.size : Int) - i) - (1 : Int)) ≤ n)) = false), ((0 : Int) ≤ IntKind.i64.wrap (IntKind.i64.wrap (i + (1 : Int)) + n) ∧ IntKind.i64.wrap (IntKind.i64.wrap (i + (1 : Int)) + n) < (↑s.size : Int)), ((byteAt s (IntKind.i64.wrap (IntKind.i64.wrap (i + (1 : Int)) + n)).toNat != (44 : Int)) = true)]) ([true, true] ++ (List.replicate 4 false) ++ [true]) true (by kernel_rfl) (by kernel_rfl) ⟨hb1, hb2, (by first | omega | exact absurd (of_decide_eq_true hb2) (by omega)), hb3, (by first | omega | exact absurd (of_decide_eq_true hb2) (by omega)), (by first | omega | exact absurd (of_decide_eq_true hb2) (by omega)), (by first | omega | exact absurd (of_decide_eq_true hb2) (by omega)), (by first | omega | exact absurd (of_decide_eq_true hb2) (by omega)), hb4, hb5, hb6, (by first | omega | exact absurd (of_decide_eq_true hb2) (by omega)), hb7, trivial⟩ (by first | (rw [e]; rfl) | exact absurd (of_decide_eq_true hb2) (by omega)) hsim
                · skip
                  exact go_ret (UK_ok n f) rfl rfl Tryd.func37 (sr' := ⟨0, [.tup [.d (.raw (.string (s.extract (IntKind.i64.wrap (i + (1 : Int))).toNat (IntKind.i64.wrap (IntKind.i64.wrap (i + (1 : Int)) + n)).toNat))), .d (.raw (.string (s.extract (IntKind.i64.wrap (IntKind.i64.wrap (i + (2 : Int)) + n)).toNat (↑s.size : Int).toNat))), .d (.raw (.int .i64 ((0 : Int))))]], []⟩) (cs := [((decide (i < (↑s.size : Int))) = true), ((decide (i ≤ (9 : Int))) = true), ((0 : Int) ≤ i ∧ i < (↑s.size : Int)), ((byteAt s i.toNat != (58 : Int)) = false), ((0 : Int) ≤ (0 : Int) ∧ (0 : Int) ≤ i ∧ i ≤ (↑s.size : Int)), ((s.extract (0 : Nat) i.toNat).size ≤ (9 : Nat)), (n = (numM (s.extract (0 : Nat) i.toNat)).fst), (f = (numM (s.extract (0 : Nat) i.toNat)).snd), ((f != (0 : Int)) = false), ((decide (n < (0 : Int))) = false), ((decide (IntKind.i64.wrap (IntKind.i64.wrap ((↑s.size : Int) - i) - (1 : Int)) ≤ n)) = false), ((0 : Int) ≤ IntKind.i64.wrap (IntKind.i64.wrap (i + (1 : Int)) + n) ∧ IntKind.i64.wrap (IntKind.i64.wrap (i + (1 : Int)) + n) < (↑s.size : Int)), ((byteAt s (IntKind.i64.wrap (IntKind.i64.wrap (i + (1 : Int)) + n)).toNat != (44 : Int)) = false), ((0 : Int) ≤ IntKind.i64.wrap (i + (1 : Int)) ∧ IntKind.i64.wrap (i + (1 : Int)) ≤ IntKind.i64.wrap (IntKind.i64.wrap (i + (1 : Int)) + n) ∧ IntKind.i64.wrap (IntKind.i64.wrap (i + (1 : Int)) + n) ≤ (↑s.size : Int)), ((0 : Int) ≤ IntKind.i64.wrap (IntKind.i64.wrap (i + (2 : Int)) + n) ∧ IntKind.i64.wrap (IntKind.i64.wrap (i + (2 : Int)) + n) ≤ (↑s.size : Int) ∧ (↑s.size : Int) ≤ (↑s.size : Int))]) ([true, true] ++ (List.replicate 5 false)) true (by kernel_rfl) (by kernel_rfl) ⟨hb1, hb2, (by first | omega | exact absurd (of_decide_eq_true hb2) (by omega)), hb3, (by first | omega | exact absurd (of_decide_eq_true hb2) (by omega)), (by first | omega | exact absurd (of_decide_eq_true hb2) (by omega)), (by first | omega | exact absurd (of_decide_eq_true hb2) (by omega)), (by first | omega | exact absurd (of_decide_eq_true hb2) (by omega)), hb4, hb5, hb6, (by first | omega | exact absurd (of_decide_eq_true hb2) (by omega)), hb7, (by first | omega | exact absurd (of_decide_eq_true hb2) (by omega)), (by first | omega | exact absurd (of_decide_eq_true hb2) (by omega)), trivial⟩ (by first | (rw [e]; rfl) | exact absurd (of_decide_eq_true hb2) (by omega)) hsim
      · skip
        exact go_ret (UK_ok n f) rfl rfl Tryd.func37 (sr' := ⟨0, [.tup [.d (.raw (.string (ByteArray.mk #[]))), .d (.raw (.string (ByteArray.mk #[]))), .d (.raw (.int .i64 ((4 : Int))))]], []⟩) (cs := [((decide (i < (↑s.size : Int))) = true), ((decide (i ≤ (9 : Int))) = false)]) [true, false] true (by kernel_rfl) (by kernel_rfl) ⟨hb1, hb2, trivial⟩ (by first | (rw [e]; rfl) | exact absurd (of_decide_eq_true hb2) (by omega)) hsim
    · skip
      exact go_ret (UK_ok n f) rfl rfl Tryd.func37 (sr' := ⟨0, [.tup [.d (.raw (.string (ByteArray.mk #[]))), .d (.raw (.string (ByteArray.mk #[]))), .d (.raw (.int .i64 ((4 : Int))))]], []⟩) (cs := [((decide (i < (↑s.size : Int))) = false)]) [false] true (by kernel_rfl) (by kernel_rfl) ⟨hb1, trivial⟩ (by first | (rw [e]; rfl) | exact absurd (of_decide_eq_true hb2) (by omega)) hsim
  | succ j ih =>
    intro k i hi hk hno E a w hsim
    have ti : i.toNat = k := by omega
    obtain ⟨n, hn⟩ : ∃ n, n = (numM (s.extract (0 : Nat) i.toNat)).1 := ⟨_, rfl⟩
    obtain ⟨f, hf⟩ : ∃ f, f = (numM (s.extract (0 : Nat) i.toNat)).2 := ⟨_, rfl⟩
    have hnb := numM_bounds (s.extract (0 : Nat) i.toNat)
    rw [← hn] at hnb
    have hend : decide (i < (s.size : Int)) = false → takeM s = (ByteArray.empty, ByteArray.empty, 4) := fun h => take_none hno (.inl (by have := of_decide_eq_false h; omega))
    have hex : i.toNat ≤ 9 → (s.extract (0 : Nat) i.toNat).size ≤ 9 := fun h => by rw [ByteArray.size_extract]; omega
    have hnext : (byteAt s i.toNat != (58 : Int)) = true → noC s (k + 1) := fun h j hj hjs => by
      rcases Nat.lt_or_ge j k with h2 | h2
      · exact hno j h2 hjs
      · obtain rfl : j = k := by omega
        rw [ti] at h; simpa using h
    have ih := fun h => ih (k + 1) (IntKind.i64.wrap (i + 1)) (by rw [wrapI (i + 1) (by omega)]; omega) (by omega) h
    have hT : decide (i < (s.size : Int)) = true → (byteAt s i.toNat != (58 : Int)) = false → takeM s = if f = 0 ∧ 0 ≤ n ∧ n < (s.size : Int) - (k + 1) ∧ byteAt s (k + 1 + n.toNat) = 44 then (s.extract (k + 1) (k + 1 + n.toNat), s.extract (k + 1 + (n.toNat + 1)) s.size, 0) else (ByteArray.empty, ByteArray.empty, 4) := fun a b => by
      have a := of_decide_eq_true a
      have b : byteAt s k = 58 := by rw [ti] at b; simpa using b
      obtain ⟨g1, g2, g3⟩ := cut_at hno (by omega) b
      have hrs : (restM s).size = s.size - (k + 1) := by rw [g2, ByteArray.size_extract]; omega
      have hhs : (headM s).size ≤ 9 := by rw [g1, ByteArray.size_extract]; omega
      have g1' : headM s = s.extract 0 i.toNat := by rw [g1, ti]
      unfold takeM
      rw [g1', ← hn, ← hf, g3]
      have hby : ∀ m, m < s.size - (k + 1) → byteAt (restM s) m = byteAt s (k + 1 + m) := fun m hm => by
        rw [byteAt_list _ m (by rw [hrs]; exact hm), byteAt_list s (k + 1 + m) (by omega)]
        congr 2
        have e := extract_ba s (k + 1) s.size
        rw [← g2] at e
        have : (restM s).data.toList[m]? = s.data.toList[k + 1 + m]? := by
          rw [e, List.getElem?_take, if_pos (by omega), List.getElem?_drop]
        rw [List.getElem?_eq_getElem (by rw [← size_ba, hrs]; exact hm), List.getElem?_eq_getElem (by rw [← size_ba]; omega)] at this
        exact Option.some.inj this
      by_cases hc : f = 0 ∧ 0 ≤ n ∧ n < (s.size : Int) - (k + 1) ∧ byteAt s (k + 1 + n.toNat) = 44
      · obtain ⟨c1, c2, c3, c4⟩ := hc
        rw [if_pos (show f = 0 ∧ 0 ≤ n ∧ n < (s.size : Int) - (k + 1) ∧ byteAt s (k + 1 + n.toNat) = 44 from ⟨c1, c2, c3, c4⟩), if_pos (show true = true ∧ f = 0 ∧ (s.extract 0 i.toNat).size ≤ 9 ∧ 0 ≤ n ∧ n < ((restM s).size : Int) ∧ byteAt (restM s) n.toNat = 44 from ⟨rfl, c1, by rw [← g1']; exact hhs, c2, by rw [hrs]; omega, by rw [hby _ (by omega)]; exact c4⟩), g2]
        have x1 : (s.extract (k + 1) s.size).extract 0 n.toNat = s.extract (k + 1) (k + 1 + n.toNat) := by
          apply ext_ba
          simp only [extract_ba]
          rw [List.drop_zero, List.take_take]
          congr 1; omega
        have x2 : (s.extract (k + 1) s.size).extract (n.toNat + 1) (s.extract (k + 1) s.size).size = s.extract (k + 1 + (n.toNat + 1)) s.size := by
          apply ext_ba
          rw [ByteArray.size_extract]
          simp only [extract_ba]
          rw [List.drop_take, List.drop_drop, List.take_take]
          congr 1; omega
        rw [x1, x2]
      · rw [if_neg hc, if_neg]
        rintro ⟨-, c1, -, c2, c3, c4⟩
        rw [hrs] at c3
        exact hc ⟨c1, c2, by omega, by rw [← hby _ (by omega)]; exact c4⟩
    have wa : decide (i < (s.size : Int)) = true → IntKind.i64.wrap (IntKind.i64.wrap ((s.size : Int) - i) - (1 : Int)) = (s.size : Int) - i - 1 := fun a => by
      have a := of_decide_eq_true a
      rw [wrapI ((s.size : Int) - i) (by omega), wrapI _ (by omega)]
    have w1 : IntKind.i64.wrap (i + (1 : Int)) = i + 1 := wrapI _ (by omega)
    have w2 : IntKind.i64.wrap (i + (2 : Int)) = i + 2 := wrapI _ (by omega)
    have wb : 0 ≤ n → n < (s.size : Int) → IntKind.i64.wrap (IntKind.i64.wrap (i + (1 : Int)) + n) = i + 1 + n := fun a b => by rw [w1]; exact wrapI _ (by omega)
    have wc : 0 ≤ n → n < (s.size : Int) → IntKind.i64.wrap (IntKind.i64.wrap (i + (2 : Int)) + n) = i + 2 + n := fun a b => by rw [w2]; exact wrapI _ (by omega)
    have n4 : (f != (0 : Int)) = true → ¬ (f = 0 ∧ 0 ≤ n ∧ n < (s.size : Int) - (k + 1) ∧ byteAt s (k + 1 + n.toNat) = 44) := fun h c => by rw [c.1] at h; cases h
    have n5 : decide (n < (0 : Int)) = true → ¬ (f = 0 ∧ 0 ≤ n ∧ n < (s.size : Int) - (k + 1) ∧ byteAt s (k + 1 + n.toNat) = 44) := fun h c => by have := of_decide_eq_true h; omega
    have n6 : decide (i < (s.size : Int)) = true → decide (IntKind.i64.wrap (IntKind.i64.wrap ((s.size : Int) - i) - (1 : Int)) ≤ n) = true → ¬ (f = 0 ∧ 0 ≤ n ∧ n < (s.size : Int) - (k + 1) ∧ byteAt s (k + 1 + n.toNat) = 44) := fun a h c => by have := of_decide_eq_true h; rw [wa a] at this; omega
    have n7 : (byteAt s (IntKind.i64.wrap (IntKind.i64.wrap (i + (1 : Int)) + n)).toNat != (44 : Int)) = true → ¬ (f = 0 ∧ 0 ≤ n ∧ n < (s.size : Int) - (k + 1) ∧ byteAt s (k + 1 + n.toNat) = 44) := fun h c => by
      rw [wb c.2.1 (by omega), show (i + 1 + n).toNat = k + 1 + n.toNat by omega, c.2.2.2] at h; cases h
    have p7 : decide (i < (s.size : Int)) = true → (f != (0 : Int)) = false → decide (n < (0 : Int)) = false → decide (IntKind.i64.wrap (IntKind.i64.wrap ((s.size : Int) - i) - (1 : Int)) ≤ n) = false → (byteAt s (IntKind.i64.wrap (IntKind.i64.wrap (i + (1 : Int)) + n)).toNat != (44 : Int)) = false →
        (f = 0 ∧ 0 ≤ n ∧ n < (s.size : Int) - (k + 1) ∧ byteAt s (k + 1 + n.toNat) = 44) ∧ (s.extract (IntKind.i64.wrap (i + (1 : Int))).toNat (IntKind.i64.wrap (IntKind.i64.wrap (i + (1 : Int)) + n)).toNat = s.extract (k + 1) (k + 1 + n.toNat)) ∧ s.extract (IntKind.i64.wrap (IntKind.i64.wrap (i + (2 : Int)) + n)).toNat (s.size : Int).toNat = s.extract (k + 1 + (n.toNat + 1)) s.size := fun a b c d e => by
      have k5 := of_decide_eq_false c
      have k6 := of_decide_eq_false d
      rw [wa a] at k6
      have x1 := wb (by omega) (by omega)
      have x2 := wc (by omega) (by omega)
      rw [x1, show (i + 1 + n).toNat = k + 1 + n.toNat by omega] at e
      refine ⟨⟨by simpa using b, by omega, by omega, by simpa using e⟩, ?_, ?_⟩
      · rw [x1, w1, show (i + 1).toNat = k + 1 by omega, show (i + 1 + n).toNat = k + 1 + n.toNat by omega]
      · rw [x2, show (i + 2 + n).toNat = k + 1 + (n.toNat + 1) by omega, Int.toNat_natCast]
    rcases Bool.eq_false_or_eq_true (decide (i < (↑s.size : Int))) with hb1 | hb1
    · skip
      rcases Bool.eq_false_or_eq_true (decide (i ≤ (9 : Int))) with hb2 | hb2
      · skip
        rcases Bool.eq_false_or_eq_true (byteAt s i.toNat != (58 : Int)) with hb3 | hb3
        · skip
          refine go_head (UK_ok n f) rfl rfl (k' := loopAt Tryd.f37 0) (s' := mk 0 67 [(0, .d (.raw (.string (s)))), (5, .d (.raw (.int .i64 (IntKind.i64.wrap (i + (1 : Int))))))] []) (cs := [((decide (i < (↑s.size : Int))) = true), ((decide (i ≤ (9 : Int))) = true), ((0 : Int) ≤ i ∧ i < (↑s.size : Int)), ((byteAt s i.toNat != (58 : Int)) = true)]) [true, true, true] [0,5] (by kernel_rfl) (by kernel_rfl) ⟨hb1, hb2, (by first | exact hn | exact hf | exact hex (by (have := of_decide_eq_true hb2; omega)) | omega | (have k1 := of_decide_eq_true hb1; omega) | (have k1 := of_decide_eq_true hb1; have k5 := of_decide_eq_false hb5; have k6 := of_decide_eq_false hb6; rw [wa hb1] at k6; rw [wb (by omega) (by omega)]; omega) | (have k1 := of_decide_eq_true hb1; have k5 := of_decide_eq_false hb5; have k6 := of_decide_eq_false hb6; rw [wa hb1] at k6; rw [wb (by omega) (by omega), w1]; omega) | (have k1 := of_decide_eq_true hb1; have k5 := of_decide_eq_false hb5; have k6 := of_decide_eq_false hb6; rw [wa hb1] at k6; rw [wc (by omega) (by omega)]; omega)), hb3, trivial⟩ hsim fun E a w hsim => ?_
          exact ih (hnext hb3) E a w hsim
        · skip
          rcases Bool.eq_false_or_eq_true (f != (0 : Int)) with hb4 | hb4
          · skip
            exact go_ret (UK_ok n f) rfl rfl Tryd.func37 (sr' := ⟨0, [.tup [.d (.raw (.string (ByteArray.mk #[]))), .d (.raw (.string (ByteArray.mk #[]))), .d (.raw (.int .i64 ((4 : Int))))]], []⟩) (cs := [((decide (i < (↑s.size : Int))) = true), ((decide (i ≤ (9 : Int))) = true), ((0 : Int) ≤ i ∧ i < (↑s.size : Int)), ((byteAt s i.toNat != (58 : Int)) = false), ((0 : Int) ≤ (0 : Int) ∧ (0 : Int) ≤ i ∧ i ≤ (↑s.size : Int)), ((s.extract (0 : Nat) i.toNat).size ≤ (9 : Nat)), (n = (numM (s.extract (0 : Nat) i.toNat)).fst), (f = (numM (s.extract (0 : Nat) i.toNat)).snd), ((f != (0 : Int)) = true)]) [true, true, false, true] true (by kernel_rfl) (by kernel_rfl) ⟨hb1, hb2, (by first | exact hn | exact hf | exact hex (by (have := of_decide_eq_true hb2; omega)) | omega | (have k1 := of_decide_eq_true hb1; omega) | (have k1 := of_decide_eq_true hb1; have k5 := of_decide_eq_false hb5; have k6 := of_decide_eq_false hb6; rw [wa hb1] at k6; rw [wb (by omega) (by omega)]; omega) | (have k1 := of_decide_eq_true hb1; have k5 := of_decide_eq_false hb5; have k6 := of_decide_eq_false hb6; rw [wa hb1] at k6; rw [wb (by omega) (by omega), w1]; omega) | (have k1 := of_decide_eq_true hb1; have k5 := of_decide_eq_false hb5; have k6 := of_decide_eq_false hb6; rw [wa hb1] at k6; rw [wc (by omega) (by omega)]; omega)), hb3, (by first | exact hn | exact hf | exact hex (by (have := of_decide_eq_true hb2; omega)) | omega | (have k1 := of_decide_eq_true hb1; omega) | (have k1 := of_decide_eq_true hb1; have k5 := of_decide_eq_false hb5; have k6 := of_decide_eq_false hb6; rw [wa hb1] at k6; rw [wb (by omega) (by omega)]; omega) | (have k1 := of_decide_eq_true hb1; have k5 := of_decide_eq_false hb5; have k6 := of_decide_eq_false hb6; rw [wa hb1] at k6; rw [wb (by omega) (by omega), w1]; omega) | (have k1 := of_decide_eq_true hb1; have k5 := of_decide_eq_false hb5; have k6 := of_decide_eq_false hb6; rw [wa hb1] at k6; rw [wc (by omega) (by omega)]; omega)), (by first | exact hn | exact hf | exact hex (by (have := of_decide_eq_true hb2; omega)) | omega | (have k1 := of_decide_eq_true hb1; omega) | (have k1 := of_decide_eq_true hb1; have k5 := of_decide_eq_false hb5; have k6 := of_decide_eq_false hb6; rw [wa hb1] at k6; rw [wb (by omega) (by omega)]; omega) | (have k1 := of_decide_eq_true hb1; have k5 := of_decide_eq_false hb5; have k6 := of_decide_eq_false hb6; rw [wa hb1] at k6; rw [wb (by omega) (by omega), w1]; omega) | (have k1 := of_decide_eq_true hb1; have k5 := of_decide_eq_false hb5; have k6 := of_decide_eq_false hb6; rw [wa hb1] at k6; rw [wc (by omega) (by omega)]; omega)), (by first | exact hn | exact hf | exact hex (by (have := of_decide_eq_true hb2; omega)) | omega | (have k1 := of_decide_eq_true hb1; omega) | (have k1 := of_decide_eq_true hb1; have k5 := of_decide_eq_false hb5; have k6 := of_decide_eq_false hb6; rw [wa hb1] at k6; rw [wb (by omega) (by omega)]; omega) | (have k1 := of_decide_eq_true hb1; have k5 := of_decide_eq_false hb5; have k6 := of_decide_eq_false hb6; rw [wa hb1] at k6; rw [wb (by omega) (by omega), w1]; omega) | (have k1 := of_decide_eq_true hb1; have k5 := of_decide_eq_false hb5; have k6 := of_decide_eq_false hb6; rw [wa hb1] at k6; rw [wc (by omega) (by omega)]; omega)), (by first | exact hn | exact hf | exact hex (by (have := of_decide_eq_true hb2; omega)) | omega | (have k1 := of_decide_eq_true hb1; omega) | (have k1 := of_decide_eq_true hb1; have k5 := of_decide_eq_false hb5; have k6 := of_decide_eq_false hb6; rw [wa hb1] at k6; rw [wb (by omega) (by omega)]; omega) | (have k1 := of_decide_eq_true hb1; have k5 := of_decide_eq_false hb5; have k6 := of_decide_eq_false hb6; rw [wa hb1] at k6; rw [wb (by omega) (by omega), w1]; omega) | (have k1 := of_decide_eq_true hb1; have k5 := of_decide_eq_false hb5; have k6 := of_decide_eq_false hb6; rw [wa hb1] at k6; rw [wc (by omega) (by omega)]; omega)), hb4, trivial⟩ (by first | (rw [hend hb8]; done) | (rw [hend hb1]; done) | (rw [(hT hb1 hb3).trans (if_neg (n4 hb4))]; done) | (rw [(hT hb1 hb3).trans (if_neg (n5 hb5))]; done) | (rw [(hT hb1 hb3).trans (if_neg (n6 hb1 hb6))]; done) | (rw [(hT hb1 hb3).trans (if_neg (n7 hb7))]; done) | (rw [(hT hb1 hb3).trans (if_pos (p7 hb1 hb4 hb5 hb6 hb7).1), (p7 hb1 hb4 hb5 hb6 hb7).2.1, (p7 hb1 hb4 hb5 hb6 hb7).2.2]; done) | (rw [hend hb8]; rfl) | (rw [hend hb1]; rfl) | (rw [(hT hb1 hb3).trans (if_neg (n4 hb4))]; rfl) | (rw [(hT hb1 hb3).trans (if_neg (n5 hb5))]; rfl) | (rw [(hT hb1 hb3).trans (if_neg (n6 hb1 hb6))]; rfl) | (rw [(hT hb1 hb3).trans (if_neg (n7 hb7))]; rfl) | (rw [(hT hb1 hb3).trans (if_pos (p7 hb1 hb4 hb5 hb6 hb7).1), (p7 hb1 hb4 hb5 hb6 hb7).2.1, (p7 hb1 hb4 hb5 hb6 hb7).2.2]; rfl) | (exfalso; have := of_decide_eq_false hb2; omega)) hsim
          · skip
            rcases Bool.eq_false_or_eq_true (decide (n < (0 : Int))) with hb5 | hb5
            · skip
              exact go_ret (UK_ok n f) rfl rfl Tryd.func37 (sr' := ⟨0, [.tup [.d (.raw (.string (ByteArray.mk #[]))), .d (.raw (.string (ByteArray.mk #[]))), .d (.raw (.int .i64 ((4 : Int))))]], []⟩) (cs := [((decide (i < (↑s.size : Int))) = true), ((decide (i ≤ (9 : Int))) = true), ((0 : Int) ≤ i ∧ i < (↑s.size : Int)), ((byteAt s i.toNat != (58 : Int)) = false), ((0 : Int) ≤ (0 : Int) ∧ (0 : Int) ≤ i ∧ i ≤ (↑s.size : Int)), ((s.extract (0 : Nat) i.toNat).size ≤ (9 : Nat)), (n = (numM (s.extract (0 : Nat) i.toNat)).fst), (f = (numM (s.extract (0 : Nat) i.toNat)).snd), ((f != (0 : Int)) = false), ((decide (n < (0 : Int))) = true)]) [true, true, false, false, true] true (by kernel_rfl) (by kernel_rfl) ⟨hb1, hb2, (by first | exact hn | exact hf | exact hex (by (have := of_decide_eq_true hb2; omega)) | omega | (have k1 := of_decide_eq_true hb1; omega) | (have k1 := of_decide_eq_true hb1; have k5 := of_decide_eq_false hb5; have k6 := of_decide_eq_false hb6; rw [wa hb1] at k6; rw [wb (by omega) (by omega)]; omega) | (have k1 := of_decide_eq_true hb1; have k5 := of_decide_eq_false hb5; have k6 := of_decide_eq_false hb6; rw [wa hb1] at k6; rw [wb (by omega) (by omega), w1]; omega) | (have k1 := of_decide_eq_true hb1; have k5 := of_decide_eq_false hb5; have k6 := of_decide_eq_false hb6; rw [wa hb1] at k6; rw [wc (by omega) (by omega)]; omega)), hb3, (by first | exact hn | exact hf | exact hex (by (have := of_decide_eq_true hb2; omega)) | omega | (have k1 := of_decide_eq_true hb1; omega) | (have k1 := of_decide_eq_true hb1; have k5 := of_decide_eq_false hb5; have k6 := of_decide_eq_false hb6; rw [wa hb1] at k6; rw [wb (by omega) (by omega)]; omega) | (have k1 := of_decide_eq_true hb1; have k5 := of_decide_eq_false hb5; have k6 := of_decide_eq_false hb6; rw [wa hb1] at k6; rw [wb (by omega) (by omega), w1]; omega) | (have k1 := of_decide_eq_true hb1; have k5 := of_decide_eq_false hb5; have k6 := of_decide_eq_false hb6; rw [wa hb1] at k6; rw [wc (by omega) (by omega)]; omega)), (by first | exact hn | exact hf | exact hex (by (have := of_decide_eq_true hb2; omega)) | omega | (have k1 := of_decide_eq_true hb1; omega) | (have k1 := of_decide_eq_true hb1; have k5 := of_decide_eq_false hb5; have k6 := of_decide_eq_false hb6; rw [wa hb1] at k6; rw [wb (by omega) (by omega)]; omega) | (have k1 := of_decide_eq_true hb1; have k5 := of_decide_eq_false hb5; have k6 := of_decide_eq_false hb6; rw [wa hb1] at k6; rw [wb (by omega) (by omega), w1]; omega) | (have k1 := of_decide_eq_true hb1; have k5 := of_decide_eq_false hb5; have k6 := of_decide_eq_false hb6; rw [wa hb1] at k6; rw [wc (by omega) (by omega)]; omega)), (by first | exact hn | exact hf | exact hex (by (have := of_decide_eq_true hb2; omega)) | omega | (have k1 := of_decide_eq_true hb1; omega) | (have k1 := of_decide_eq_true hb1; have k5 := of_decide_eq_false hb5; have k6 := of_decide_eq_false hb6; rw [wa hb1] at k6; rw [wb (by omega) (by omega)]; omega) | (have k1 := of_decide_eq_true hb1; have k5 := of_decide_eq_false hb5; have k6 := of_decide_eq_false hb6; rw [wa hb1] at k6; rw [wb (by omega) (by omega), w1]; omega) | (have k1 := of_decide_eq_true hb1; have k5 := of_decide_eq_false hb5; have k6 := of_decide_eq_false hb6; rw [wa hb1] at k6; rw [wc (by omega) (by omega)]; omega)), (by first | exact hn | exact hf | exact hex (by (have := of_decide_eq_true hb2; omega)) | omega | (have k1 := of_decide_eq_true hb1; omega) | (have k1 := of_decide_eq_true hb1; have k5 := of_decide_eq_false hb5; have k6 := of_decide_eq_false hb6; rw [wa hb1] at k6; rw [wb (by omega) (by omega)]; omega) | (have k1 := of_decide_eq_true hb1; have k5 := of_decide_eq_false hb5; have k6 := of_decide_eq_false hb6; rw [wa hb1] at k6; rw [wb (by omega) (by omega), w1]; omega) | (have k1 := of_decide_eq_true hb1; have k5 := of_decide_eq_false hb5; have k6 := of_decide_eq_false hb6; rw [wa hb1] at k6; rw [wc (by omega) (by omega)]; omega)), hb4, hb5, trivial⟩ (by first | (rw [hend hb8]; done) | (rw [hend hb1]; done) | (rw [(hT hb1 hb3).trans (if_neg (n4 hb4))]; done) | (rw [(hT hb1 hb3).trans (if_neg (n5 hb5))]; done) | (rw [(hT hb1 hb3).trans (if_neg (n6 hb1 hb6))]; done) | (rw [(hT hb1 hb3).trans (if_neg (n7 hb7))]; done) | (rw [(hT hb1 hb3).trans (if_pos (p7 hb1 hb4 hb5 hb6 hb7).1), (p7 hb1 hb4 hb5 hb6 hb7).2.1, (p7 hb1 hb4 hb5 hb6 hb7).2.2]; done) | (rw [hend hb8]; rfl) | (rw [hend hb1]; rfl) | (rw [(hT hb1 hb3).trans (if_neg (n4 hb4))]; rfl) | (rw [(hT hb1 hb3).trans (if_neg (n5 hb5))]; rfl) | (rw [(hT hb1 hb3).trans (if_neg (n6 hb1 hb6))]; rfl) | (rw [(hT hb1 hb3).trans (if_neg (n7 hb7))]; rfl) | (rw [(hT hb1 hb3).trans (if_pos (p7 hb1 hb4 hb5 hb6 hb7).1), (p7 hb1 hb4 hb5 hb6 hb7).2.1, (p7 hb1 hb4 hb5 hb6 hb7).2.2]; rfl) | (exfalso; have := of_decide_eq_false hb2; omega)) hsim
            · skip
              rcases Bool.eq_false_or_eq_true (decide (IntKind.i64.wrap (IntKind.i64.wrap ((↑s.size : Int) - i) - (1 : Int)) ≤ n)) with hb6 | hb6
              · skip
                exact go_ret (UK_ok n f) rfl rfl Tryd.func37 (sr' := ⟨0, [.tup [.d (.raw (.string (ByteArray.mk #[]))), .d (.raw (.string (ByteArray.mk #[]))), .d (.raw (.int .i64 ((4 : Int))))]], []⟩) (cs := [((decide (i < (↑s.size : Int))) = true), ((decide (i ≤ (9 : Int))) = true), ((0 : Int) ≤ i ∧ i < (↑s.size : Int)), ((byteAt s i.toNat != (58 : Int)) = false), ((0 : Int) ≤ (0 : Int) ∧ (0 : Int) ≤ i ∧ i ≤ (↑s.size : Int)), ((s.extract (0 : Nat) i.toNat).size ≤ (9 : Nat)), (n = (numM (s.extract (0 : Nat) i.toNat)).fst), (f = (numM (s.extract (0 : Nat) i.toNat)).snd), ((f != (0 : Int)) = false), ((decide (n < (0 : Int))) = false), ((decide (IntKind.i64.wrap (IntKind.i64.wrap ((↑s.size : Int) - i) - (1 : Int)) ≤ n)) = true)]) [true, true, false, false, false, true] true (by kernel_rfl) (by kernel_rfl) ⟨hb1, hb2, (by first | exact hn | exact hf | exact hex (by (have := of_decide_eq_true hb2; omega)) | omega | (have k1 := of_decide_eq_true hb1; omega) | (have k1 := of_decide_eq_true hb1; have k5 := of_decide_eq_false hb5; have k6 := of_decide_eq_false hb6; rw [wa hb1] at k6; rw [wb (by omega) (by omega)]; omega) | (have k1 := of_decide_eq_true hb1; have k5 := of_decide_eq_false hb5; have k6 := of_decide_eq_false hb6; rw [wa hb1] at k6; rw [wb (by omega) (by omega), w1]; omega) | (have k1 := of_decide_eq_true hb1; have k5 := of_decide_eq_false hb5; have k6 := of_decide_eq_false hb6; rw [wa hb1] at k6; rw [wc (by omega) (by omega)]; omega)), hb3, (by first | exact hn | exact hf | exact hex (by (have := of_decide_eq_true hb2; omega)) | omega | (have k1 := of_decide_eq_true hb1; omega) | (have k1 := of_decide_eq_true hb1; have k5 := of_decide_eq_false hb5; have k6 := of_decide_eq_false hb6; rw [wa hb1] at k6; rw [wb (by omega) (by omega)]; omega) | (have k1 := of_decide_eq_true hb1; have k5 := of_decide_eq_false hb5; have k6 := of_decide_eq_false hb6; rw [wa hb1] at k6; rw [wb (by omega) (by omega), w1]; omega) | (have k1 := of_decide_eq_true hb1; have k5 := of_decide_eq_false hb5; have k6 := of_decide_eq_false hb6; rw [wa hb1] at k6; rw [wc (by omega) (by omega)]; omega)), (by first | exact hn | exact hf | exact hex (by (have := of_decide_eq_true hb2; omega)) | omega | (have k1 := of_decide_eq_true hb1; omega) | (have k1 := of_decide_eq_true hb1; have k5 := of_decide_eq_false hb5; have k6 := of_decide_eq_false hb6; rw [wa hb1] at k6; rw [wb (by omega) (by omega)]; omega) | (have k1 := of_decide_eq_true hb1; have k5 := of_decide_eq_false hb5; have k6 := of_decide_eq_false hb6; rw [wa hb1] at k6; rw [wb (by omega) (by omega), w1]; omega) | (have k1 := of_decide_eq_true hb1; have k5 := of_decide_eq_false hb5; have k6 := of_decide_eq_false hb6; rw [wa hb1] at k6; rw [wc (by omega) (by omega)]; omega)), (by first | exact hn | exact hf | exact hex (by (have := of_decide_eq_true hb2; omega)) | omega | (have k1 := of_decide_eq_true hb1; omega) | (have k1 := of_decide_eq_true hb1; have k5 := of_decide_eq_false hb5; have k6 := of_decide_eq_false hb6; rw [wa hb1] at k6; rw [wb (by omega) (by omega)]; omega) | (have k1 := of_decide_eq_true hb1; have k5 := of_decide_eq_false hb5; have k6 := of_decide_eq_false hb6; rw [wa hb1] at k6; rw [wb (by omega) (by omega), w1]; omega) | (have k1 := of_decide_eq_true hb1; have k5 := of_decide_eq_false hb5; have k6 := of_decide_eq_false hb6; rw [wa hb1] at k6; rw [wc (by omega) (by omega)]; omega)), (by first | exact hn | exact hf | exact hex (by (have := of_decide_eq_true hb2; omega)) | omega | (have k1 := of_decide_eq_true hb1; omega) | (have k1 := of_decide_eq_true hb1; have k5 := of_decide_eq_false hb5; have k6 := of_decide_eq_false hb6; rw [wa hb1] at k6; rw [wb (by omega) (by omega)]; omega) | (have k1 := of_decide_eq_true hb1; have k5 := of_decide_eq_false hb5; have k6 := of_decide_eq_false hb6; rw [wa hb1] at k6; rw [wb (by omega) (by omega), w1]; omega) | (have k1 := of_decide_eq_true hb1; have k5 := of_decide_eq_false hb5; have k6 := of_decide_eq_false hb6; rw [wa hb1] at k6; rw [wc (by omega) (by omega)]; omega)), hb4, hb5, hb6, trivial⟩ (by first | (rw [hend hb8]; done) | (rw [hend hb1]; done) | (rw [(hT hb1 hb3).trans (if_neg (n4 hb4))]; done) | (rw [(hT hb1 hb3).trans (if_neg (n5 hb5))]; done) | (rw [(hT hb1 hb3).trans (if_neg (n6 hb1 hb6))]; done) | (rw [(hT hb1 hb3).trans (if_neg (n7 hb7))]; done) | (rw [(hT hb1 hb3).trans (if_pos (p7 hb1 hb4 hb5 hb6 hb7).1), (p7 hb1 hb4 hb5 hb6 hb7).2.1, (p7 hb1 hb4 hb5 hb6 hb7).2.2]; done) | (rw [hend hb8]; rfl) | (rw [hend hb1]; rfl) | (rw [(hT hb1 hb3).trans (if_neg (n4 hb4))]; rfl) | (rw [(hT hb1 hb3).trans (if_neg (n5 hb5))]; rfl) | (rw [(hT hb1 hb3).trans (if_neg (n6 hb1 hb6))]; rfl) | (rw [(hT hb1 hb3).trans (if_neg (n7 hb7))]; rfl) | (rw [(hT hb1 hb3).trans (if_pos (p7 hb1 hb4 hb5 hb6 hb7).1), (p7 hb1 hb4 hb5 hb6 hb7).2.1, (p7 hb1 hb4 hb5 hb6 hb7).2.2]; rfl) | (exfalso; have := of_decide_eq_false hb2; omega)) hsim
              · skip
                rcases Bool.eq_false_or_eq_true (byteAt s (IntKind.i64.wrap (IntKind.i64.wrap (i + (1 : Int)) + n)).toNat != (44 : Int)) with hb7 | hb7
                · skip
                  exact go_ret (UK_ok n f) rfl rfl Tryd.func37 (sr' := ⟨0, [.tup [.d (.raw (.string (ByteArray.mk #[]))), .d (.raw (.string (ByteArray.mk #[]))), .d (.raw (.int .i64 ((4 : Int))))]], []⟩) (cs := [((decide (i < (↑s.size : Int))) = true), ((decide (i ≤ (9 : Int))) = true), ((0 : Int) ≤ i ∧ i < (↑s.size : Int)), ((byteAt s i.toNat != (58 : Int)) = false), ((0 : Int) ≤ (0 : Int) ∧ (0 : Int) ≤ i ∧ i ≤ (↑s.size : Int)), ((s.extract (0 : Nat) i.toNat).size ≤ (9 : Nat)), (n = (numM (s.extract (0 : Nat) i.toNat)).fst), (f = (numM (s.extract (0 : Nat) i.toNat)).snd), ((f != (0 : Int)) = false), ((decide (n < (0 : Int))) = false), ((decide (IntKind.i64.wrap (IntKind.i64.wrap ((↑s.size : Int) - i) - (1 : Int)) ≤ n)) = false), ((0 : Int) ≤ IntKind.i64.wrap (IntKind.i64.wrap (i + (1 : Int)) + n) ∧ IntKind.i64.wrap (IntKind.i64.wrap (i + (1 : Int)) + n) < (↑s.size : Int)), ((byteAt s (IntKind.i64.wrap (IntKind.i64.wrap (i + (1 : Int)) + n)).toNat != (44 : Int)) = true)]) ([true, true] ++ (List.replicate 4 false) ++ [true]) true (by kernel_rfl) (by kernel_rfl) ⟨hb1, hb2, (by first | exact hn | exact hf | exact hex (by (have := of_decide_eq_true hb2; omega)) | omega | (have k1 := of_decide_eq_true hb1; omega) | (have k1 := of_decide_eq_true hb1; have k5 := of_decide_eq_false hb5; have k6 := of_decide_eq_false hb6; rw [wa hb1] at k6; rw [wb (by omega) (by omega)]; omega) | (have k1 := of_decide_eq_true hb1; have k5 := of_decide_eq_false hb5; have k6 := of_decide_eq_false hb6; rw [wa hb1] at k6; rw [wb (by omega) (by omega), w1]; omega) | (have k1 := of_decide_eq_true hb1; have k5 := of_decide_eq_false hb5; have k6 := of_decide_eq_false hb6; rw [wa hb1] at k6; rw [wc (by omega) (by omega)]; omega)), hb3, (by first | exact hn | exact hf | exact hex (by (have := of_decide_eq_true hb2; omega)) | omega | (have k1 := of_decide_eq_true hb1; omega) | (have k1 := of_decide_eq_true hb1; have k5 := of_decide_eq_false hb5; have k6 := of_decide_eq_false hb6; rw [wa hb1] at k6; rw [wb (by omega) (by omega)]; omega) | (have k1 := of_decide_eq_true hb1; have k5 := of_decide_eq_false hb5; have k6 := of_decide_eq_false hb6; rw [wa hb1] at k6; rw [wb (by omega) (by omega), w1]; omega) | (have k1 := of_decide_eq_true hb1; have k5 := of_decide_eq_false hb5; have k6 := of_decide_eq_false hb6; rw [wa hb1] at k6; rw [wc (by omega) (by omega)]; omega)), (by first | exact hn | exact hf | exact hex (by (have := of_decide_eq_true hb2; omega)) | omega | (have k1 := of_decide_eq_true hb1; omega) | (have k1 := of_decide_eq_true hb1; have k5 := of_decide_eq_false hb5; have k6 := of_decide_eq_false hb6; rw [wa hb1] at k6; rw [wb (by omega) (by omega)]; omega) | (have k1 := of_decide_eq_true hb1; have k5 := of_decide_eq_false hb5; have k6 := of_decide_eq_false hb6; rw [wa hb1] at k6; rw [wb (by omega) (by omega), w1]; omega) | (have k1 := of_decide_eq_true hb1; have k5 := of_decide_eq_false hb5; have k6 := of_decide_eq_false hb6; rw [wa hb1] at k6; rw [wc (by omega) (by omega)]; omega)), (by first | exact hn | exact hf | exact hex (by (have := of_decide_eq_true hb2; omega)) | omega | (have k1 := of_decide_eq_true hb1; omega) | (have k1 := of_decide_eq_true hb1; have k5 := of_decide_eq_false hb5; have k6 := of_decide_eq_false hb6; rw [wa hb1] at k6; rw [wb (by omega) (by omega)]; omega) | (have k1 := of_decide_eq_true hb1; have k5 := of_decide_eq_false hb5; have k6 := of_decide_eq_false hb6; rw [wa hb1] at k6; rw [wb (by omega) (by omega), w1]; omega) | (have k1 := of_decide_eq_true hb1; have k5 := of_decide_eq_false hb5; have k6 := of_decide_eq_false hb6; rw [wa hb1] at k6; rw [wc (by omega) (by omega)]; omega)), (by first | exact hn | exact hf | exact hex (by (have := of_decide_eq_true hb2; omega)) | omega | (have k1 := of_decide_eq_true hb1; omega) | (have k1 := of_decide_eq_true hb1; have k5 := of_decide_eq_false hb5; have k6 := of_decide_eq_false hb6; rw [wa hb1] at k6; rw [wb (by omega) (by omega)]; omega) | (have k1 := of_decide_eq_true hb1; have k5 := of_decide_eq_false hb5; have k6 := of_decide_eq_false hb6; rw [wa hb1] at k6; rw [wb (by omega) (by omega), w1]; omega) | (have k1 := of_decide_eq_true hb1; have k5 := of_decide_eq_false hb5; have k6 := of_decide_eq_false hb6; rw [wa hb1] at k6; rw [wc (by omega) (by omega)]; omega)), hb4, hb5, hb6, (by first | exact hn | exact hf | exact hex (by (have := of_decide_eq_true hb2; omega)) | omega | (have k1 := of_decide_eq_true hb1; omega) | (have k1 := of_decide_eq_true hb1; have k5 := of_decide_eq_false hb5; have k6 := of_decide_eq_false hb6; rw [wa hb1] at k6; rw [wb (by omega) (by omega)]; omega) | (have k1 := of_decide_eq_true hb1; have k5 := of_decide_eq_false hb5; have k6 := of_decide_eq_false hb6; rw [wa hb1] at k6; rw [wb (by omega) (by omega), w1]; omega) | (have k1 := of_decide_eq_true hb1; have k5 := of_decide_eq_false hb5; have k6 := of_decide_eq_false hb6; rw [wa hb1] at k6; rw [wc (by omega) (by omega)]; omega)), hb7, trivial⟩ (by first | (rw [hend hb8]; done) | (rw [hend hb1]; done) | (rw [(hT hb1 hb3).trans (if_neg (n4 hb4))]; done) | (rw [(hT hb1 hb3).trans (if_neg (n5 hb5))]; done) | (rw [(hT hb1 hb3).trans (if_neg (n6 hb1 hb6))]; done) | (rw [(hT hb1 hb3).trans (if_neg (n7 hb7))]; done) | (rw [(hT hb1 hb3).trans (if_pos (p7 hb1 hb4 hb5 hb6 hb7).1), (p7 hb1 hb4 hb5 hb6 hb7).2.1, (p7 hb1 hb4 hb5 hb6 hb7).2.2]; done) | (rw [hend hb8]; rfl) | (rw [hend hb1]; rfl) | (rw [(hT hb1 hb3).trans (if_neg (n4 hb4))]; rfl) | (rw [(hT hb1 hb3).trans (if_neg (n5 hb5))]; rfl) | (rw [(hT hb1 hb3).trans (if_neg (n6 hb1 hb6))]; rfl) | (rw [(hT hb1 hb3).trans (if_neg (n7 hb7))]; rfl) | (rw [(hT hb1 hb3).trans (if_pos (p7 hb1 hb4 hb5 hb6 hb7).1), (p7 hb1 hb4 hb5 hb6 hb7).2.1, (p7 hb1 hb4 hb5 hb6 hb7).2.2]; rfl) | (exfalso; have := of_decide_eq_false hb2; omega)) hsim
                · skip
                  exact go_ret (UK_ok n f) rfl rfl Tryd.func37 (sr' := ⟨0, [.tup [.d (.raw (.string (s.extract (IntKind.i64.wrap (i + (1 : Int))).toNat (IntKind.i64.wrap (IntKind.i64.wrap (i + (1 : Int)) + n)).toNat))), .d (.raw (.string (s.extract (IntKind.i64.wrap (IntKind.i64.wrap (i + (2 : Int)) + n)).toNat (↑s.size : Int).toNat))), .d (.raw (.int .i64 ((0 : Int))))]], []⟩) (cs := [((decide (i < (↑s.size : Int))) = true), ((decide (i ≤ (9 : Int))) = true), ((0 : Int) ≤ i ∧ i < (↑s.size : Int)), ((byteAt s i.toNat != (58 : Int)) = false), ((0 : Int) ≤ (0 : Int) ∧ (0 : Int) ≤ i ∧ i ≤ (↑s.size : Int)), ((s.extract (0 : Nat) i.toNat).size ≤ (9 : Nat)), (n = (numM (s.extract (0 : Nat) i.toNat)).fst), (f = (numM (s.extract (0 : Nat) i.toNat)).snd), ((f != (0 : Int)) = false), ((decide (n < (0 : Int))) = false), ((decide (IntKind.i64.wrap (IntKind.i64.wrap ((↑s.size : Int) - i) - (1 : Int)) ≤ n)) = false), ((0 : Int) ≤ IntKind.i64.wrap (IntKind.i64.wrap (i + (1 : Int)) + n) ∧ IntKind.i64.wrap (IntKind.i64.wrap (i + (1 : Int)) + n) < (↑s.size : Int)), ((byteAt s (IntKind.i64.wrap (IntKind.i64.wrap (i + (1 : Int)) + n)).toNat != (44 : Int)) = false), ((0 : Int) ≤ IntKind.i64.wrap (i + (1 : Int)) ∧ IntKind.i64.wrap (i + (1 : Int)) ≤ IntKind.i64.wrap (IntKind.i64.wrap (i + (1 : Int)) + n) ∧ IntKind.i64.wrap (IntKind.i64.wrap (i + (1 : Int)) + n) ≤ (↑s.size : Int)), ((0 : Int) ≤ IntKind.i64.wrap (IntKind.i64.wrap (i + (2 : Int)) + n) ∧ IntKind.i64.wrap (IntKind.i64.wrap (i + (2 : Int)) + n) ≤ (↑s.size : Int) ∧ (↑s.size : Int) ≤ (↑s.size : Int))]) ([true, true] ++ (List.replicate 5 false)) true (by kernel_rfl) (by kernel_rfl) ⟨hb1, hb2, (by first | exact hn | exact hf | exact hex (by (have := of_decide_eq_true hb2; omega)) | omega | (have k1 := of_decide_eq_true hb1; omega) | (have k1 := of_decide_eq_true hb1; have k5 := of_decide_eq_false hb5; have k6 := of_decide_eq_false hb6; rw [wa hb1] at k6; rw [wb (by omega) (by omega)]; omega) | (have k1 := of_decide_eq_true hb1; have k5 := of_decide_eq_false hb5; have k6 := of_decide_eq_false hb6; rw [wa hb1] at k6; rw [wb (by omega) (by omega), w1]; omega) | (have k1 := of_decide_eq_true hb1; have k5 := of_decide_eq_false hb5; have k6 := of_decide_eq_false hb6; rw [wa hb1] at k6; rw [wc (by omega) (by omega)]; omega)), hb3, (by first | exact hn | exact hf | exact hex (by (have := of_decide_eq_true hb2; omega)) | omega | (have k1 := of_decide_eq_true hb1; omega) | (have k1 := of_decide_eq_true hb1; have k5 := of_decide_eq_false hb5; have k6 := of_decide_eq_false hb6; rw [wa hb1] at k6; rw [wb (by omega) (by omega)]; omega) | (have k1 := of_decide_eq_true hb1; have k5 := of_decide_eq_false hb5; have k6 := of_decide_eq_false hb6; rw [wa hb1] at k6; rw [wb (by omega) (by omega), w1]; omega) | (have k1 := of_decide_eq_true hb1; have k5 := of_decide_eq_false hb5; have k6 := of_decide_eq_false hb6; rw [wa hb1] at k6; rw [wc (by omega) (by omega)]; omega)), (by first | exact hn | exact hf | exact hex (by (have := of_decide_eq_true hb2; omega)) | omega | (have k1 := of_decide_eq_true hb1; omega) | (have k1 := of_decide_eq_true hb1; have k5 := of_decide_eq_false hb5; have k6 := of_decide_eq_false hb6; rw [wa hb1] at k6; rw [wb (by omega) (by omega)]; omega) | (have k1 := of_decide_eq_true hb1; have k5 := of_decide_eq_false hb5; have k6 := of_decide_eq_false hb6; rw [wa hb1] at k6; rw [wb (by omega) (by omega), w1]; omega) | (have k1 := of_decide_eq_true hb1; have k5 := of_decide_eq_false hb5; have k6 := of_decide_eq_false hb6; rw [wa hb1] at k6; rw [wc (by omega) (by omega)]; omega)), (by first | exact hn | exact hf | exact hex (by (have := of_decide_eq_true hb2; omega)) | omega | (have k1 := of_decide_eq_true hb1; omega) | (have k1 := of_decide_eq_true hb1; have k5 := of_decide_eq_false hb5; have k6 := of_decide_eq_false hb6; rw [wa hb1] at k6; rw [wb (by omega) (by omega)]; omega) | (have k1 := of_decide_eq_true hb1; have k5 := of_decide_eq_false hb5; have k6 := of_decide_eq_false hb6; rw [wa hb1] at k6; rw [wb (by omega) (by omega), w1]; omega) | (have k1 := of_decide_eq_true hb1; have k5 := of_decide_eq_false hb5; have k6 := of_decide_eq_false hb6; rw [wa hb1] at k6; rw [wc (by omega) (by omega)]; omega)), (by first | exact hn | exact hf | exact hex (by (have := of_decide_eq_true hb2; omega)) | omega | (have k1 := of_decide_eq_true hb1; omega) | (have k1 := of_decide_eq_true hb1; have k5 := of_decide_eq_false hb5; have k6 := of_decide_eq_false hb6; rw [wa hb1] at k6; rw [wb (by omega) (by omega)]; omega) | (have k1 := of_decide_eq_true hb1; have k5 := of_decide_eq_false hb5; have k6 := of_decide_eq_false hb6; rw [wa hb1] at k6; rw [wb (by omega) (by omega), w1]; omega) | (have k1 := of_decide_eq_true hb1; have k5 := of_decide_eq_false hb5; have k6 := of_decide_eq_false hb6; rw [wa hb1] at k6; rw [wc (by omega) (by omega)]; omega)), hb4, hb5, hb6, (by first | exact hn | exact hf | exact hex (by (have := of_decide_eq_true hb2; omega)) | omega | (have k1 := of_decide_eq_true hb1; omega) | (have k1 := of_decide_eq_true hb1; have k5 := of_decide_eq_false hb5; have k6 := of_decide_eq_false hb6; rw [wa hb1] at k6; rw [wb (by omega) (by omega)]; omega) | (have k1 := of_decide_eq_true hb1; have k5 := of_decide_eq_false hb5; have k6 := of_decide_eq_false hb6; rw [wa hb1] at k6; rw [wb (by omega) (by omega), w1]; omega) | (have k1 := of_decide_eq_true hb1; have k5 := of_decide_eq_false hb5; have k6 := of_decide_eq_false hb6; rw [wa hb1] at k6; rw [wc (by omega) (by omega)]; omega)), hb7, (by first | exact hn | exact hf | exact hex (by (have := of_decide_eq_true hb2; omega)) | omega | (have k1 := of_decide_eq_true hb1; omega) | (have k1 := of_decide_eq_true hb1; have k5 := of_decide_eq_false hb5; have k6 := of_decide_eq_false hb6; rw [wa hb1] at k6; rw [wb (by omega) (by omega)]; omega) | (have k1 := of_decide_eq_true hb1; have k5 := of_decide_eq_false hb5; have k6 := of_decide_eq_false hb6; rw [wa hb1] at k6; rw [wb (by omega) (by omega), w1]; omega) | (have k1 := of_decide_eq_true hb1; have k5 := of_decide_eq_false hb5; have k6 := of_decide_eq_false hb6; rw [wa hb1] at k6; rw [wc (by omega) (by omega)]; omega)), (by first | exact hn | exact hf | exact hex (by (have := of_decide_eq_true hb2; omega)) | omega | (have k1 := of_decide_eq_true hb1; omega) | (have k1 := of_decide_eq_true hb1; have k5 := of_decide_eq_false hb5; have k6 := of_decide_eq_false hb6; rw [wa hb1] at k6; rw [wb (by omega) (by omega)]; omega) | (have k1 := of_decide_eq_true hb1; have k5 := of_decide_eq_false hb5; have k6 := of_decide_eq_false hb6; rw [wa hb1] at k6; rw [wb (by omega) (by omega), w1]; omega) | (have k1 := of_decide_eq_true hb1; have k5 := of_decide_eq_false hb5; have k6 := of_decide_eq_false hb6; rw [wa hb1] at k6; rw [wc (by omega) (by omega)]; omega)), trivial⟩ (by first | (rw [hend hb8]; done) | (rw [hend hb1]; done) | (rw [(hT hb1 hb3).trans (if_neg (n4 hb4))]; done) | (rw [(hT hb1 hb3).trans (if_neg (n5 hb5))]; done) | (rw [(hT hb1 hb3).trans (if_neg (n6 hb1 hb6))]; done) | (rw [(hT hb1 hb3).trans (if_neg (n7 hb7))]; done) | (rw [(hT hb1 hb3).trans (if_pos (p7 hb1 hb4 hb5 hb6 hb7).1), (p7 hb1 hb4 hb5 hb6 hb7).2.1, (p7 hb1 hb4 hb5 hb6 hb7).2.2]; done) | (rw [hend hb8]; rfl) | (rw [hend hb1]; rfl) | (rw [(hT hb1 hb3).trans (if_neg (n4 hb4))]; rfl) | (rw [(hT hb1 hb3).trans (if_neg (n5 hb5))]; rfl) | (rw [(hT hb1 hb3).trans (if_neg (n6 hb1 hb6))]; rfl) | (rw [(hT hb1 hb3).trans (if_neg (n7 hb7))]; rfl) | (rw [(hT hb1 hb3).trans (if_pos (p7 hb1 hb4 hb5 hb6 hb7).1), (p7 hb1 hb4 hb5 hb6 hb7).2.1, (p7 hb1 hb4 hb5 hb6 hb7).2.2]; rfl) | (exfalso; have := of_decide_eq_false hb2; omega)) hsim
      · skip
        exact go_ret (UK_ok n f) rfl rfl Tryd.func37 (sr' := ⟨0, [.tup [.d (.raw (.string (ByteArray.mk #[]))), .d (.raw (.string (ByteArray.mk #[]))), .d (.raw (.int .i64 ((4 : Int))))]], []⟩) (cs := [((decide (i < (↑s.size : Int))) = true), ((decide (i ≤ (9 : Int))) = false)]) [true, false] true (by kernel_rfl) (by kernel_rfl) ⟨hb1, hb2, trivial⟩ (by first | (rw [hend hb8]; done) | (rw [hend hb1]; done) | (rw [(hT hb1 hb3).trans (if_neg (n4 hb4))]; done) | (rw [(hT hb1 hb3).trans (if_neg (n5 hb5))]; done) | (rw [(hT hb1 hb3).trans (if_neg (n6 hb1 hb6))]; done) | (rw [(hT hb1 hb3).trans (if_neg (n7 hb7))]; done) | (rw [(hT hb1 hb3).trans (if_pos (p7 hb1 hb4 hb5 hb6 hb7).1), (p7 hb1 hb4 hb5 hb6 hb7).2.1, (p7 hb1 hb4 hb5 hb6 hb7).2.2]; done) | (rw [hend hb8]; rfl) | (rw [hend hb1]; rfl) | (rw [(hT hb1 hb3).trans (if_neg (n4 hb4))]; rfl) | (rw [(hT hb1 hb3).trans (if_neg (n5 hb5))]; rfl) | (rw [(hT hb1 hb3).trans (if_neg (n6 hb1 hb6))]; rfl) | (rw [(hT hb1 hb3).trans (if_neg (n7 hb7))]; rfl) | (rw [(hT hb1 hb3).trans (if_pos (p7 hb1 hb4 hb5 hb6 hb7).1), (p7 hb1 hb4 hb5 hb6 hb7).2.1, (p7 hb1 hb4 hb5 hb6 hb7).2.2]; rfl) | (exfalso; have := of_decide_eq_false hb2; omega)) hsim
    · skip
      exact go_ret (UK_ok n f) rfl rfl Tryd.func37 (sr' := ⟨0, [.tup [.d (.raw (.string (ByteArray.mk #[]))), .d (.raw (.string (ByteArray.mk #[]))), .d (.raw (.int .i64 ((4 : Int))))]], []⟩) (cs := [((decide (i < (↑s.size : Int))) = false)]) [false] true (by kernel_rfl) (by kernel_rfl) ⟨hb1, trivial⟩ (by first | (rw [hend hb8]; done) | (rw [hend hb1]; done) | (rw [(hT hb1 hb3).trans (if_neg (n4 hb4))]; done) | (rw [(hT hb1 hb3).trans (if_neg (n5 hb5))]; done) | (rw [(hT hb1 hb3).trans (if_neg (n6 hb1 hb6))]; done) | (rw [(hT hb1 hb3).trans (if_neg (n7 hb7))]; done) | (rw [(hT hb1 hb3).trans (if_pos (p7 hb1 hb4 hb5 hb6 hb7).1), (p7 hb1 hb4 hb5 hb6 hb7).2.1, (p7 hb1 hb4 hb5 hb6 hb7).2.2]; done) | (rw [hend hb8]; rfl) | (rw [hend hb1]; rfl) | (rw [(hT hb1 hb3).trans (if_neg (n4 hb4))]; rfl) | (rw [(hT hb1 hb3).trans (if_neg (n5 hb5))]; rfl) | (rw [(hT hb1 hb3).trans (if_neg (n6 hb1 hb6))]; rfl) | (rw [(hT hb1 hb3).trans (if_neg (n7 hb7))]; rfl) | (rw [(hT hb1 hb3).trans (if_pos (p7 hb1 hb4 hb5 hb6 hb7).1), (p7 hb1 hb4 hb5 hb6 hb7).2.1, (p7 hb1 hb4 hb5 hb6 hb7).2.2]; rfl) | (exfalso; have := of_decide_eq_false hb2; omega)) hsim
theorem takeR_ok (s : ByteArray) (hs : s.size ≤ 1073741824) : Eng.Spec Tryd.prog (fun _ => none) 37 [.d (.raw (.string s))] [] (.tup [.d (.raw (.string (takeM s).1)), .d (.raw (.string (takeM s).2.1)), .d (.raw (.int .i64 (takeM s).2.2))]) [] := by
  refine spec_fn Tryd.func37 rfl fun {w N E a} hsim => ?_
  let n : Int := 0
  let f : Int := 0
  refine go_head (UK_ok n f) rfl rfl (k' := loopAt Tryd.f37 0) (s' := mk 0 67 [(0, .d (.raw (.string (s)))), (5, .d (.raw (.int .i64 ((0 : Int)))))] []) (cs := []) [] [0,5] (by kernel_rfl) (by kernel_rfl) trivial hsim fun E a w hsim => ?_
  exact tk_go s hs 10 0 0 rfl (by omega) (fun j h => by omega) E a w hsim
end Go.Nest

namespace Go.Nest
open Go Go.Eng Go.Proofs
set_option linter.unusedVariables false
set_option linter.unusedSimpArgs false
set_option maxRecDepth 100000
set_option maxHeartbeats 4000000
theorem UV_ok (a b : ByteArray) (f : Int) : OrcOK Tryd.prog (UV a b f) := (OrcOK.none _).add _ false (mTakeV a b f) fun args H r H' cs h hc => by
  unfold mTakeV at h
  split at h
  · cases h; obtain ⟨hs, rfl, rfl, rfl, -⟩ := hc; exact takeR_ok _ hs
  · cases h
theorem says_tupnil {C : Cx} (x : D) (el : Nat → D) : Says C ⟨0, [.tup [.d (.raw (.slice none 0 0)), .d x]], []⟩ ⟨0, [.tup [.d (.list 1 0 el), .d x]], []⟩ := ⟨fun E a w hs => ⟨E, hs.fit.tmps _, by
  have h1 := hs.tm
  change VAs E w (Stable C E ⟨0, [.tup [.d (.raw (.slice none 0 0)), .d x]], []⟩ w) [.tup [.d (.raw (.slice none 0 0)), .d x]] a.tmps.toList at h1
  show VAs E w (Stable C E ⟨0, [.tup [.d (.raw (.slice none 0 0)), .d x]], []⟩ w) [.tup [.d (.list 1 0 el), .d x]] a.tmps.toList
  rw [VAs_cons] at h1 ⊢
  obtain ⟨v, vs, e, h2, h3⟩ := h1
  refine ⟨v, vs, e, ?_, h3⟩
  unfold VA at h2 ⊢
  obtain ⟨us, e2, h4⟩ := h2
  refine ⟨us, e2, ?_⟩
  rw [VAs_cons] at h4 ⊢
  obtain ⟨u, us', rfl, h5, h6⟩ := h4
  refine ⟨u, us', rfl, ?_, h6⟩
  unfold VA at h5 ⊢
  rw [(VD_raw_inv h5).1]
  unfold VD VC
  exact ⟨_, rfl, .inl ⟨rfl, rfl⟩⟩, hs.df⟩⟩
abbrev GoU (s : ByteArray) (w0 : World) (N : Nat → Prop) (E0 : Env) (k : List Item) (st : St) : Prop := ∀ (E : Env) (a : Act) (w : World), Sim (cx Tryd.prog (fun _ => none) w0 N E0 []) E st a w → Goes Tryd.prog 28 k (RSpec (cx Tryd.prog (fun _ => none) w0 N E0 []) ⟨0, [.tup [.d (.list 1 (unpR s).1.length (strEl (unpR s).1)), .d (.raw (.int .i64 (unpR s).2))]], []⟩) a w
theorem un_go {w0 : World} {N : Nat → Prop} {E0 : Env} (s : ByteArray) (hs : s.size ≤ 1073741824) : ∀ (d : Nat) (r : List ByteArray) (rest : ByteArray), rest.size ≤ d → r.length + d ≤ s.size → unpF s.size s = (unpF d rest).map (r ++ ·) → GoU s w0 N E0 (loopAt Tryd.f28 0) (un1 r rest) := by
  intro d
  induction d with
  | zero =>
    intro r rest hr hl hu E e w hsim
    have h0 : rest.size = 0 := by omega
    rw [unpF_nil 0 rest h0] at hu
    have e1 : unpR s = (r, 0) := by unfold unpR; rw [hu]; simp
    have hne : (!rest.toList == (ByteArray.mk #[]).toList) = false := by
      have : rest = ByteArray.mk #[] := by apply ext_ba; rw [size_ba] at h0; exact List.length_eq_zero_iff.1 h0
      rw [this]; simp
    let ta : ByteArray := ByteArray.empty
    let tb : ByteArray := ByteArray.empty
    let f : Int := 0
    rcases Bool.eq_false_or_eq_true (!rest.toList == (ByteArray.mk #[]).toList) with hb1 | hb1
    · skip
      rcases Bool.eq_false_or_eq_true (f != (0 : Int)) with hb2 | hb2
      · skip
        exact go_says (UV_ok ta tb f) rfl rfl Tryd.func28 (sr' := ⟨0, [.tup [.d (.raw (Value.slice none (0 : Nat) (0 : Nat))), .d (.raw (.int .i64 ((4 : Int))))]], []⟩) (cs := [((!rest.toList == (ByteArray.mk #[]).toList) = true), (rest.size ≤ (1073741824 : Nat)), (ta = (takeM rest).fst), (tb = (takeM rest).snd.fst), (f = (takeM rest).snd.snd), ((f != (0 : Int)) = true)]) [true, true] true (by kernel_rfl) (by kernel_rfl) ⟨hb1, (by first | omega | exact absurd hb1 (by rw [hne]; decide)), (by first | omega | exact absurd hb1 (by rw [hne]; decide)), (by first | omega | exact absurd hb1 (by rw [hne]; decide)), (by first | omega | exact absurd hb1 (by rw [hne]; decide)), hb2, trivial⟩ (by first | exact absurd hb1 (by rw [hne]; decide) | (rw [e1]; exact Says.refl _)) hsim
      · skip
        refine go_head (UV_ok ta tb f) rfl rfl (k' := loopAt Tryd.f28 0) (s' := mk 0 26 [(4, .own 0), (5, .d (.raw (.string (tb))))] [(0, .row 9 1 (r.length + (1 : Nat)) (fun j => if j < r.length then strEl r j else segD false (1 : Nat) (splice (List.map (fun j => (List.map D.raw (Value.string (ByteArray.mk #[])).cells.toList).getD (j % (1 : Nat)) default) (List.range (1 : Nat))) (0 : Nat) (D.raw (Value.string ta)).cells) (j - r.length)))]) (cs := [((!rest.toList == (ByteArray.mk #[]).toList) = true), (rest.size ≤ (1073741824 : Nat)), (ta = (takeM rest).fst), (tb = (takeM rest).snd.fst), (f = (takeM rest).snd.snd), ((f != (0 : Int)) = false), (r.length + (1 : Nat) ≤ (9223372036854775807 : Nat) ∧ (r.length + (1 : Nat)) * (16 : Nat) ≤ (140737488355328 : Nat))]) [true, false] [4,5] (by kernel_rfl) (by kernel_rfl) ⟨hb1, (by first | omega | exact absurd hb1 (by rw [hne]; decide)), (by first | omega | exact absurd hb1 (by rw [hne]; decide)), (by first | omega | exact absurd hb1 (by rw [hne]; decide)), (by first | omega | exact absurd hb1 (by rw [hne]; decide)), hb2, (by first | omega | exact absurd hb1 (by rw [hne]; decide)), trivial⟩ hsim fun E a w hsim => ?_
        exact absurd hb1 (by rw [hne]; decide)
    · skip
      exact go_says (UV_ok ta tb f) rfl rfl Tryd.func28 (sr' := ⟨0, [.tup [.d (.list 1 (r.length) (strEl r)), .d (.raw (.int .i64 ((0 : Int))))]], []⟩) (cs := [((!rest.toList == (ByteArray.mk #[]).toList) = false)]) [false] true (by kernel_rfl) (by kernel_rfl) ⟨hb1, trivial⟩ (by first | exact absurd hb1 (by rw [hne]; decide) | (rw [e1]; exact Says.refl _)) hsim
  | succ d ih =>
    intro r rest hr hl hu E e w hsim
    obtain ⟨ta, ha⟩ : ∃ ta, ta = (takeM rest).1 := ⟨_, rfl⟩
    obtain ⟨tb, hb⟩ : ∃ tb, tb = (takeM rest).2.1 := ⟨_, rfl⟩
    obtain ⟨f, hf⟩ : ∃ f, f = (takeM rest).2.2 := ⟨_, rfl⟩
    have hsz : rest.size ≤ 1073741824 := by omega
    have hdone : (!rest.toList == (ByteArray.mk #[]).toList) = false → unpR s = (r, 0) := fun h => by
      have h : rest.toList = (ByteArray.mk #[]).toList := by simpa using h
      have h0 : rest.size = 0 := by
        rw [toList_ba, toList_ba] at h
        rw [size_ba, h]; rfl
      rw [unpF_nil _ rest h0] at hu
      unfold unpR; rw [hu]; simp
    have hstep : (!rest.toList == (ByteArray.mk #[]).toList) = true → unpF (d + 1) rest = if f = 0 then (unpF d tb).map (ta :: ·) else none := fun h => by
      have h0 : rest.size ≠ 0 := fun h0 => by
        have : rest = ByteArray.mk #[] := by apply ext_ba; rw [size_ba] at h0; exact List.length_eq_zero_iff.1 h0
        rw [this] at h; simp at h
      show (if rest.size = 0 then _ else _) = _
      rw [if_neg h0, ha, hb, hf]
    have hbad : (!rest.toList == (ByteArray.mk #[]).toList) = true → (f != (0 : Int)) = true → unpR s = ([], 4) := fun h h2 => by
      have : ¬ f = 0 := by simpa using h2
      rw [hstep h, if_neg this] at hu
      unfold unpR; rw [hu]; rfl
    have hlen : r.length + 1 = (r ++ [ta]).length := by simp
    have hlo : ∀ j, j < r.length → strEl r j = strEl (r ++ [ta]) j := fun j hj => by
      unfold strEl; simp [List.getD, List.getElem?_append_left hj]
    have hh0 : strEl (r ++ [ta]) r.length = .raw (.string ta) := by unfold strEl; simp [List.getD]
    have ih := fun (h : (!rest.toList == (ByteArray.mk #[]).toList) = true) (h2 : (f != (0 : Int)) = false) => ih (r ++ [ta]) tb (by
      have hf0 : f = 0 := by simpa using h2
      have := take_less (s := rest) (by rw [← hf]; exact hf0)
      rw [← hb] at this; omega) (by rw [List.length_append, List.length_singleton]; omega) (by
      have hf0 : f = 0 := by simpa using h2
      rw [hu, hstep h, if_pos hf0, Option.map_map]
      congr 1; funext xs; simp)
    rcases Bool.eq_false_or_eq_true (!rest.toList == (ByteArray.mk #[]).toList) with hb1 | hb1
    · skip
      rcases Bool.eq_false_or_eq_true (f != (0 : Int)) with hb2 | hb2
      · skip
        exact go_says (UV_ok ta tb f) rfl rfl Tryd.func28 (sr' := ⟨0, [.tup [.d (.raw (Value.slice none (0 : Nat) (0 : Nat))), .d (.raw (.int .i64 ((4 : Int))))]], []⟩) (cs := [((!rest.toList == (ByteArray.mk #[]).toList) = true), (rest.size ≤ (1073741824 : Nat)), (ta = (takeM rest).fst), (tb = (takeM rest).snd.fst), (f = (takeM rest).snd.snd), ((f != (0 : Int)) = true)]) [true, true] true (by kernel_rfl) (by kernel_rfl) ⟨hb1, (by first | exact hsz | exact ha | exact hb | exact hf | omega), (by first | exact hsz | exact ha | exact hb | exact hf | omega), (by first | exact hsz | exact ha | exact hb | exact hf | omega), (by first | exact hsz | exact ha | exact hb | exact hf | omega), hb2, trivial⟩ (by first | (rw [hdone hb1]; exact Says.refl _) | (rw [hbad hb1 hb2]; exact says_tupnil _ _)) hsim
      · skip
        refine go_head (UV_ok ta tb f) rfl rfl (k' := loopAt Tryd.f28 0) (s' := mk 0 26 [(4, .own 0), (5, .d (.raw (.string (tb))))] [(0, .row 9 1 (r.length + (1 : Nat)) (fun j => if j < r.length then strEl r j else segD false (1 : Nat) (splice (List.map (fun j => (List.map D.raw (Value.string (ByteArray.mk #[])).cells.toList).getD (j % (1 : Nat)) default) (List.range (1 : Nat))) (0 : Nat) (D.raw (Value.string ta)).cells) (j - r.length)))]) (cs := [((!rest.toList == (ByteArray.mk #[]).toList) = true), (rest.size ≤ (1073741824 : Nat)), (ta = (takeM rest).fst), (tb = (takeM rest).snd.fst), (f = (takeM rest).snd.snd), ((f != (0 : Int)) = false), (r.length + (1 : Nat) ≤ (9223372036854775807 : Nat) ∧ (r.length + (1 : Nat)) * (16 : Nat) ≤ (140737488355328 : Nat))]) [true, false] [4,5] (by kernel_rfl) (by kernel_rfl) ⟨hb1, (by first | exact hsz | exact ha | exact hb | exact hf | omega), (by first | exact hsz | exact ha | exact hb | exact hf | omega), (by first | exact hsz | exact ha | exact hb | exact hf | omega), (by first | exact hsz | exact ha | exact hb | exact hf | omega), hb2, (by first | exact hsz | exact ha | exact hb | exact hf | omega), trivial⟩ hsim fun E a w hsim => ?_
        (
          obtain ⟨E2, hs2⟩ := (Go.Tab.says_rowTo (k := 0) rfl (r ++ [ta]).length (strEl (r ++ [ta])) hlen (fun j hj => by
            by_cases hjr : j < r.length
            · exact (if_pos hjr).trans (hlo j hjr)
            · obtain rfl : j = r.length := by omega
              rw [hh0]
              exact (if_neg hjr).trans (by rw [Nat.sub_self]; rfl))).out E _ w hsim
          exact ih hb1 hb2 E2 _ w hs2)
    · skip
      exact go_says (UV_ok ta tb f) rfl rfl Tryd.func28 (sr' := ⟨0, [.tup [.d (.list 1 (r.length) (strEl r)), .d (.raw (.int .i64 ((0 : Int))))]], []⟩) (cs := [((!rest.toList == (ByteArray.mk #[]).toList) = false)]) [false] true (by kernel_rfl) (by kernel_rfl) ⟨hb1, trivial⟩ (by first | (rw [hdone hb1]; exact Says.refl _) | (rw [hbad hb1 hb2]; exact says_tupnil _ _)) hsim
theorem unpackR_ok (s : ByteArray) (hs : s.size ≤ 1073741824) : Eng.Spec Tryd.prog (fun _ => none) 28 [.d (.raw (.string s))] [] (.tup [.d (.list 1 (unpR s).1.length (strEl (unpR s).1)), .d (.raw (.int .i64 (unpR s).2))]) [] := by
  refine spec_fn Tryd.func28 rfl fun {w N E e} hsim => ?_
  let ta : ByteArray := ByteArray.empty
  let tb : ByteArray := ByteArray.empty
  let f : Int := 0
  refine go_head (UV_ok ta tb f) rfl rfl (k' := loopAt Tryd.f28 0) (s' := mk 0 26 [(4, .d (.raw (Value.slice none (0 : Nat) (0 : Nat)))), (5, .d (.raw (.string (s))))] []) (cs := []) [] [4,5] (by kernel_rfl) (by kernel_rfl) trivial hsim fun E a w hsim => ?_
  obtain ⟨E2, hs2⟩ := hsim.nilRow (t := 4) rfl 9 1 (strEl [])
  exact un_go s hs s.size [] s (Nat.le_refl _) (by simp) (by simp) E2 _ w hs2
end Go.Nest
