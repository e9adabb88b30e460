/-
  Contracts of given functions, or plain laws that they need. No condition.
-/
import Derived.Test.YtiolcanlleapjaaDoorLaw
import Derived.Test.YtiolcanlleapjaaDoorParG
import Derived.Test.YtiolcanlleapjaaDoorRowU
import Derived.Test.YtiolcanlleapjaaDoorProg
namespace Go.Bla
open Go Go.Eng Go.Proofs Go.RowKit Go.Shelf
set_option linter.unusedVariables false
set_option linter.unusedSimpArgs false
set_option maxRecDepth 100000
set_option maxHeartbeats 4000000
theorem join_cat : ∀ l : List ByteArray, Lib.join (l.map (·.data.toList)) [] = (catL l).data.toList
  | [] => rfl
  | [x] => by simp [catL, Lib.join_one, append_ba]
  | x :: y :: r => by
    have := join_cat (y :: r)
    simp only [List.map_cons] at this
    rw [show catL (x :: y :: r) = x ++ catL (y :: r) from rfl, append_ba, ← this]
    simp [Lib.join, List.intercalate, List.intersperse]
theorem cat_take : ∀ (l : List ByteArray) (n : Nat), n < l.length → catL (l.take (n + 1)) = catL (l.take n) ++ l.getD n ByteArray.empty
  | [], n, h => by simp at h
  | x :: xs, 0, _ => by apply ext_ba; simp [catL, append_ba]
  | x :: xs, n + 1, h => by
    have := cat_take xs n (by simpa using h)
    apply ext_ba
    simp only [List.take_succ_cons, catL, append_ba, this, List.append_assoc, List.getD_cons_succ]
theorem cat_size : ∀ l : List ByteArray, (catL l).size = (l.map (·.size)).sum
  | [] => rfl
  | x :: xs => by simp [catL, cat_size xs]
theorem cat_le (l : List ByteArray) (n : Nat) : (catL (l.take n)).size ≤ (catL l).size := by
  have h : ∀ a b : List ByteArray, (catL (a ++ b)).size = (catL a).size + (catL b).size := fun a b => by simp [cat_size]
  have := h (l.take n) (l.drop n)
  rw [List.take_append_drop] at this
  omega
theorem join_ok (l : List ByteArray) (h0 : l.length ≤ 1000) (h1 : (catL l).size ≤ 140737488351232) : Eng.Spec Tryd.prog gl 13 [.d (.list 1 l.length (strsEl l)), .d (.raw (.string ⟨#[]⟩))] [] (.d (.raw (.string (catL l)))) [] := by
  refine Spec.pure rfl fun w N E vs hvs hN => ?_
  rw [VAs_cons] at hvs
  obtain ⟨v, us, rfl, hv, hus⟩ := hvs
  rw [VAs_cons] at hus
  obtain ⟨z, us, rfl, hz, hus⟩ := hus
  obtain rfl : us = [] := by unfold VAs at hus; exact hus
  unfold VA at hz hv
  obtain ⟨rfl, -⟩ := VD_raw_inv hz
  unfold VD at hv
  unfold VC at hv
  obtain ⟨v', hv', hv⟩ := hv
  obtain rfl : v = v' := by simpa using hv'
  have hout : ∀ e : Ending, e = .returned (.string ⟨(Lib.join (l.map (·.data.toList)) []).toArray⟩) → e = .returned (.string (catL l)) := fun e h => by
    rw [h, join_cat]
  rcases hv with ⟨hn, rfl⟩ | ⟨ad, cap, cs, rfl, hcap, _, hsp, hb, hlen, hcell, hel⟩
  · have : l = [] := List.length_eq_zero_iff.1 hn
    subst this
    exact (Any.strings_Join_none laysJoin extra none 0 ⟨#[]⟩ w).mono fun e w' ⟨he, hw⟩ => ⟨he, hw ▸ Below.refl _ _⟩
  · rcases ad with ⟨bk, o, sp⟩
    cases hsp
    refine (Any.strings_Join_48 laysJoin extra bk o cap l ⟨#[]⟩ w (fun j x hx => ?_) (hN _ hb) (by omega) hcap (by
      show (Lib.join (l.map (·.data.toList)) []).length ≤ _
      rw [join_cat, ← size_ba]; omega)).mono fun e w' ⟨he, hw⟩ => ⟨hout e he, hw⟩
    have hj := (List.getElem?_eq_some_iff.1 hx).1
    have h2 := hel j hj
    unfold strsEl VC at h2
    have h3 : cs[j]? = some (.string x) := by
      have := congrArg (·[0]?) h2.1
      simp only [Nat.mul_one, List.getElem?_take, List.getElem?_drop, Nat.add_zero, List.getElem?_cons_zero] at this
      rw [if_pos (by omega)] at this
      rw [this, List.getD_eq_getElem?_getD, hx]; rfl
    have h4 := hcell j _ h3
    unfold Addr.add at h4
    split at h4
    · rename_i e; subst e; exact h4
    · exact h4
theorem R1_ok (l : List ByteArray) : OrcOK Tryd.prog (R1 l) := K3_ok.add _ true (mJoin l) fun args H r H' cs h hc => by
  unfold mJoin at h
  split at h
  · cases h
    obtain ⟨rfl, rfl, rfl, h1, h2, -⟩ := hc
    exact join_ok l h1 h2
  · cases h
theorem parts_ok (key : ByteArray) (l : List ByteArray) (h0 : l.length ≤ 1000) (h1 : (catL l).size ≤ 140737488351232) : Eng.Spec Tryd.prog gl 9 [.d (.raw (.string key)), .d (.list 1 l.length (strsEl l))] [] (.tup [.d (.raw (.string (sumR key (catL l)))), .d (I (sumE key))]) [] := by
  refine spec_fn Tryd.func9 rfl fun {w N E a} hsim => ?_
  exact go_ret (R1_ok l) rfl rfl Tryd.func9 (sr' := ⟨0, [.tup [.d (.raw (.string (sumR key (catL l)))), .d (.raw (.int .i64 (sumE key)))]], []⟩) (cs := [(l.length = l.length), (strsEl l = strsEl l), (ByteArray.mk #[] = ByteArray.mk #[]), (l.length ≤ (1000 : Nat)), ((catL l).size ≤ (140737488351232 : Nat))]) [] true (by kernel_rfl) (by kernel_rfl) ⟨(by first | exact h0 | exact h1 | rfl), (by first | exact h0 | exact h1 | rfl), (by first | exact h0 | exact h1 | rfl), (by first | exact h0 | exact h1 | rfl), (by first | exact h0 | exact h1 | rfl), trivial⟩ (by rfl) hsim
theorem R2_ok (l : List ByteArray) : OrcOK Tryd.prog (R2 l) := K3_ok.add _ true (mParts l) fun args H r H' cs h hc => by
  unfold mParts at h
  split at h
  · cases h
    obtain ⟨rfl, rfl, h1, h2, -⟩ := hc
    exact parts_ok _ l h1 h2
  · cases h
theorem lp_go {w0 : World} {N : Nat → Prop} {E0 : Env} (key : ByteArray) (l : List ByteArray) (h1 : l.length ≤ 1000) (h2 : (catL l).size ≤ 1048576) : ∀ (d n : Nat), n + d = l.length → ∀ (i : Int), i = (n : Int) → ∀ (all : ByteArray), all = catL (l.take n) → ∀ (E : Env) (a : Act) (w : World), Sim (cx Tryd.prog gl w0 N E0 []) E (pp1 key l all i) a w →
    Goes Tryd.prog 5 (loopAt Tryd.f5 0) (RSpec (cx Tryd.prog gl w0 N E0 []) ⟨0, [.d (.raw (.bool true))], []⟩) a w := by
  intro d
  induction d with
  | zero =>
    intro n hn i hi all hall E a w hsim
    have e : all = catL l := by rw [hall, List.take_of_length_le (by omega)]
    have q1 : ((sumR key (catL l)).toList == (sumR key all).toList) = true := by rw [e]; exact beq_self_eq_true _
    have q2 : (sumE key == sumE key) = true := beq_self_eq_true _
    have q3 : all.size ≤ 140737488351232 := by rw [e]; omega
    rcases Bool.eq_false_or_eq_true (decide (i < (↑l.length : Int))) with hb1 | hb1
    · skip
      rcases Bool.eq_false_or_eq_true (decide ((↑all.size : Int) > (20000 : Int))) with hb2 | hb2
      · skip
        exact go_ret (R2_ok l) rfl rfl Tryd.func5 (sr' := ⟨0, [.d (.raw (.bool (true)))], []⟩) (cs := [((decide (i < (↑l.length : Int))) = true), ((0 : Int) ≤ i ∧ i < (↑l.length : Int)), ((decide ((↑all.size : Int) > (20000 : Int))) = true)]) [true, true] true (by kernel_rfl) (by kernel_rfl) ⟨hb1, (by first | exact h1 | exact q3 | omega | rfl | exact absurd (of_decide_eq_true hb1) (by omega)), hb2, trivial⟩ (by first | rfl | exact absurd hb3 (by rw [q1]; decide) | exact absurd hb4 (by rw [q2]; decide) | exact absurd (of_decide_eq_true hb1) (by omega)) hsim
      · skip
        refine go_head (R2_ok l) rfl rfl (k' := loopAt Tryd.f5 0) (s' := mk 0 53 [(0, .d (.raw (.string (key)))), (1, .d (.list 1 (l.length) (strsEl l))), (5, .d (.raw (.string (all ++ l.getD i.toNat ByteArray.empty)))), (16, .d (.list 1 (l.length) (strsEl l))), (17, .d (.raw (.int .i64 ((↑l.length : Int))))), (18, .d (.raw (.int .i64 (IntKind.i64.wrap (i + (1 : Int))))))] []) (cs := [((decide (i < (↑l.length : Int))) = true), ((0 : Int) ≤ i ∧ i < (↑l.length : Int)), ((decide ((↑all.size : Int) > (20000 : Int))) = false), (all.size + (l.getD i.toNat ByteArray.empty).size ≤ (9223372036854775807 : Nat))]) [true, false] [0,1,5,16,17,18] (by kernel_rfl) (by kernel_rfl) ⟨hb1, (by first | exact h1 | exact q3 | omega | rfl | exact absurd (of_decide_eq_true hb1) (by omega)), hb2, (by first | exact h1 | exact q3 | omega | rfl | exact absurd (of_decide_eq_true hb1) (by omega)), trivial⟩ hsim fun E a w hsim => ?_
        exact absurd (of_decide_eq_true hb1) (by omega)
    · skip
      rcases Bool.eq_false_or_eq_true ((sumR key (catL l)).toList == (sumR key all).toList) with hb3 | hb3
      · skip
        rcases Bool.eq_false_or_eq_true (sumE key == sumE key) with hb4 | hb4
        · skip
          exact go_ret (R2_ok l) rfl rfl Tryd.func5 (sr' := ⟨0, [.d (.raw (.bool (true)))], []⟩) (cs := [((decide (i < (↑l.length : Int))) = false), (l.length = l.length), (strsEl l = strsEl l), (l.length ≤ (1000 : Nat)), ((catL l).size ≤ (140737488351232 : Nat)), (all.size ≤ (140737488351232 : Nat)), (((sumR key (catL l)).toList == (sumR key all).toList) = true), ((sumE key == sumE key) = true)]) [false, true, true] true (by kernel_rfl) (by kernel_rfl) ⟨hb1, (by first | exact h1 | exact q3 | omega | rfl | exact absurd (of_decide_eq_true hb1) (by omega)), (by first | exact h1 | exact q3 | omega | rfl | exact absurd (of_decide_eq_true hb1) (by omega)), (by first | exact h1 | exact q3 | omega | rfl | exact absurd (of_decide_eq_true hb1) (by omega)), (by first | exact h1 | exact q3 | omega | rfl | exact absurd (of_decide_eq_true hb1) (by omega)), (by first | exact h1 | exact q3 | omega | rfl | exact absurd (of_decide_eq_true hb1) (by omega)), hb3, hb4, trivial⟩ (by first | rfl | exact absurd hb3 (by rw [q1]; decide) | exact absurd hb4 (by rw [q2]; decide) | exact absurd (of_decide_eq_true hb1) (by omega)) hsim
        · skip
          exact go_ret (R2_ok l) rfl rfl Tryd.func5 (sr' := ⟨0, [.d (.raw (.bool (false)))], []⟩) (cs := [((decide (i < (↑l.length : Int))) = false), (l.length = l.length), (strsEl l = strsEl l), (l.length ≤ (1000 : Nat)), ((catL l).size ≤ (140737488351232 : Nat)), (all.size ≤ (140737488351232 : Nat)), (((sumR key (catL l)).toList == (sumR key all).toList) = true), ((sumE key == sumE key) = false)]) [false, true, false] true (by kernel_rfl) (by kernel_rfl) ⟨hb1, (by first | exact h1 | exact q3 | omega | rfl | exact absurd (of_decide_eq_true hb1) (by omega)), (by first | exact h1 | exact q3 | omega | rfl | exact absurd (of_decide_eq_true hb1) (by omega)), (by first | exact h1 | exact q3 | omega | rfl | exact absurd (of_decide_eq_true hb1) (by omega)), (by first | exact h1 | exact q3 | omega | rfl | exact absurd (of_decide_eq_true hb1) (by omega)), (by first | exact h1 | exact q3 | omega | rfl | exact absurd (of_decide_eq_true hb1) (by omega)), hb3, hb4, trivial⟩ (by first | rfl | exact absurd hb3 (by rw [q1]; decide) | exact absurd hb4 (by rw [q2]; decide) | exact absurd (of_decide_eq_true hb1) (by omega)) hsim
      · skip
        exact go_ret (R2_ok l) rfl rfl Tryd.func5 (sr' := ⟨0, [.d (.raw (.bool (false)))], []⟩) (cs := [((decide (i < (↑l.length : Int))) = false), (l.length = l.length), (strsEl l = strsEl l), (l.length ≤ (1000 : Nat)), ((catL l).size ≤ (140737488351232 : Nat)), (all.size ≤ (140737488351232 : Nat)), (((sumR key (catL l)).toList == (sumR key all).toList) = false)]) [false, false] true (by kernel_rfl) (by kernel_rfl) ⟨hb1, (by first | exact h1 | exact q3 | omega | rfl | exact absurd (of_decide_eq_true hb1) (by omega)), (by first | exact h1 | exact q3 | omega | rfl | exact absurd (of_decide_eq_true hb1) (by omega)), (by first | exact h1 | exact q3 | omega | rfl | exact absurd (of_decide_eq_true hb1) (by omega)), (by first | exact h1 | exact q3 | omega | rfl | exact absurd (of_decide_eq_true hb1) (by omega)), (by first | exact h1 | exact q3 | omega | rfl | exact absurd (of_decide_eq_true hb1) (by omega)), hb3, trivial⟩ (by first | rfl | exact absurd hb3 (by rw [q1]; decide) | exact absurd hb4 (by rw [q2]; decide) | exact absurd (of_decide_eq_true hb1) (by omega)) hsim
  | succ d ih =>
    intro n hn i hi all hall E a w hsim
    have ih := fun all ha E a w hs => ih (n + 1) (by omega) (IntKind.i64.wrap (i + 1)) (by rw [wrap_i64 (i + 1) (by omega)]; omega) all ha E a w hs
    have e : all ++ l.getD i.toNat ByteArray.empty = catL (l.take (n + 1)) := by rw [cat_take l n (by omega), hall, hi]; rfl
    have es : all.size + (l.getD i.toNat ByteArray.empty).size ≤ 9223372036854775807 := by
      have := cat_le l (n + 1)
      rw [← e, ByteArray.size_append] at this; omega
    have ei : 0 ≤ i ∧ i < (l.length : Int) := by omega
    rcases Bool.eq_false_or_eq_true (decide (i < (↑l.length : Int))) with hb1 | hb1
    · skip
      rcases Bool.eq_false_or_eq_true (decide ((↑all.size : Int) > (20000 : Int))) with hb2 | hb2
      · skip
        exact go_ret (R2_ok l) rfl rfl Tryd.func5 (sr' := ⟨0, [.d (.raw (.bool (true)))], []⟩) (cs := [((decide (i < (↑l.length : Int))) = true), ((0 : Int) ≤ i ∧ i < (↑l.length : Int)), ((decide ((↑all.size : Int) > (20000 : Int))) = true)]) [true, true] true (by kernel_rfl) (by kernel_rfl) ⟨hb1, (by first | exact h1 | exact es | exact ei | exact absurd (of_decide_eq_false hb1) (by omega) | rfl), hb2, trivial⟩ (by first | rfl | exact absurd (of_decide_eq_false hb1) (by omega) | exact False.elim (of_decide_eq_false hb1 (by omega))) hsim
      · skip
        refine go_head (R2_ok l) rfl rfl (k' := loopAt Tryd.f5 0) (s' := mk 0 53 [(0, .d (.raw (.string (key)))), (1, .d (.list 1 (l.length) (strsEl l))), (5, .d (.raw (.string (all ++ l.getD i.toNat ByteArray.empty)))), (16, .d (.list 1 (l.length) (strsEl l))), (17, .d (.raw (.int .i64 ((↑l.length : Int))))), (18, .d (.raw (.int .i64 (IntKind.i64.wrap (i + (1 : Int))))))] []) (cs := [((decide (i < (↑l.length : Int))) = true), ((0 : Int) ≤ i ∧ i < (↑l.length : Int)), ((decide ((↑all.size : Int) > (20000 : Int))) = false), (all.size + (l.getD i.toNat ByteArray.empty).size ≤ (9223372036854775807 : Nat))]) [true, false] [0,1,5,16,17,18] (by kernel_rfl) (by kernel_rfl) ⟨hb1, (by first | exact h1 | exact es | exact ei | exact absurd (of_decide_eq_false hb1) (by omega) | rfl), hb2, (by first | exact h1 | exact es | exact ei | exact absurd (of_decide_eq_false hb1) (by omega) | rfl), trivial⟩ hsim fun E a w hsim => ?_
        exact ih _ e E a w hsim
    · skip
      rcases Bool.eq_false_or_eq_true ((sumR key (catL l)).toList == (sumR key all).toList) with hb3 | hb3
      · skip
        rcases Bool.eq_false_or_eq_true (sumE key == sumE key) with hb4 | hb4
        · skip
          exact go_ret (R2_ok l) rfl rfl Tryd.func5 (sr' := ⟨0, [.d (.raw (.bool (true)))], []⟩) (cs := [((decide (i < (↑l.length : Int))) = false), (l.length = l.length), (strsEl l = strsEl l), (l.length ≤ (1000 : Nat)), ((catL l).size ≤ (140737488351232 : Nat)), (all.size ≤ (140737488351232 : Nat)), (((sumR key (catL l)).toList == (sumR key all).toList) = true), ((sumE key == sumE key) = true)]) [false, true, true] true (by kernel_rfl) (by kernel_rfl) ⟨hb1, (by first | exact h1 | exact es | exact ei | exact absurd (of_decide_eq_false hb1) (by omega) | rfl), (by first | exact h1 | exact es | exact ei | exact absurd (of_decide_eq_false hb1) (by omega) | rfl), (by first | exact h1 | exact es | exact ei | exact absurd (of_decide_eq_false hb1) (by omega) | rfl), (by first | exact h1 | exact es | exact ei | exact absurd (of_decide_eq_false hb1) (by omega) | rfl), (by first | exact h1 | exact es | exact ei | exact absurd (of_decide_eq_false hb1) (by omega) | rfl), hb3, hb4, trivial⟩ (by first | rfl | exact absurd (of_decide_eq_false hb1) (by omega) | exact False.elim (of_decide_eq_false hb1 (by omega))) hsim
        · skip
          exact go_ret (R2_ok l) rfl rfl Tryd.func5 (sr' := ⟨0, [.d (.raw (.bool (false)))], []⟩) (cs := [((decide (i < (↑l.length : Int))) = false), (l.length = l.length), (strsEl l = strsEl l), (l.length ≤ (1000 : Nat)), ((catL l).size ≤ (140737488351232 : Nat)), (all.size ≤ (140737488351232 : Nat)), (((sumR key (catL l)).toList == (sumR key all).toList) = true), ((sumE key == sumE key) = false)]) [false, true, false] true (by kernel_rfl) (by kernel_rfl) ⟨hb1, (by first | exact h1 | exact es | exact ei | exact absurd (of_decide_eq_false hb1) (by omega) | rfl), (by first | exact h1 | exact es | exact ei | exact absurd (of_decide_eq_false hb1) (by omega) | rfl), (by first | exact h1 | exact es | exact ei | exact absurd (of_decide_eq_false hb1) (by omega) | rfl), (by first | exact h1 | exact es | exact ei | exact absurd (of_decide_eq_false hb1) (by omega) | rfl), (by first | exact h1 | exact es | exact ei | exact absurd (of_decide_eq_false hb1) (by omega) | rfl), hb3, hb4, trivial⟩ (by first | rfl | exact absurd (of_decide_eq_false hb1) (by omega) | exact False.elim (of_decide_eq_false hb1 (by omega))) hsim
      · skip
        exact go_ret (R2_ok l) rfl rfl Tryd.func5 (sr' := ⟨0, [.d (.raw (.bool (false)))], []⟩) (cs := [((decide (i < (↑l.length : Int))) = false), (l.length = l.length), (strsEl l = strsEl l), (l.length ≤ (1000 : Nat)), ((catL l).size ≤ (140737488351232 : Nat)), (all.size ≤ (140737488351232 : Nat)), (((sumR key (catL l)).toList == (sumR key all).toList) = false)]) [false, false] true (by kernel_rfl) (by kernel_rfl) ⟨hb1, (by first | exact h1 | exact es | exact ei | exact absurd (of_decide_eq_false hb1) (by omega) | rfl), (by first | exact h1 | exact es | exact ei | exact absurd (of_decide_eq_false hb1) (by omega) | rfl), (by first | exact h1 | exact es | exact ei | exact absurd (of_decide_eq_false hb1) (by omega) | rfl), (by first | exact h1 | exact es | exact ei | exact absurd (of_decide_eq_false hb1) (by omega) | rfl), (by first | exact h1 | exact es | exact ei | exact absurd (of_decide_eq_false hb1) (by omega) | rfl), hb3, trivial⟩ (by first | rfl | exact absurd (of_decide_eq_false hb1) (by omega) | exact False.elim (of_decide_eq_false hb1 (by omega))) hsim
theorem law_parts_ok (key : ByteArray) (l : List ByteArray) (h2 : (catL l).size ≤ 1048576) : Eng.Spec Tryd.prog gl 5 [.d (.raw (.string key)), .d (.list 1 l.length (strsEl l))] [] (.d (.raw (.bool true))) [] := by
  refine spec_fn Tryd.func5 rfl fun {w N E a} hsim => ?_
  rcases Bool.eq_false_or_eq_true (decide ((↑l.length : Int) > (1000 : Int))) with hb1 | hb1
  · skip
    exact go_ret (R2_ok l) rfl rfl Tryd.func5 (sr' := ⟨0, [.d (.raw (.bool (true)))], []⟩) (cs := [((decide ((↑l.length : Int) > (1000 : Int))) = true)]) [true] true (by kernel_rfl) (by kernel_rfl) ⟨hb1, trivial⟩ (by rfl) hsim
  · skip
    refine go_head (R2_ok l) rfl rfl (k' := loopAt Tryd.f5 0) (s' := mk 0 53 [(0, .d (.raw (.string (key)))), (1, .d (.list 1 (l.length) (strsEl l))), (5, .d (.raw (.string (ByteArray.mk #[])))), (16, .d (.list 1 (l.length) (strsEl l))), (17, .d (.raw (.int .i64 ((↑l.length : Int))))), (18, .d (.raw (.int .i64 ((0 : Int)))))] []) (cs := [((decide ((↑l.length : Int) > (1000 : Int))) = false)]) [false] [0,1,5,16,17,18] (by kernel_rfl) (by kernel_rfl) ⟨hb1, trivial⟩ hsim fun E a w hsim => ?_
    exact lp_go key l (by have := of_decide_eq_false hb1; omega) h2 l.length 0 (by omega) 0 rfl _ rfl E a w hsim
theorem strs_bulk : ∀ l : List ByteArray, (catL l).size + 1 ≤ (Ty.list .str).bulk l := fun l => by
  rw [cat_size]
  show _ ≤ (List.map (fun x : ByteArray => Ty.bulk .str x) l).sum + 1
  have : (List.map (fun x : ByteArray => x.size) l).sum ≤ (List.map (fun x : ByteArray => Ty.bulk .str x) l).sum := by
    induction l with
    | nil => simp
    | cons x xs ih =>
      have hb : Ty.bulk .str x = x.size + 1 := by simp only [Ty.bulk]
      simp only [List.map_cons, List.sum_cons, hb]; omega
  omega
end Go.Bla
