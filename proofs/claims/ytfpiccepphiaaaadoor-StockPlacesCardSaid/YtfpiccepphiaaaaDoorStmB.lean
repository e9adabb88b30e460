/-
  Contracts of given functions, or plain laws that they need. No condition.
-/
import Derived.Test.YtfpiccepphiaaaaDoorStmG
import Derived.Test.YtfpiccepphiaaaaDoorPackG
namespace Go.Stk
open Go Go.Eng Go.Proofs Go.Nest Go.RowKit Go.Memo
set_option linter.unusedVariables false
set_option linter.unusedSimpArgs false
set_option maxRecDepth 100000
set_option maxHeartbeats 4000000
theorem wrapN {x : Int} (h : -9223372036854775808 ≤ x ∧ x < 9223372036854775808) : IntKind.i64.wrap x = x := by rw [wrapE]; omega
theorem O0_ok : OrcOK Tryd.prog O0 := OrcOK.none _
theorem group_ok (v : Int) : Eng.Spec Tryd.prog (fun _ => none) 48 [.d (.raw (.int .i64 (v)))] [] (.d (.raw (.bool (decide (1 ≤ v ∧ v ≤ 4))))) [] := by
  refine spec_fn Tryd.func48 rfl fun {w N E a} hsim => ?_
  rcases Bool.eq_false_or_eq_true (decide (v ≥ (1 : Int))) with hb1 | hb1
  · skip
    exact go_ret O0_ok rfl rfl Tryd.func48 (sr' := ⟨0, [.d (.raw (.bool (decide (v ≤ (4 : Int)))))], []⟩) (cs := [((decide (v ≥ (1 : Int))) = true)]) [true] true (by kernel_rfl) (by kernel_rfl) ⟨hb1, trivial⟩ (by first | (have h1 : 1 ≤ v := of_decide_eq_true hb1; simp only [h1, true_and]; rfl) | (have h1 : ¬ (1 ≤ v) := of_decide_eq_false hb1; rw [decide_eq_false (p := 1 ≤ v ∧ v ≤ 4) (fun h => h1 h.1)]; rfl)) hsim
  · skip
    exact go_ret O0_ok rfl rfl Tryd.func48 (sr' := ⟨0, [.d (.raw (.bool (false)))], []⟩) (cs := [((decide (v ≥ (1 : Int))) = false)]) [false] true (by kernel_rfl) (by kernel_rfl) ⟨hb1, trivial⟩ (by first | (have h1 : 1 ≤ v := of_decide_eq_true hb1; simp only [h1, true_and]; rfl) | (have h1 : ¬ (1 ≤ v) := of_decide_eq_false hb1; rw [decide_eq_false (p := 1 ≤ v ∧ v ≤ 4) (fun h => h1 h.1)]; rfl)) hsim
theorem getD_drop {l : List Int} {k : Nat} (h : k < l.length) : l.drop k = l.getD k 0 :: l.drop (k + 1) := by
  rw [List.drop_eq_getElem_cons h]; simp [List.getD, h]
abbrev GoI (w0 : World) (N : Nat → Prop) (E0 : Env) (k : List Item) (s : St) (r : Int) : Prop := ∀ (E : Env) (a : Act) (w : World), Sim (cx Tryd.prog gz0 w0 N E0 []) E s a w → Goes Tryd.prog 61 k (RSpec (cx Tryd.prog gz0 w0 N E0 []) ⟨0, [.d (.raw (.int .i64 r))], []⟩) a w
theorem ix_go {w0 : World} {N : Nat → Prop} {E0 : Env} (l : List Int) (v : Int) (hl : l.length ≤ 1099511627776) : ∀ (d : Nat) (n i : Int), n = (l.length : Int) → 0 ≤ i → i + d = n → GoI w0 N E0 (loopAt Tryd.f61 0) (ix1 l v n i) (idxF (l.drop i.toNat) v i) := by
  intro d
  induction d with
  | zero =>
    intro n i en h0 hd E a w hsim
    have hr : idxF (l.drop i.toNat) v i = -1 := by rw [List.drop_eq_nil_of_le (by omega)]; rfl
    rcases Bool.eq_false_or_eq_true (decide (i < n)) with hb1 | hb1
    · skip
      rcases Bool.eq_false_or_eq_true (v == l.getD i.toNat (0 : Int)) with hb2 | hb2
      · skip
        exact go_ret O0_ok rfl rfl Tryd.func61 (sr' := ⟨0, [.d (.raw (.int .i64 (i)))], []⟩) (cs := [((decide (i < n)) = true), ((0 : Int) ≤ i ∧ i < (↑l.length : Int)), ((v == l.getD i.toNat (0 : Int)) = true)]) [true, true] true (by kernel_rfl) (by kernel_rfl) ⟨hb1, (by exact absurd (of_decide_eq_true hb1) (by omega)), hb2, trivial⟩ (by first | (exfalso; have := of_decide_eq_true hb1; omega) | (rw [hr])) hsim
      · skip
        refine go_head O0_ok rfl rfl (k' := loopAt Tryd.f61 0) (s' := mk 0 19 [(0, .d (.list 1 (l.length) (intEl l))), (1, .d (.raw (.int .i64 (v)))), (7, .d (.raw (.int .i64 (n)))), (8, .d (.raw (.int .i64 (IntKind.i64.wrap (i + (1 : Int))))))] []) (cs := [((decide (i < n)) = true), ((0 : Int) ≤ i ∧ i < (↑l.length : Int)), ((v == l.getD i.toNat (0 : Int)) = false)]) [true, false] [0,1,7,8] (by kernel_rfl) (by kernel_rfl) ⟨hb1, (by exact absurd (of_decide_eq_true hb1) (by omega)), hb2, trivial⟩ hsim fun E a w hsim => ?_
        exact absurd (of_decide_eq_true hb1) (by omega)
    · skip
      exact go_ret O0_ok rfl rfl Tryd.func61 (sr' := ⟨0, [.d (.raw (.int .i64 ((-1 : Int))))], []⟩) (cs := [((decide (i < n)) = false)]) [false] true (by kernel_rfl) (by kernel_rfl) ⟨hb1, trivial⟩ (by first | (exfalso; have := of_decide_eq_true hb1; omega) | (rw [hr])) hsim
  | succ d ih =>
    intro n i en h0 hd E a w hsim
    have hi : i.toNat < l.length := by omega
    have ew : IntKind.i64.wrap (i + 1) = i + 1 := wrapN (by omega)
    have ih := ih n (IntKind.i64.wrap (i + 1)) en (by rw [ew]; omega) (by rw [ew]; omega)
    have hr : idxF (l.drop i.toNat) v i = if l.getD i.toNat 0 = v then i else idxF (l.drop (IntKind.i64.wrap (i + 1)).toNat) v (IntKind.i64.wrap (i + 1)) := by
      rw [getD_drop hi, ew, show (i + 1).toNat = i.toNat + 1 by omega]; rfl
    rcases Bool.eq_false_or_eq_true (decide (i < n)) with hb1 | hb1
    · skip
      rcases Bool.eq_false_or_eq_true (v == l.getD i.toNat (0 : Int)) with hb2 | hb2
      · skip
        exact go_ret O0_ok rfl rfl Tryd.func61 (sr' := ⟨0, [.d (.raw (.int .i64 (i)))], []⟩) (cs := [((decide (i < n)) = true), ((0 : Int) ≤ i ∧ i < (↑l.length : Int)), ((v == l.getD i.toNat (0 : Int)) = true)]) [true, true] true (by kernel_rfl) (by kernel_rfl) ⟨hb1, (by omega), hb2, trivial⟩ (by first | (exfalso; have := of_decide_eq_false hb1; omega) | (rw [hr, if_pos (eq_of_beq hb2).symm])) hsim
      · skip
        refine go_head O0_ok rfl rfl (k' := loopAt Tryd.f61 0) (s' := mk 0 19 [(0, .d (.list 1 (l.length) (intEl l))), (1, .d (.raw (.int .i64 (v)))), (7, .d (.raw (.int .i64 (n)))), (8, .d (.raw (.int .i64 (IntKind.i64.wrap (i + (1 : Int))))))] []) (cs := [((decide (i < n)) = true), ((0 : Int) ≤ i ∧ i < (↑l.length : Int)), ((v == l.getD i.toNat (0 : Int)) = false)]) [true, false] [0,1,7,8] (by kernel_rfl) (by kernel_rfl) ⟨hb1, (by omega), hb2, trivial⟩ hsim fun E a w hsim => ?_
        have e := ih E a w hsim
        rw [hr, if_neg (by have := hb2; simp only [beq_eq_false_iff_ne, ne_eq] at this; exact fun h => this h.symm)]
        exact e
    · skip
      exact go_ret O0_ok rfl rfl Tryd.func61 (sr' := ⟨0, [.d (.raw (.int .i64 ((-1 : Int))))], []⟩) (cs := [((decide (i < n)) = false)]) [false] true (by kernel_rfl) (by kernel_rfl) ⟨hb1, trivial⟩ (by first | (exfalso; have := of_decide_eq_false hb1; omega) | (rw [hr, if_pos (eq_of_beq hb2).symm])) hsim
theorem index_ok (l : List Int) (v : Int) (hl : l.length ≤ 1099511627776) : Eng.Spec Tryd.prog (fun _ => none) 61 [.d (.list 1 l.length (intEl l)), .d (.raw (.int .i64 (v)))] [] (.d (.raw (.int .i64 (idxF l v 0)))) [] := by
  refine spec_fn Tryd.func61 rfl fun {w N E a} hsim => ?_
  refine go_head O0_ok rfl rfl (k' := loopAt Tryd.f61 0) (s' := mk 0 19 [(0, .d (.list 1 (l.length) (intEl l))), (1, .d (.raw (.int .i64 (v)))), (7, .d (.raw (.int .i64 ((↑l.length : Int))))), (8, .d (.raw (.int .i64 ((0 : Int)))))] []) (cs := []) [] [0,1,7,8] (by kernel_rfl) (by kernel_rfl) trivial hsim fun E a w hsim => ?_
  exact ix_go l v hl l.length (l.length : Int) 0 rfl (by omega) (by omega) E a w hsim
theorem listEq {n : Nat} {el el' : Nat → D} (h : ∀ i, i < n → el i = el' i) {E : Env} {w : World} {N : Nat → Prop} {v : Value} (hv : VA E w N (.d (.list 1 n el)) v) : VA E w N (.d (.list 1 n el')) v := by
  unfold VA at hv ⊢
  exact (SaysD.list (fun i hi => (h i hi).symm)).out _ _ _ hv
theorem Q0_ok (l : List Int) : OrcOK Tryd.prog (Q0 l) := (OrcOK.none _).add _ false (mIdx l) fun args H ret H' cs h hc => by
  unfold mIdx at h
  split at h
  · cases h
    obtain ⟨rfl, he, hl, -⟩ := hc
    exact (index_ok l _ hl).args fun hv => VAs_imp_cons (fun _ h => listEq he h) (fun _ h => h) hv
  · cases h
theorem contains_ok (l : List Int) (v : Int) (hl : l.length ≤ 1099511627776) : Eng.Spec Tryd.prog (fun _ => none) 49 [.d (.list 1 l.length (intEl l)), .d (.raw (.int .i64 (v)))] [] (.d (.raw (.bool (decide (0 ≤ idxF l v 0))))) [] := by
  refine spec_fn Tryd.func49 rfl fun {w N E a} hsim => ?_
  exact go_ret (Q0_ok l) rfl rfl Tryd.func49 (sr' := ⟨0, [.d (.raw (.bool (decide (idxF l v (0 : Int) ≥ (0 : Int)))))], []⟩) (cs := [(l.length = l.length), (∀ (i : Nat), i < l.length → intEl l i = intEl l i), (l.length ≤ (1099511627776 : Nat))]) [] true (by kernel_rfl) (by kernel_rfl) ⟨(by first | rfl | exact hl | exact fun i _ => rfl), (by first | rfl | exact hl | exact fun i _ => rfl), (by first | rfl | exact hl | exact fun i _ => rfl), trivial⟩ (by rfl) hsim
theorem Q1_ok (l : List Int) : OrcOK Tryd.prog (Q1 l) := ((OrcOK.none _).add _ false (mHas l) fun args H ret H' cs h hc => by
  unfold mHas at h
  split at h
  · cases h
    obtain ⟨rfl, he, hl, -⟩ := hc
    exact (contains_ok l _ hl).args fun hv => VAs_imp_cons (fun _ h => listEq he h) (fun _ h => h) hv
  · cases h).add _ false mGrp fun args H ret H' cs h hc => by
  unfold mGrp at h
  split at h
  · cases h; exact group_ok _
  · cases h
abbrev GoK (w0 : World) (N : Nat → Prop) (E0 : Env) (k : List Item) (s : St) (r : Int) : Prop := ∀ (E : Env) (a : Act) (w : World), Sim (cx Tryd.prog gz0 w0 N E0 []) E s a w → Goes Tryd.prog 30 k (RSpec (cx Tryd.prog gz0 w0 N E0 []) ⟨0, [.d (.raw (.int .i64 r))], []⟩) a w
def tailC (z : Int) (r : List Int) (l : List Int) (o1 o2 o3 o4 : Int) : Int := if grpF z r = true ∧ ownM l o1 = true ∧ ownM l o2 = true ∧ ownM l o3 = true ∧ ownM l o4 = true then 0 else 4
theorem own_e {l : List Int} {o : Int} (h : (l.length : Int) ≠ 0) : ownM l o = decide (0 ≤ idxF l o 0) := by unfold ownM; rw [if_neg (by omega)]
theorem ck_go {w0 : World} {N : Nat → Prop} {E0 : Env} (l : List Int) (n o1 o2 o3 o4 : Int) (hl : l.length ≤ 1099511627776) : ∀ (d : Nat) (k i z : Int), k = (l.length : Int) → 0 ≤ i → i + d = k → GoK w0 N E0 (loopAt Tryd.f30 0) (ck1 l n o1 o2 o3 o4 z k i) (tailC z (l.drop i.toNat) l o1 o2 o3 o4) := by
  intro d
  induction d with
  | zero =>
    intro k i z en h0 hd E a w hsim
    have hr : tailC z (l.drop i.toNat) l o1 o2 o3 o4 = if ownM l o1 = true ∧ ownM l o2 = true ∧ ownM l o3 = true ∧ ownM l o4 = true then 0 else 4 := by
      unfold tailC; rw [List.drop_eq_nil_of_le (by omega)]; simp [grpF]
    generalize tailC z (l.drop i.toNat) l o1 o2 o3 o4 = R at hr ⊢
    have hown : ∀ o, ownM l o = if (l.length : Int) = 0 then decide (o = 0) else decide (0 ≤ idxF l o 0) := fun o => by
      by_cases h : (l.length : Int) = 0
      · rw [if_pos h]; unfold ownM; rw [if_pos (by omega)]
      · rw [if_neg h]; exact own_e h
    simp only [hown] at hr
    rcases Bool.eq_false_or_eq_true (decide (i < k)) with hb1 | hb1
    · skip
      rcases Bool.eq_false_or_eq_true (decide (l.getD i.toNat (0 : Int) ≤ z)) with hb2 | hb2
      · skip
        exact go_ret (Q1_ok l) rfl rfl Tryd.func30 (sr' := ⟨0, [.d (.raw (.int .i64 ((4 : Int))))], []⟩) (cs := [((decide (i < k)) = true), ((0 : Int) ≤ i ∧ i < (↑l.length : Int)), ((decide (l.getD i.toNat (0 : Int) ≤ z)) = true)]) [true, true] true (by kernel_rfl) (by kernel_rfl) ⟨hb1, (by first | exact rfl | exact hl | exact fun i _ => rfl | omega | exact absurd (of_decide_eq_true hb1) (by omega)), hb2, trivial⟩ (by first | (exfalso; have := of_decide_eq_true hb1; omega) | (have hR : R = 4 := by { clear hsim; grind }; rw [hR]; done) | (have hR : R = 0 := by { clear hsim; grind }; rw [hR]; done)) hsim
      · skip
        rcases Bool.eq_false_or_eq_true (!decide ((1 : Int) ≤ l.getD i.toNat (0 : Int) ∧ l.getD i.toNat (0 : Int) ≤ (4 : Int))) with hb3 | hb3
        · skip
          exact go_ret (Q1_ok l) rfl rfl Tryd.func30 (sr' := ⟨0, [.d (.raw (.int .i64 ((4 : Int))))], []⟩) (cs := [((decide (i < k)) = true), ((0 : Int) ≤ i ∧ i < (↑l.length : Int)), ((decide (l.getD i.toNat (0 : Int) ≤ z)) = false), ((!decide ((1 : Int) ≤ l.getD i.toNat (0 : Int) ∧ l.getD i.toNat (0 : Int) ≤ (4 : Int))) = true)]) [true, false, true] true (by kernel_rfl) (by kernel_rfl) ⟨hb1, (by first | exact rfl | exact hl | exact fun i _ => rfl | omega | exact absurd (of_decide_eq_true hb1) (by omega)), hb2, hb3, trivial⟩ (by first | (exfalso; have := of_decide_eq_true hb1; omega) | (have hR : R = 4 := by { clear hsim; grind }; rw [hR]; done) | (have hR : R = 0 := by { clear hsim; grind }; rw [hR]; done)) hsim
        · skip
          refine go_head (Q1_ok l) rfl rfl (k' := loopAt Tryd.f30 0) (s' := mk 0 60 [(1, .ref 0 0), (3, .d (.raw (.int .i64 (l.getD i.toNat (0 : Int))))), (17, .d (.list 1 (l.length) (intEl l))), (18, .d (.raw (.int .i64 (k)))), (19, .d (.raw (.int .i64 (IntKind.i64.wrap (i + (1 : Int))))))] [(0, .obj 46 [.d (.raw (.int .i64 (n))), .d (.list 1 (l.length) (intEl l)), .d (.raw (.int .i64 (o1))), .d (.raw (.int .i64 (o2))), .d (.raw (.int .i64 (o3))), .d (.raw (.int .i64 (o4)))])]) (cs := [((decide (i < k)) = true), ((0 : Int) ≤ i ∧ i < (↑l.length : Int)), ((decide (l.getD i.toNat (0 : Int) ≤ z)) = false), ((!decide ((1 : Int) ≤ l.getD i.toNat (0 : Int) ∧ l.getD i.toNat (0 : Int) ≤ (4 : Int))) = false)]) [true, false, false] [1,3,17,18,19] (by kernel_rfl) (by kernel_rfl) ⟨hb1, (by first | exact rfl | exact hl | exact fun i _ => rfl | omega | exact absurd (of_decide_eq_true hb1) (by omega)), hb2, hb3, trivial⟩ hsim fun E a w hsim => ?_
          exact absurd (of_decide_eq_true hb1) (by omega)
    · skip
      rcases Bool.eq_false_or_eq_true ((↑l.length : Int) == (0 : Int)) with hb4 | hb4
      · skip
        rcases Bool.eq_false_or_eq_true (o1 != (0 : Int)) with hb5 | hb5
        · skip
          exact go_ret (Q1_ok l) rfl rfl Tryd.func30 (sr' := ⟨0, [.d (.raw (.int .i64 ((4 : Int))))], []⟩) (cs := [((decide (i < k)) = false), ((true) = true), (Ix 0 4), (((↑l.length : Int) == (0 : Int)) = true), ((o1 != (0 : Int)) = true)]) ([false] ++ (List.replicate 5 true)) true (by kernel_rfl) (by kernel_rfl) ⟨hb1, rfl, (by decide), hb4, hb5, trivial⟩ (by first | (exfalso; have := of_decide_eq_true hb1; omega) | (have hR : R = 4 := by { clear hsim; grind }; rw [hR]; done) | (have hR : R = 0 := by { clear hsim; grind }; rw [hR]; done)) hsim
        · skip
          rcases Bool.eq_false_or_eq_true (decide ((↑l.length : Int) > (0 : Int))) with hb6 | hb6
          · skip
            rcases Bool.eq_false_or_eq_true (!decide ((0 : Int) ≤ idxF l o1 (0 : Int))) with hb7 | hb7
            · skip
              exact go_ret (Q1_ok l) rfl rfl Tryd.func30 (sr' := ⟨0, [.d (.raw (.int .i64 ((4 : Int))))], []⟩) (cs := [((decide (i < k)) = false), ((true) = true), (Ix 0 4), (((↑l.length : Int) == (0 : Int)) = true), ((o1 != (0 : Int)) = false), ((decide ((↑l.length : Int) > (0 : Int))) = true), (l.length = l.length), (∀ (i : Nat), i < l.length → intEl l i = intEl l i), (l.length ≤ (1099511627776 : Nat)), ((!decide ((0 : Int) ≤ idxF l o1 (0 : Int))) = true)]) ([false] ++ (List.replicate 4 true) ++ [false, true, true]) true (by kernel_rfl) (by kernel_rfl) ⟨hb1, rfl, (by decide), hb4, hb5, hb6, (by first | exact rfl | exact hl | exact fun i _ => rfl | omega | exact absurd (of_decide_eq_true hb1) (by omega)), (by first | exact rfl | exact hl | exact fun i _ => rfl | omega | exact absurd (of_decide_eq_true hb1) (by omega)), (by first | exact rfl | exact hl | exact fun i _ => rfl | omega | exact absurd (of_decide_eq_true hb1) (by omega)), hb7, trivial⟩ (by first | (exfalso; have := of_decide_eq_true hb1; omega) | (have hR : R = 4 := by { clear hsim; grind }; rw [hR]; done) | (have hR : R = 0 := by { clear hsim; grind }; rw [hR]; done)) hsim
            · skip
              rcases Bool.eq_false_or_eq_true (o2 != (0 : Int)) with hb8 | hb8
              · skip
                have q0_ : (((↑l.length : Int) == (0 : Int)) = true) := hb4
                exact go_ret (Q1_ok l) rfl rfl Tryd.func30 (sr' := ⟨0, [.d (.raw (.int .i64 ((4 : Int))))], []⟩) (cs := ((fun (c0 : Prop) => [((decide (i < k)) = false), ((true) = true), (Ix 0 4), c0, ((o1 != (0 : Int)) = false), ((decide ((↑l.length : Int) > (0 : Int))) = true), (l.length = l.length), (∀ (i : Nat), i < l.length → intEl l i = intEl l i), (l.length ≤ (1099511627776 : Nat)), ((!decide ((0 : Int) ≤ idxF l o1 (0 : Int))) = false), ((true) = true), (Ix 1 4), c0, ((o2 != (0 : Int)) = true)]) (((↑l.length : Int) == (0 : Int)) = true))) ([false] ++ (List.replicate 4 true) ++ [false, true, false] ++ (List.replicate 5 true)) true (by kernel_rfl) (by kernel_rfl) ⟨hb1, rfl, (by decide), q0_, hb5, hb6, (by first | exact rfl | exact hl | exact fun i _ => rfl | omega | exact absurd (of_decide_eq_true hb1) (by omega)), (by first | exact rfl | exact hl | exact fun i _ => rfl | omega | exact absurd (of_decide_eq_true hb1) (by omega)), (by first | exact rfl | exact hl | exact fun i _ => rfl | omega | exact absurd (of_decide_eq_true hb1) (by omega)), hb7, rfl, (by decide), q0_, hb8, trivial⟩ (by first | (exfalso; have := of_decide_eq_true hb1; omega) | (have hR : R = 4 := by { clear hsim; grind }; rw [hR]; done) | (have hR : R = 0 := by { clear hsim; grind }; rw [hR]; done)) hsim
              · skip
                rcases Bool.eq_false_or_eq_true (!decide ((0 : Int) ≤ idxF l o2 (0 : Int))) with hb9 | hb9
                · skip
                  have q0_ : (((↑l.length : Int) == (0 : Int)) = true) := hb4
                  have q1_ : ((decide ((↑l.length : Int) > (0 : Int))) = true) := hb6
                  have q2_ : (l.length = l.length) := (by first | exact rfl | exact hl | exact fun i _ => rfl | omega | exact absurd (of_decide_eq_true hb1) (by omega))
                  have q3_ : (∀ (i : Nat), i < l.length → intEl l i = intEl l i) := (by first | exact rfl | exact hl | exact fun i _ => rfl | omega | exact absurd (of_decide_eq_true hb1) (by omega))
                  have q4_ : (l.length ≤ (1099511627776 : Nat)) := (by first | exact rfl | exact hl | exact fun i _ => rfl | omega | exact absurd (of_decide_eq_true hb1) (by omega))
                  exact go_ret (Q1_ok l) rfl rfl Tryd.func30 (sr' := ⟨0, [.d (.raw (.int .i64 ((4 : Int))))], []⟩) (cs := ((fun (c0 c1 c2 c3 c4 : Prop) => [((decide (i < k)) = false), ((true) = true), (Ix 0 4), c0, ((o1 != (0 : Int)) = false), c1, c2, c3, c4, ((!decide ((0 : Int) ≤ idxF l o1 (0 : Int))) = false), ((true) = true), (Ix 1 4), c0, ((o2 != (0 : Int)) = false), c1, c2, c3, c4, ((!decide ((0 : Int) ≤ idxF l o2 (0 : Int))) = true)]) (((↑l.length : Int) == (0 : Int)) = true) ((decide ((↑l.length : Int) > (0 : Int))) = true) (l.length = l.length) (∀ (i : Nat), i < l.length → intEl l i = intEl l i) (l.length ≤ (1099511627776 : Nat)))) ([false] ++ (List.replicate 4 true) ++ [false, true, false] ++ (List.replicate 4 true) ++ [false, true, true]) true (by kernel_rfl) (by kernel_rfl) ⟨hb1, rfl, (by decide), q0_, hb5, q1_, q2_, q3_, q4_, hb7, rfl, (by decide), q0_, hb8, q1_, q2_, q3_, q4_, hb9, trivial⟩ (by first | (exfalso; have := of_decide_eq_true hb1; omega) | (have hR : R = 4 := by { clear hsim; grind }; rw [hR]; done) | (have hR : R = 0 := by { clear hsim; grind }; rw [hR]; done)) hsim
                · skip
                  rcases Bool.eq_false_or_eq_true (o3 != (0 : Int)) with hb10 | hb10
                  · skip
                    have q0_ : (((↑l.length : Int) == (0 : Int)) = true) := hb4
                    have q1_ : ((decide ((↑l.length : Int) > (0 : Int))) = true) := hb6
                    have q2_ : (l.length = l.length) := (by first | exact rfl | exact hl | exact fun i _ => rfl | omega | exact absurd (of_decide_eq_true hb1) (by omega))
                    have q3_ : (∀ (i : Nat), i < l.length → intEl l i = intEl l i) := (by first | exact rfl | exact hl | exact fun i _ => rfl | omega | exact absurd (of_decide_eq_true hb1) (by omega))
                    have q4_ : (l.length ≤ (1099511627776 : Nat)) := (by first | exact rfl | exact hl | exact fun i _ => rfl | omega | exact absurd (of_decide_eq_true hb1) (by omega))
                    exact go_ret (Q1_ok l) rfl rfl Tryd.func30 (sr' := ⟨0, [.d (.raw (.int .i64 ((4 : Int))))], []⟩) (cs := ((fun (c0 c1 c2 c3 c4 : Prop) => [((decide (i < k)) = false), ((true) = true), (Ix 0 4), c0, ((o1 != (0 : Int)) = false), c1, c2, c3, c4, ((!decide ((0 : Int) ≤ idxF l o1 (0 : Int))) = false), ((true) = true), (Ix 1 4), c0, ((o2 != (0 : Int)) = false), c1, c2, c3, c4, ((!decide ((0 : Int) ≤ idxF l o2 (0 : Int))) = false), ((true) = true), (Ix 2 4), c0, ((o3 != (0 : Int)) = true)]) (((↑l.length : Int) == (0 : Int)) = true) ((decide ((↑l.length : Int) > (0 : Int))) = true) (l.length = l.length) (∀ (i : Nat), i < l.length → intEl l i = intEl l i) (l.length ≤ (1099511627776 : Nat)))) ([false] ++ (List.replicate 4 true) ++ [false, true, false] ++ (List.replicate 4 true) ++ [false, true, false] ++ (List.replicate 5 true)) true (by kernel_rfl) (by kernel_rfl) ⟨hb1, rfl, (by decide), q0_, hb5, q1_, q2_, q3_, q4_, hb7, rfl, (by decide), q0_, hb8, q1_, q2_, q3_, q4_, hb9, rfl, (by decide), q0_, hb10, trivial⟩ (by first | (exfalso; have := of_decide_eq_true hb1; omega) | (have hR : R = 4 := by { clear hsim; grind }; rw [hR]; done) | (have hR : R = 0 := by { clear hsim; grind }; rw [hR]; done)) hsim
                  · skip
                    rcases Bool.eq_false_or_eq_true (!decide ((0 : Int) ≤ idxF l o3 (0 : Int))) with hb11 | hb11
                    · skip
                      have q0_ : (((↑l.length : Int) == (0 : Int)) = true) := hb4
                      have q1_ : ((decide ((↑l.length : Int) > (0 : Int))) = true) := hb6
                      have q2_ : (l.length = l.length) := (by first | exact rfl | exact hl | exact fun i _ => rfl | omega | exact absurd (of_decide_eq_true hb1) (by omega))
                      have q3_ : (∀ (i : Nat), i < l.length → intEl l i = intEl l i) := (by first | exact rfl | exact hl | exact fun i _ => rfl | omega | exact absurd (of_decide_eq_true hb1) (by omega))
                      have q4_ : (l.length ≤ (1099511627776 : Nat)) := (by first | exact rfl | exact hl | exact fun i _ => rfl | omega | exact absurd (of_decide_eq_true hb1) (by omega))
                      exact go_ret (Q1_ok l) rfl rfl Tryd.func30 (sr' := ⟨0, [.d (.raw (.int .i64 ((4 : Int))))], []⟩) (cs := ((fun (c0 c1 c2 c3 c4 : Prop) => [((decide (i < k)) = false), ((true) = true), (Ix 0 4), c0, ((o1 != (0 : Int)) = false), c1, c2, c3, c4, ((!decide ((0 : Int) ≤ idxF l o1 (0 : Int))) = false), ((true) = true), (Ix 1 4), c0, ((o2 != (0 : Int)) = false), c1, c2, c3, c4, ((!decide ((0 : Int) ≤ idxF l o2 (0 : Int))) = false), ((true) = true), (Ix 2 4), c0, ((o3 != (0 : Int)) = false), c1, c2, c3, c4, ((!decide ((0 : Int) ≤ idxF l o3 (0 : Int))) = true)]) (((↑l.length : Int) == (0 : Int)) = true) ((decide ((↑l.length : Int) > (0 : Int))) = true) (l.length = l.length) (∀ (i : Nat), i < l.length → intEl l i = intEl l i) (l.length ≤ (1099511627776 : Nat)))) ([false] ++ (List.replicate 4 true) ++ [false, true, false] ++ (List.replicate 4 true) ++ [false, true, false] ++ (List.replicate 4 true) ++ [false, true, true]) true (by kernel_rfl) (by kernel_rfl) ⟨hb1, rfl, (by decide), q0_, hb5, q1_, q2_, q3_, q4_, hb7, rfl, (by decide), q0_, hb8, q1_, q2_, q3_, q4_, hb9, rfl, (by decide), q0_, hb10, q1_, q2_, q3_, q4_, hb11, trivial⟩ (by first | (exfalso; have := of_decide_eq_true hb1; omega) | (have hR : R = 4 := by { clear hsim; grind }; rw [hR]; done) | (have hR : R = 0 := by { clear hsim; grind }; rw [hR]; done)) hsim
                    · skip
                      rcases Bool.eq_false_or_eq_true (o4 != (0 : Int)) with hb12 | hb12
                      · skip
                        have q0_ : (((↑l.length : Int) == (0 : Int)) = true) := hb4
                        have q1_ : ((decide ((↑l.length : Int) > (0 : Int))) = true) := hb6
                        have q2_ : (l.length = l.length) := (by first | exact rfl | exact hl | exact fun i _ => rfl | omega | exact absurd (of_decide_eq_true hb1) (by omega))
                        have q3_ : (∀ (i : Nat), i < l.length → intEl l i = intEl l i) := (by first | exact rfl | exact hl | exact fun i _ => rfl | omega | exact absurd (of_decide_eq_true hb1) (by omega))
                        have q4_ : (l.length ≤ (1099511627776 : Nat)) := (by first | exact rfl | exact hl | exact fun i _ => rfl | omega | exact absurd (of_decide_eq_true hb1) (by omega))
                        exact go_ret (Q1_ok l) rfl rfl Tryd.func30 (sr' := ⟨0, [.d (.raw (.int .i64 ((4 : Int))))], []⟩) (cs := ((fun (c0 c1 c2 c3 c4 : Prop) => [((decide (i < k)) = false), ((true) = true), (Ix 0 4), c0, ((o1 != (0 : Int)) = false), c1, c2, c3, c4, ((!decide ((0 : Int) ≤ idxF l o1 (0 : Int))) = false), ((true) = true), (Ix 1 4), c0, ((o2 != (0 : Int)) = false), c1, c2, c3, c4, ((!decide ((0 : Int) ≤ idxF l o2 (0 : Int))) = false), ((true) = true), (Ix 2 4), c0, ((o3 != (0 : Int)) = false), c1, c2, c3, c4, ((!decide ((0 : Int) ≤ idxF l o3 (0 : Int))) = false), ((true) = true), (Ix 3 4), c0, ((o4 != (0 : Int)) = true)]) (((↑l.length : Int) == (0 : Int)) = true) ((decide ((↑l.length : Int) > (0 : Int))) = true) (l.length = l.length) (∀ (i : Nat), i < l.length → intEl l i = intEl l i) (l.length ≤ (1099511627776 : Nat)))) ([false] ++ (List.replicate 4 true) ++ [false, true, false] ++ (List.replicate 4 true) ++ [false, true, false] ++ (List.replicate 4 true) ++ [false, true, false] ++ (List.replicate 5 true)) true (by kernel_rfl) (by kernel_rfl) ⟨hb1, rfl, (by decide), q0_, hb5, q1_, q2_, q3_, q4_, hb7, rfl, (by decide), q0_, hb8, q1_, q2_, q3_, q4_, hb9, rfl, (by decide), q0_, hb10, q1_, q2_, q3_, q4_, hb11, rfl, (by decide), q0_, hb12, trivial⟩ (by first | (exfalso; have := of_decide_eq_true hb1; omega) | (have hR : R = 4 := by { clear hsim; grind }; rw [hR]; done) | (have hR : R = 0 := by { clear hsim; grind }; rw [hR]; done)) hsim
                      · skip
                        rcases Bool.eq_false_or_eq_true (!decide ((0 : Int) ≤ idxF l o4 (0 : Int))) with hb13 | hb13
                        · skip
                          have q0_ : (((↑l.length : Int) == (0 : Int)) = true) := hb4
                          have q1_ : ((decide ((↑l.length : Int) > (0 : Int))) = true) := hb6
                          have q2_ : (l.length = l.length) := (by first | exact rfl | exact hl | exact fun i _ => rfl | omega | exact absurd (of_decide_eq_true hb1) (by omega))
                          have q3_ : (∀ (i : Nat), i < l.length → intEl l i = intEl l i) := (by first | exact rfl | exact hl | exact fun i _ => rfl | omega | exact absurd (of_decide_eq_true hb1) (by omega))
                          have q4_ : (l.length ≤ (1099511627776 : Nat)) := (by first | exact rfl | exact hl | exact fun i _ => rfl | omega | exact absurd (of_decide_eq_true hb1) (by omega))
                          exact go_ret (Q1_ok l) rfl rfl Tryd.func30 (sr' := ⟨0, [.d (.raw (.int .i64 ((4 : Int))))], []⟩) (cs := ((fun (c0 c1 c2 c3 c4 : Prop) => [((decide (i < k)) = false), ((true) = true), (Ix 0 4), c0, ((o1 != (0 : Int)) = false), c1, c2, c3, c4, ((!decide ((0 : Int) ≤ idxF l o1 (0 : Int))) = false), ((true) = true), (Ix 1 4), c0, ((o2 != (0 : Int)) = false), c1, c2, c3, c4, ((!decide ((0 : Int) ≤ idxF l o2 (0 : Int))) = false), ((true) = true), (Ix 2 4), c0, ((o3 != (0 : Int)) = false), c1, c2, c3, c4, ((!decide ((0 : Int) ≤ idxF l o3 (0 : Int))) = false), ((true) = true), (Ix 3 4), c0, ((o4 != (0 : Int)) = false), c1, c2, c3, c4, ((!decide ((0 : Int) ≤ idxF l o4 (0 : Int))) = true)]) (((↑l.length : Int) == (0 : Int)) = true) ((decide ((↑l.length : Int) > (0 : Int))) = true) (l.length = l.length) (∀ (i : Nat), i < l.length → intEl l i = intEl l i) (l.length ≤ (1099511627776 : Nat)))) ([false] ++ (List.replicate 4 true) ++ [false, true, false] ++ (List.replicate 4 true) ++ [false, true, false] ++ (List.replicate 4 true) ++ [false, true, false] ++ (List.replicate 4 true) ++ [false, true, true]) true (by kernel_rfl) (by kernel_rfl) ⟨hb1, rfl, (by decide), q0_, hb5, q1_, q2_, q3_, q4_, hb7, rfl, (by decide), q0_, hb8, q1_, q2_, q3_, q4_, hb9, rfl, (by decide), q0_, hb10, q1_, q2_, q3_, q4_, hb11, rfl, (by decide), q0_, hb12, q1_, q2_, q3_, q4_, hb13, trivial⟩ (by first | (exfalso; have := of_decide_eq_true hb1; omega) | (have hR : R = 4 := by { clear hsim; grind }; rw [hR]; done) | (have hR : R = 0 := by { clear hsim; grind }; rw [hR]; done)) hsim
                        · skip
                          have q0_ : (((↑l.length : Int) == (0 : Int)) = true) := hb4
                          have q1_ : ((decide ((↑l.length : Int) > (0 : Int))) = true) := hb6
                          have q2_ : (l.length = l.length) := (by first | exact rfl | exact hl | exact fun i _ => rfl | omega | exact absurd (of_decide_eq_true hb1) (by omega))
                          have q3_ : (∀ (i : Nat), i < l.length → intEl l i = intEl l i) := (by first | exact rfl | exact hl | exact fun i _ => rfl | omega | exact absurd (of_decide_eq_true hb1) (by omega))
                          have q4_ : (l.length ≤ (1099511627776 : Nat)) := (by first | exact rfl | exact hl | exact fun i _ => rfl | omega | exact absurd (of_decide_eq_true hb1) (by omega))
                          exact go_ret (Q1_ok l) rfl rfl Tryd.func30 (sr' := ⟨0, [.d (.raw (.int .i64 ((0 : Int))))], []⟩) (cs := ((fun (c0 c1 c2 c3 c4 : Prop) => [((decide (i < k)) = false), ((true) = true), (Ix 0 4), c0, ((o1 != (0 : Int)) = false), c1, c2, c3, c4, ((!decide ((0 : Int) ≤ idxF l o1 (0 : Int))) = false), ((true) = true), (Ix 1 4), c0, ((o2 != (0 : Int)) = false), c1, c2, c3, c4, ((!decide ((0 : Int) ≤ idxF l o2 (0 : Int))) = false), ((true) = true), (Ix 2 4), c0, ((o3 != (0 : Int)) = false), c1, c2, c3, c4, ((!decide ((0 : Int) ≤ idxF l o3 (0 : Int))) = false), ((true) = true), (Ix 3 4), c0, ((o4 != (0 : Int)) = false), c1, c2, c3, c4, ((!decide ((0 : Int) ≤ idxF l o4 (0 : Int))) = false), ((false) = false)]) (((↑l.length : Int) == (0 : Int)) = true) ((decide ((↑l.length : Int) > (0 : Int))) = true) (l.length = l.length) (∀ (i : Nat), i < l.length → intEl l i = intEl l i) (l.length ≤ (1099511627776 : Nat)))) ([false] ++ (List.replicate 4 true) ++ [false, true, false] ++ (List.replicate 4 true) ++ [false, true, false] ++ (List.replicate 4 true) ++ [false, true, false] ++ (List.replicate 4 true) ++ [false, true, false, true, false]) true (by kernel_rfl) (by kernel_rfl) ⟨hb1, rfl, (by decide), q0_, hb5, q1_, q2_, q3_, q4_, hb7, rfl, (by decide), q0_, hb8, q1_, q2_, q3_, q4_, hb9, rfl, (by decide), q0_, hb10, q1_, q2_, q3_, q4_, hb11, rfl, (by decide), q0_, hb12, q1_, q2_, q3_, q4_, hb13, rfl, trivial⟩ (by first | (exfalso; have := of_decide_eq_true hb1; omega) | (have hR : R = 4 := by { clear hsim; grind }; rw [hR]; done) | (have hR : R = 0 := by { clear hsim; grind }; rw [hR]; done)) hsim
          · skip
            rcases Bool.eq_false_or_eq_true (o2 != (0 : Int)) with hb14 | hb14
            · skip
              have q0_ : (((↑l.length : Int) == (0 : Int)) = true) := hb4
              exact go_ret (Q1_ok l) rfl rfl Tryd.func30 (sr' := ⟨0, [.d (.raw (.int .i64 ((4 : Int))))], []⟩) (cs := ((fun (c0 : Prop) => [((decide (i < k)) = false), ((true) = true), (Ix 0 4), c0, ((o1 != (0 : Int)) = false), ((decide ((↑l.length : Int) > (0 : Int))) = false), ((true) = true), (Ix 1 4), c0, ((o2 != (0 : Int)) = true)]) (((↑l.length : Int) == (0 : Int)) = true))) ([false] ++ (List.replicate 4 true) ++ [false, false] ++ (List.replicate 5 true)) true (by kernel_rfl) (by kernel_rfl) ⟨hb1, rfl, (by decide), q0_, hb5, hb6, rfl, (by decide), q0_, hb14, trivial⟩ (by first | (exfalso; have := of_decide_eq_true hb1; omega) | (have hR : R = 4 := by { clear hsim; grind }; rw [hR]; done) | (have hR : R = 0 := by { clear hsim; grind }; rw [hR]; done)) hsim
            · skip
              rcases Bool.eq_false_or_eq_true (o3 != (0 : Int)) with hb15 | hb15
              · skip
                have q0_ : (((↑l.length : Int) == (0 : Int)) = true) := hb4
                have q1_ : ((decide ((↑l.length : Int) > (0 : Int))) = false) := hb6
                exact go_ret (Q1_ok l) rfl rfl Tryd.func30 (sr' := ⟨0, [.d (.raw (.int .i64 ((4 : Int))))], []⟩) (cs := ((fun (c0 c1 : Prop) => [((decide (i < k)) = false), ((true) = true), (Ix 0 4), c0, ((o1 != (0 : Int)) = false), c1, ((true) = true), (Ix 1 4), c0, ((o2 != (0 : Int)) = false), c1, ((true) = true), (Ix 2 4), c0, ((o3 != (0 : Int)) = true)]) (((↑l.length : Int) == (0 : Int)) = true) ((decide ((↑l.length : Int) > (0 : Int))) = false))) ([false] ++ (List.replicate 4 true) ++ [false, false] ++ (List.replicate 4 true) ++ [false, false] ++ (List.replicate 5 true)) true (by kernel_rfl) (by kernel_rfl) ⟨hb1, rfl, (by decide), q0_, hb5, q1_, rfl, (by decide), q0_, hb14, q1_, rfl, (by decide), q0_, hb15, trivial⟩ (by first | (exfalso; have := of_decide_eq_true hb1; omega) | (have hR : R = 4 := by { clear hsim; grind }; rw [hR]; done) | (have hR : R = 0 := by { clear hsim; grind }; rw [hR]; done)) hsim
              · skip
                rcases Bool.eq_false_or_eq_true (o4 != (0 : Int)) with hb16 | hb16
                · skip
                  have q0_ : (((↑l.length : Int) == (0 : Int)) = true) := hb4
                  have q1_ : ((decide ((↑l.length : Int) > (0 : Int))) = false) := hb6
                  exact go_ret (Q1_ok l) rfl rfl Tryd.func30 (sr' := ⟨0, [.d (.raw (.int .i64 ((4 : Int))))], []⟩) (cs := ((fun (c0 c1 : Prop) => [((decide (i < k)) = false), ((true) = true), (Ix 0 4), c0, ((o1 != (0 : Int)) = false), c1, ((true) = true), (Ix 1 4), c0, ((o2 != (0 : Int)) = false), c1, ((true) = true), (Ix 2 4), c0, ((o3 != (0 : Int)) = false), c1, ((true) = true), (Ix 3 4), c0, ((o4 != (0 : Int)) = true)]) (((↑l.length : Int) == (0 : Int)) = true) ((decide ((↑l.length : Int) > (0 : Int))) = false))) ([false] ++ (List.replicate 4 true) ++ [false, false] ++ (List.replicate 4 true) ++ [false, false] ++ (List.replicate 4 true) ++ [false, false] ++ (List.replicate 5 true)) true (by kernel_rfl) (by kernel_rfl) ⟨hb1, rfl, (by decide), q0_, hb5, q1_, rfl, (by decide), q0_, hb14, q1_, rfl, (by decide), q0_, hb15, q1_, rfl, (by decide), q0_, hb16, trivial⟩ (by first | (exfalso; have := of_decide_eq_true hb1; omega) | (have hR : R = 4 := by { clear hsim; grind }; rw [hR]; done) | (have hR : R = 0 := by { clear hsim; grind }; rw [hR]; done)) hsim
                · skip
                  have q0_ : (((↑l.length : Int) == (0 : Int)) = true) := hb4
                  have q1_ : ((decide ((↑l.length : Int) > (0 : Int))) = false) := hb6
                  exact go_ret (Q1_ok l) rfl rfl Tryd.func30 (sr' := ⟨0, [.d (.raw (.int .i64 ((0 : Int))))], []⟩) (cs := ((fun (c0 c1 : Prop) => [((decide (i < k)) = false), ((true) = true), (Ix 0 4), c0, ((o1 != (0 : Int)) = false), c1, ((true) = true), (Ix 1 4), c0, ((o2 != (0 : Int)) = false), c1, ((true) = true), (Ix 2 4), c0, ((o3 != (0 : Int)) = false), c1, ((true) = true), (Ix 3 4), c0, ((o4 != (0 : Int)) = false), c1, ((false) = false)]) (((↑l.length : Int) == (0 : Int)) = true) ((decide ((↑l.length : Int) > (0 : Int))) = false))) ([false] ++ (List.replicate 4 true) ++ [false, false] ++ (List.replicate 4 true) ++ [false, false] ++ (List.replicate 4 true) ++ [false, false] ++ (List.replicate 4 true) ++ [false, false, true, false]) true (by kernel_rfl) (by kernel_rfl) ⟨hb1, rfl, (by decide), q0_, hb5, q1_, rfl, (by decide), q0_, hb14, q1_, rfl, (by decide), q0_, hb15, q1_, rfl, (by decide), q0_, hb16, q1_, rfl, trivial⟩ (by first | (exfalso; have := of_decide_eq_true hb1; omega) | (have hR : R = 4 := by { clear hsim; grind }; rw [hR]; done) | (have hR : R = 0 := by { clear hsim; grind }; rw [hR]; done)) hsim
      · skip
        rcases Bool.eq_false_or_eq_true (decide ((↑l.length : Int) > (0 : Int))) with hb17 | hb17
        · skip
          rcases Bool.eq_false_or_eq_true (!decide ((0 : Int) ≤ idxF l o1 (0 : Int))) with hb18 | hb18
          · skip
            exact go_ret (Q1_ok l) rfl rfl Tryd.func30 (sr' := ⟨0, [.d (.raw (.int .i64 ((4 : Int))))], []⟩) (cs := [((decide (i < k)) = false), ((true) = true), (Ix 0 4), (((↑l.length : Int) == (0 : Int)) = false), ((decide ((↑l.length : Int) > (0 : Int))) = true), (l.length = l.length), (∀ (i : Nat), i < l.length → intEl l i = intEl l i), (l.length ≤ (1099511627776 : Nat)), ((!decide ((0 : Int) ≤ idxF l o1 (0 : Int))) = true)]) [false, true, true, true, false, true, true] true (by kernel_rfl) (by kernel_rfl) ⟨hb1, rfl, (by decide), hb4, hb17, (by first | exact rfl | exact hl | exact fun i _ => rfl | omega | exact absurd (of_decide_eq_true hb1) (by omega)), (by first | exact rfl | exact hl | exact fun i _ => rfl | omega | exact absurd (of_decide_eq_true hb1) (by omega)), (by first | exact rfl | exact hl | exact fun i _ => rfl | omega | exact absurd (of_decide_eq_true hb1) (by omega)), hb18, trivial⟩ (by first | (exfalso; have := of_decide_eq_true hb1; omega) | (have hR : R = 4 := by { clear hsim; grind }; rw [hR]; done) | (have hR : R = 0 := by { clear hsim; grind }; rw [hR]; done)) hsim
          · skip
            rcases Bool.eq_false_or_eq_true (!decide ((0 : Int) ≤ idxF l o2 (0 : Int))) with hb19 | hb19
            · skip
              have q0_ : (((↑l.length : Int) == (0 : Int)) = false) := hb4
              have q1_ : ((decide ((↑l.length : Int) > (0 : Int))) = true) := hb17
              have q2_ : (l.length = l.length) := (by first | exact rfl | exact hl | exact fun i _ => rfl | omega | exact absurd (of_decide_eq_true hb1) (by omega))
              have q3_ : (∀ (i : Nat), i < l.length → intEl l i = intEl l i) := (by first | exact rfl | exact hl | exact fun i _ => rfl | omega | exact absurd (of_decide_eq_true hb1) (by omega))
              have q4_ : (l.length ≤ (1099511627776 : Nat)) := (by first | exact rfl | exact hl | exact fun i _ => rfl | omega | exact absurd (of_decide_eq_true hb1) (by omega))
              exact go_ret (Q1_ok l) rfl rfl Tryd.func30 (sr' := ⟨0, [.d (.raw (.int .i64 ((4 : Int))))], []⟩) (cs := ((fun (c0 c1 c2 c3 c4 : Prop) => [((decide (i < k)) = false), ((true) = true), (Ix 0 4), c0, c1, c2, c3, c4, ((!decide ((0 : Int) ≤ idxF l o1 (0 : Int))) = false), ((true) = true), (Ix 1 4), c0, c1, c2, c3, c4, ((!decide ((0 : Int) ≤ idxF l o2 (0 : Int))) = true)]) (((↑l.length : Int) == (0 : Int)) = false) ((decide ((↑l.length : Int) > (0 : Int))) = true) (l.length = l.length) (∀ (i : Nat), i < l.length → intEl l i = intEl l i) (l.length ≤ (1099511627776 : Nat)))) [false, true, true, true, false, true, false, true, true, true, false, true, true] true (by kernel_rfl) (by kernel_rfl) ⟨hb1, rfl, (by decide), q0_, q1_, q2_, q3_, q4_, hb18, rfl, (by decide), q0_, q1_, q2_, q3_, q4_, hb19, trivial⟩ (by first | (exfalso; have := of_decide_eq_true hb1; omega) | (have hR : R = 4 := by { clear hsim; grind }; rw [hR]; done) | (have hR : R = 0 := by { clear hsim; grind }; rw [hR]; done)) hsim
            · skip
              rcases Bool.eq_false_or_eq_true (!decide ((0 : Int) ≤ idxF l o3 (0 : Int))) with hb20 | hb20
              · skip
                have q0_ : (((↑l.length : Int) == (0 : Int)) = false) := hb4
                have q1_ : ((decide ((↑l.length : Int) > (0 : Int))) = true) := hb17
                have q2_ : (l.length = l.length) := (by first | exact rfl | exact hl | exact fun i _ => rfl | omega | exact absurd (of_decide_eq_true hb1) (by omega))
                have q3_ : (∀ (i : Nat), i < l.length → intEl l i = intEl l i) := (by first | exact rfl | exact hl | exact fun i _ => rfl | omega | exact absurd (of_decide_eq_true hb1) (by omega))
                have q4_ : (l.length ≤ (1099511627776 : Nat)) := (by first | exact rfl | exact hl | exact fun i _ => rfl | omega | exact absurd (of_decide_eq_true hb1) (by omega))
                exact go_ret (Q1_ok l) rfl rfl Tryd.func30 (sr' := ⟨0, [.d (.raw (.int .i64 ((4 : Int))))], []⟩) (cs := ((fun (c0 c1 c2 c3 c4 : Prop) => [((decide (i < k)) = false), ((true) = true), (Ix 0 4), c0, c1, c2, c3, c4, ((!decide ((0 : Int) ≤ idxF l o1 (0 : Int))) = false), ((true) = true), (Ix 1 4), c0, c1, c2, c3, c4, ((!decide ((0 : Int) ≤ idxF l o2 (0 : Int))) = false), ((true) = true), (Ix 2 4), c0, c1, c2, c3, c4, ((!decide ((0 : Int) ≤ idxF l o3 (0 : Int))) = true)]) (((↑l.length : Int) == (0 : Int)) = false) ((decide ((↑l.length : Int) > (0 : Int))) = true) (l.length = l.length) (∀ (i : Nat), i < l.length → intEl l i = intEl l i) (l.length ≤ (1099511627776 : Nat)))) [false, true, true, true, false, true, false, true, true, true, false, true, false, true, true, true, false, true, true] true (by kernel_rfl) (by kernel_rfl) ⟨hb1, rfl, (by decide), q0_, q1_, q2_, q3_, q4_, hb18, rfl, (by decide), q0_, q1_, q2_, q3_, q4_, hb19, rfl, (by decide), q0_, q1_, q2_, q3_, q4_, hb20, trivial⟩ (by first | (exfalso; have := of_decide_eq_true hb1; omega) | (have hR : R = 4 := by { clear hsim; grind }; rw [hR]; done) | (have hR : R = 0 := by { clear hsim; grind }; rw [hR]; done)) hsim
              · skip
                rcases Bool.eq_false_or_eq_true (!decide ((0 : Int) ≤ idxF l o4 (0 : Int))) with hb21 | hb21
                · skip
                  have q0_ : (((↑l.length : Int) == (0 : Int)) = false) := hb4
                  have q1_ : ((decide ((↑l.length : Int) > (0 : Int))) = true) := hb17
                  have q2_ : (l.length = l.length) := (by first | exact rfl | exact hl | exact fun i _ => rfl | omega | exact absurd (of_decide_eq_true hb1) (by omega))
                  have q3_ : (∀ (i : Nat), i < l.length → intEl l i = intEl l i) := (by first | exact rfl | exact hl | exact fun i _ => rfl | omega | exact absurd (of_decide_eq_true hb1) (by omega))
                  have q4_ : (l.length ≤ (1099511627776 : Nat)) := (by first | exact rfl | exact hl | exact fun i _ => rfl | omega | exact absurd (of_decide_eq_true hb1) (by omega))
                  exact go_ret (Q1_ok l) rfl rfl Tryd.func30 (sr' := ⟨0, [.d (.raw (.int .i64 ((4 : Int))))], []⟩) (cs := ((fun (c0 c1 c2 c3 c4 : Prop) => [((decide (i < k)) = false), ((true) = true), (Ix 0 4), c0, c1, c2, c3, c4, ((!decide ((0 : Int) ≤ idxF l o1 (0 : Int))) = false), ((true) = true), (Ix 1 4), c0, c1, c2, c3, c4, ((!decide ((0 : Int) ≤ idxF l o2 (0 : Int))) = false), ((true) = true), (Ix 2 4), c0, c1, c2, c3, c4, ((!decide ((0 : Int) ≤ idxF l o3 (0 : Int))) = false), ((true) = true), (Ix 3 4), c0, c1, c2, c3, c4, ((!decide ((0 : Int) ≤ idxF l o4 (0 : Int))) = true)]) (((↑l.length : Int) == (0 : Int)) = false) ((decide ((↑l.length : Int) > (0 : Int))) = true) (l.length = l.length) (∀ (i : Nat), i < l.length → intEl l i = intEl l i) (l.length ≤ (1099511627776 : Nat)))) [false, true, true, true, false, true, false, true, true, true, false, true, false, true, true, true, false, true, false, true, true, true, false, true, true] true (by kernel_rfl) (by kernel_rfl) ⟨hb1, rfl, (by decide), q0_, q1_, q2_, q3_, q4_, hb18, rfl, (by decide), q0_, q1_, q2_, q3_, q4_, hb19, rfl, (by decide), q0_, q1_, q2_, q3_, q4_, hb20, rfl, (by decide), q0_, q1_, q2_, q3_, q4_, hb21, trivial⟩ (by first | (exfalso; have := of_decide_eq_true hb1; omega) | (have hR : R = 4 := by { clear hsim; grind }; rw [hR]; done) | (have hR : R = 0 := by { clear hsim; grind }; rw [hR]; done)) hsim
                · skip
                  have q0_ : (((↑l.length : Int) == (0 : Int)) = false) := hb4
                  have q1_ : ((decide ((↑l.length : Int) > (0 : Int))) = true) := hb17
                  have q2_ : (l.length = l.length) := (by first | exact rfl | exact hl | exact fun i _ => rfl | omega | exact absurd (of_decide_eq_true hb1) (by omega))
                  have q3_ : (∀ (i : Nat), i < l.length → intEl l i = intEl l i) := (by first | exact rfl | exact hl | exact fun i _ => rfl | omega | exact absurd (of_decide_eq_true hb1) (by omega))
                  have q4_ : (l.length ≤ (1099511627776 : Nat)) := (by first | exact rfl | exact hl | exact fun i _ => rfl | omega | exact absurd (of_decide_eq_true hb1) (by omega))
                  exact go_ret (Q1_ok l) rfl rfl Tryd.func30 (sr' := ⟨0, [.d (.raw (.int .i64 ((0 : Int))))], []⟩) (cs := ((fun (c0 c1 c2 c3 c4 : Prop) => [((decide (i < k)) = false), ((true) = true), (Ix 0 4), c0, c1, c2, c3, c4, ((!decide ((0 : Int) ≤ idxF l o1 (0 : Int))) = false), ((true) = true), (Ix 1 4), c0, c1, c2, c3, c4, ((!decide ((0 : Int) ≤ idxF l o2 (0 : Int))) = false), ((true) = true), (Ix 2 4), c0, c1, c2, c3, c4, ((!decide ((0 : Int) ≤ idxF l o3 (0 : Int))) = false), ((true) = true), (Ix 3 4), c0, c1, c2, c3, c4, ((!decide ((0 : Int) ≤ idxF l o4 (0 : Int))) = false), ((false) = false)]) (((↑l.length : Int) == (0 : Int)) = false) ((decide ((↑l.length : Int) > (0 : Int))) = true) (l.length = l.length) (∀ (i : Nat), i < l.length → intEl l i = intEl l i) (l.length ≤ (1099511627776 : Nat)))) [false, true, true, true, false, true, false, true, true, true, false, true, false, true, true, true, false, true, false, true, true, true, false, true, false, true, false] true (by kernel_rfl) (by kernel_rfl) ⟨hb1, rfl, (by decide), q0_, q1_, q2_, q3_, q4_, hb18, rfl, (by decide), q0_, q1_, q2_, q3_, q4_, hb19, rfl, (by decide), q0_, q1_, q2_, q3_, q4_, hb20, rfl, (by decide), q0_, q1_, q2_, q3_, q4_, hb21, rfl, trivial⟩ (by first | (exfalso; have := of_decide_eq_true hb1; omega) | (have hR : R = 4 := by { clear hsim; grind }; rw [hR]; done) | (have hR : R = 0 := by { clear hsim; grind }; rw [hR]; done)) hsim
        · skip
          have q0_ : (((↑l.length : Int) == (0 : Int)) = false) := hb4
          have q1_ : ((decide ((↑l.length : Int) > (0 : Int))) = false) := hb17
          exact go_ret (Q1_ok l) rfl rfl Tryd.func30 (sr' := ⟨0, [.d (.raw (.int .i64 ((0 : Int))))], []⟩) (cs := ((fun (c0 c1 : Prop) => [((decide (i < k)) = false), ((true) = true), (Ix 0 4), c0, c1, ((true) = true), (Ix 1 4), c0, c1, ((true) = true), (Ix 2 4), c0, c1, ((true) = true), (Ix 3 4), c0, c1, ((false) = false)]) (((↑l.length : Int) == (0 : Int)) = false) ((decide ((↑l.length : Int) > (0 : Int))) = false))) [false, true, true, true, false, false, true, true, true, false, false, true, true, true, false, false, true, true, true, false, false, true, false] true (by kernel_rfl) (by kernel_rfl) ⟨hb1, rfl, (by decide), q0_, q1_, rfl, (by decide), q0_, q1_, rfl, (by decide), q0_, q1_, rfl, (by decide), q0_, q1_, rfl, trivial⟩ (by first | (exfalso; have := of_decide_eq_true hb1; omega) | (have hR : R = 4 := by { clear hsim; grind }; rw [hR]; done) | (have hR : R = 0 := by { clear hsim; grind }; rw [hR]; done)) hsim
  | succ d ih =>
    intro k i z en h0 hd E a w hsim
    have hi : i.toNat < l.length := by omega
    have ew : IntKind.i64.wrap (i + 1) = i + 1 := wrapN (by omega)
    have ih := ih k (IntKind.i64.wrap (i + 1)) (l.getD i.toNat 0) en (by rw [ew]; omega) (by rw [ew]; omega)
    have hr : tailC z (l.drop i.toNat) l o1 o2 o3 o4 = if z < l.getD i.toNat 0 ∧ 1 ≤ l.getD i.toNat 0 ∧ l.getD i.toNat 0 ≤ 4 then tailC (l.getD i.toNat 0) (l.drop (IntKind.i64.wrap (i + 1)).toNat) l o1 o2 o3 o4 else 4 := by
      rw [getD_drop hi, ew, show (i + 1).toNat = i.toNat + 1 by omega]
      unfold tailC
      simp only [grpF, Bool.and_eq_true, decide_eq_true_eq]
      by_cases hq : z < l.getD i.toNat 0 ∧ 1 ≤ l.getD i.toNat 0 ∧ l.getD i.toNat 0 ≤ 4
      · rw [if_pos hq]; simp only [hq, true_and]
      · rw [if_neg hq, if_neg (fun h => hq h.1.1)]
    rcases Bool.eq_false_or_eq_true (decide (i < k)) with hb1 | hb1
    · skip
      rcases Bool.eq_false_or_eq_true (decide (l.getD i.toNat (0 : Int) ≤ z)) with hb2 | hb2
      · skip
        exact go_ret (Q1_ok l) rfl rfl Tryd.func30 (sr' := ⟨0, [.d (.raw (.int .i64 ((4 : Int))))], []⟩) (cs := [((decide (i < k)) = true), ((0 : Int) ≤ i ∧ i < (↑l.length : Int)), ((decide (l.getD i.toNat (0 : Int) ≤ z)) = true)]) [true, true] true (by kernel_rfl) (by kernel_rfl) ⟨hb1, (by first | exact rfl | exact hl | exact fun i _ => rfl | omega), hb2, trivial⟩ (by first | (exfalso; have := of_decide_eq_false hb1; omega) | (rw [hr, if_neg (by have h2 := hb2; simp only [decide_eq_true_eq] at h2; omega)]; done) | (rw [hr, if_neg (by have h3 := hb3; simp only [Bool.not_eq_true', decide_eq_false_iff_not] at h3; exact fun h => h3 h.2)])) hsim
      · skip
        rcases Bool.eq_false_or_eq_true (!decide ((1 : Int) ≤ l.getD i.toNat (0 : Int) ∧ l.getD i.toNat (0 : Int) ≤ (4 : Int))) with hb3 | hb3
        · skip
          exact go_ret (Q1_ok l) rfl rfl Tryd.func30 (sr' := ⟨0, [.d (.raw (.int .i64 ((4 : Int))))], []⟩) (cs := [((decide (i < k)) = true), ((0 : Int) ≤ i ∧ i < (↑l.length : Int)), ((decide (l.getD i.toNat (0 : Int) ≤ z)) = false), ((!decide ((1 : Int) ≤ l.getD i.toNat (0 : Int) ∧ l.getD i.toNat (0 : Int) ≤ (4 : Int))) = true)]) [true, false, true] true (by kernel_rfl) (by kernel_rfl) ⟨hb1, (by first | exact rfl | exact hl | exact fun i _ => rfl | omega), hb2, hb3, trivial⟩ (by first | (exfalso; have := of_decide_eq_false hb1; omega) | (rw [hr, if_neg (by have h2 := hb2; simp only [decide_eq_true_eq] at h2; omega)]; done) | (rw [hr, if_neg (by have h3 := hb3; simp only [Bool.not_eq_true', decide_eq_false_iff_not] at h3; exact fun h => h3 h.2)])) hsim
        · skip
          refine go_head (Q1_ok l) rfl rfl (k' := loopAt Tryd.f30 0) (s' := mk 0 60 [(1, .ref 0 0), (3, .d (.raw (.int .i64 (l.getD i.toNat (0 : Int))))), (17, .d (.list 1 (l.length) (intEl l))), (18, .d (.raw (.int .i64 (k)))), (19, .d (.raw (.int .i64 (IntKind.i64.wrap (i + (1 : Int))))))] [(0, .obj 46 [.d (.raw (.int .i64 (n))), .d (.list 1 (l.length) (intEl l)), .d (.raw (.int .i64 (o1))), .d (.raw (.int .i64 (o2))), .d (.raw (.int .i64 (o3))), .d (.raw (.int .i64 (o4)))])]) (cs := [((decide (i < k)) = true), ((0 : Int) ≤ i ∧ i < (↑l.length : Int)), ((decide (l.getD i.toNat (0 : Int) ≤ z)) = false), ((!decide ((1 : Int) ≤ l.getD i.toNat (0 : Int) ∧ l.getD i.toNat (0 : Int) ≤ (4 : Int))) = false)]) [true, false, false] [1,3,17,18,19] (by kernel_rfl) (by kernel_rfl) ⟨hb1, (by first | exact rfl | exact hl | exact fun i _ => rfl | omega), hb2, hb3, trivial⟩ hsim fun E a w hsim => ?_
          have e := ih E a w hsim
          rw [hr, if_pos (by have h2 := hb2;  have h3 := hb3; simp only [decide_eq_false_iff_not, Bool.not_eq_false', decide_eq_true_eq] at h2 h3; omega)]
          exact e
    · skip
      rcases Bool.eq_false_or_eq_true ((↑l.length : Int) == (0 : Int)) with hb4 | hb4
      · skip
        rcases Bool.eq_false_or_eq_true (o1 != (0 : Int)) with hb5 | hb5
        · skip
          exact go_ret (Q1_ok l) rfl rfl Tryd.func30 (sr' := ⟨0, [.d (.raw (.int .i64 ((4 : Int))))], []⟩) (cs := [((decide (i < k)) = false), ((true) = true), (Ix 0 4), (((↑l.length : Int) == (0 : Int)) = true), ((o1 != (0 : Int)) = true)]) ([false] ++ (List.replicate 5 true)) true (by kernel_rfl) (by kernel_rfl) ⟨hb1, rfl, (by decide), hb4, hb5, trivial⟩ (by first | (exfalso; have := of_decide_eq_false hb1; omega) | (rw [hr, if_neg (by have h2 := hb2; simp only [decide_eq_true_eq] at h2; omega)]; done) | (rw [hr, if_neg (by have h3 := hb3; simp only [Bool.not_eq_true', decide_eq_false_iff_not] at h3; exact fun h => h3 h.2)])) hsim
        · skip
          rcases Bool.eq_false_or_eq_true (decide ((↑l.length : Int) > (0 : Int))) with hb6 | hb6
          · skip
            rcases Bool.eq_false_or_eq_true (!decide ((0 : Int) ≤ idxF l o1 (0 : Int))) with hb7 | hb7
            · skip
              exact go_ret (Q1_ok l) rfl rfl Tryd.func30 (sr' := ⟨0, [.d (.raw (.int .i64 ((4 : Int))))], []⟩) (cs := [((decide (i < k)) = false), ((true) = true), (Ix 0 4), (((↑l.length : Int) == (0 : Int)) = true), ((o1 != (0 : Int)) = false), ((decide ((↑l.length : Int) > (0 : Int))) = true), (l.length = l.length), (∀ (i : Nat), i < l.length → intEl l i = intEl l i), (l.length ≤ (1099511627776 : Nat)), ((!decide ((0 : Int) ≤ idxF l o1 (0 : Int))) = true)]) ([false] ++ (List.replicate 4 true) ++ [false, true, true]) true (by kernel_rfl) (by kernel_rfl) ⟨hb1, rfl, (by decide), hb4, hb5, hb6, (by first | exact rfl | exact hl | exact fun i _ => rfl | omega), (by first | exact rfl | exact hl | exact fun i _ => rfl | omega), (by first | exact rfl | exact hl | exact fun i _ => rfl | omega), hb7, trivial⟩ (by first | (exfalso; have := of_decide_eq_false hb1; omega) | (rw [hr, if_neg (by have h2 := hb2; simp only [decide_eq_true_eq] at h2; omega)]; done) | (rw [hr, if_neg (by have h3 := hb3; simp only [Bool.not_eq_true', decide_eq_false_iff_not] at h3; exact fun h => h3 h.2)])) hsim
            · skip
              rcases Bool.eq_false_or_eq_true (o2 != (0 : Int)) with hb8 | hb8
              · skip
                have q0_ : (((↑l.length : Int) == (0 : Int)) = true) := hb4
                exact go_ret (Q1_ok l) rfl rfl Tryd.func30 (sr' := ⟨0, [.d (.raw (.int .i64 ((4 : Int))))], []⟩) (cs := ((fun (c0 : Prop) => [((decide (i < k)) = false), ((true) = true), (Ix 0 4), c0, ((o1 != (0 : Int)) = false), ((decide ((↑l.length : Int) > (0 : Int))) = true), (l.length = l.length), (∀ (i : Nat), i < l.length → intEl l i = intEl l i), (l.length ≤ (1099511627776 : Nat)), ((!decide ((0 : Int) ≤ idxF l o1 (0 : Int))) = false), ((true) = true), (Ix 1 4), c0, ((o2 != (0 : Int)) = true)]) (((↑l.length : Int) == (0 : Int)) = true))) ([false] ++ (List.replicate 4 true) ++ [false, true, false] ++ (List.replicate 5 true)) true (by kernel_rfl) (by kernel_rfl) ⟨hb1, rfl, (by decide), q0_, hb5, hb6, (by first | exact rfl | exact hl | exact fun i _ => rfl | omega), (by first | exact rfl | exact hl | exact fun i _ => rfl | omega), (by first | exact rfl | exact hl | exact fun i _ => rfl | omega), hb7, rfl, (by decide), q0_, hb8, trivial⟩ (by first | (exfalso; have := of_decide_eq_false hb1; omega) | (rw [hr, if_neg (by have h2 := hb2; simp only [decide_eq_true_eq] at h2; omega)]; done) | (rw [hr, if_neg (by have h3 := hb3; simp only [Bool.not_eq_true', decide_eq_false_iff_not] at h3; exact fun h => h3 h.2)])) hsim
              · skip
                rcases Bool.eq_false_or_eq_true (!decide ((0 : Int) ≤ idxF l o2 (0 : Int))) with hb9 | hb9
                · skip
                  have q0_ : (((↑l.length : Int) == (0 : Int)) = true) := hb4
                  have q1_ : ((decide ((↑l.length : Int) > (0 : Int))) = true) := hb6
                  have q2_ : (l.length = l.length) := (by first | exact rfl | exact hl | exact fun i _ => rfl | omega)
                  have q3_ : (∀ (i : Nat), i < l.length → intEl l i = intEl l i) := (by first | exact rfl | exact hl | exact fun i _ => rfl | omega)
                  have q4_ : (l.length ≤ (1099511627776 : Nat)) := (by first | exact rfl | exact hl | exact fun i _ => rfl | omega)
                  exact go_ret (Q1_ok l) rfl rfl Tryd.func30 (sr' := ⟨0, [.d (.raw (.int .i64 ((4 : Int))))], []⟩) (cs := ((fun (c0 c1 c2 c3 c4 : Prop) => [((decide (i < k)) = false), ((true) = true), (Ix 0 4), c0, ((o1 != (0 : Int)) = false), c1, c2, c3, c4, ((!decide ((0 : Int) ≤ idxF l o1 (0 : Int))) = false), ((true) = true), (Ix 1 4), c0, ((o2 != (0 : Int)) = false), c1, c2, c3, c4, ((!decide ((0 : Int) ≤ idxF l o2 (0 : Int))) = true)]) (((↑l.length : Int) == (0 : Int)) = true) ((decide ((↑l.length : Int) > (0 : Int))) = true) (l.length = l.length) (∀ (i : Nat), i < l.length → intEl l i = intEl l i) (l.length ≤ (1099511627776 : Nat)))) ([false] ++ (List.replicate 4 true) ++ [false, true, false] ++ (List.replicate 4 true) ++ [false, true, true]) true (by kernel_rfl) (by kernel_rfl) ⟨hb1, rfl, (by decide), q0_, hb5, q1_, q2_, q3_, q4_, hb7, rfl, (by decide), q0_, hb8, q1_, q2_, q3_, q4_, hb9, trivial⟩ (by first | (exfalso; have := of_decide_eq_false hb1; omega) | (rw [hr, if_neg (by have h2 := hb2; simp only [decide_eq_true_eq] at h2; omega)]; done) | (rw [hr, if_neg (by have h3 := hb3; simp only [Bool.not_eq_true', decide_eq_false_iff_not] at h3; exact fun h => h3 h.2)])) hsim
                · skip
                  rcases Bool.eq_false_or_eq_true (o3 != (0 : Int)) with hb10 | hb10
                  · skip
                    have q0_ : (((↑l.length : Int) == (0 : Int)) = true) := hb4
                    have q1_ : ((decide ((↑l.length : Int) > (0 : Int))) = true) := hb6
                    have q2_ : (l.length = l.length) := (by first | exact rfl | exact hl | exact fun i _ => rfl | omega)
                    have q3_ : (∀ (i : Nat), i < l.length → intEl l i = intEl l i) := (by first | exact rfl | exact hl | exact fun i _ => rfl | omega)
                    have q4_ : (l.length ≤ (1099511627776 : Nat)) := (by first | exact rfl | exact hl | exact fun i _ => rfl | omega)
                    exact go_ret (Q1_ok l) rfl rfl Tryd.func30 (sr' := ⟨0, [.d (.raw (.int .i64 ((4 : Int))))], []⟩) (cs := ((fun (c0 c1 c2 c3 c4 : Prop) => [((decide (i < k)) = false), ((true) = true), (Ix 0 4), c0, ((o1 != (0 : Int)) = false), c1, c2, c3, c4, ((!decide ((0 : Int) ≤ idxF l o1 (0 : Int))) = false), ((true) = true), (Ix 1 4), c0, ((o2 != (0 : Int)) = false), c1, c2, c3, c4, ((!decide ((0 : Int) ≤ idxF l o2 (0 : Int))) = false), ((true) = true), (Ix 2 4), c0, ((o3 != (0 : Int)) = true)]) (((↑l.length : Int) == (0 : Int)) = true) ((decide ((↑l.length : Int) > (0 : Int))) = true) (l.length = l.length) (∀ (i : Nat), i < l.length → intEl l i = intEl l i) (l.length ≤ (1099511627776 : Nat)))) ([false] ++ (List.replicate 4 true) ++ [false, true, false] ++ (List.replicate 4 true) ++ [false, true, false] ++ (List.replicate 5 true)) true (by kernel_rfl) (by kernel_rfl) ⟨hb1, rfl, (by decide), q0_, hb5, q1_, q2_, q3_, q4_, hb7, rfl, (by decide), q0_, hb8, q1_, q2_, q3_, q4_, hb9, rfl, (by decide), q0_, hb10, trivial⟩ (by first | (exfalso; have := of_decide_eq_false hb1; omega) | (rw [hr, if_neg (by have h2 := hb2; simp only [decide_eq_true_eq] at h2; omega)]; done) | (rw [hr, if_neg (by have h3 := hb3; simp only [Bool.not_eq_true', decide_eq_false_iff_not] at h3; exact fun h => h3 h.2)])) hsim
                  · skip
                    rcases Bool.eq_false_or_eq_true (!decide ((0 : Int) ≤ idxF l o3 (0 : Int))) with hb11 | hb11
                    · skip
                      have q0_ : (((↑l.length : Int) == (0 : Int)) = true) := hb4
                      have q1_ : ((decide ((↑l.length : Int) > (0 : Int))) = true) := hb6
                      have q2_ : (l.length = l.length) := (by first | exact rfl | exact hl | exact fun i _ => rfl | omega)
                      have q3_ : (∀ (i : Nat), i < l.length → intEl l i = intEl l i) := (by first | exact rfl | exact hl | exact fun i _ => rfl | omega)
                      have q4_ : (l.length ≤ (1099511627776 : Nat)) := (by first | exact rfl | exact hl | exact fun i _ => rfl | omega)
                      exact go_ret (Q1_ok l) rfl rfl Tryd.func30 (sr' := ⟨0, [.d (.raw (.int .i64 ((4 : Int))))], []⟩) (cs := ((fun (c0 c1 c2 c3 c4 : Prop) => [((decide (i < k)) = false), ((true) = true), (Ix 0 4), c0, ((o1 != (0 : Int)) = false), c1, c2, c3, c4, ((!decide ((0 : Int) ≤ idxF l o1 (0 : Int))) = false), ((true) = true), (Ix 1 4), c0, ((o2 != (0 : Int)) = false), c1, c2, c3, c4, ((!decide ((0 : Int) ≤ idxF l o2 (0 : Int))) = false), ((true) = true), (Ix 2 4), c0, ((o3 != (0 : Int)) = false), c1, c2, c3, c4, ((!decide ((0 : Int) ≤ idxF l o3 (0 : Int))) = true)]) (((↑l.length : Int) == (0 : Int)) = true) ((decide ((↑l.length : Int) > (0 : Int))) = true) (l.length = l.length) (∀ (i : Nat), i < l.length → intEl l i = intEl l i) (l.length ≤ (1099511627776 : Nat)))) ([false] ++ (List.replicate 4 true) ++ [false, true, false] ++ (List.replicate 4 true) ++ [false, true, false] ++ (List.replicate 4 true) ++ [false, true, true]) true (by kernel_rfl) (by kernel_rfl) ⟨hb1, rfl, (by decide), q0_, hb5, q1_, q2_, q3_, q4_, hb7, rfl, (by decide), q0_, hb8, q1_, q2_, q3_, q4_, hb9, rfl, (by decide), q0_, hb10, q1_, q2_, q3_, q4_, hb11, trivial⟩ (by first | (exfalso; have := of_decide_eq_false hb1; omega) | (rw [hr, if_neg (by have h2 := hb2; simp only [decide_eq_true_eq] at h2; omega)]; done) | (rw [hr, if_neg (by have h3 := hb3; simp only [Bool.not_eq_true', decide_eq_false_iff_not] at h3; exact fun h => h3 h.2)])) hsim
                    · skip
                      rcases Bool.eq_false_or_eq_true (o4 != (0 : Int)) with hb12 | hb12
                      · skip
                        have q0_ : (((↑l.length : Int) == (0 : Int)) = true) := hb4
                        have q1_ : ((decide ((↑l.length : Int) > (0 : Int))) = true) := hb6
                        have q2_ : (l.length = l.length) := (by first | exact rfl | exact hl | exact fun i _ => rfl | omega)
                        have q3_ : (∀ (i : Nat), i < l.length → intEl l i = intEl l i) := (by first | exact rfl | exact hl | exact fun i _ => rfl | omega)
                        have q4_ : (l.length ≤ (1099511627776 : Nat)) := (by first | exact rfl | exact hl | exact fun i _ => rfl | omega)
                        exact go_ret (Q1_ok l) rfl rfl Tryd.func30 (sr' := ⟨0, [.d (.raw (.int .i64 ((4 : Int))))], []⟩) (cs := ((fun (c0 c1 c2 c3 c4 : Prop) => [((decide (i < k)) = false), ((true) = true), (Ix 0 4), c0, ((o1 != (0 : Int)) = false), c1, c2, c3, c4, ((!decide ((0 : Int) ≤ idxF l o1 (0 : Int))) = false), ((true) = true), (Ix 1 4), c0, ((o2 != (0 : Int)) = false), c1, c2, c3, c4, ((!decide ((0 : Int) ≤ idxF l o2 (0 : Int))) = false), ((true) = true), (Ix 2 4), c0, ((o3 != (0 : Int)) = false), c1, c2, c3, c4, ((!decide ((0 : Int) ≤ idxF l o3 (0 : Int))) = false), ((true) = true), (Ix 3 4), c0, ((o4 != (0 : Int)) = true)]) (((↑l.length : Int) == (0 : Int)) = true) ((decide ((↑l.length : Int) > (0 : Int))) = true) (l.length = l.length) (∀ (i : Nat), i < l.length → intEl l i = intEl l i) (l.length ≤ (1099511627776 : Nat)))) ([false] ++ (List.replicate 4 true) ++ [false, true, false] ++ (List.replicate 4 true) ++ [false, true, false] ++ (List.replicate 4 true) ++ [false, true, false] ++ (List.replicate 5 true)) true (by kernel_rfl) (by kernel_rfl) ⟨hb1, rfl, (by decide), q0_, hb5, q1_, q2_, q3_, q4_, hb7, rfl, (by decide), q0_, hb8, q1_, q2_, q3_, q4_, hb9, rfl, (by decide), q0_, hb10, q1_, q2_, q3_, q4_, hb11, rfl, (by decide), q0_, hb12, trivial⟩ (by first | (exfalso; have := of_decide_eq_false hb1; omega) | (rw [hr, if_neg (by have h2 := hb2; simp only [decide_eq_true_eq] at h2; omega)]; done) | (rw [hr, if_neg (by have h3 := hb3; simp only [Bool.not_eq_true', decide_eq_false_iff_not] at h3; exact fun h => h3 h.2)])) hsim
                      · skip
                        rcases Bool.eq_false_or_eq_true (!decide ((0 : Int) ≤ idxF l o4 (0 : Int))) with hb13 | hb13
                        · skip
                          have q0_ : (((↑l.length : Int) == (0 : Int)) = true) := hb4
                          have q1_ : ((decide ((↑l.length : Int) > (0 : Int))) = true) := hb6
                          have q2_ : (l.length = l.length) := (by first | exact rfl | exact hl | exact fun i _ => rfl | omega)
                          have q3_ : (∀ (i : Nat), i < l.length → intEl l i = intEl l i) := (by first | exact rfl | exact hl | exact fun i _ => rfl | omega)
                          have q4_ : (l.length ≤ (1099511627776 : Nat)) := (by first | exact rfl | exact hl | exact fun i _ => rfl | omega)
                          exact go_ret (Q1_ok l) rfl rfl Tryd.func30 (sr' := ⟨0, [.d (.raw (.int .i64 ((4 : Int))))], []⟩) (cs := ((fun (c0 c1 c2 c3 c4 : Prop) => [((decide (i < k)) = false), ((true) = true), (Ix 0 4), c0, ((o1 != (0 : Int)) = false), c1, c2, c3, c4, ((!decide ((0 : Int) ≤ idxF l o1 (0 : Int))) = false), ((true) = true), (Ix 1 4), c0, ((o2 != (0 : Int)) = false), c1, c2, c3, c4, ((!decide ((0 : Int) ≤ idxF l o2 (0 : Int))) = false), ((true) = true), (Ix 2 4), c0, ((o3 != (0 : Int)) = false), c1, c2, c3, c4, ((!decide ((0 : Int) ≤ idxF l o3 (0 : Int))) = false), ((true) = true), (Ix 3 4), c0, ((o4 != (0 : Int)) = false), c1, c2, c3, c4, ((!decide ((0 : Int) ≤ idxF l o4 (0 : Int))) = true)]) (((↑l.length : Int) == (0 : Int)) = true) ((decide ((↑l.length : Int) > (0 : Int))) = true) (l.length = l.length) (∀ (i : Nat), i < l.length → intEl l i = intEl l i) (l.length ≤ (1099511627776 : Nat)))) ([false] ++ (List.replicate 4 true) ++ [false, true, false] ++ (List.replicate 4 true) ++ [false, true, false] ++ (List.replicate 4 true) ++ [false, true, false] ++ (List.replicate 4 true) ++ [false, true, true]) true (by kernel_rfl) (by kernel_rfl) ⟨hb1, rfl, (by decide), q0_, hb5, q1_, q2_, q3_, q4_, hb7, rfl, (by decide), q0_, hb8, q1_, q2_, q3_, q4_, hb9, rfl, (by decide), q0_, hb10, q1_, q2_, q3_, q4_, hb11, rfl, (by decide), q0_, hb12, q1_, q2_, q3_, q4_, hb13, trivial⟩ (by first | (exfalso; have := of_decide_eq_false hb1; omega) | (rw [hr, if_neg (by have h2 := hb2; simp only [decide_eq_true_eq] at h2; omega)]; done) | (rw [hr, if_neg (by have h3 := hb3; simp only [Bool.not_eq_true', decide_eq_false_iff_not] at h3; exact fun h => h3 h.2)])) hsim
                        · skip
                          have q0_ : (((↑l.length : Int) == (0 : Int)) = true) := hb4
                          have q1_ : ((decide ((↑l.length : Int) > (0 : Int))) = true) := hb6
                          have q2_ : (l.length = l.length) := (by first | exact rfl | exact hl | exact fun i _ => rfl | omega)
                          have q3_ : (∀ (i : Nat), i < l.length → intEl l i = intEl l i) := (by first | exact rfl | exact hl | exact fun i _ => rfl | omega)
                          have q4_ : (l.length ≤ (1099511627776 : Nat)) := (by first | exact rfl | exact hl | exact fun i _ => rfl | omega)
                          exact go_ret (Q1_ok l) rfl rfl Tryd.func30 (sr' := ⟨0, [.d (.raw (.int .i64 ((0 : Int))))], []⟩) (cs := ((fun (c0 c1 c2 c3 c4 : Prop) => [((decide (i < k)) = false), ((true) = true), (Ix 0 4), c0, ((o1 != (0 : Int)) = false), c1, c2, c3, c4, ((!decide ((0 : Int) ≤ idxF l o1 (0 : Int))) = false), ((true) = true), (Ix 1 4), c0, ((o2 != (0 : Int)) = false), c1, c2, c3, c4, ((!decide ((0 : Int) ≤ idxF l o2 (0 : Int))) = false), ((true) = true), (Ix 2 4), c0, ((o3 != (0 : Int)) = false), c1, c2, c3, c4, ((!decide ((0 : Int) ≤ idxF l o3 (0 : Int))) = false), ((true) = true), (Ix 3 4), c0, ((o4 != (0 : Int)) = false), c1, c2, c3, c4, ((!decide ((0 : Int) ≤ idxF l o4 (0 : Int))) = false), ((false) = false)]) (((↑l.length : Int) == (0 : Int)) = true) ((decide ((↑l.length : Int) > (0 : Int))) = true) (l.length = l.length) (∀ (i : Nat), i < l.length → intEl l i = intEl l i) (l.length ≤ (1099511627776 : Nat)))) ([false] ++ (List.replicate 4 true) ++ [false, true, false] ++ (List.replicate 4 true) ++ [false, true, false] ++ (List.replicate 4 true) ++ [false, true, false] ++ (List.replicate 4 true) ++ [false, true, false, true, false]) true (by kernel_rfl) (by kernel_rfl) ⟨hb1, rfl, (by decide), q0_, hb5, q1_, q2_, q3_, q4_, hb7, rfl, (by decide), q0_, hb8, q1_, q2_, q3_, q4_, hb9, rfl, (by decide), q0_, hb10, q1_, q2_, q3_, q4_, hb11, rfl, (by decide), q0_, hb12, q1_, q2_, q3_, q4_, hb13, rfl, trivial⟩ (by first | (exfalso; have := of_decide_eq_false hb1; omega) | (rw [hr, if_neg (by have h2 := hb2; simp only [decide_eq_true_eq] at h2; omega)]; done) | (rw [hr, if_neg (by have h3 := hb3; simp only [Bool.not_eq_true', decide_eq_false_iff_not] at h3; exact fun h => h3 h.2)])) hsim
          · skip
            rcases Bool.eq_false_or_eq_true (o2 != (0 : Int)) with hb14 | hb14
            · skip
              have q0_ : (((↑l.length : Int) == (0 : Int)) = true) := hb4
              exact go_ret (Q1_ok l) rfl rfl Tryd.func30 (sr' := ⟨0, [.d (.raw (.int .i64 ((4 : Int))))], []⟩) (cs := ((fun (c0 : Prop) => [((decide (i < k)) = false), ((true) = true), (Ix 0 4), c0, ((o1 != (0 : Int)) = false), ((decide ((↑l.length : Int) > (0 : Int))) = false), ((true) = true), (Ix 1 4), c0, ((o2 != (0 : Int)) = true)]) (((↑l.length : Int) == (0 : Int)) = true))) ([false] ++ (List.replicate 4 true) ++ [false, false] ++ (List.replicate 5 true)) true (by kernel_rfl) (by kernel_rfl) ⟨hb1, rfl, (by decide), q0_, hb5, hb6, rfl, (by decide), q0_, hb14, trivial⟩ (by first | (exfalso; have := of_decide_eq_false hb1; omega) | (rw [hr, if_neg (by have h2 := hb2; simp only [decide_eq_true_eq] at h2; omega)]; done) | (rw [hr, if_neg (by have h3 := hb3; simp only [Bool.not_eq_true', decide_eq_false_iff_not] at h3; exact fun h => h3 h.2)])) hsim
            · skip
              rcases Bool.eq_false_or_eq_true (o3 != (0 : Int)) with hb15 | hb15
              · skip
                have q0_ : (((↑l.length : Int) == (0 : Int)) = true) := hb4
                have q1_ : ((decide ((↑l.length : Int) > (0 : Int))) = false) := hb6
                exact go_ret (Q1_ok l) rfl rfl Tryd.func30 (sr' := ⟨0, [.d (.raw (.int .i64 ((4 : Int))))], []⟩) (cs := ((fun (c0 c1 : Prop) => [((decide (i < k)) = false), ((true) = true), (Ix 0 4), c0, ((o1 != (0 : Int)) = false), c1, ((true) = true), (Ix 1 4), c0, ((o2 != (0 : Int)) = false), c1, ((true) = true), (Ix 2 4), c0, ((o3 != (0 : Int)) = true)]) (((↑l.length : Int) == (0 : Int)) = true) ((decide ((↑l.length : Int) > (0 : Int))) = false))) ([false] ++ (List.replicate 4 true) ++ [false, false] ++ (List.replicate 4 true) ++ [false, false] ++ (List.replicate 5 true)) true (by kernel_rfl) (by kernel_rfl) ⟨hb1, rfl, (by decide), q0_, hb5, q1_, rfl, (by decide), q0_, hb14, q1_, rfl, (by decide), q0_, hb15, trivial⟩ (by first | (exfalso; have := of_decide_eq_false hb1; omega) | (rw [hr, if_neg (by have h2 := hb2; simp only [decide_eq_true_eq] at h2; omega)]; done) | (rw [hr, if_neg (by have h3 := hb3; simp only [Bool.not_eq_true', decide_eq_false_iff_not] at h3; exact fun h => h3 h.2)])) hsim
              · skip
                rcases Bool.eq_false_or_eq_true (o4 != (0 : Int)) with hb16 | hb16
                · skip
                  have q0_ : (((↑l.length : Int) == (0 : Int)) = true) := hb4
                  have q1_ : ((decide ((↑l.length : Int) > (0 : Int))) = false) := hb6
                  exact go_ret (Q1_ok l) rfl rfl Tryd.func30 (sr' := ⟨0, [.d (.raw (.int .i64 ((4 : Int))))], []⟩) (cs := ((fun (c0 c1 : Prop) => [((decide (i < k)) = false), ((true) = true), (Ix 0 4), c0, ((o1 != (0 : Int)) = false), c1, ((true) = true), (Ix 1 4), c0, ((o2 != (0 : Int)) = false), c1, ((true) = true), (Ix 2 4), c0, ((o3 != (0 : Int)) = false), c1, ((true) = true), (Ix 3 4), c0, ((o4 != (0 : Int)) = true)]) (((↑l.length : Int) == (0 : Int)) = true) ((decide ((↑l.length : Int) > (0 : Int))) = false))) ([false] ++ (List.replicate 4 true) ++ [false, false] ++ (List.replicate 4 true) ++ [false, false] ++ (List.replicate 4 true) ++ [false, false] ++ (List.replicate 5 true)) true (by kernel_rfl) (by kernel_rfl) ⟨hb1, rfl, (by decide), q0_, hb5, q1_, rfl, (by decide), q0_, hb14, q1_, rfl, (by decide), q0_, hb15, q1_, rfl, (by decide), q0_, hb16, trivial⟩ (by first | (exfalso; have := of_decide_eq_false hb1; omega) | (rw [hr, if_neg (by have h2 := hb2; simp only [decide_eq_true_eq] at h2; omega)]; done) | (rw [hr, if_neg (by have h3 := hb3; simp only [Bool.not_eq_true', decide_eq_false_iff_not] at h3; exact fun h => h3 h.2)])) hsim
                · skip
                  have q0_ : (((↑l.length : Int) == (0 : Int)) = true) := hb4
                  have q1_ : ((decide ((↑l.length : Int) > (0 : Int))) = false) := hb6
                  exact go_ret (Q1_ok l) rfl rfl Tryd.func30 (sr' := ⟨0, [.d (.raw (.int .i64 ((0 : Int))))], []⟩) (cs := ((fun (c0 c1 : Prop) => [((decide (i < k)) = false), ((true) = true), (Ix 0 4), c0, ((o1 != (0 : Int)) = false), c1, ((true) = true), (Ix 1 4), c0, ((o2 != (0 : Int)) = false), c1, ((true) = true), (Ix 2 4), c0, ((o3 != (0 : Int)) = false), c1, ((true) = true), (Ix 3 4), c0, ((o4 != (0 : Int)) = false), c1, ((false) = false)]) (((↑l.length : Int) == (0 : Int)) = true) ((decide ((↑l.length : Int) > (0 : Int))) = false))) ([false] ++ (List.replicate 4 true) ++ [false, false] ++ (List.replicate 4 true) ++ [false, false] ++ (List.replicate 4 true) ++ [false, false] ++ (List.replicate 4 true) ++ [false, false, true, false]) true (by kernel_rfl) (by kernel_rfl) ⟨hb1, rfl, (by decide), q0_, hb5, q1_, rfl, (by decide), q0_, hb14, q1_, rfl, (by decide), q0_, hb15, q1_, rfl, (by decide), q0_, hb16, q1_, rfl, trivial⟩ (by first | (exfalso; have := of_decide_eq_false hb1; omega) | (rw [hr, if_neg (by have h2 := hb2; simp only [decide_eq_true_eq] at h2; omega)]; done) | (rw [hr, if_neg (by have h3 := hb3; simp only [Bool.not_eq_true', decide_eq_false_iff_not] at h3; exact fun h => h3 h.2)])) hsim
      · skip
        rcases Bool.eq_false_or_eq_true (decide ((↑l.length : Int) > (0 : Int))) with hb17 | hb17
        · skip
          rcases Bool.eq_false_or_eq_true (!decide ((0 : Int) ≤ idxF l o1 (0 : Int))) with hb18 | hb18
          · skip
            exact go_ret (Q1_ok l) rfl rfl Tryd.func30 (sr' := ⟨0, [.d (.raw (.int .i64 ((4 : Int))))], []⟩) (cs := [((decide (i < k)) = false), ((true) = true), (Ix 0 4), (((↑l.length : Int) == (0 : Int)) = false), ((decide ((↑l.length : Int) > (0 : Int))) = true), (l.length = l.length), (∀ (i : Nat), i < l.length → intEl l i = intEl l i), (l.length ≤ (1099511627776 : Nat)), ((!decide ((0 : Int) ≤ idxF l o1 (0 : Int))) = true)]) [false, true, true, true, false, true, true] true (by kernel_rfl) (by kernel_rfl) ⟨hb1, rfl, (by decide), hb4, hb17, (by first | exact rfl | exact hl | exact fun i _ => rfl | omega), (by first | exact rfl | exact hl | exact fun i _ => rfl | omega), (by first | exact rfl | exact hl | exact fun i _ => rfl | omega), hb18, trivial⟩ (by first | (exfalso; have := of_decide_eq_false hb1; omega) | (rw [hr, if_neg (by have h2 := hb2; simp only [decide_eq_true_eq] at h2; omega)]; done) | (rw [hr, if_neg (by have h3 := hb3; simp only [Bool.not_eq_true', decide_eq_false_iff_not] at h3; exact fun h => h3 h.2)])) hsim
          · skip
            rcases Bool.eq_false_or_eq_true (!decide ((0 : Int) ≤ idxF l o2 (0 : Int))) with hb19 | hb19
            · skip
              have q0_ : (((↑l.length : Int) == (0 : Int)) = false) := hb4
              have q1_ : ((decide ((↑l.length : Int) > (0 : Int))) = true) := hb17
              have q2_ : (l.length = l.length) := (by first | exact rfl | exact hl | exact fun i _ => rfl | omega)
              have q3_ : (∀ (i : Nat), i < l.length → intEl l i = intEl l i) := (by first | exact rfl | exact hl | exact fun i _ => rfl | omega)
              have q4_ : (l.length ≤ (1099511627776 : Nat)) := (by first | exact rfl | exact hl | exact fun i _ => rfl | omega)
              exact go_ret (Q1_ok l) rfl rfl Tryd.func30 (sr' := ⟨0, [.d (.raw (.int .i64 ((4 : Int))))], []⟩) (cs := ((fun (c0 c1 c2 c3 c4 : Prop) => [((decide (i < k)) = false), ((true) = true), (Ix 0 4), c0, c1, c2, c3, c4, ((!decide ((0 : Int) ≤ idxF l o1 (0 : Int))) = false), ((true) = true), (Ix 1 4), c0, c1, c2, c3, c4, ((!decide ((0 : Int) ≤ idxF l o2 (0 : Int))) = true)]) (((↑l.length : Int) == (0 : Int)) = false) ((decide ((↑l.length : Int) > (0 : Int))) = true) (l.length = l.length) (∀ (i : Nat), i < l.length → intEl l i = intEl l i) (l.length ≤ (1099511627776 : Nat)))) [false, true, true, true, false, true, false, true, true, true, false, true, true] true (by kernel_rfl) (by kernel_rfl) ⟨hb1, rfl, (by decide), q0_, q1_, q2_, q3_, q4_, hb18, rfl, (by decide), q0_, q1_, q2_, q3_, q4_, hb19, trivial⟩ (by first | (exfalso; have := of_decide_eq_false hb1; omega) | (rw [hr, if_neg (by have h2 := hb2; simp only [decide_eq_true_eq] at h2; omega)]; done) | (rw [hr, if_neg (by have h3 := hb3; simp only [Bool.not_eq_true', decide_eq_false_iff_not] at h3; exact fun h => h3 h.2)])) hsim
            · skip
              rcases Bool.eq_false_or_eq_true (!decide ((0 : Int) ≤ idxF l o3 (0 : Int))) with hb20 | hb20
              · skip
                have q0_ : (((↑l.length : Int) == (0 : Int)) = false) := hb4
                have q1_ : ((decide ((↑l.length : Int) > (0 : Int))) = true) := hb17
                have q2_ : (l.length = l.length) := (by first | exact rfl | exact hl | exact fun i _ => rfl | omega)
                have q3_ : (∀ (i : Nat), i < l.length → intEl l i = intEl l i) := (by first | exact rfl | exact hl | exact fun i _ => rfl | omega)
                have q4_ : (l.length ≤ (1099511627776 : Nat)) := (by first | exact rfl | exact hl | exact fun i _ => rfl | omega)
                exact go_ret (Q1_ok l) rfl rfl Tryd.func30 (sr' := ⟨0, [.d (.raw (.int .i64 ((4 : Int))))], []⟩) (cs := ((fun (c0 c1 c2 c3 c4 : Prop) => [((decide (i < k)) = false), ((true) = true), (Ix 0 4), c0, c1, c2, c3, c4, ((!decide ((0 : Int) ≤ idxF l o1 (0 : Int))) = false), ((true) = true), (Ix 1 4), c0, c1, c2, c3, c4, ((!decide ((0 : Int) ≤ idxF l o2 (0 : Int))) = false), ((true) = true), (Ix 2 4), c0, c1, c2, c3, c4, ((!decide ((0 : Int) ≤ idxF l o3 (0 : Int))) = true)]) (((↑l.length : Int) == (0 : Int)) = false) ((decide ((↑l.length : Int) > (0 : Int))) = true) (l.length = l.length) (∀ (i : Nat), i < l.length → intEl l i = intEl l i) (l.length ≤ (1099511627776 : Nat)))) [false, true, true, true, false, true, false, true, true, true, false, true, false, true, true, true, false, true, true] true (by kernel_rfl) (by kernel_rfl) ⟨hb1, rfl, (by decide), q0_, q1_, q2_, q3_, q4_, hb18, rfl, (by decide), q0_, q1_, q2_, q3_, q4_, hb19, rfl, (by decide), q0_, q1_, q2_, q3_, q4_, hb20, trivial⟩ (by first | (exfalso; have := of_decide_eq_false hb1; omega) | (rw [hr, if_neg (by have h2 := hb2; simp only [decide_eq_true_eq] at h2; omega)]; done) | (rw [hr, if_neg (by have h3 := hb3; simp only [Bool.not_eq_true', decide_eq_false_iff_not] at h3; exact fun h => h3 h.2)])) hsim
              · skip
                rcases Bool.eq_false_or_eq_true (!decide ((0 : Int) ≤ idxF l o4 (0 : Int))) with hb21 | hb21
                · skip
                  have q0_ : (((↑l.length : Int) == (0 : Int)) = false) := hb4
                  have q1_ : ((decide ((↑l.length : Int) > (0 : Int))) = true) := hb17
                  have q2_ : (l.length = l.length) := (by first | exact rfl | exact hl | exact fun i _ => rfl | omega)
                  have q3_ : (∀ (i : Nat), i < l.length → intEl l i = intEl l i) := (by first | exact rfl | exact hl | exact fun i _ => rfl | omega)
                  have q4_ : (l.length ≤ (1099511627776 : Nat)) := (by first | exact rfl | exact hl | exact fun i _ => rfl | omega)
                  exact go_ret (Q1_ok l) rfl rfl Tryd.func30 (sr' := ⟨0, [.d (.raw (.int .i64 ((4 : Int))))], []⟩) (cs := ((fun (c0 c1 c2 c3 c4 : Prop) => [((decide (i < k)) = false), ((true) = true), (Ix 0 4), c0, c1, c2, c3, c4, ((!decide ((0 : Int) ≤ idxF l o1 (0 : Int))) = false), ((true) = true), (Ix 1 4), c0, c1, c2, c3, c4, ((!decide ((0 : Int) ≤ idxF l o2 (0 : Int))) = false), ((true) = true), (Ix 2 4), c0, c1, c2, c3, c4, ((!decide ((0 : Int) ≤ idxF l o3 (0 : Int))) = false), ((true) = true), (Ix 3 4), c0, c1, c2, c3, c4, ((!decide ((0 : Int) ≤ idxF l o4 (0 : Int))) = true)]) (((↑l.length : Int) == (0 : Int)) = false) ((decide ((↑l.length : Int) > (0 : Int))) = true) (l.length = l.length) (∀ (i : Nat), i < l.length → intEl l i = intEl l i) (l.length ≤ (1099511627776 : Nat)))) [false, true, true, true, false, true, false, true, true, true, false, true, false, true, true, true, false, true, false, true, true, true, false, true, true] true (by kernel_rfl) (by kernel_rfl) ⟨hb1, rfl, (by decide), q0_, q1_, q2_, q3_, q4_, hb18, rfl, (by decide), q0_, q1_, q2_, q3_, q4_, hb19, rfl, (by decide), q0_, q1_, q2_, q3_, q4_, hb20, rfl, (by decide), q0_, q1_, q2_, q3_, q4_, hb21, trivial⟩ (by first | (exfalso; have := of_decide_eq_false hb1; omega) | (rw [hr, if_neg (by have h2 := hb2; simp only [decide_eq_true_eq] at h2; omega)]; done) | (rw [hr, if_neg (by have h3 := hb3; simp only [Bool.not_eq_true', decide_eq_false_iff_not] at h3; exact fun h => h3 h.2)])) hsim
                · skip
                  have q0_ : (((↑l.length : Int) == (0 : Int)) = false) := hb4
                  have q1_ : ((decide ((↑l.length : Int) > (0 : Int))) = true) := hb17
                  have q2_ : (l.length = l.length) := (by first | exact rfl | exact hl | exact fun i _ => rfl | omega)
                  have q3_ : (∀ (i : Nat), i < l.length → intEl l i = intEl l i) := (by first | exact rfl | exact hl | exact fun i _ => rfl | omega)
                  have q4_ : (l.length ≤ (1099511627776 : Nat)) := (by first | exact rfl | exact hl | exact fun i _ => rfl | omega)
                  exact go_ret (Q1_ok l) rfl rfl Tryd.func30 (sr' := ⟨0, [.d (.raw (.int .i64 ((0 : Int))))], []⟩) (cs := ((fun (c0 c1 c2 c3 c4 : Prop) => [((decide (i < k)) = false), ((true) = true), (Ix 0 4), c0, c1, c2, c3, c4, ((!decide ((0 : Int) ≤ idxF l o1 (0 : Int))) = false), ((true) = true), (Ix 1 4), c0, c1, c2, c3, c4, ((!decide ((0 : Int) ≤ idxF l o2 (0 : Int))) = false), ((true) = true), (Ix 2 4), c0, c1, c2, c3, c4, ((!decide ((0 : Int) ≤ idxF l o3 (0 : Int))) = false), ((true) = true), (Ix 3 4), c0, c1, c2, c3, c4, ((!decide ((0 : Int) ≤ idxF l o4 (0 : Int))) = false), ((false) = false)]) (((↑l.length : Int) == (0 : Int)) = false) ((decide ((↑l.length : Int) > (0 : Int))) = true) (l.length = l.length) (∀ (i : Nat), i < l.length → intEl l i = intEl l i) (l.length ≤ (1099511627776 : Nat)))) [false, true, true, true, false, true, false, true, true, true, false, true, false, true, true, true, false, true, false, true, true, true, false, true, false, true, false] true (by kernel_rfl) (by kernel_rfl) ⟨hb1, rfl, (by decide), q0_, q1_, q2_, q3_, q4_, hb18, rfl, (by decide), q0_, q1_, q2_, q3_, q4_, hb19, rfl, (by decide), q0_, q1_, q2_, q3_, q4_, hb20, rfl, (by decide), q0_, q1_, q2_, q3_, q4_, hb21, rfl, trivial⟩ (by first | (exfalso; have := of_decide_eq_false hb1; omega) | (rw [hr, if_neg (by have h2 := hb2; simp only [decide_eq_true_eq] at h2; omega)]; done) | (rw [hr, if_neg (by have h3 := hb3; simp only [Bool.not_eq_true', decide_eq_false_iff_not] at h3; exact fun h => h3 h.2)])) hsim
        · skip
          have q0_ : (((↑l.length : Int) == (0 : Int)) = false) := hb4
          have q1_ : ((decide ((↑l.length : Int) > (0 : Int))) = false) := hb17
          exact go_ret (Q1_ok l) rfl rfl Tryd.func30 (sr' := ⟨0, [.d (.raw (.int .i64 ((0 : Int))))], []⟩) (cs := ((fun (c0 c1 : Prop) => [((decide (i < k)) = false), ((true) = true), (Ix 0 4), c0, c1, ((true) = true), (Ix 1 4), c0, c1, ((true) = true), (Ix 2 4), c0, c1, ((true) = true), (Ix 3 4), c0, c1, ((false) = false)]) (((↑l.length : Int) == (0 : Int)) = false) ((decide ((↑l.length : Int) > (0 : Int))) = false))) [false, true, true, true, false, false, true, true, true, false, false, true, true, true, false, false, true, true, true, false, false, true, false] true (by kernel_rfl) (by kernel_rfl) ⟨hb1, rfl, (by decide), q0_, q1_, rfl, (by decide), q0_, q1_, rfl, (by decide), q0_, q1_, rfl, (by decide), q0_, q1_, rfl, trivial⟩ (by first | (exfalso; have := of_decide_eq_false hb1; omega) | (rw [hr, if_neg (by have h2 := hb2; simp only [decide_eq_true_eq] at h2; omega)]; done) | (rw [hr, if_neg (by have h3 := hb3; simp only [Bool.not_eq_true', decide_eq_false_iff_not] at h3; exact fun h => h3 h.2)])) hsim
theorem chk_ok (l : List Int) (n o1 o2 o3 o4 : Int) (hl : l.length ≤ 1099511627776) : Eng.Spec Tryd.prog (fun _ => none) 30 [agC n l o1 o2 o3 o4] [] (.d (.raw (.int .i64 (chkC n l o1 o2 o3 o4)))) [] := by
  refine spec_fn Tryd.func30 rfl fun {w N E a} hsim => ?_
  have hr : (0 ≤ n ∧ n ≤ 1099511627776) → chkC n l o1 o2 o3 o4 = tailC 0 l l o1 o2 o3 o4 := fun h => by unfold chkC tailC; simp only [h.1, h.2, true_and]
  have hr4 : ¬ (0 ≤ n ∧ n ≤ 1099511627776) → chkC n l o1 o2 o3 o4 = 4 := fun h => by unfold chkC; rw [if_neg (fun q => h ⟨q.1, q.2.1⟩)]
  rcases Bool.eq_false_or_eq_true (decide (n < (0 : Int))) with hb1 | hb1
  · skip
    exact go_ret (Q1_ok l) rfl rfl Tryd.func30 (sr' := ⟨0, [.d (.raw (.int .i64 ((4 : Int))))], []⟩) (cs := [((decide (n < (0 : Int))) = true)]) [true] true (by kernel_rfl) (by kernel_rfl) ⟨hb1, trivial⟩ (by (rw [hr4 (by have h1 := hb1; have h2 : True := trivial; first | (have h2 := hb2; simp only [gt_iff_lt, decide_eq_true_eq, decide_eq_false_iff_not] at h1 h2; omega) | (simp only [decide_eq_true_eq] at h1; omega))]; rfl)) hsim
  · skip
    rcases Bool.eq_false_or_eq_true (decide (n > (1099511627776 : Int))) with hb2 | hb2
    · skip
      exact go_ret (Q1_ok l) rfl rfl Tryd.func30 (sr' := ⟨0, [.d (.raw (.int .i64 ((4 : Int))))], []⟩) (cs := [((decide (n < (0 : Int))) = false), ((decide (n > (1099511627776 : Int))) = true)]) [false, true] true (by kernel_rfl) (by kernel_rfl) ⟨hb1, hb2, trivial⟩ (by (rw [hr4 (by have h1 := hb1; have h2 : True := trivial; first | (have h2 := hb2; simp only [gt_iff_lt, decide_eq_true_eq, decide_eq_false_iff_not] at h1 h2; omega) | (simp only [decide_eq_true_eq] at h1; omega))]; rfl)) hsim
    · skip
      refine go_head (Q1_ok l) rfl rfl (k' := loopAt Tryd.f30 0) (s' := mk 0 60 [(1, .ref 0 0), (3, .d (.raw (.int .i64 ((0 : Int))))), (17, .d (.list 1 (l.length) (intEl l))), (18, .d (.raw (.int .i64 ((↑l.length : Int))))), (19, .d (.raw (.int .i64 ((0 : Int)))))] [(0, .obj 46 [.d (.raw (.int .i64 (n))), .d (.list 1 (l.length) (intEl l)), .d (.raw (.int .i64 (o1))), .d (.raw (.int .i64 (o2))), .d (.raw (.int .i64 (o3))), .d (.raw (.int .i64 (o4)))])]) (cs := [((decide (n < (0 : Int))) = false), ((decide (n > (1099511627776 : Int))) = false)]) [false, false] [1,3,17,18,19] (by kernel_rfl) (by kernel_rfl) ⟨hb1, hb2, trivial⟩ hsim fun E a w hsim => ?_
      have e := ck_go l n o1 o2 o3 o4 hl l.length (l.length : Int) 0 0 rfl (by omega) (by omega) E a w hsim
      rw [hr (by have h1 := hb1;  have h2 := hb2; simp only [gt_iff_lt, decide_eq_false_iff_not] at h1 h2; omega)]
      exact e
end Go.Stk
