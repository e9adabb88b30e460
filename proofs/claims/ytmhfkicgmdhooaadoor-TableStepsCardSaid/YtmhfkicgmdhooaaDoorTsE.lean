/-
  Contracts of given functions, or plain laws that they need. No condition.
-/
import Derived.Test.YtmhfkicgmdhooaaDoorTsD
namespace Go.Tab
open Go Go.Eng Go.Proofs Go.Nest
set_option linter.unusedVariables false
set_option linter.unusedSimpArgs false
set_option maxRecDepth 100000
set_option maxHeartbeats 4000000
theorem gt_eq (a b : ByteArray) : (!(Op.bytesLess a.toList b.toList || a.toList == b.toList)) = ltB b a := by
  rw [tl_eq]
  show (!(ltB a b || decide (a = b))) = ltB b a
  cases h : ltB b a
  · cases h2 : ltB a b
    · rw [ltB_tri h2 h]; simp
    · rfl
  · rw [ltB_asymm h]
    have := ltB_ne h
    simp [Ne.symm this]
/-- What is the least of the first i rows beyond last. -/
def LInv (q : List Rw) (last : ByteArray) (i : Nat) (lk lv : ByteArray) : Prop :=
  (lk.size = 0 ∧ ∀ r ∈ q.take i, ltB last r.1 = false) ∨ ((lk, lv) ∈ q ∧ lk.size ≠ 0 ∧ ltB last lk = true ∧ ∀ r ∈ q.take i, ltB last r.1 = true → ltB r.1 lk = false)
theorem take_mem {q : List Rw} {i : Nat} (hi : i < q.length) {P : Rw → Prop} (h : ∀ r ∈ q.take i, P r) (h1 : P (q.getD i (ByteArray.empty, ByteArray.empty))) : ∀ r ∈ q.take (i + 1), P r := by
  intro r hr
  rw [List.take_add_one, List.getElem?_eq_getElem hi] at hr
  rcases List.mem_append.1 hr with hr | hr
  · exact h r hr
  · simp at hr; rw [hr, ← getD_get hi]; exact h1
theorem linv_skip {q : List Rw} {last lk lv : ByteArray} {i : Nat} (hi : i < q.length) (h : LInv q last i lk lv) (h1 : ltB last (q.getD i (ByteArray.empty, ByteArray.empty)).1 = false) : LInv q last (i + 1) lk lv := by
  rcases h with ⟨a, b⟩ | ⟨a, b, c, d⟩
  · exact .inl ⟨a, take_mem hi b h1⟩
  · exact .inr ⟨a, b, c, take_mem hi d fun h => by rw [h1] at h; cases h⟩
theorem linv_more {q : List Rw} {last lk lv : ByteArray} {i : Nat} (hi : i < q.length) (h : LInv q last i lk lv) (h0 : (lk.size == 0) = false) (h2 : ltB (q.getD i (ByteArray.empty, ByteArray.empty)).1 lk = false) : LInv q last (i + 1) lk lv := by
  rcases h with ⟨a, b⟩ | ⟨a, b, c, d⟩
  · rw [a] at h0; cases h0
  · exact .inr ⟨a, b, c, take_mem hi d fun _ => h2⟩
theorem linv_new {q : List Rw} {last lk lv : ByteArray} {i : Nat} (hi : i < q.length) (hz : ∀ r ∈ q, 0 < r.1.size) (h : LInv q last i lk lv) (h1 : ltB last (q.getD i (ByteArray.empty, ByteArray.empty)).1 = true) (h2 : lk.size = 0 ∨ ltB (q.getD i (ByteArray.empty, ByteArray.empty)).1 lk = true) : LInv q last (i + 1) (q.getD i (ByteArray.empty, ByteArray.empty)).1 (q.getD i (ByteArray.empty, ByteArray.empty)).2 := by
  have hm : q.getD i (ByteArray.empty, ByteArray.empty) ∈ q := getD_mem hi
  refine .inr ⟨hm, Nat.pos_iff_ne_zero.1 (hz _ hm), h1, take_mem hi ?_ fun _ => ltB_irrefl _⟩
  intro r hr hl
  rcases h with ⟨a, b⟩ | ⟨a, b, c, d⟩
  · rw [b r hr] at hl; cases hl
  · rcases h2 with h2 | h2
    · exact absurd h2 b
    · cases h3 : ltB r.1 (q.getD i (ByteArray.empty, ByteArray.empty)).1 with
      | false => rfl
      | true => have := d r hr hl; rw [ltB_trans h3 h2] at this; cases this
/-- At its end: the next of the sorted rows. -/
theorem linv_end {l q : List Rw} (hp : l.Perm q) (ht : Sorted l) (hz : ∀ r ∈ l, 0 < r.1.size) {k : Nat} (hk : k < l.length) {last lk lv : ByteArray} (hlast : last = if k = 0 then ByteArray.empty else (l.getD (k - 1) (ByteArray.empty, ByteArray.empty)).1) (h : LInv q last q.length lk lv) : lk = (l.getD k (ByteArray.empty, ByteArray.empty)).1 ∧ lv = (l.getD k (ByteArray.empty, ByteArray.empty)).2 := by
  have hs := List.pairwise_iff_getElem.1 ht
  have hgt : ∀ m (hm : m < l.length), k ≤ m → ltB last (l[m]).1 = true := fun m hm h => by
    rw [hlast]
    split
    · cases h3 : ltB (l[m]).1 ByteArray.empty with
      | false =>
        cases h4 : ltB ByteArray.empty (l[m]).1 with
        | true => rfl
        | false =>
          have := hz _ (List.getElem_mem hm)
          rw [ltB_tri h3 h4] at this
          exact absurd this (by decide)
      | true => unfold ltB Op.bytesLess at h3; rw [show ByteArray.empty.toList = [] from (toList_ba _).trans rfl] at h3; cases (l[m]).1.toList <;> cases h3
    · rw [getD_get (by omega : k - 1 < l.length)]
      exact hs (k - 1) m (by omega) hm (by omega)
  have hkq : l[k] ∈ q.take q.length := by rw [List.take_length]; exact hp.mem_iff.1 (List.getElem_mem hk)
  rw [getD_get hk]
  rcases h with ⟨a, b⟩ | ⟨a, b, c, d⟩
  · have := b _ hkq
    rw [hgt k hk (Nat.le_refl _)] at this; cases this
  · have h1 := d _ hkq (hgt k hk (Nat.le_refl _))
    obtain ⟨m, hm, e⟩ := List.getElem_of_mem (hp.mem_iff.2 a)
    have ek : lk = (l[m]).1 := by rw [e]
    have hmk : m = k := by
      rcases Nat.lt_trichotomy m k with hh | hh | hh
      · exfalso
        rw [hlast, if_neg (by omega)] at c
        rw [getD_get (by omega : k - 1 < l.length), ek] at c
        rcases Nat.lt_or_ge m (k - 1) with h5 | h5
        · have := ltB_asymm c
          rw [show ltB (l[m]).1 (l[k - 1]).1 = true from hs m (k - 1) hm (by omega) h5] at this; cases this
        · have : m = k - 1 := by omega
          subst this
          rw [ltB_irrefl] at c; cases c
      · exact hh
      · exfalso
        rw [ek, show ltB (l[k]).1 (l[m]).1 = true from hs k m hk hm hh] at h1; cases h1
    subst hmk
    rw [e]; exact ⟨rfl, rfl⟩
abbrev GoT (q l : List Rw) (w0 : World) (N : Nat → Prop) (E0 : Env) (k : Nat) (s : St) : Prop := ∀ (E : Env) (a : Act) (w : World), Sim (cx Tryd.prog g0 w0 N E0 (rt0 q)) E s a w → Goes Tryd.prog 17 (loopAt Tryd.f17 k) (RSpec (cx Tryd.prog g0 w0 N E0 (rt0 q)) ⟨2, [.d (.raw (.string (packB (flatM l))))], rt0 q⟩) a w
theorem R3_ok (r : List ByteArray) : OrcOK Tryd.prog (R3 r) := (OrcOK.none g0).add _ false (mPackR r) fun args H ret H' cs h hc => by
  unfold mPackR at h
  split at h
  · cases h; obtain ⟨rfl, rfl, rfl, hl, -⟩ := hc; exact packR_ok r hl
  · cases h
theorem rt_in {q l : List Rw} {w0 : World} {N : Nat → Prop} {E0 : Env} {r : List ByteArray} {last : ByteArray} {k : Int} (hq : q.length ≤ 16) (hr : r.length ≤ 100) (hz : ∀ r ∈ q, 0 < r.1.size)
    (next : ∀ lk lv, LInv q last q.length lk lv → GoT q l w0 N E0 0 (rx1 q (r ++ [lk, lv]) lk (IntKind.i64.wrap (k + 1)))) : ∀ (d : Nat) (n i : Int), n = (q.length : Int) → 0 ≤ i → i + d = n → ∀ lk lv, LInv q last i.toNat lk lv → GoT q l w0 N E0 1 (rx2 q r last k lk lv n i) := by
  intro d
  induction d with
  | zero =>
    intro n i en h0 hd lk lv hI E a w hsim
    rw [show i.toNat = q.length by omega] at hI
    have hlo : ∀ j, j < r.length → strEl r j = strEl (r ++ [lk, lv]) j := fun j hj => by
      unfold strEl; simp [List.getD, List.getElem?_append_left hj]
    have hh0 : strEl (r ++ [lk, lv]) r.length = .raw (.string lk) := by unfold strEl; simp [List.getD]
    have hh1 : strEl (r ++ [lk, lv]) (r.length + 1) = .raw (.string lv) := by unfold strEl; simp [List.getD]
    have hlen : r.length + 2 = (r ++ [lk, lv]).length := by simp
    rcases Bool.eq_false_or_eq_true (decide (i < n)) with hb1 | hb1
    · skip
      rcases Bool.eq_false_or_eq_true (!(Op.bytesLess (q.getD i.toNat (ByteArray.empty, ByteArray.empty)).fst.toList last.toList || (q.getD i.toNat (ByteArray.empty, ByteArray.empty)).fst.toList == last.toList)) with hb2 | hb2
      · skip
        rcases Bool.eq_false_or_eq_true (lk.toList == (ByteArray.mk #[]).toList) with hb3 | hb3
        · skip
          refine go_head (R3_ok r) rfl rfl (k' := loopAt Tryd.f17 1) (s' := mk 2 57 [(0, .ref 0 0), (3, .own 2), (4, .d (.raw (.string (last)))), (5, .d (.raw (.int .i64 (k)))), (6, .ref 3 0), (22, .own 1), (23, .d (.raw (.int .i64 (n)))), (24, .d (.raw (.int .i64 (IntKind.i64.wrap (i + (1 : Int))))))] [(0, .obj 36 [.own 1]), (1, .row 65 2 (q.length) (rowEl q)), (2, .row 9 1 (r.length) (strEl r)), (3, .obj 65 [.d (.raw (.string ((q.getD i.toNat (ByteArray.empty, ByteArray.empty)).fst))), .d (.raw (.string ((q.getD i.toNat (ByteArray.empty, ByteArray.empty)).snd)))])]) (cs := [((decide (i < n)) = true), ((0 : Int) ≤ i ∧ i < (↑q.length : Int)), (i.toNat < q.length), ((!(Op.bytesLess (q.getD i.toNat (ByteArray.empty, ByteArray.empty)).fst.toList last.toList || (q.getD i.toNat (ByteArray.empty, ByteArray.empty)).fst.toList == last.toList)) = true), ((lk.toList == (ByteArray.mk #[]).toList) = true)]) [true, true, true] [0,3,4,5,6,22,23,24] (by kernel_rfl) (by kernel_rfl) ⟨hb1, (by first | omega | exact absurd (of_decide_eq_true hb1) (by omega)), (by first | omega | exact absurd (of_decide_eq_true hb1) (by omega)), hb2, hb3, trivial⟩ hsim fun E a w hsim => ?_
          exact absurd (of_decide_eq_true hb1) (by omega)
        · skip
          rcases Bool.eq_false_or_eq_true (Op.bytesLess (q.getD i.toNat (ByteArray.empty, ByteArray.empty)).fst.toList lk.toList) with hb4 | hb4
          · skip
            refine go_head (R3_ok r) rfl rfl (k' := loopAt Tryd.f17 1) (s' := mk 2 57 [(0, .ref 0 0), (3, .own 2), (4, .d (.raw (.string (last)))), (5, .d (.raw (.int .i64 (k)))), (6, .ref 3 0), (22, .own 1), (23, .d (.raw (.int .i64 (n)))), (24, .d (.raw (.int .i64 (IntKind.i64.wrap (i + (1 : Int))))))] [(0, .obj 36 [.own 1]), (1, .row 65 2 (q.length) (rowEl q)), (2, .row 9 1 (r.length) (strEl r)), (3, .obj 65 [.d (.raw (.string ((q.getD i.toNat (ByteArray.empty, ByteArray.empty)).fst))), .d (.raw (.string ((q.getD i.toNat (ByteArray.empty, ByteArray.empty)).snd)))])]) (cs := [((decide (i < n)) = true), ((0 : Int) ≤ i ∧ i < (↑q.length : Int)), (i.toNat < q.length), ((!(Op.bytesLess (q.getD i.toNat (ByteArray.empty, ByteArray.empty)).fst.toList last.toList || (q.getD i.toNat (ByteArray.empty, ByteArray.empty)).fst.toList == last.toList)) = true), ((lk.toList == (ByteArray.mk #[]).toList) = false), ((Op.bytesLess (q.getD i.toNat (ByteArray.empty, ByteArray.empty)).fst.toList lk.toList) = true)]) [true, true, false, true] [0,3,4,5,6,22,23,24] (by kernel_rfl) (by kernel_rfl) ⟨hb1, (by first | omega | exact absurd (of_decide_eq_true hb1) (by omega)), (by first | omega | exact absurd (of_decide_eq_true hb1) (by omega)), hb2, hb3, hb4, trivial⟩ hsim fun E a w hsim => ?_
            exact absurd (of_decide_eq_true hb1) (by omega)
          · skip
            refine go_head (R3_ok r) rfl rfl (k' := loopAt Tryd.f17 1) (s' := mk 2 57 [(0, .ref 0 0), (3, .own 2), (4, .d (.raw (.string (last)))), (5, .d (.raw (.int .i64 (k)))), (6, .ref 3 0), (22, .own 1), (23, .d (.raw (.int .i64 (n)))), (24, .d (.raw (.int .i64 (IntKind.i64.wrap (i + (1 : Int))))))] [(0, .obj 36 [.own 1]), (1, .row 65 2 (q.length) (rowEl q)), (2, .row 9 1 (r.length) (strEl r)), (3, .obj 65 [.d (.raw (.string (lk))), .d (.raw (.string (lv)))])]) (cs := [((decide (i < n)) = true), ((0 : Int) ≤ i ∧ i < (↑q.length : Int)), (i.toNat < q.length), ((!(Op.bytesLess (q.getD i.toNat (ByteArray.empty, ByteArray.empty)).fst.toList last.toList || (q.getD i.toNat (ByteArray.empty, ByteArray.empty)).fst.toList == last.toList)) = true), ((lk.toList == (ByteArray.mk #[]).toList) = false), ((Op.bytesLess (q.getD i.toNat (ByteArray.empty, ByteArray.empty)).fst.toList lk.toList) = false)]) [true, true, false, false] [0,3,4,5,6,22,23,24] (by kernel_rfl) (by kernel_rfl) ⟨hb1, (by first | omega | exact absurd (of_decide_eq_true hb1) (by omega)), (by first | omega | exact absurd (of_decide_eq_true hb1) (by omega)), hb2, hb3, hb4, trivial⟩ hsim fun E a w hsim => ?_
            exact absurd (of_decide_eq_true hb1) (by omega)
      · skip
        refine go_head (R3_ok r) rfl rfl (k' := loopAt Tryd.f17 1) (s' := mk 2 57 [(0, .ref 0 0), (3, .own 2), (4, .d (.raw (.string (last)))), (5, .d (.raw (.int .i64 (k)))), (6, .ref 3 0), (22, .own 1), (23, .d (.raw (.int .i64 (n)))), (24, .d (.raw (.int .i64 (IntKind.i64.wrap (i + (1 : Int))))))] [(0, .obj 36 [.own 1]), (1, .row 65 2 (q.length) (rowEl q)), (2, .row 9 1 (r.length) (strEl r)), (3, .obj 65 [.d (.raw (.string (lk))), .d (.raw (.string (lv)))])]) (cs := [((decide (i < n)) = true), ((0 : Int) ≤ i ∧ i < (↑q.length : Int)), (i.toNat < q.length), ((!(Op.bytesLess (q.getD i.toNat (ByteArray.empty, ByteArray.empty)).fst.toList last.toList || (q.getD i.toNat (ByteArray.empty, ByteArray.empty)).fst.toList == last.toList)) = false)]) [true, false] [0,3,4,5,6,22,23,24] (by kernel_rfl) (by kernel_rfl) ⟨hb1, (by first | omega | exact absurd (of_decide_eq_true hb1) (by omega)), (by first | omega | exact absurd (of_decide_eq_true hb1) (by omega)), hb2, trivial⟩ hsim fun E a w hsim => ?_
        exact absurd (of_decide_eq_true hb1) (by omega)
    · skip
      refine go_head (R3_ok r) rfl rfl (k' := loopAt Tryd.f17 0) (s' := mk 2 57 [(0, .ref 0 0), (3, .own 2), (4, .d (.raw (.string (lk)))), (5, .d (.raw (.int .i64 (IntKind.i64.wrap (k + (1 : Int)))))), (6, .ref 3 0), (22, .own 1), (23, .d (.raw (.int .i64 (n)))), (24, .d (.raw (.int .i64 (i))))] [(0, .obj 36 [.own 1]), (1, .row 65 2 (q.length) (rowEl q)), (2, .row 9 1 (r.length + (2 : Nat)) (fun j => if j < r.length then strEl r j else segD false (1 : Nat) (splice (splice (List.map (fun j => (List.map D.raw (Value.string (ByteArray.mk #[])).cells.toList).getD (j % (1 : Nat)) default) (List.range (2 : Nat))) (0 : Nat) (D.raw (Value.string lk)).cells) (1 : Nat) (D.raw (Value.string lv)).cells) (j - r.length))), (3, .obj 65 [.d (.raw (.string (lk))), .d (.raw (.string (lv)))])]) (cs := [((decide (i < n)) = false), (r.length + (2 : Nat) ≤ (9223372036854775807 : Nat) ∧ (r.length + (2 : Nat)) * (16 : Nat) ≤ (140737488355328 : Nat))]) [false] [0,3,4,5,6,22,23,24] (by kernel_rfl) (by kernel_rfl) ⟨hb1, (by first | omega | exact absurd (of_decide_eq_true hb1) (by omega)), trivial⟩ hsim fun E a w hsim => ?_
      (
        obtain ⟨E1, h0⟩ := (says_rowTo (k := 2) rfl (r ++ [lk, lv]).length (strEl (r ++ [lk, lv])) hlen (fun j hj => by
          by_cases hjr : j < r.length
          · exact (if_pos hjr).trans (hlo j hjr)
          · rcases (show j = r.length ∨ j = r.length + 1 by omega) with rfl | rfl
            · rw [hh0]
              exact (if_neg hjr).trans (by rw [Nat.sub_self]; rfl)
            · rw [hh1]
              exact (if_neg hjr).trans (by rw [Nat.add_sub_cancel_left]; rfl))).out E a w hsim
        obtain ⟨E2, h1⟩ := h0.keep [0,3,4,5]
        exact next lk lv hI E2 a w ((congrArg (fun s => Sim _ E2 s a w) (by kernel_rfl)).mp h1))
  | succ d ih =>
    intro n i en h0 hd lk lv hI E a w hsim
    have hi : i.toNat < q.length := by omega
    have ih := fun lk lv (h : LInv q last (i.toNat + 1) lk lv) => ih n (IntKind.i64.wrap (i + 1)) en (by rw [wrapI (i + 1) (by omega)]; omega) (by rw [wrapI (i + 1) (by omega)]; omega) lk lv (by rw [wrapI (i + 1) (by omega), show (i + 1).toNat = i.toNat + 1 by omega]; exact h)
    rcases Bool.eq_false_or_eq_true (decide (i < n)) with hb1 | hb1
    · skip
      rcases Bool.eq_false_or_eq_true (!(Op.bytesLess (q.getD i.toNat (ByteArray.empty, ByteArray.empty)).fst.toList last.toList || (q.getD i.toNat (ByteArray.empty, ByteArray.empty)).fst.toList == last.toList)) with hb2 | hb2
      · skip
        rcases Bool.eq_false_or_eq_true (lk.toList == (ByteArray.mk #[]).toList) with hb3 | hb3
        · skip
          refine go_head (R3_ok r) rfl rfl (k' := loopAt Tryd.f17 1) (s' := mk 2 57 [(0, .ref 0 0), (3, .own 2), (4, .d (.raw (.string (last)))), (5, .d (.raw (.int .i64 (k)))), (6, .ref 3 0), (22, .own 1), (23, .d (.raw (.int .i64 (n)))), (24, .d (.raw (.int .i64 (IntKind.i64.wrap (i + (1 : Int))))))] [(0, .obj 36 [.own 1]), (1, .row 65 2 (q.length) (rowEl q)), (2, .row 9 1 (r.length) (strEl r)), (3, .obj 65 [.d (.raw (.string ((q.getD i.toNat (ByteArray.empty, ByteArray.empty)).fst))), .d (.raw (.string ((q.getD i.toNat (ByteArray.empty, ByteArray.empty)).snd)))])]) (cs := [((decide (i < n)) = true), ((0 : Int) ≤ i ∧ i < (↑q.length : Int)), (i.toNat < q.length), ((!(Op.bytesLess (q.getD i.toNat (ByteArray.empty, ByteArray.empty)).fst.toList last.toList || (q.getD i.toNat (ByteArray.empty, ByteArray.empty)).fst.toList == last.toList)) = true), ((lk.toList == (ByteArray.mk #[]).toList) = true)]) [true, true, true] [0,3,4,5,6,22,23,24] (by kernel_rfl) (by kernel_rfl) ⟨hb1, (by first | omega | exact absurd (of_decide_eq_false hb1) (by omega)), (by first | omega | exact absurd (of_decide_eq_false hb1) (by omega)), hb2, hb3, trivial⟩ hsim fun E a w hsim => ?_
          first
            | exact ih _ _ (linv_skip hi hI ((gt_eq _ _).symm.trans hb2)) E a w hsim
            | exact ih _ _ (linv_new hi hz hI ((gt_eq _ _).symm.trans hb2) (.inl (beq_iff_eq.1 ((beq_mk _).symm.trans hb3)))) E a w hsim
            | exact ih _ _ (linv_new hi hz hI ((gt_eq _ _).symm.trans hb2) (.inr hb4)) E a w hsim
            | exact ih _ _ (linv_more hi hI ((beq_mk _).symm.trans hb3) hb4) E a w hsim
        · skip
          rcases Bool.eq_false_or_eq_true (Op.bytesLess (q.getD i.toNat (ByteArray.empty, ByteArray.empty)).fst.toList lk.toList) with hb4 | hb4
          · skip
            refine go_head (R3_ok r) rfl rfl (k' := loopAt Tryd.f17 1) (s' := mk 2 57 [(0, .ref 0 0), (3, .own 2), (4, .d (.raw (.string (last)))), (5, .d (.raw (.int .i64 (k)))), (6, .ref 3 0), (22, .own 1), (23, .d (.raw (.int .i64 (n)))), (24, .d (.raw (.int .i64 (IntKind.i64.wrap (i + (1 : Int))))))] [(0, .obj 36 [.own 1]), (1, .row 65 2 (q.length) (rowEl q)), (2, .row 9 1 (r.length) (strEl r)), (3, .obj 65 [.d (.raw (.string ((q.getD i.toNat (ByteArray.empty, ByteArray.empty)).fst))), .d (.raw (.string ((q.getD i.toNat (ByteArray.empty, ByteArray.empty)).snd)))])]) (cs := [((decide (i < n)) = true), ((0 : Int) ≤ i ∧ i < (↑q.length : Int)), (i.toNat < q.length), ((!(Op.bytesLess (q.getD i.toNat (ByteArray.empty, ByteArray.empty)).fst.toList last.toList || (q.getD i.toNat (ByteArray.empty, ByteArray.empty)).fst.toList == last.toList)) = true), ((lk.toList == (ByteArray.mk #[]).toList) = false), ((Op.bytesLess (q.getD i.toNat (ByteArray.empty, ByteArray.empty)).fst.toList lk.toList) = true)]) [true, true, false, true] [0,3,4,5,6,22,23,24] (by kernel_rfl) (by kernel_rfl) ⟨hb1, (by first | omega | exact absurd (of_decide_eq_false hb1) (by omega)), (by first | omega | exact absurd (of_decide_eq_false hb1) (by omega)), hb2, hb3, hb4, trivial⟩ hsim fun E a w hsim => ?_
            first
              | exact ih _ _ (linv_skip hi hI ((gt_eq _ _).symm.trans hb2)) E a w hsim
              | exact ih _ _ (linv_new hi hz hI ((gt_eq _ _).symm.trans hb2) (.inl (beq_iff_eq.1 ((beq_mk _).symm.trans hb3)))) E a w hsim
              | exact ih _ _ (linv_new hi hz hI ((gt_eq _ _).symm.trans hb2) (.inr hb4)) E a w hsim
              | exact ih _ _ (linv_more hi hI ((beq_mk _).symm.trans hb3) hb4) E a w hsim
          · skip
            refine go_head (R3_ok r) rfl rfl (k' := loopAt Tryd.f17 1) (s' := mk 2 57 [(0, .ref 0 0), (3, .own 2), (4, .d (.raw (.string (last)))), (5, .d (.raw (.int .i64 (k)))), (6, .ref 3 0), (22, .own 1), (23, .d (.raw (.int .i64 (n)))), (24, .d (.raw (.int .i64 (IntKind.i64.wrap (i + (1 : Int))))))] [(0, .obj 36 [.own 1]), (1, .row 65 2 (q.length) (rowEl q)), (2, .row 9 1 (r.length) (strEl r)), (3, .obj 65 [.d (.raw (.string (lk))), .d (.raw (.string (lv)))])]) (cs := [((decide (i < n)) = true), ((0 : Int) ≤ i ∧ i < (↑q.length : Int)), (i.toNat < q.length), ((!(Op.bytesLess (q.getD i.toNat (ByteArray.empty, ByteArray.empty)).fst.toList last.toList || (q.getD i.toNat (ByteArray.empty, ByteArray.empty)).fst.toList == last.toList)) = true), ((lk.toList == (ByteArray.mk #[]).toList) = false), ((Op.bytesLess (q.getD i.toNat (ByteArray.empty, ByteArray.empty)).fst.toList lk.toList) = false)]) [true, true, false, false] [0,3,4,5,6,22,23,24] (by kernel_rfl) (by kernel_rfl) ⟨hb1, (by first | omega | exact absurd (of_decide_eq_false hb1) (by omega)), (by first | omega | exact absurd (of_decide_eq_false hb1) (by omega)), hb2, hb3, hb4, trivial⟩ hsim fun E a w hsim => ?_
            first
              | exact ih _ _ (linv_skip hi hI ((gt_eq _ _).symm.trans hb2)) E a w hsim
              | exact ih _ _ (linv_new hi hz hI ((gt_eq _ _).symm.trans hb2) (.inl (beq_iff_eq.1 ((beq_mk _).symm.trans hb3)))) E a w hsim
              | exact ih _ _ (linv_new hi hz hI ((gt_eq _ _).symm.trans hb2) (.inr hb4)) E a w hsim
              | exact ih _ _ (linv_more hi hI ((beq_mk _).symm.trans hb3) hb4) E a w hsim
      · skip
        refine go_head (R3_ok r) rfl rfl (k' := loopAt Tryd.f17 1) (s' := mk 2 57 [(0, .ref 0 0), (3, .own 2), (4, .d (.raw (.string (last)))), (5, .d (.raw (.int .i64 (k)))), (6, .ref 3 0), (22, .own 1), (23, .d (.raw (.int .i64 (n)))), (24, .d (.raw (.int .i64 (IntKind.i64.wrap (i + (1 : Int))))))] [(0, .obj 36 [.own 1]), (1, .row 65 2 (q.length) (rowEl q)), (2, .row 9 1 (r.length) (strEl r)), (3, .obj 65 [.d (.raw (.string (lk))), .d (.raw (.string (lv)))])]) (cs := [((decide (i < n)) = true), ((0 : Int) ≤ i ∧ i < (↑q.length : Int)), (i.toNat < q.length), ((!(Op.bytesLess (q.getD i.toNat (ByteArray.empty, ByteArray.empty)).fst.toList last.toList || (q.getD i.toNat (ByteArray.empty, ByteArray.empty)).fst.toList == last.toList)) = false)]) [true, false] [0,3,4,5,6,22,23,24] (by kernel_rfl) (by kernel_rfl) ⟨hb1, (by first | omega | exact absurd (of_decide_eq_false hb1) (by omega)), (by first | omega | exact absurd (of_decide_eq_false hb1) (by omega)), hb2, trivial⟩ hsim fun E a w hsim => ?_
        first
          | exact ih _ _ (linv_skip hi hI ((gt_eq _ _).symm.trans hb2)) E a w hsim
          | exact ih _ _ (linv_new hi hz hI ((gt_eq _ _).symm.trans hb2) (.inl (beq_iff_eq.1 ((beq_mk _).symm.trans hb3)))) E a w hsim
          | exact ih _ _ (linv_new hi hz hI ((gt_eq _ _).symm.trans hb2) (.inr hb4)) E a w hsim
          | exact ih _ _ (linv_more hi hI ((beq_mk _).symm.trans hb3) hb4) E a w hsim
    · skip
      refine go_head (R3_ok r) rfl rfl (k' := loopAt Tryd.f17 0) (s' := mk 2 57 [(0, .ref 0 0), (3, .own 2), (4, .d (.raw (.string (lk)))), (5, .d (.raw (.int .i64 (IntKind.i64.wrap (k + (1 : Int)))))), (6, .ref 3 0), (22, .own 1), (23, .d (.raw (.int .i64 (n)))), (24, .d (.raw (.int .i64 (i))))] [(0, .obj 36 [.own 1]), (1, .row 65 2 (q.length) (rowEl q)), (2, .row 9 1 (r.length + (2 : Nat)) (fun j => if j < r.length then strEl r j else segD false (1 : Nat) (splice (splice (List.map (fun j => (List.map D.raw (Value.string (ByteArray.mk #[])).cells.toList).getD (j % (1 : Nat)) default) (List.range (2 : Nat))) (0 : Nat) (D.raw (Value.string lk)).cells) (1 : Nat) (D.raw (Value.string lv)).cells) (j - r.length))), (3, .obj 65 [.d (.raw (.string (lk))), .d (.raw (.string (lv)))])]) (cs := [((decide (i < n)) = false), (r.length + (2 : Nat) ≤ (9223372036854775807 : Nat) ∧ (r.length + (2 : Nat)) * (16 : Nat) ≤ (140737488355328 : Nat))]) [false] [0,3,4,5,6,22,23,24] (by kernel_rfl) (by kernel_rfl) ⟨hb1, (by first | omega | exact absurd (of_decide_eq_false hb1) (by omega)), trivial⟩ hsim fun E a w hsim => ?_
      exact absurd (of_decide_eq_false hb1) (by omega)
theorem rt_out {q l : List Rw} {w0 : World} {N : Nat → Prop} {E0 : Env} (hp : l.Perm q) (ht : Tidy l) : ∀ (d : Nat) (k : Int), 0 ≤ k → k + d = (q.length : Int) → ∀ r last, r = flatM (l.take k.toNat) → (last = if k.toNat = 0 then ByteArray.empty else (l.getD (k.toNat - 1) (ByteArray.empty, ByteArray.empty)).1) → GoT q l w0 N E0 0 (rx1 q r last k) := by
  have hq : q.length ≤ 16 := by rw [← hp.length_eq]; exact ht.few
  have hlq := hp.length_eq
  have hzl : ∀ r ∈ l, 0 < r.1.size := fun r hr => (ht.sized r hr).1
  have hzq : ∀ r ∈ q, 0 < r.1.size := fun r hr => hzl r (hp.mem_iff.2 hr)
  intro d
  induction d with
  | zero =>
    intro k h0 hd r last hr hlast E a w hsim
    have e : r = flatM l := by rw [hr, List.take_of_length_le (by omega)]
    have hpl : (packL r).length ≤ 1099511627776 := by
      have h1 : ∀ x ∈ r, x.size < 100 := fun x hx => by
        rw [e] at hx
        obtain ⟨q, hq, h⟩ := flatM_mem l x hx
        have := ht.sized q hq
        rcases h with rfl | rfl <;> omega
      have := Go.Nest.packL_len r h1
      have h2 : r.length = 2 * l.length := by rw [e, flatM_len]
      omega
    rcases Bool.eq_false_or_eq_true (decide (k < (↑q.length : Int))) with hb1 | hb1
    · skip
      refine go_head (R3_ok r) rfl rfl (k' := loopAt Tryd.f17 1) (s' := mk 2 57 [(0, .ref 0 0), (3, .own 2), (4, .d (.raw (.string (last)))), (5, .d (.raw (.int .i64 (k)))), (6, .ref 3 0), (22, .own 1), (23, .d (.raw (.int .i64 ((↑q.length : Int))))), (24, .d (.raw (.int .i64 ((0 : Int)))))] [(0, .obj 36 [.own 1]), (1, .row 65 2 (q.length) (rowEl q)), (2, .row 9 1 (r.length) (strEl r)), (3, .obj 65 [.d (.raw (.string (ByteArray.mk #[]))), .d (.raw (.string (ByteArray.mk #[])))])]) (cs := [((decide (k < (↑q.length : Int))) = true)]) [true] [0,3,4,5,6,22,23,24] (by kernel_rfl) (by kernel_rfl) ⟨hb1, trivial⟩ hsim fun E a w hsim => ?_
      exact absurd (of_decide_eq_true hb1) (by omega)
    · skip
      exact go_ret (R3_ok r) rfl rfl Tryd.func17 (sr' := ⟨2, [.d (.raw (.string (packB r)))], [(0, .obj 36 [.own 1]), (1, .row 65 2 (q.length) (rowEl q))]⟩) (cs := [((decide (k < (↑q.length : Int))) = false), ((9 : Nat) = (9 : Nat)), (r.length = r.length), (strEl r = strEl r), ((packL r).length ≤ (1099511627776 : Nat))]) [false] true (by kernel_rfl) (by kernel_rfl) ⟨hb1, (by first | rfl | omega | exact hpl | exact absurd (of_decide_eq_true hb1) (by omega)), (by first | rfl | omega | exact hpl | exact absurd (of_decide_eq_true hb1) (by omega)), (by first | rfl | omega | exact hpl | exact absurd (of_decide_eq_true hb1) (by omega)), (by first | rfl | omega | exact hpl | exact absurd (of_decide_eq_true hb1) (by omega)), trivial⟩ (by (rw [← e]; rfl)) hsim
  | succ d ih =>
    intro k h0 hd r last hr hlast E a w hsim
    have hk : k.toNat < l.length := by omega
    have hrl : r.length ≤ 100 := by rw [hr, flatM_len, List.length_take]; omega
    have ih := fun lk lv (h : LInv q last q.length lk lv) => by
      have h2 := linv_end hp ht.sorted hzl hk hlast h
      exact ih (IntKind.i64.wrap (k + 1)) (by rw [wrapI (k + 1) (by omega)]; omega) (by rw [wrapI (k + 1) (by omega)]; omega) (r ++ [lk, lv]) lk (by rw [wrapI (k + 1) (by omega), show (k + 1).toNat = k.toNat + 1 by omega, flatM_take l _ hk, hr, h2.1, h2.2]) (by rw [wrapI (k + 1) (by omega), show (k + 1).toNat = k.toNat + 1 by omega, if_neg (by omega), Nat.add_sub_cancel]; exact h2.1)
    rcases Bool.eq_false_or_eq_true (decide (k < (↑q.length : Int))) with hb1 | hb1
    · skip
      refine go_head (R3_ok r) rfl rfl (k' := loopAt Tryd.f17 1) (s' := mk 2 57 [(0, .ref 0 0), (3, .own 2), (4, .d (.raw (.string (last)))), (5, .d (.raw (.int .i64 (k)))), (6, .ref 3 0), (22, .own 1), (23, .d (.raw (.int .i64 ((↑q.length : Int))))), (24, .d (.raw (.int .i64 ((0 : Int)))))] [(0, .obj 36 [.own 1]), (1, .row 65 2 (q.length) (rowEl q)), (2, .row 9 1 (r.length) (strEl r)), (3, .obj 65 [.d (.raw (.string (ByteArray.mk #[]))), .d (.raw (.string (ByteArray.mk #[])))])]) (cs := [((decide (k < (↑q.length : Int))) = true)]) [true] [0,3,4,5,6,22,23,24] (by kernel_rfl) (by kernel_rfl) ⟨hb1, trivial⟩ hsim fun E a w hsim => ?_
      exact rt_in hq hrl hzq ih q.length (q.length : Int) 0 rfl (by omega) (by omega) _ _ (.inl ⟨rfl, fun r hr => by cases hr⟩) E a w hsim
    · skip
      exact go_ret (R3_ok r) rfl rfl Tryd.func17 (sr' := ⟨2, [.d (.raw (.string (packB r)))], [(0, .obj 36 [.own 1]), (1, .row 65 2 (q.length) (rowEl q))]⟩) (cs := [((decide (k < (↑q.length : Int))) = false), ((9 : Nat) = (9 : Nat)), (r.length = r.length), (strEl r = strEl r), ((packL r).length ≤ (1099511627776 : Nat))]) [false] true (by kernel_rfl) (by kernel_rfl) ⟨hb1, (by first | omega | exact absurd (of_decide_eq_false hb1) (by omega)), (by first | omega | exact absurd (of_decide_eq_false hb1) (by omega)), (by first | omega | exact absurd (of_decide_eq_false hb1) (by omega)), (by first | omega | exact absurd (of_decide_eq_false hb1) (by omega)), trivial⟩ (by exact absurd (of_decide_eq_false hb1) (by omega)) hsim
theorem textR_ok (l q : List Rw) (hp : l.Perm q) (ht : Tidy l) : Eng.Spec Tryd.prog g0 17 [.ref 0 0] (rt0 q) (.d (.raw (.string (packB (flatM l))))) (rt0 q) := by
  refine spec_fn Tryd.func17 rfl fun {w N E a} hsim => ?_
  refine go_head (R3_ok []) rfl rfl (k' := loopAt Tryd.f17 0) (s' := mk 2 57 [(0, .ref 0 0), (3, .d (.raw (Value.slice none (0 : Nat) (0 : Nat)))), (4, .d (.raw (.string (ByteArray.mk #[])))), (5, .d (.raw (.int .i64 ((0 : Int)))))] [(0, .obj 36 [.own 1]), (1, .row 65 2 (q.length) (rowEl q))]) (cs := []) [] [0,3,4,5] (by kernel_rfl) (by kernel_rfl) trivial hsim fun E a w hsim => ?_
  obtain ⟨E2, hs⟩ := hsim.nilRow (t := 3) rfl 9 1 (strEl [])
  exact rt_out hp ht q.length 0 (by omega) (by omega) [] _ rfl rfl E2 a w hs
end Go.Tab
