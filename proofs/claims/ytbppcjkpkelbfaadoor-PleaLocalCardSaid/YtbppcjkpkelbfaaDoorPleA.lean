/-
  Contracts of given functions, plain laws. No condition.
-/
import Derived.Test.YtbppcjkpkelbfaaDoorRmB
import Derived.Test.YtbppcjkpkelbfaaDoorPldA
import Derived.Test.YtbppcjkpkelbfaaDoorRkC
import Derived.Test.YtbppcjkpkelbfaaDoorRowS
namespace Go.Prf
open Go Go.Eng Go.Proofs Go.Tab Go.Plc
set_option maxRecDepth 100000
set_option maxHeartbeats 4000000
abbrev GoCj (w0 : World) (N : Nat → Prop) (E0 : Env)  (st : St) (r : Int × Int × Int) : Prop := GoG Tryd.prog gB 29 (loopAt Tryd.f29 0) [] ⟨0, [.tup [.d (.raw (.int .i64 r.1)), .d (.raw (.int .i64 r.2.1)), .d (.raw (.int .i64 r.2.2))]], []⟩ w0 N E0 st
theorem W1_ok (x : PartT) (r : Int × Int × Int) : OrcOK Tryd.prog (W1 x r) := (OrcOK.none _).add _ false (mChkP x.1 x.2 r) fun args H ret H' c h hc => by
 unfold mChkP at h
 split at h
 · cases h; obtain ⟨rfl, rfl, rfl, rfl, rfl, rfl, ⟨hl, rfl⟩, -⟩ := hc; exact check_ok _ _ hl
 · cases h
theorem cj_go {w0 : World} {N : Nat → Prop} {E0 : Env} (l : List PartT) (hl : l.length ≤ 1000000) (hx : ∀ x ∈ l, x.1.length ≤ 1000000) : ∀ (d : Nat) (n i : Int), n = (l.length : Int) → 0 ≤ i → i + d = n → ∀ p q : Int, GoCj w0 N E0 (cj1 l p q n i) (pckF (l.drop i.toNat) i p q) := by
 intro d
 induction d with
 | zero =>
  intro n i en h0 hd p q E a w hsim
  rw [List.drop_eq_nil_of_le (by omega), pckF]
  let x : PartT := ([], [])
  let r : Int × Int × Int := (0, 0, 0)
  rcases bd (decide (i < n)) with hb1 | hb1
  ·
   rcases bd (r.snd.snd != (0 : Int)) with hb2 | hb2
   ·
    exact absurd (of_decide_eq_true hb1) (by omega)
   ·
    rcases bd (r.fst != (0 : Int)) with hb3 | hb3
    ·
     rcases bd (q == (0 : Int)) with hb4 | hb4
     ·
      exact absurd (of_decide_eq_true hb1) (by omega)
     ·
      exact absurd (of_decide_eq_true hb1) (by omega)
    ·
     exact absurd (of_decide_eq_true hb1) (by omega)
  ·
   exact gr (W1_ok x r) Tryd.func29 (sr' := ⟨0, [.tup [vI p, vI q, vI 0]], []⟩) (cs := [_]) [false] true ⟨hb1, trivial⟩ (by rfl) hsim
 | succ d ih =>
  intro n i en h0 hd p q E a w hsim
  have hi : i.toNat < l.length := by omega
  have ew : IntKind.i64.wrap (i + 1) = i + 1 := wrapP (by omega)
  have ih := ih n (IntKind.i64.wrap (i + 1)) en (by rw [ew]; omega) (by rw [ew]; omega)
  obtain ⟨x, hxe⟩ : ∃ x, x = l.getD i.toNat ([], []) := ⟨_, rfl⟩
  obtain ⟨r, hr⟩ : ∃ r, r = checkP x.1 x.2 := ⟨_, rfl⟩
  have hxl : x.1.length ≤ 1099511627776 := by
    have := hx x (by rw [hxe, List.getD_eq_getElem?_getD, List.getElem?_eq_getElem hi]; exact List.getElem_mem hi)
    omega
  have e1 : (l.getD i.toNat ([], [])).1.length = x.1.length := by rw [hxe]
  have e2 : caEl (l.getD i.toNat ([], [])).1 = caEl x.1 := by rw [hxe]
  have e3 : (l.getD i.toNat ([], [])).2.length = x.2.length := by rw [hxe]
  have e4 : ptEl (l.getD i.toNat ([], [])).2 = ptEl x.2 := by rw [hxe]
  rw [getD_dropP (d := (([], []) : PartT)) hi, ← hxe, pckF, ← hr]
  rw [show (IntKind.i64.wrap (i + 1)).toNat = i.toNat + 1 by rw [ew]; omega, ew] at ih
  rw [← ew] at ih ⊢
  rcases bd (decide (i < n)) with hb1 | hb1
  ·
   rcases bd (r.snd.snd != (0 : Int)) with hb2 | hb2
   ·
    exact gr (W1_ok x r) Tryd.func29 (sr' := ⟨0, [.tup [vI 0, vI 0, vI r.snd.snd]], []⟩) (cs := [_, (0 ≤ i ∧ i < l.length), (10 = 10), ((l.getD i.toNat ([], [])).fst.length = x.fst.length), (caEl (l.getD i.toNat ([], [])).fst = caEl x.fst), (5 = 5), ((l.getD i.toNat ([], [])).snd.length = x.snd.length), (ptEl (l.getD i.toNat ([], [])).snd = ptEl x.snd), (x.fst.length ≤ 1099511627776 ∧ r = checkP x.fst x.snd), _]) [true, true] true ⟨hb1, by omega, by omega, (by exact e1), (by exact e2), by omega, (by exact e3), (by exact e4), (by exact ⟨hxl, hr⟩), hb2, trivial⟩ (by (rw [if_pos hb2]; done)) hsim
   ·
    rcases bd (r.fst != (0 : Int)) with hb3 | hb3
    ·
     rcases bd (q == (0 : Int)) with hb4 | hb4
     ·
      refine gh (W1_ok x r) (k' := loopAt Tryd.f29 0) (s' := mk 0 42 [(5, vI i), (6, vI r.fst), (12, .d (.list 2 l.length (paEl l))), (13, vI n), (14, vI (wI (i + 1)))] []) (cs := [_, (0 ≤ i ∧ i < l.length), (10 = 10), ((l.getD i.toNat ([], [])).fst.length = x.fst.length), (caEl (l.getD i.toNat ([], [])).fst = caEl x.fst), (5 = 5), ((l.getD i.toNat ([], [])).snd.length = x.snd.length), (ptEl (l.getD i.toNat ([], [])).snd = ptEl x.snd), (x.fst.length ≤ 1099511627776 ∧ r = checkP x.fst x.snd), _, _, _]) [true, false, true, true] [5,6,12,13,14] ⟨hb1, by omega, by omega, (by exact e1), (by exact e2), by omega, (by exact e3), (by exact e4), (by exact ⟨hxl, hr⟩), hb2, hb3, hb4, trivial⟩ hsim fun E a w hsim => ?_
      rw [if_neg (Bool.eq_false_iff.1 hb2)]
      first | (rw [if_pos (Bool.and_eq_true_iff.2 ⟨hb3, hb4⟩)]; exact ih _ _ E a w hsim) | (rw [if_neg (Bool.eq_false_iff.1 (Bool.and_eq_false_iff.2 (.inr hb4)))]; exact ih _ _ E a w hsim) | (rw [if_neg (Bool.eq_false_iff.1 (Bool.and_eq_false_iff.2 (.inl hb3)))]; exact ih _ _ E a w hsim)
     ·
      refine gh (W1_ok x r) (k' := loopAt Tryd.f29 0) (s' := mk 0 42 [(5, vI p), (6, vI q), (12, .d (.list 2 l.length (paEl l))), (13, vI n), (14, vI (wI (i + 1)))] []) (cs := [_, (0 ≤ i ∧ i < l.length), (10 = 10), ((l.getD i.toNat ([], [])).fst.length = x.fst.length), (caEl (l.getD i.toNat ([], [])).fst = caEl x.fst), (5 = 5), ((l.getD i.toNat ([], [])).snd.length = x.snd.length), (ptEl (l.getD i.toNat ([], [])).snd = ptEl x.snd), (x.fst.length ≤ 1099511627776 ∧ r = checkP x.fst x.snd), _, _, _]) [true, false, true, false] [5,6,12,13,14] ⟨hb1, by omega, by omega, (by exact e1), (by exact e2), by omega, (by exact e3), (by exact e4), (by exact ⟨hxl, hr⟩), hb2, hb3, hb4, trivial⟩ hsim fun E a w hsim => ?_
      rw [if_neg (Bool.eq_false_iff.1 hb2)]
      first | (rw [if_pos (Bool.and_eq_true_iff.2 ⟨hb3, hb4⟩)]; exact ih _ _ E a w hsim) | (rw [if_neg (Bool.eq_false_iff.1 (Bool.and_eq_false_iff.2 (.inr hb4)))]; exact ih _ _ E a w hsim) | (rw [if_neg (Bool.eq_false_iff.1 (Bool.and_eq_false_iff.2 (.inl hb3)))]; exact ih _ _ E a w hsim)
    ·
     refine gh (W1_ok x r) (k' := loopAt Tryd.f29 0) (s' := mk 0 42 [(5, vI p), (6, vI q), (12, .d (.list 2 l.length (paEl l))), (13, vI n), (14, vI (wI (i + 1)))] []) (cs := [_, (0 ≤ i ∧ i < l.length), (10 = 10), ((l.getD i.toNat ([], [])).fst.length = x.fst.length), (caEl (l.getD i.toNat ([], [])).fst = caEl x.fst), (5 = 5), ((l.getD i.toNat ([], [])).snd.length = x.snd.length), (ptEl (l.getD i.toNat ([], [])).snd = ptEl x.snd), (x.fst.length ≤ 1099511627776 ∧ r = checkP x.fst x.snd), _, _]) [true, false, false] [5,6,12,13,14] ⟨hb1, by omega, by omega, (by exact e1), (by exact e2), by omega, (by exact e3), (by exact e4), (by exact ⟨hxl, hr⟩), hb2, hb3, trivial⟩ hsim fun E a w hsim => ?_
     rw [if_neg (Bool.eq_false_iff.1 hb2)]
     first | (rw [if_pos (Bool.and_eq_true_iff.2 ⟨hb3, hb4⟩)]; exact ih _ _ E a w hsim) | (rw [if_neg (Bool.eq_false_iff.1 (Bool.and_eq_false_iff.2 (.inr hb4)))]; exact ih _ _ E a w hsim) | (rw [if_neg (Bool.eq_false_iff.1 (Bool.and_eq_false_iff.2 (.inl hb3)))]; exact ih _ _ E a w hsim)
  ·
   exact absurd (of_decide_eq_false hb1) (by omega)
theorem pck_ok (l : List PartT) (hl : l.length ≤ 1000000) (hx : ∀ x ∈ l, x.1.length ≤ 1000000) : Eng.Spec Tryd.prog gB 29 [.d (.list 2 l.length (paEl l))] [] (.tup [.d (.raw (.int .i64 (pckF l 0 0 0).1)), .d (.raw (.int .i64 (pckF l 0 0 0).2.1)), .d (.raw (.int .i64 (pckF l 0 0 0).2.2))]) [] := by
 refine spec_fn Tryd.func29 rfl fun {w N E act} hsim => ?_
 let x : PartT := ([], [])
 let r : Int × Int × Int := (0, 0, 0)
 refine gh (W1_ok x r) (k' := loopAt Tryd.f29 0) (s' := mk 0 42 [(5, vI 0), (6, vI 0), (12, .d (.list 2 l.length (paEl l))), (13, vI (↑l.length : Int)), (14, vI 0)] []) (cs := []) [] [5,6,12,13,14] trivial hsim fun E a w hsim => ?_
 exact cj_go l hl hx l.length (l.length : Int) 0 rfl (by omega) (by omega) 0 0 E a w hsim
theorem W2_ok (cs : List Ca) (ps : List Pt) (l : List PartT) (r : Bool) (u v : Int × Int × Int) : OrcOK Tryd.prog (W2 cs ps l r u v) := (((((((OrcOK.none _).add _ false (mSpl cs ps l) fun args H ret H' q h hc => by
 unfold mSpl at h
 split at h
 · cases h; obtain ⟨rfl, rfl, rfl, rfl, rfl, rfl, ⟨hl, hl2, hs, rfl⟩, -⟩ := hc; rw [← parts_eq]; exact split_ok cs ps hl hl2 hs
 · cases h).add _ false (mLarge cs ps r) fun args H ret H' q h hc => by
 unfold mLarge at h
 split at h
 · cases h; obtain ⟨rfl, rfl, rfl, rfl, rfl, rfl, ⟨hW, hl, rfl⟩, -⟩ := hc; exact large_ok cs ps hl hW
 · cases h).add _ false (mIdC2 cs) fun args H ret H' q h hc => by
 unfold mIdC2 at h
 split at h
 · cases h; obtain ⟨rfl, rfl, rfl, hl, -⟩ := hc; exact callsL_ok cs hl
 · cases h).add _ false (mIdP2 ps) fun args H ret H' q h hc => by
 unfold mIdP2 at h
 split at h
 · cases h; obtain ⟨rfl, rfl, rfl, hl, -⟩ := hc; exact pointsL_ok ps hl
 · cases h).add _ false mParts fun args H ret H' q h hc => by
 unfold mParts at h
 split at h
 · cases h; exact parts_ok
 · cases h).add _ false (mRefC cs ps u) fun args H ret H' c h hc => by
 unfold mRefC at h
 split at h
 · cases h; obtain ⟨rfl, rfl, rfl, rfl, rfl, rfl, ⟨hl, hl2, rfl⟩, -⟩ := hc; exact refck_ok cs ps hl hl2
 · cases h).add _ false (mPck l v) fun args H ret H' c h hc => by
 unfold mPck at h
 split at h
 · cases h; obtain ⟨rfl, rfl, rfl, ⟨hl, hx, rfl⟩, -⟩ := hc; exact pck_ok l hl hx
 · cases h
theorem pck_zero : ∀ (l : List PartT) (i p q : Int), (∀ x ∈ l, (checkP x.1 x.2).2.2 = 0) → (pckF l i p q).2.2 = 0 ∧ ((pckF l i p q).2.1 = 0 ↔ q = 0 ∧ ∀ x ∈ l, (checkP x.1 x.2).1 = 0)
 | [], i, p, q, _ => ⟨rfl, fun h => ⟨h, fun x hx => (by cases hx)⟩, fun h => h.1⟩
 | x :: r, i, p, q, h => by
  have h0 := h x List.mem_cons_self
  rw [pckF, if_neg (by rw [h0]; decide)]
  cases hb : ((checkP x.1 x.2).1 != 0 && q == 0) with
  | true =>
   rw [if_pos rfl]
   rw [Bool.and_eq_true, bne_iff_ne, beq_iff_eq] at hb
   obtain ⟨k1, k2⟩ := pck_zero r (i + 1) i (checkP x.1 x.2).1 fun y hy => h y (List.mem_cons_of_mem _ hy)
   refine ⟨k1, k2.trans ⟨fun h => absurd h.1 hb.1, fun h => absurd (h.2 x List.mem_cons_self) hb.1⟩⟩
  | false =>
   rw [if_neg (by decide)]
   obtain ⟨k1, k2⟩ := pck_zero r (i + 1) p q fun y hy => h y (List.mem_cons_of_mem _ hy)
   refine ⟨k1, k2.trans ⟨fun hh => ⟨hh.1, fun y hy => ?_⟩, fun hh => ⟨hh.1, fun y hy => hh.2 y (List.mem_cons_of_mem _ hy)⟩⟩⟩
   rcases List.mem_cons.1 hy with rfl | hy
   ·
    rcases Bool.and_eq_false_iff.1 hb with hb | hb
    · rwa [bne_eq_false_iff_eq] at hb
    · rw [hh.1] at hb; exact absurd hb (by decide)
   · exact hh.2 y hy
theorem check_err {cs : List Ca} {ps : List Pt} (hl : cs.length ≤ 2000) (hl2 : ps.length ≤ 2000) : (checkP cs ps).2.2 = 0 ∧ (¬ (checkP cs ps).1 = 1 → R1 cs) := by
 unfold checkP
 rw [if_neg (by omega)]
 by_cases h : 0 ≤ fmF [] cs 0
 · rw [if_pos h]; exact ⟨rfl, fun h => absurd rfl h⟩
 rw [if_neg h]
 refine ⟨?_, fun _ => (rule1_iff cs).1 (by omega)⟩
 repeat' split
 all_goals rfl
theorem mono_of {ps : List Pt} (h : ∀ k, k < ps.length → 0 ≤ (ps.getD k noPt).at' ∧ (0 < k → (ps.getD (k - 1) noPt).at' ≤ (ps.getD k noPt).at')) : ps.Pairwise (fun p q => p.at' ≤ q.at') ∧ ∀ p ∈ ps, 0 ≤ p.at' := by
 have hg : ∀ k (hk : k < ps.length), ps.getD k noPt = ps[k] := fun k hk => by rw [List.getD, List.getElem?_eq_getElem hk]; rfl
 refine ⟨List.pairwise_iff_getElem.2 fun i j hi hj hij => ?_, fun p hp => ?_⟩
 ·
  have key : ∀ d, i + d < ps.length → (ps.getD i noPt).at' ≤ (ps.getD (i + d) noPt).at' := by
   intro d
   induction d with
   | zero => intro _; exact Int.le_refl _
   | succ d ih =>
    intro hd
    exact Int.le_trans (ih (by omega)) ((h (i + (d + 1)) hd).2 (by omega))
  have := key (j - i) (by omega)
  rw [show i + (j - i) = j by omega, hg i hi, hg j hj] at this
  exact this
 ·
  obtain ⟨k, hk, rfl⟩ := List.getElem_of_mem hp
  rw [← hg k hk]; exact (h k hk).1
theorem local_law {cs : List Ca} {ps : List Pt} (hl : cs.length ≤ 80) (hl2 : ps.length ≤ 80) (hm : ps.Pairwise (fun p q => p.at' ≤ q.at')) (h0 : ∀ p ∈ ps, 0 ≤ p.at') :
  (pckF (rpartsF cs ps) 0 0 0).2.2 = 0 ∧ (¬ (checkP cs ps).1 = 1 → ((pckF (rpartsF cs ps) 0 0 0).2.1 = 0 ↔ (checkP cs ps).1 = 0)) := by
 have hmem : ∀ x, x ∈ rpartsF cs ps ↔ ∃ s : Int, 0 ≤ s ∧ s < 4 ∧ x = (cs.filter (inS s), ps.filter (inR cs s)) := fun x => by
  unfold rpartsF
  rw [List.mem_map]
  constructor
  ·
   rintro ⟨s, hs, rfl⟩
   have := List.mem_range.1 hs
   exact ⟨s, by omega, by omega, rfl⟩
  ·
   rintro ⟨s, h0, h4, rfl⟩
   refine ⟨s.toNat, List.mem_range.2 (by omega), ?_⟩
   unfold rpartF
   rw [show ((s.toNat : Nat) : Int) = s by omega]
 have hlen : ∀ s : Int, (cs.filter (inS s)).length ≤ 2000 ∧ (ps.filter (inR cs s)).length ≤ 2000 := fun s => ⟨Nat.le_trans (List.length_filter_le _ _) (by omega), Nat.le_trans (List.length_filter_le _ _) (by omega)⟩
 obtain ⟨k1, k2⟩ := pck_zero (rpartsF cs ps) 0 0 0 fun x hx => by
  obtain ⟨s, -, -, rfl⟩ := (hmem x).1 hx
  exact (check_err (hlen s).1 (hlen s).2).1
 refine ⟨k1, fun hne => ?_⟩
 have h1 := (check_err (by omega) (by omega)).2 hne
 rw [k2, check_iff (by omega) (by omega) h1 hm h0, local_iff h1]
 have hp : ∀ s : Int, (checkP (cs.filter (inS s)) (ps.filter (inR cs s))).1 = 0 ↔ AllOK (cs.filter (inS s)) (ps.filter (inR cs s)) := fun s => check_iff (hlen s).1 (hlen s).2 (h1.sub _) (hm.filter _) fun p hp => h0 p (List.mem_filter.1 hp).1
 constructor
 ·
  rintro ⟨-, h⟩ s s0 s4
  exact (hp s).1 (h _ ((hmem _).2 ⟨s, s0, s4, rfl⟩))
 ·
  intro h
  refine ⟨rfl, fun x hx => ?_⟩
  obtain ⟨s, s0, s4, rfl⟩ := (hmem x).1 hx
  exact (hp s).2 (h s s0 s4)
abbrev GoLj (w0 : World) (N : Nat → Prop) (E0 : Env)  (st : St) (r : Bool) : Prop := GoG Tryd.prog gB 9 (loopAt Tryd.f9 0) [] ⟨0, [.d (.raw (.bool r))], []⟩ w0 N E0 st
theorem lj_go {w0 : World} {N : Nat → Prop} {E0 : Env} (cs : List Ca) (ps : List Pt) (hl : cs.length ≤ 80) (hl2 : ps.length ≤ 80) (hs : SmallK cs) : ∀ (d : Nat) (n i : Int), n = (ps.length : Int) → 0 ≤ i → i + d = n → (∀ k, k < i.toNat → 0 ≤ (ps.getD k noPt).at' ∧ (0 < k → (ps.getD (k - 1) noPt).at' ≤ (ps.getD k noPt).at')) → GoLj w0 N E0 (lj1 cs ps n i) true := by
 intro d
 let r : Bool := false
 obtain ⟨l, hll⟩ : ∃ l, l = rpartsF cs ps := ⟨_, rfl⟩
 obtain ⟨u, hu⟩ : ∃ u, u = checkP cs ps := ⟨_, rfl⟩
 obtain ⟨v, hv⟩ : ∃ v, v = pckF l 0 0 0 := ⟨_, rfl⟩
 have hl4 : l.length = 4 := by rw [hll]; rfl
 have hlx : ∀ x ∈ l, x.1.length ≤ 1000000 := fun x hx => by
  rw [hll] at hx
  obtain ⟨s, -, rfl⟩ := List.mem_map.1 hx
  exact Nat.le_trans (List.length_filter_le _ _) (by omega)
 induction d with
 | zero =>
  intro n i en h0 hd hall E a w hsim
  obtain ⟨m1, m2⟩ := mono_of (ps := ps) fun k hk => hall k (by omega)
  obtain ⟨q1, q2⟩ := local_law hl hl2 m1 m2
  have g1 : (u.2.2 != 0) = false := by rw [hu, (check_err (by omega) (by omega)).1]; rfl
  have g2 : (v.2.2 == 0) = true := by rw [hv, hll, q1]; rfl
  have g3 : (u.1 == 1) = false → ((v.2.1 == 0) == (u.1 == 0)) = true := fun h => by
    have h1 := q2 (by rw [← hu]; exact ne_of_beq_false h)
    rw [← hll, ← hv, ← hu] at h1
    rw [beq_iff_eq, Bool.eq_iff_iff, beq_iff_eq, beq_iff_eq]
    exact h1
  have c1 : cs.length ≤ 1000000 ∧ ps.length ≤ 1000000 ∧ u = checkP cs ps := ⟨by omega, by omega, hu⟩
  have c2 : cs.length ≤ 2000 ∧ ps.length ≤ 2000 ∧ SmallK cs ∧ l = rpartsF cs ps := ⟨by omega, by omega, hs, hll⟩
  have c3 : l.length ≤ 1000000 ∧ (∀ x ∈ l, x.1.length ≤ 1000000) ∧ v = pckF l 0 0 0 := ⟨by omega, hlx, hv⟩
  have c4 : cs.length ≤ 1000000 := by omega
  have c5 : ps.length ≤ 1000000 := by omega
  rcases bd (decide (i < n)) with hb1 | hb1
  ·
   rcases bd (decide ((ps.getD i.toNat noPt).at' < (0 : Int))) with hb2 | hb2
   ·
    exact gr (W2_ok cs ps l r u v) Tryd.func9 (sr' := ⟨0, [vB true], []⟩) (cs := [_, (0 ≤ i ∧ i < ps.length), _]) [true, true] true ⟨hb1, (by exact absurd (of_decide_eq_true hb1) (by omega)), hb2, trivial⟩ (by rfl) hsim
   ·
    rcases bd (decide (i > (0 : Int))) with hb3 | hb3
    ·
     rcases bd (decide ((ps.getD (IntKind.i64.wrap (i - (1 : Int))).toNat noPt).at' > (ps.getD i.toNat noPt).at')) with hb4 | hb4
     ·
      exact gr (W2_ok cs ps l r u v) Tryd.func9 (sr' := ⟨0, [vB true], []⟩) (cs := [_, (0 ≤ i ∧ i < ps.length), _, _, ((0 : Int) ≤ IntKind.i64.wrap (i - 1) ∧ IntKind.i64.wrap (i - 1) < (↑ps.length : Int)), _]) [true, false, true, true] true ⟨hb1, (by exact absurd (of_decide_eq_true hb1) (by omega)), hb2, hb3, (by exact absurd (of_decide_eq_true hb1) (by omega)), hb4, trivial⟩ (by rfl) hsim
     ·
      exact absurd (of_decide_eq_true hb1) (by omega)
    ·
     exact absurd (of_decide_eq_true hb1) (by omega)
  ·
   rcases bd (u.snd.snd != (0 : Int)) with hb5 | hb5
   ·
    have q0_ : ((10 : Nat) = (10 : Nat)) := (by rfl)
    have q1_ : (cs.length = cs.length) := (by rfl)
    have q2_ : (caEl cs = caEl cs) := (by rfl)
    have q3_ : ((5 : Nat) = (5 : Nat)) := (by rfl)
    have q4_ : (ps.length = ps.length) := (by rfl)
    have q5_ : (ptEl ps = ptEl ps) := (by rfl)
    exact gr (W2_ok cs ps l r u v) Tryd.func9 (sr' := ⟨0, [vB true], []⟩) (cs := ((fun (c0 c1 c2 c3 c4 c5 : Prop) => [_, c0, c1, c2, (cs.length ≤ 1000000), c3, c4, c5, (ps.length ≤ 1000000), c0, c1, c2, c3, c4, c5, (cs.length ≤ 1000000 ∧ ps.length ≤ 1000000 ∧ u = checkP cs ps), _]) _ _ _ _ _ _)) [false, true] true ⟨hb1, q0_, q1_, q2_, (by exact c4), q3_, q4_, q5_, (by exact c5), q0_, q1_, q2_, q3_, q4_, q5_, (by exact c1), hb5, trivial⟩ (by rfl) hsim
   ·
    rcases bd (u.fst == (1 : Int)) with hb6 | hb6
    ·
     have q0_ : ((10 : Nat) = (10 : Nat)) := (by rfl)
     have q1_ : (cs.length = cs.length) := (by rfl)
     have q2_ : (caEl cs = caEl cs) := (by rfl)
     have q3_ : ((5 : Nat) = (5 : Nat)) := (by rfl)
     have q4_ : (ps.length = ps.length) := (by rfl)
     have q5_ : (ptEl ps = ptEl ps) := (by rfl)
     exact gr (W2_ok cs ps l r u v) Tryd.func9 (sr' := ⟨0, [vB true], []⟩) (cs := ((fun (c0 c1 c2 c3 c4 c5 : Prop) => [_, c0, c1, c2, (cs.length ≤ 1000000), c3, c4, c5, (ps.length ≤ 1000000), c0, c1, c2, c3, c4, c5, (cs.length ≤ 1000000 ∧ ps.length ≤ 1000000 ∧ u = checkP cs ps), _, _]) _ _ _ _ _ _)) [false, false, true] true ⟨hb1, q0_, q1_, q2_, (by exact c4), q3_, q4_, q5_, (by exact c5), q0_, q1_, q2_, q3_, q4_, q5_, (by exact c1), hb5, hb6, trivial⟩ (by rfl) hsim
    ·
     rcases bd (v.snd.snd == (0 : Int)) with hb7 | hb7
     ·
      rcases bd ((v.snd.fst == (0 : Int)) == (u.fst == (0 : Int))) with hb8 | hb8
      ·
       have q0_ : ((10 : Nat) = (10 : Nat)) := (by rfl)
       have q1_ : (cs.length = cs.length) := (by rfl)
       have q2_ : (caEl cs = caEl cs) := (by rfl)
       have q3_ : ((5 : Nat) = (5 : Nat)) := (by rfl)
       have q4_ : (ps.length = ps.length) := (by rfl)
       have q5_ : (ptEl ps = ptEl ps) := (by rfl)
       exact gr (W2_ok cs ps l r u v) Tryd.func9 (sr' := ⟨0, [vB true], []⟩) (cs := ((fun (c0 c1 c2 c3 c4 c5 : Prop) => [_, c0, c1, c2, (cs.length ≤ 1000000), c3, c4, c5, (ps.length ≤ 1000000), c0, c1, c2, c3, c4, c5, (cs.length ≤ 1000000 ∧ ps.length ≤ 1000000 ∧ u = checkP cs ps), _, _, c0, c1, c2, c3, c4, c5, (cs.length ≤ 2000 ∧ ps.length ≤ 2000 ∧ SmallK cs ∧ l = [rpartF cs ps 0, rpartF cs ps 1, rpartF cs ps 2, rpartF cs ps 3]), (2 = 2), (4 = l.length), (paEl l = paEl l), (l.length ≤ 1000000 ∧ (∀ (x : PartT), x ∈ l → x.fst.length ≤ 1000000) ∧ v = pckF l (0 : Int) (0 : Int) (0 : Int)), ((true) = true), _, _]) _ _ _ _ _ _)) [false, false, false, true, true, true] true ⟨hb1, q0_, q1_, q2_, (by exact c4), q3_, q4_, q5_, (by exact c5), q0_, q1_, q2_, q3_, q4_, q5_, (by exact c1), hb5, hb6, q0_, q1_, q2_, q3_, q4_, q5_, (by exact c2), (by rfl), (by exact hl4.symm), (by rfl), (by exact c3), rfl, hb7, hb8, trivial⟩ (by rfl) hsim
      ·
       have q0_ : ((10 : Nat) = (10 : Nat)) := (by rfl)
       have q1_ : (cs.length = cs.length) := (by rfl)
       have q2_ : (caEl cs = caEl cs) := (by rfl)
       have q3_ : ((5 : Nat) = (5 : Nat)) := (by rfl)
       have q4_ : (ps.length = ps.length) := (by rfl)
       have q5_ : (ptEl ps = ptEl ps) := (by rfl)
       exact absurd ((g3 hb6).symm.trans hb8) (by decide)
     ·
      have q0_ : ((10 : Nat) = (10 : Nat)) := (by rfl)
      have q1_ : (cs.length = cs.length) := (by rfl)
      have q2_ : (caEl cs = caEl cs) := (by rfl)
      have q3_ : ((5 : Nat) = (5 : Nat)) := (by rfl)
      have q4_ : (ps.length = ps.length) := (by rfl)
      have q5_ : (ptEl ps = ptEl ps) := (by rfl)
      exact absurd (g2.symm.trans hb7) (by decide)
 | succ d ih =>
  intro n i en h0 hd hall E a w hsim
  have hi : i.toNat < ps.length := by omega
  have ew : IntKind.i64.wrap (i + 1) = i + 1 := wrapP (by omega)
  have ih := ih n (IntKind.i64.wrap (i + 1)) en (by rw [ew]; omega) (by rw [ew]; omega)
  have ek : i > 0 → IntKind.i64.wrap (i - 1) = i - 1 := fun h => wrapP (by omega)
  have ek2 : i > 0 → (0 ≤ IntKind.i64.wrap (i - 1) ∧ IntKind.i64.wrap (i - 1) < ps.length) := fun h => by rw [ek h]; omega
  have hst : 0 ≤ (ps.getD i.toNat noPt).at' → (i > 0 → (ps.getD (IntKind.i64.wrap (i - 1)).toNat noPt).at' ≤ (ps.getD i.toNat noPt).at') → ∀ k, k < (IntKind.i64.wrap (i + 1)).toNat → 0 ≤ (ps.getD k noPt).at' ∧ (0 < k → (ps.getD (k - 1) noPt).at' ≤ (ps.getD k noPt).at') := fun ha hb k hk => by
    rw [ew] at hk
    rcases Nat.lt_or_ge k i.toNat with h | h
    · exact hall k h
    ·
      obtain rfl : k = i.toNat := by omega
      refine ⟨ha, fun h1 => ?_⟩
      have := hb (by omega)
      rw [ek (by omega), show (i - 1).toNat = i.toNat - 1 by omega] at this
      exact this
  rcases bd (decide (i < n)) with hb1 | hb1
  ·
   rcases bd (decide ((ps.getD i.toNat noPt).at' < (0 : Int))) with hb2 | hb2
   ·
    exact gr (W2_ok cs ps l r u v) Tryd.func9 (sr' := ⟨0, [vB true], []⟩) (cs := [_, (0 ≤ i ∧ i < ps.length), _]) [true, true] true ⟨hb1, by omega, hb2, trivial⟩ (by rfl) hsim
   ·
    rcases bd (decide (i > (0 : Int))) with hb3 | hb3
    ·
     rcases bd (decide ((ps.getD (IntKind.i64.wrap (i - (1 : Int))).toNat noPt).at' > (ps.getD i.toNat noPt).at')) with hb4 | hb4
     ·
      exact gr (W2_ok cs ps l r u v) Tryd.func9 (sr' := ⟨0, [vB true], []⟩) (cs := [_, (0 ≤ i ∧ i < ps.length), _, _, ((0 : Int) ≤ IntKind.i64.wrap (i - 1) ∧ IntKind.i64.wrap (i - 1) < (↑ps.length : Int)), _]) [true, false, true, true] true ⟨hb1, by omega, hb2, hb3, (by exact ek2 (of_decide_eq_true hb3)), hb4, trivial⟩ (by rfl) hsim
     ·
      refine gh (W2_ok cs ps l r u v) (k' := loopAt Tryd.f9 0) (s' := mk 0 90 [(0, .d (.list 10 cs.length (caEl cs))), (1, .d (.list 5 ps.length (ptEl ps))), (18, .d (.list 5 ps.length (ptEl ps))), (19, vI n), (20, vI (wI (i + 1)))] []) (cs := [_, (0 ≤ i ∧ i < ps.length), _, _, ((0 : Int) ≤ IntKind.i64.wrap (i - 1) ∧ IntKind.i64.wrap (i - 1) < (↑ps.length : Int)), _]) [true, false, true, false] [0,1,18,19,20] ⟨hb1, by omega, hb2, hb3, (by exact ek2 (of_decide_eq_true hb3)), hb4, trivial⟩ hsim fun E a w hsim => ?_
      first | exact ih (hst (Int.not_lt.1 (of_decide_eq_false hb2)) (fun _ => Int.not_lt.1 (of_decide_eq_false hb4))) E a w hsim | exact ih (hst (Int.not_lt.1 (of_decide_eq_false hb2)) (fun h => absurd h (of_decide_eq_false hb3))) E a w hsim
    ·
     refine gh (W2_ok cs ps l r u v) (k' := loopAt Tryd.f9 0) (s' := mk 0 90 [(0, .d (.list 10 cs.length (caEl cs))), (1, .d (.list 5 ps.length (ptEl ps))), (18, .d (.list 5 ps.length (ptEl ps))), (19, vI n), (20, vI (wI (i + 1)))] []) (cs := [_, (0 ≤ i ∧ i < ps.length), _, _]) [true, false, false] [0,1,18,19,20] ⟨hb1, by omega, hb2, hb3, trivial⟩ hsim fun E a w hsim => ?_
     first | exact ih (hst (Int.not_lt.1 (of_decide_eq_false hb2)) (fun _ => Int.not_lt.1 (of_decide_eq_false hb4))) E a w hsim | exact ih (hst (Int.not_lt.1 (of_decide_eq_false hb2)) (fun h => absurd h (of_decide_eq_false hb3))) E a w hsim
  ·
   rcases bd (u.snd.snd != (0 : Int)) with hb5 | hb5
   ·
    have q0_ : ((10 : Nat) = (10 : Nat)) := (by omega)
    have q1_ : (cs.length = cs.length) := (by omega)
    have q2_ : (caEl cs = caEl cs) := (by exact absurd (of_decide_eq_false hb1) (by omega))
    have q3_ : ((5 : Nat) = (5 : Nat)) := (by omega)
    have q4_ : (ps.length = ps.length) := (by omega)
    have q5_ : (ptEl ps = ptEl ps) := (by exact absurd (of_decide_eq_false hb1) (by omega))
    exact gr (W2_ok cs ps l r u v) Tryd.func9 (sr' := ⟨0, [vB true], []⟩) (cs := ((fun (c0 c1 c2 c3 c4 c5 : Prop) => [_, c0, c1, c2, (cs.length ≤ 1000000), c3, c4, c5, (ps.length ≤ 1000000), c0, c1, c2, c3, c4, c5, (cs.length ≤ 1000000 ∧ ps.length ≤ 1000000 ∧ u = checkP cs ps), _]) _ _ _ _ _ _)) [false, true] true ⟨hb1, q0_, q1_, q2_, by omega, q3_, q4_, q5_, by omega, q0_, q1_, q2_, q3_, q4_, q5_, (by exact absurd (of_decide_eq_false hb1) (by omega)), hb5, trivial⟩ (by rfl) hsim
   ·
    rcases bd (u.fst == (1 : Int)) with hb6 | hb6
    ·
     have q0_ : ((10 : Nat) = (10 : Nat)) := (by omega)
     have q1_ : (cs.length = cs.length) := (by omega)
     have q2_ : (caEl cs = caEl cs) := (by exact absurd (of_decide_eq_false hb1) (by omega))
     have q3_ : ((5 : Nat) = (5 : Nat)) := (by omega)
     have q4_ : (ps.length = ps.length) := (by omega)
     have q5_ : (ptEl ps = ptEl ps) := (by exact absurd (of_decide_eq_false hb1) (by omega))
     exact gr (W2_ok cs ps l r u v) Tryd.func9 (sr' := ⟨0, [vB true], []⟩) (cs := ((fun (c0 c1 c2 c3 c4 c5 : Prop) => [_, c0, c1, c2, (cs.length ≤ 1000000), c3, c4, c5, (ps.length ≤ 1000000), c0, c1, c2, c3, c4, c5, (cs.length ≤ 1000000 ∧ ps.length ≤ 1000000 ∧ u = checkP cs ps), _, _]) _ _ _ _ _ _)) [false, false, true] true ⟨hb1, q0_, q1_, q2_, by omega, q3_, q4_, q5_, by omega, q0_, q1_, q2_, q3_, q4_, q5_, (by exact absurd (of_decide_eq_false hb1) (by omega)), hb5, hb6, trivial⟩ (by rfl) hsim
    ·
     rcases bd (v.snd.snd == (0 : Int)) with hb7 | hb7
     ·
      rcases bd ((v.snd.fst == (0 : Int)) == (u.fst == (0 : Int))) with hb8 | hb8
      ·
       have q0_ : ((10 : Nat) = (10 : Nat)) := (by omega)
       have q1_ : (cs.length = cs.length) := (by omega)
       have q2_ : (caEl cs = caEl cs) := (by exact absurd (of_decide_eq_false hb1) (by omega))
       have q3_ : ((5 : Nat) = (5 : Nat)) := (by omega)
       have q4_ : (ps.length = ps.length) := (by omega)
       have q5_ : (ptEl ps = ptEl ps) := (by exact absurd (of_decide_eq_false hb1) (by omega))
       exact gr (W2_ok cs ps l r u v) Tryd.func9 (sr' := ⟨0, [vB true], []⟩) (cs := ((fun (c0 c1 c2 c3 c4 c5 : Prop) => [_, c0, c1, c2, (cs.length ≤ 1000000), c3, c4, c5, (ps.length ≤ 1000000), c0, c1, c2, c3, c4, c5, (cs.length ≤ 1000000 ∧ ps.length ≤ 1000000 ∧ u = checkP cs ps), _, _, c0, c1, c2, c3, c4, c5, (cs.length ≤ 2000 ∧ ps.length ≤ 2000 ∧ SmallK cs ∧ l = [rpartF cs ps 0, rpartF cs ps 1, rpartF cs ps 2, rpartF cs ps 3]), (2 = 2), (4 = l.length), (paEl l = paEl l), (l.length ≤ 1000000 ∧ (∀ (x : PartT), x ∈ l → x.fst.length ≤ 1000000) ∧ v = pckF l (0 : Int) (0 : Int) (0 : Int)), ((true) = true), _, _]) _ _ _ _ _ _)) [false, false, false, true, true, true] true ⟨hb1, q0_, q1_, q2_, by omega, q3_, q4_, q5_, by omega, q0_, q1_, q2_, q3_, q4_, q5_, (by exact absurd (of_decide_eq_false hb1) (by omega)), hb5, hb6, q0_, q1_, q2_, q3_, q4_, q5_, (by exact absurd (of_decide_eq_false hb1) (by omega)), by omega, by omega, (by exact absurd (of_decide_eq_false hb1) (by omega)), (by exact absurd (of_decide_eq_false hb1) (by omega)), rfl, hb7, hb8, trivial⟩ (by rfl) hsim
      ·
       have q0_ : ((10 : Nat) = (10 : Nat)) := (by omega)
       have q1_ : (cs.length = cs.length) := (by omega)
       have q2_ : (caEl cs = caEl cs) := (by exact absurd (of_decide_eq_false hb1) (by omega))
       have q3_ : ((5 : Nat) = (5 : Nat)) := (by omega)
       have q4_ : (ps.length = ps.length) := (by omega)
       have q5_ : (ptEl ps = ptEl ps) := (by exact absurd (of_decide_eq_false hb1) (by omega))
       exact absurd (of_decide_eq_false hb1) (by omega)
     ·
      have q0_ : ((10 : Nat) = (10 : Nat)) := (by omega)
      have q1_ : (cs.length = cs.length) := (by omega)
      have q2_ : (caEl cs = caEl cs) := (by exact absurd (of_decide_eq_false hb1) (by omega))
      have q3_ : ((5 : Nat) = (5 : Nat)) := (by omega)
      have q4_ : (ps.length = ps.length) := (by omega)
      have q5_ : (ptEl ps = ptEl ps) := (by exact absurd (of_decide_eq_false hb1) (by omega))
      exact absurd (of_decide_eq_false hb1) (by omega)
theorem law_local_ok (cs : List Ca) (ps : List Pt) (hl : cs.length ≤ 9223372036854775807) (hW : SmallW cs) : Eng.Spec Tryd.prog gB 9 [.d (.list 10 cs.length (caEl cs)), .d (.list 5 ps.length (ptEl ps))] [] (.d (.raw (.bool (true)))) [] := by
 refine spec_fn Tryd.func9 rfl fun {w N E act} hsim => ?_
 let l : List PartT := []
 let u : Int × Int × Int := (0, 0, 0)
 let v : Int × Int × Int := (0, 0, 0)
 obtain ⟨r, hr⟩ : ∃ r, lgM cs ps = r := ⟨_, rfl⟩
 have hs : r = false → cs.length ≤ 80 ∧ ps.length ≤ 80 ∧ SmallK cs := fun h => by
   obtain ⟨h1, h2⟩ := lg_small cs 0 (by omega) (hr.trans h)
   rw [Bool.or_eq_false_iff] at h2
   have := of_decide_eq_false h2.1
   have := of_decide_eq_false h2.2
   exact ⟨by omega, by omega, h1⟩
 rcases bd (r) with hb1 | hb1
 ·
  exact gr (W2_ok cs ps l r u v) Tryd.func9 (sr' := ⟨0, [vB true], []⟩) (cs := [(10 = 10), (cs.length = cs.length), (caEl cs = caEl cs), (5 = 5), (ps.length = ps.length), (ptEl ps = ptEl ps), (SmallW cs ∧ cs.length ≤ 9223372036854775807 ∧ lgM cs ps = r), _]) [true] true ⟨(by rfl), (by rfl), (by rfl), (by rfl), (by rfl), (by rfl), (by exact ⟨hW, hl, hr⟩), hb1, trivial⟩ (by rfl) hsim
 ·
  refine gh (W2_ok cs ps l r u v) (k' := loopAt Tryd.f9 0) (s' := mk 0 90 [(0, .d (.list 10 cs.length (caEl cs))), (1, .d (.list 5 ps.length (ptEl ps))), (18, .d (.list 5 ps.length (ptEl ps))), (19, vI (↑ps.length : Int)), (20, vI 0)] []) (cs := [(10 = 10), (cs.length = cs.length), (caEl cs = caEl cs), (5 = 5), (ps.length = ps.length), (ptEl ps = ptEl ps), (SmallW cs ∧ cs.length ≤ 9223372036854775807 ∧ lgM cs ps = r), _]) [false] [0,1,18,19,20] ⟨(by rfl), (by rfl), (by rfl), (by rfl), (by rfl), (by rfl), (by exact ⟨hW, hl, hr⟩), hb1, trivial⟩ hsim fun E a w hsim => ?_
  exact lj_go cs ps (hs hb1).1 (hs hb1).2.1 (hs hb1).2.2 ps.length (ps.length : Int) 0 rfl (by omega) (by omega) (fun k hk => absurd hk (by simp)) E a w hsim
end Go.Prf

namespace Go.Plk
open Go Go.Eng Go.Proofs Go.RowKit Go.Tab Go.Plc Go.Prf
set_option maxRecDepth 100000
set_option maxHeartbeats 4000000
abbrev tyOp : Ty := .agg [.int .i64, .str, .str, .str]
abbrev tyAn : Ty := .agg [.int .i64, .str]
abbrev tyCa : Ty := .agg [.int .i64, .int .i64, tyOp, .int .i64, .int .i64, tyAn]
abbrev tyPt : Ty := .agg [.int .i64, .int .i64, .int .i64, tyAn]
def toCa (x : tyCa.Val) : Ca := ⟨x.1, x.2.1, (x.2.2.1.1, x.2.2.1.2.1, x.2.2.1.2.2.1, x.2.2.1.2.2.2.1), x.2.2.2.1, x.2.2.2.2.1, (x.2.2.2.2.2.1.1, x.2.2.2.2.2.1.2.1)⟩
def toPt (x : tyPt.Val) : Pt := ⟨x.1, x.2.1, x.2.2.1, (x.2.2.2.1.1, x.2.2.2.1.2.1)⟩
theorem caD_to (x : tyCa.Val) : tyCa.toD x = caD (toCa x) := rfl
theorem ptD_to (x : tyPt.Val) : tyPt.toD x = ptD (toPt x) := rfl
theorem getD_map {α β : Type} (f : α → β) (l : List α) (a : α) (i : Nat) : f (l.getD i a) = (l.map f).getD i (f a) := by
 simp only [List.getD, List.getElem?_map]
 cases l[i]? <;> rfl
theorem cas_to (l : List tyCa.Val) : (Ty.list tyCa).toD l = .list 10 (l.map toCa).length (caEl (l.map toCa)) := by
 have e : (fun i => tyCa.toD (List.getD (α := tyCa.Val) l i tyCa.dflt)) = caEl (l.map toCa) := by
  funext i
  exact (caD_to _).trans (congrArg caD (getD_map toCa l tyCa.dflt i))
 rw [← e, List.length_map]
 rfl
theorem pts_to (l : List tyPt.Val) : (Ty.list tyPt).toD l = .list 5 (l.map toPt).length (ptEl (l.map toPt)) := by
 have e : (fun i => tyPt.toD (List.getD (α := tyPt.Val) l i tyPt.dflt)) = ptEl (l.map toPt) := by
  funext i
  exact (ptD_to _).trans (congrArg ptD (getD_map toPt l tyPt.dflt i))
 rw [← e, List.length_map]
 rfl
theorem strs_small (l : List tyCa.Val) (hk : (Ty.list tyCa).strs l) : SmallW (l.map toCa) := fun c hc => by
 obtain ⟨x, hx, rfl⟩ := List.mem_map.1 hc
 have h := hk x hx
 exact h.2.2.1.2.1
theorem law_local_row (l : List tyCa.Val) (m : List tyPt.Val) (wf : (Ty.list tyCa).wf l) (hk : (Ty.list tyCa).strs l) : Eng.Spec Tryd.prog Go.Bla.gl 9 [.d ((Ty.list tyCa).toD l), .d ((Ty.list tyPt).toD m)] [] (.d (.raw (.bool true))) [] := by
 rw [cas_to, pts_to]
 exact law_local_ok _ _ (by rw [List.length_map]; exact wf.1) (strs_small l hk)
end Go.Plk
