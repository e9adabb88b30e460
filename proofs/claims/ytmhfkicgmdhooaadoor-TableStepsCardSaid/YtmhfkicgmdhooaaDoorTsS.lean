/-
  Contracts of given functions, or plain laws that they need. No condition.
-/
import Derived.Test.YtmhfkicgmdhooaaDoorTsE
import Derived.Test.YtmhfkicgmdhooaaDoorTsP
import Derived.Test.YtmhfkicgmdhooaaDoorTsI
namespace Go.Tab
open Go Go.Eng Go.Proofs Go.Nest
set_option linter.unusedVariables false
set_option linter.unusedSimpArgs false
set_option maxRecDepth 100000
set_option maxHeartbeats 4000000
theorem W1_ok (l q l2 q2 : List Rw) : OrcOK Tryd.prog (W1 l q l2 q2) := ((((W0_ok l l2).add _ false mRef fun args H r H' cs h hc => by
  unfold mRef at h
  split at h
  · rename_i k key val old; cases h; exact ref_ok (k, key, val, old, ())
  · cases h).add _ false (mRDo q) fun args H r H' cs h hc => by
  unfold mRDo at h
  split at h
  · cases h; obtain ⟨rfl, rfl, rfl, rfl, hz, -⟩ := hc; exact rdo_ok q _ _ _ _ hz.1 hz.2
  · cases h).add _ false mCheck fun args H r H' cs h hc => by
  unfold mCheck at h
  split at h
  · cases h; exact rcheck_ok _ _ _ _
  · cases h).add _ false (mTextR l2 q2) fun args H r H' cs h hc => by
  unfold mTextR at h
  split at h
  · cases h; obtain ⟨rfl, rfl, rfl, rfl, hz, -⟩ := hc; exact textR_ok l2 q2 hz.1 hz.2
  · cases h
/-- An object's one cell that is a nil slice, as a row of its own. -/
theorem nilCell {C : Cx} {E : Env} {s : St} {a : Act} {w : World} (hs : Sim C E s a w) {k : Nat} {T : TypeId} (hk : s.th k = some (.obj T [.d (.raw (.slice none 0 0))])) (hne : k ≠ s.fresh) (R sz : Nat) (el : Nat → D) :
    ∃ E', Sim C E' ((s.newTh none s.fresh (.row R sz 0 el)).setTh k (.obj T [.own s.fresh])) a w := by
  obtain ⟨h1, h2, h3, h4⟩ := hs.fit.newTh (w' := w) none s.fresh (fresh_base s) (.row R sz 0 el) (.slice none 0 0) rfl rfl rfl (Nat.le_refl _) (fun _ _ _ => rfl) (fun b hb => by cases hb)
    (fun {E' N'} _ _ _ _ => ⟨[], ⟨by simp, .inl ⟨rfl, rfl⟩⟩, fun i hi => absurd hi (by omega)⟩)
  have h5 : Sim C (E.set s.fresh (.slice none 0 0)) (s.newTh none s.fresh (.row R sz 0 el)) a w := ⟨h1, hs.newTh_tm h4, hs.df⟩
  refine ⟨_, sim_th h5 (k := k) (t := .obj T [.d (.raw (.slice none 0 0))]) ?_ (t' := .obj T [.own s.fresh]) fun N v h => ?_⟩
  · rw [St.newTh_th, if_neg (Ne.symm hne), if_neg (by simp), hk]; rfl
  · obtain ⟨b, vs, e1, e2, e3⟩ := h
    refine ⟨b, vs, e1, e2, ?_⟩
    rw [VAs_cons] at e3 ⊢
    obtain ⟨x, xs, rfl, hx, hxs⟩ := e3
    refine ⟨x, xs, rfl, ?_, by unfold VAs at hxs ⊢; exact hxs⟩
    unfold VA at hx ⊢
    rw [(VD_raw_inv hx).1]
    exact ⟨by simp [Env.set], none, 0, 0, rfl⟩
abbrev GoS (w0 : World) (N : Nat → Prop) (E0 : Env) (k : List Item) (s : St) : Prop := ∀ (E : Env) (a : Act) (w : World), Sim (cx Tryd.prog g0 w0 N E0 []) E s a w → Goes Tryd.prog 4 k (RSpec (cx Tryd.prog g0 w0 N E0 []) ⟨0, [.d (.raw (.bool true))], []⟩) a w
theorem W2_ok (l q : List Rw) (c m : Int) (r : ByteArray) : OrcOK Tryd.prog (W2 l q c m r) := (((((((OrcOK.none g0).add _ false (mCheckV c) fun args H r H' cs h hc => by
  unfold mCheckV at h
  split at h
  · cases h; obtain ⟨rfl, -⟩ := hc; exact check_ok _ _ _ _
  · cases h).add _ false (mTextV l r) fun args H r H' cs h hc => by
  unfold mTextV at h
  split at h
  · cases h; obtain ⟨rfl, rfl, rfl, rfl, ⟨ht, rfl⟩, -⟩ := hc; exact text_ok l ht
  · cases h).add _ false (mLenV l m) fun args H r H' cs h hc => by
  unfold mLenV at h
  split at h
  · cases h; obtain ⟨rfl, rfl, rfl, rfl, rfl, -⟩ := hc; exact len_ok l
  · cases h).add _ false mRef fun args H r H' cs h hc => by
  unfold mRef at h
  split at h
  · rename_i k key val old; cases h; exact ref_ok (k, key, val, old, ())
  · cases h).add _ false (mCheckV c) fun args H r H' cs h hc => by
  unfold mCheckV at h
  split at h
  · cases h; obtain ⟨rfl, -⟩ := hc; exact rcheck_ok _ _ _ _
  · cases h).add _ false (mTextRV l q r) fun args H r H' cs h hc => by
  unfold mTextRV at h
  split at h
  · cases h; obtain ⟨rfl, rfl, rfl, rfl, ⟨hp, ht, rfl⟩, -⟩ := hc; exact textR_ok l q hp ht
  · cases h)
theorem st_three {w0 : World} {N : Nat → Prop} {E0 : Env} (ops : List OpV) (l q : List Rw) (n i k : Int) (key val old x y : ByteArray) (e f : Int) (hx : x = y) (he : e = f) (ht : Tidy l) (hp : l.Perm q)
    (next : GoS w0 N E0 (loopAt Tryd.f4 0) (st1 ops l q n (IntKind.i64.wrap (i + 1)))) : GoS w0 N E0 (regAt Tryd.f4 10) (st3 ops l q n i k key val old x y e f) := by
  intro E a w hsim
  obtain ⟨nl, hnl⟩ : ∃ nl, nl = l.length := ⟨_, rfl⟩
  obtain ⟨nq, hnq⟩ : ∃ nq, nq = q.length := ⟨_, rfl⟩
  obtain ⟨el, hel⟩ : ∃ el, el = rowEl l := ⟨_, rfl⟩
  obtain ⟨eq, heq⟩ : ∃ eq, eq = rowEl q := ⟨_, rfl⟩
  obtain ⟨c, hc⟩ : ∃ c, c = checkM k key val old := ⟨_, rfl⟩
  obtain ⟨m, hm⟩ : ∃ m, m = (l.length : Int) := ⟨_, rfl⟩
  obtain ⟨r, hr⟩ : ∃ r, r = packB (flatM l) := ⟨_, rfl⟩
  have hl := hp.length_eq
  unfold st3 at hsim
  unfold st1 at next
  rw [← hnl, ← hnq, ← hel, ← heq] at hsim next
  rcases Bool.eq_false_or_eq_true (!x.toList == y.toList) with hb1 | hb1
  · skip
    exact go_ret (W2_ok l q c m r) rfl rfl Tryd.func4 (sr' := ⟨0, [.d (.raw (.bool (false)))], []⟩) (cs := [((!x.toList == y.toList) = true)]) [true] true (by kernel_rfl) (by kernel_rfl) ⟨hb1, trivial⟩ (by (exfalso; clear hsim next; subst hx he; simp_all [bne]; done)) hsim
  · skip
    rcases Bool.eq_false_or_eq_true (e != f) with hb2 | hb2
    · skip
      exact go_ret (W2_ok l q c m r) rfl rfl Tryd.func4 (sr' := ⟨0, [.d (.raw (.bool (false)))], []⟩) (cs := [((!x.toList == y.toList) = false), ((e != f) = true)]) [false, true] true (by kernel_rfl) (by kernel_rfl) ⟨hb1, hb2, trivial⟩ (by (exfalso; clear hsim next; subst hx he; simp_all [bne]; done)) hsim
    · skip
      rcases Bool.eq_false_or_eq_true (c != c) with hb3 | hb3
      · skip
        have q0_ : (c = checkM k key val old) := (by first | exact hnl | exact hnq | exact hel | exact heq | exact hc | exact hm | exact ⟨ht, hr⟩ | exact ⟨hp, ht, hr⟩ | rfl)
        exact go_ret (W2_ok l q c m r) rfl rfl Tryd.func4 (sr' := ⟨0, [.d (.raw (.bool (false)))], []⟩) (cs := ((fun (c0 : Prop) => [((!x.toList == y.toList) = false), ((e != f) = false), c0, c0, ((c != c) = true)]) (c = checkM k key val old))) [false, false, true] true (by kernel_rfl) (by kernel_rfl) ⟨hb1, hb2, q0_, q0_, hb3, trivial⟩ (by (exfalso; clear hsim next; subst hx he; simp_all [bne]; done)) hsim
      · skip
        rcases Bool.eq_false_or_eq_true (!r.toList == r.toList) with hb4 | hb4
        · skip
          have q0_ : (c = checkM k key val old) := (by first | exact hnl | exact hnq | exact hel | exact heq | exact hc | exact hm | exact ⟨ht, hr⟩ | exact ⟨hp, ht, hr⟩ | rfl)
          exact go_ret (W2_ok l q c m r) rfl rfl Tryd.func4 (sr' := ⟨0, [.d (.raw (.bool (false)))], []⟩) (cs := ((fun (c0 : Prop) => [((!x.toList == y.toList) = false), ((e != f) = false), c0, c0, ((c != c) = false), ((56 : Nat) = (56 : Nat)), ((60 : Nat) = (60 : Nat)), (nl = l.length), (el = rowEl l), (Tidy l ∧ r = packB (flatM l)), ((36 : Nat) = (36 : Nat)), ((65 : Nat) = (65 : Nat)), (nq = q.length), (eq = rowEl q), (l.Perm q ∧ Tidy l ∧ r = packB (flatM l)), ((!r.toList == r.toList) = true)]) (c = checkM k key val old))) [false, false, false, true] true (by kernel_rfl) (by kernel_rfl) ⟨hb1, hb2, q0_, q0_, hb3, (by first | exact hnl | exact hnq | exact hel | exact heq | exact hc | exact hm | exact ⟨ht, hr⟩ | exact ⟨hp, ht, hr⟩ | rfl), (by first | exact hnl | exact hnq | exact hel | exact heq | exact hc | exact hm | exact ⟨ht, hr⟩ | exact ⟨hp, ht, hr⟩ | rfl), (by first | exact hnl | exact hnq | exact hel | exact heq | exact hc | exact hm | exact ⟨ht, hr⟩ | exact ⟨hp, ht, hr⟩ | rfl), (by first | exact hnl | exact hnq | exact hel | exact heq | exact hc | exact hm | exact ⟨ht, hr⟩ | exact ⟨hp, ht, hr⟩ | rfl), (by first | exact hnl | exact hnq | exact hel | exact heq | exact hc | exact hm | exact ⟨ht, hr⟩ | exact ⟨hp, ht, hr⟩ | rfl), (by first | exact hnl | exact hnq | exact hel | exact heq | exact hc | exact hm | exact ⟨ht, hr⟩ | exact ⟨hp, ht, hr⟩ | rfl), (by first | exact hnl | exact hnq | exact hel | exact heq | exact hc | exact hm | exact ⟨ht, hr⟩ | exact ⟨hp, ht, hr⟩ | rfl), (by first | exact hnl | exact hnq | exact hel | exact heq | exact hc | exact hm | exact ⟨ht, hr⟩ | exact ⟨hp, ht, hr⟩ | rfl), (by first | exact hnl | exact hnq | exact hel | exact heq | exact hc | exact hm | exact ⟨ht, hr⟩ | exact ⟨hp, ht, hr⟩ | rfl), (by first | exact hnl | exact hnq | exact hel | exact heq | exact hc | exact hm | exact ⟨ht, hr⟩ | exact ⟨hp, ht, hr⟩ | rfl), hb4, trivial⟩ (by (exfalso; clear hsim next; subst hx he; simp_all [bne]; done)) hsim
        · skip
          rcases Bool.eq_false_or_eq_true (m != (↑nq : Int)) with hb5 | hb5
          · skip
            have q0_ : (c = checkM k key val old) := (by first | exact hnl | exact hnq | exact hel | exact heq | exact hc | exact hm | exact ⟨ht, hr⟩ | exact ⟨hp, ht, hr⟩ | rfl)
            have q1_ : ((56 : Nat) = (56 : Nat)) := (by first | exact hnl | exact hnq | exact hel | exact heq | exact hc | exact hm | exact ⟨ht, hr⟩ | exact ⟨hp, ht, hr⟩ | rfl)
            have q2_ : ((60 : Nat) = (60 : Nat)) := (by first | exact hnl | exact hnq | exact hel | exact heq | exact hc | exact hm | exact ⟨ht, hr⟩ | exact ⟨hp, ht, hr⟩ | rfl)
            have q3_ : (nl = l.length) := (by first | exact hnl | exact hnq | exact hel | exact heq | exact hc | exact hm | exact ⟨ht, hr⟩ | exact ⟨hp, ht, hr⟩ | rfl)
            have q4_ : (el = rowEl l) := (by first | exact hnl | exact hnq | exact hel | exact heq | exact hc | exact hm | exact ⟨ht, hr⟩ | exact ⟨hp, ht, hr⟩ | rfl)
            have q5_ : (m = (↑l.length : Int)) := (by first | exact hnl | exact hnq | exact hel | exact heq | exact hc | exact hm | exact ⟨ht, hr⟩ | exact ⟨hp, ht, hr⟩ | rfl)
            exact go_ret (W2_ok l q c m r) rfl rfl Tryd.func4 (sr' := ⟨0, [.d (.raw (.bool (false)))], []⟩) (cs := ((fun (c0 c1 c2 c3 c4 c5 : Prop) => [((!x.toList == y.toList) = false), ((e != f) = false), c0, c0, ((c != c) = false), c1, c2, c3, c4, (Tidy l ∧ r = packB (flatM l)), ((36 : Nat) = (36 : Nat)), ((65 : Nat) = (65 : Nat)), (nq = q.length), (eq = rowEl q), (l.Perm q ∧ Tidy l ∧ r = packB (flatM l)), ((!r.toList == r.toList) = false), c1, c2, c3, c4, c5, c1, c2, c3, c4, c5, c1, c2, c3, c4, c5, ((m != (↑nq : Int)) = true)]) (c = checkM k key val old) ((56 : Nat) = (56 : Nat)) ((60 : Nat) = (60 : Nat)) (nl = l.length) (el = rowEl l) (m = (↑l.length : Int)))) ((List.replicate 4 false) ++ [true]) true (by kernel_rfl) (by kernel_rfl) ⟨hb1, hb2, q0_, q0_, hb3, q1_, q2_, q3_, q4_, (by first | exact hnl | exact hnq | exact hel | exact heq | exact hc | exact hm | exact ⟨ht, hr⟩ | exact ⟨hp, ht, hr⟩ | rfl), (by first | exact hnl | exact hnq | exact hel | exact heq | exact hc | exact hm | exact ⟨ht, hr⟩ | exact ⟨hp, ht, hr⟩ | rfl), (by first | exact hnl | exact hnq | exact hel | exact heq | exact hc | exact hm | exact ⟨ht, hr⟩ | exact ⟨hp, ht, hr⟩ | rfl), (by first | exact hnl | exact hnq | exact hel | exact heq | exact hc | exact hm | exact ⟨ht, hr⟩ | exact ⟨hp, ht, hr⟩ | rfl), (by first | exact hnl | exact hnq | exact hel | exact heq | exact hc | exact hm | exact ⟨ht, hr⟩ | exact ⟨hp, ht, hr⟩ | rfl), (by first | exact hnl | exact hnq | exact hel | exact heq | exact hc | exact hm | exact ⟨ht, hr⟩ | exact ⟨hp, ht, hr⟩ | rfl), hb4, q1_, q2_, q3_, q4_, q5_, q1_, q2_, q3_, q4_, q5_, q1_, q2_, q3_, q4_, q5_, hb5, trivial⟩ (by (exfalso; clear hsim next; subst hx he; simp_all [bne]; done)) hsim
          · skip
            have q0_ : (c = checkM k key val old) := (by first | exact hnl | exact hnq | exact hel | exact heq | exact hc | exact hm | exact ⟨ht, hr⟩ | exact ⟨hp, ht, hr⟩ | rfl)
            have q1_ : ((56 : Nat) = (56 : Nat)) := (by first | exact hnl | exact hnq | exact hel | exact heq | exact hc | exact hm | exact ⟨ht, hr⟩ | exact ⟨hp, ht, hr⟩ | rfl)
            have q2_ : ((60 : Nat) = (60 : Nat)) := (by first | exact hnl | exact hnq | exact hel | exact heq | exact hc | exact hm | exact ⟨ht, hr⟩ | exact ⟨hp, ht, hr⟩ | rfl)
            have q3_ : (nl = l.length) := (by first | exact hnl | exact hnq | exact hel | exact heq | exact hc | exact hm | exact ⟨ht, hr⟩ | exact ⟨hp, ht, hr⟩ | rfl)
            have q4_ : (el = rowEl l) := (by first | exact hnl | exact hnq | exact hel | exact heq | exact hc | exact hm | exact ⟨ht, hr⟩ | exact ⟨hp, ht, hr⟩ | rfl)
            have q5_ : (m = (↑l.length : Int)) := (by first | exact hnl | exact hnq | exact hel | exact heq | exact hc | exact hm | exact ⟨ht, hr⟩ | exact ⟨hp, ht, hr⟩ | rfl)
            refine go_head (W2_ok l q c m r) rfl rfl (k' := loopAt Tryd.f4 0) (s' := mk 0 80 [(3, .ref 0 0), (4, .ref 2 0), (26, .d (.list 4 (ops.length) (opEl ops))), (27, .d (.raw (.int .i64 (n)))), (28, .d (.raw (.int .i64 (IntKind.i64.wrap (i + (1 : Int))))))] [(0, .obj 56 [.own 1]), (1, .row 60 2 (nl) (el)), (2, .obj 36 [.own 3]), (3, .row 65 2 (nq) (eq))]) (cs := ((fun (c0 c1 c2 c3 c4 c5 : Prop) => [((!x.toList == y.toList) = false), ((e != f) = false), c0, c0, ((c != c) = false), c1, c2, c3, c4, (Tidy l ∧ r = packB (flatM l)), ((36 : Nat) = (36 : Nat)), ((65 : Nat) = (65 : Nat)), (nq = q.length), (eq = rowEl q), (l.Perm q ∧ Tidy l ∧ r = packB (flatM l)), ((!r.toList == r.toList) = false), c1, c2, c3, c4, c5, c1, c2, c3, c4, c5, c1, c2, c3, c4, c5, ((m != (↑nq : Int)) = false)]) (c = checkM k key val old) ((56 : Nat) = (56 : Nat)) ((60 : Nat) = (60 : Nat)) (nl = l.length) (el = rowEl l) (m = (↑l.length : Int)))) ((List.replicate 5 false)) [3,4,26,27,28] (by kernel_rfl) (by kernel_rfl) ⟨hb1, hb2, q0_, q0_, hb3, q1_, q2_, q3_, q4_, (by first | exact hnl | exact hnq | exact hel | exact heq | exact hc | exact hm | exact ⟨ht, hr⟩ | exact ⟨hp, ht, hr⟩ | rfl), (by first | exact hnl | exact hnq | exact hel | exact heq | exact hc | exact hm | exact ⟨ht, hr⟩ | exact ⟨hp, ht, hr⟩ | rfl), (by first | exact hnl | exact hnq | exact hel | exact heq | exact hc | exact hm | exact ⟨ht, hr⟩ | exact ⟨hp, ht, hr⟩ | rfl), (by first | exact hnl | exact hnq | exact hel | exact heq | exact hc | exact hm | exact ⟨ht, hr⟩ | exact ⟨hp, ht, hr⟩ | rfl), (by first | exact hnl | exact hnq | exact hel | exact heq | exact hc | exact hm | exact ⟨ht, hr⟩ | exact ⟨hp, ht, hr⟩ | rfl), (by first | exact hnl | exact hnq | exact hel | exact heq | exact hc | exact hm | exact ⟨ht, hr⟩ | exact ⟨hp, ht, hr⟩ | rfl), hb4, q1_, q2_, q3_, q4_, q5_, q1_, q2_, q3_, q4_, q5_, q1_, q2_, q3_, q4_, q5_, hb5, trivial⟩ hsim fun E a w hsim => ?_
            exact next E a w hsim
theorem st_two {w0 : World} {N : Nat → Prop} {E0 : Env} (ops : List OpV) (l q : List Rw) (n i k : Int) (key val old : ByteArray) (ht : Tidy l) (hp : l.Perm q)
    (next : GoS w0 N E0 (loopAt Tryd.f4 0) (st1 ops (doM l k key val old).2.2 (rdoM q k key val old).2.2 n (IntKind.i64.wrap (i + 1)))) : GoS w0 N E0 (regAt Tryd.f4 8) (st2 ops l q n i k key val old) := by
  intro E a w hsim
  obtain ⟨p1, p2, p3⟩ := do_perm hp ht k key val old
  have ht2 := do_tidy ht k key val old
  have hq : q.length ≤ 16 ∧ ∀ r ∈ q, r.2.size ≤ 64 := ⟨by rw [← hp.length_eq]; exact ht.few, fun r hr => (ht.sized r (hp.mem_iff.2 hr)).2.2⟩
  refine go_cut 4 (W1_ok l q l q) rfl rfl (k' := regAt Tryd.f4 10) (s' := mk 0 80 [(3, .ref 0 0), (4, .ref 2 0), (6, .ref 4 0), (7, .d (.raw (.string ((doM l k key val old).fst)))), (8, .d (.raw (.int .i64 ((doM l k key val old).snd.fst)))), (9, .d (.raw (.string ((rdoM q k key val old).fst)))), (10, .d (.raw (.int .i64 ((rdoM q k key val old).snd.fst)))), (26, .d (.list 4 (ops.length) (opEl ops))), (27, .d (.raw (.int .i64 (n)))), (28, .d (.raw (.int .i64 (i))))] [(0, .obj 56 [.own 1]), (1, .row 60 2 ((doM l k key val old).snd.snd.length) (rowEl (doM l k key val old).snd.snd)), (2, .obj 36 [.own 3]), (3, .row 65 2 ((rdoM q k key val old).snd.snd.length) (rowEl (rdoM q k key val old).snd.snd)), (4, .obj 24 [.d (.raw (.int .i64 (k))), .d (.raw (.string (key))), .d (.raw (.string (val))), .d (.raw (.string (old)))])]) (cs := [((56 : Nat) = (56 : Nat)), ((60 : Nat) = (60 : Nat)), (l.length = l.length), (rowEl l = rowEl l), (Tidy l), ((36 : Nat) = (36 : Nat)), ((65 : Nat) = (65 : Nat)), (q.length = q.length), (rowEl q = rowEl q), (q.length ≤ (16 : Nat) ∧ ∀ (r : Rw), r ∈ q → r.snd.size ≤ (64 : Nat))]) [] [3,4,6,7,8,9,10,26,27,28] (by kernel_rfl) (by kernel_rfl) ⟨(by first | exact ht | exact hq | rfl), (by first | exact ht | exact hq | rfl), (by first | exact ht | exact hq | rfl), (by first | exact ht | exact hq | rfl), (by first | exact ht | exact hq | rfl), (by first | exact ht | exact hq | rfl), (by first | exact ht | exact hq | rfl), (by first | exact ht | exact hq | rfl), (by first | exact ht | exact hq | rfl), (by first | exact ht | exact hq | rfl), trivial⟩ hsim fun E a w hsim => ?_
  exact st_three ops _ _ n i k key val old _ _ _ _ p1.symm p2.symm ht2 p3 next E a w hsim
theorem st_go {w0 : World} {N : Nat → Prop} {E0 : Env} (ops : List OpV) (hk : ops.length ≤ 200) : ∀ (d : Nat) (n i : Int), n = (ops.length : Int) → 0 ≤ i → i + d = n → ∀ l q, Tidy l → l.Perm q → GoS w0 N E0 (loopAt Tryd.f4 0) (st1 ops l q n i) := by
  intro d
  induction d with
  | zero =>
    intro n i en h0 hd l q ht hp E a w hsim
    rcases Bool.eq_false_or_eq_true (decide (i < n)) with hb1 | hb1
    · skip
      refine go_cut 10 (W1_ok l q l q) rfl rfl (k' := regAt Tryd.f4 8) (s' := mk 0 80 [(3, .ref 0 0), (4, .ref 2 0), (6, .ref 4 0), (26, .d (.list 4 (ops.length) (opEl ops))), (27, .d (.raw (.int .i64 (n)))), (28, .d (.raw (.int .i64 (i))))] [(0, .obj 56 [.own 1]), (1, .row 60 2 (l.length) (rowEl l)), (2, .obj 36 [.own 3]), (3, .row 65 2 (q.length) (rowEl q)), (4, .obj 24 [.d (.raw (.int .i64 ((opAt ops i.toNat).fst))), .d (.raw (.string ((opAt ops i.toNat).snd.fst))), .d (.raw (.string ((opAt ops i.toNat).snd.snd.fst))), .d (.raw (.string ((opAt ops i.toNat).snd.snd.snd.fst)))])]) (cs := [((decide (i < n)) = true), ((0 : Int) ≤ i ∧ i < (↑ops.length : Int))]) [true] [3,4,6,26,27,28] (by kernel_rfl) (by kernel_rfl) ⟨hb1, (by first | exact ht | rfl | omega | exact absurd (of_decide_eq_true hb1) (by omega)), trivial⟩ hsim fun E a w hsim => ?_
      exact absurd (of_decide_eq_true hb1) (by omega)
    · skip
      exact go_ret (W1_ok l q l q) rfl rfl Tryd.func4 (sr' := ⟨0, [.d (.raw (.bool (true)))], []⟩) (cs := [((decide (i < n)) = false)]) [false] true (by kernel_rfl) (by kernel_rfl) ⟨hb1, trivial⟩ (by first | rfl | exact absurd (of_decide_eq_true hb1) (by omega)) hsim
  | succ d ih =>
    intro n i en h0 hd l q ht hp E a w hsim
    obtain ⟨p1, p2, p3⟩ := do_perm hp ht (opAt ops i.toNat).1 (opAt ops i.toNat).2.1 (opAt ops i.toNat).2.2.1 (opAt ops i.toNat).2.2.2.1
    have ih := ih n (IntKind.i64.wrap (i + 1)) en (by rw [wrapI (i + 1) (by omega)]; omega) (by rw [wrapI (i + 1) (by omega)]; omega) _ _ (do_tidy ht (opAt ops i.toNat).1 (opAt ops i.toNat).2.1 (opAt ops i.toNat).2.2.1 (opAt ops i.toNat).2.2.2.1) p3
    rcases Bool.eq_false_or_eq_true (decide (i < n)) with hb1 | hb1
    · skip
      refine go_cut 10 (W1_ok l q l q) rfl rfl (k' := regAt Tryd.f4 8) (s' := mk 0 80 [(3, .ref 0 0), (4, .ref 2 0), (6, .ref 4 0), (26, .d (.list 4 (ops.length) (opEl ops))), (27, .d (.raw (.int .i64 (n)))), (28, .d (.raw (.int .i64 (i))))] [(0, .obj 56 [.own 1]), (1, .row 60 2 (l.length) (rowEl l)), (2, .obj 36 [.own 3]), (3, .row 65 2 (q.length) (rowEl q)), (4, .obj 24 [.d (.raw (.int .i64 ((opAt ops i.toNat).fst))), .d (.raw (.string ((opAt ops i.toNat).snd.fst))), .d (.raw (.string ((opAt ops i.toNat).snd.snd.fst))), .d (.raw (.string ((opAt ops i.toNat).snd.snd.snd.fst)))])]) (cs := [((decide (i < n)) = true), ((0 : Int) ≤ i ∧ i < (↑ops.length : Int))]) [true] [3,4,6,26,27,28] (by kernel_rfl) (by kernel_rfl) ⟨hb1, (by first | omega | exact absurd (of_decide_eq_false hb1) (by omega)), trivial⟩ hsim fun E a w hsim => ?_
      exact st_two ops l q n i _ _ _ _ ht hp ih E a w hsim
    · skip
      exact go_ret (W1_ok l q l q) rfl rfl Tryd.func4 (sr' := ⟨0, [.d (.raw (.bool (true)))], []⟩) (cs := [((decide (i < n)) = false)]) [false] true (by kernel_rfl) (by kernel_rfl) ⟨hb1, trivial⟩ (by exact absurd (of_decide_eq_false hb1) (by omega)) hsim
theorem law_steps_ok (ops : List OpV) : Eng.Spec Tryd.prog g0 4 [.d (.list 4 ops.length (opEl ops))] [] (.d (.raw (.bool true))) [] := by
  refine spec_fn Tryd.func4 rfl fun {w N E a} hsim => ?_
  rcases Bool.eq_false_or_eq_true (decide ((↑ops.length : Int) > (200 : Int))) with hb1 | hb1
  · skip
    exact go_ret (W1_ok [] [] [] []) rfl rfl Tryd.func4 (sr' := ⟨0, [.d (.raw (.bool (true)))], []⟩) (cs := [((decide ((↑ops.length : Int) > (200 : Int))) = true)]) [true] true (by kernel_rfl) (by kernel_rfl) ⟨hb1, trivial⟩ (by rfl) hsim
  · skip
    refine go_head (W1_ok [] [] [] []) rfl rfl (k' := loopAt Tryd.f4 0) (s' := mk 0 80 [(3, .ref 0 0), (4, .ref 2 0), (26, .d (.list 4 (ops.length) (opEl ops))), (27, .d (.raw (.int .i64 ((↑ops.length : Int))))), (28, .d (.raw (.int .i64 ((0 : Int)))))] [(0, .obj 56 [.own 1]), (1, .row 60 2 0 (rowEl [])), (2, .obj 36 [.d (.raw (Value.slice none (0 : Nat) (0 : Nat)))])]) (cs := [((decide ((↑ops.length : Int) > (200 : Int))) = false)]) [false] [3,4,26,27,28] (by kernel_rfl) (by kernel_rfl) ⟨hb1, trivial⟩ hsim fun E a w hsim => ?_
    obtain ⟨E2, h1⟩ := nilCell hsim (k := 2) rfl (by show 2 ≠ 3; decide) 65 2 (rowEl [])
    exact st_go ops (by have := of_decide_eq_false hb1; omega) ops.length (ops.length : Int) 0 rfl (by omega) (by omega) [] [] tidy_nil (List.Perm.refl _) E2 a w ((congrArg (fun s => Sim _ E2 s a w) (by kernel_rfl)).mp h1)
end Go.Tab
