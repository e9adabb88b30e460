/-
  Contracts of given functions, or plain laws that they need. No condition.
-/
import Derived.Test.YtmhfkicgmdhooaaDoorUnlB
import Derived.Test.YtmhfkicgmdhooaaDoorUnlH
import Derived.Test.YtmhfkicgmdhooaaDoorTabP
namespace Go.Tab
open Go Go.Eng Go.Proofs Go.Nest
set_option linter.unusedVariables false
set_option linter.unusedSimpArgs false
set_option maxRecDepth 100000
set_option maxHeartbeats 4000000
theorem W4_ok (m : Int) (e1 e2 : Value) (h1 : ErrV e1) (h2 : ErrV e2) (l : List Rw) (t : ByteArray) : OrcOK Tryd.prog (W4 m e1 e2 l t) := ((((((OrcOK.none (glU m e1 e2)).add _ false mNew fun args H r H' cs h hc => by
  unfold mNew at h
  split at h
  · cases h; exact Spec.glAny new_ok
  · cases h).add _ false (mDo l) fun args H r H' cs h hc => by
  unfold mDo at h
  split at h
  · cases h; obtain ⟨rfl, rfl, rfl, rfl, ht, -⟩ := hc; exact Spec.glAny (do_ok l _ _ _ _ ht)
  · cases h).add _ false (mTextV l t) fun args H r H' cs h hc => by
  unfold mTextV at h
  split at h
  · cases h; obtain ⟨rfl, rfl, rfl, rfl, ⟨ht, rfl⟩, -⟩ := hc; exact Spec.glAny (text_ok l ht)
  · cases h).add _ false (mLoadT l t) fun args H r H' cs h hc => by
  unfold mLoadT at h
  split at h
  · cases h; obtain ⟨rfl, rfl, ht, -⟩ := hc; exact load_tab m e1 e2 h1 h2 l ht
  · cases h).add _ false mFour fun args H r H' cs h hc => by
  unfold mFour at h
  split at h
  · cases h; exact Spec.glAny four_ok
  · cases h)
abbrev GoB (m : Int) (e1 e2 : Value) (w0 : World) (N : Nat → Prop) (E0 : Env) (k : List Item) (s : St) : Prop := ∀ (E : Env) (a : Act) (w : World), Sim (cx Tryd.prog (glU m e1 e2) w0 N E0 []) E s a w → Goes Tryd.prog 7 k (RSpec (cx Tryd.prog (glU m e1 e2) w0 N E0 []) ⟨0, [.d (.raw (.bool true))], []⟩) a w
theorem bk_three {m : Int} {e1 e2 : Value} (h1 : ErrV e1) (h2 : ErrV e2) {w0 : World} {N : Nat → Prop} {E0 : Env} (bs : List OpV) (l : List Rw) (nl : Nat) (el : Nat → D) (hnl : nl = l.length) (hel : el = rowEl l) (ht : Tidy l) (n i : Int) (x : ByteArray) (e : Int)
    (next : GoB m e1 e2 w0 N E0 (loopAt Tryd.f7 1) (bk2 bs l n (IntKind.i64.wrap (i + 1)))) : GoB m e1 e2 w0 N E0 (regAt Tryd.f7 17) (bk3 bs nl el n i x x e e) := by
  intro E a w hsim
  obtain ⟨t, hr⟩ : ∃ t, t = packB (flatM l) := ⟨_, rfl⟩
  obtain ⟨y, hy⟩ : ∃ y, y = x := ⟨_, rfl⟩
  obtain ⟨f, hf⟩ : ∃ f, f = e := ⟨_, rfl⟩
  have hsim : Sim (cx Tryd.prog (glU m e1 e2) w0 N E0 []) E (bk3 bs nl el n i x y e f) a w := by rw [hy, hf]; exact hsim
  unfold bk2 at next
  have next : GoB m e1 e2 w0 N E0 (loopAt Tryd.f7 1) (mk 0 91 [(5, .ref 0 0), (8, .ref 2 0), (56, .d (.list 4 (bs.length) (opEl bs))), (57, .d (.raw (.int .i64 n))), (58, .d (.raw (.int .i64 (IntKind.i64.wrap (i + 1)))))] [(0, .obj 56 [.own 1]), (1, .row 60 2 nl el), (2, .obj 56 [.own 3]), (3, .row 60 2 nl el)]) := by rw [hnl, hel]; exact next
  rcases Bool.eq_false_or_eq_true (!x.toList == y.toList) with hb1 | hb1
  · skip
    exact go_ret (W4_ok m e1 e2 h1 h2 l t) rfl rfl Tryd.func7 (sr' := ⟨0, [.d (.raw (.bool (false)))], []⟩) (cs := [((!x.toList == y.toList) = true)]) [true] true (by kernel_rfl) (by kernel_rfl) ⟨hb1, trivial⟩ (by (exfalso; clear hsim next; subst hy hf; simp_all [bne]; done)) hsim
  · skip
    rcases Bool.eq_false_or_eq_true (e != f) with hb2 | hb2
    · skip
      exact go_ret (W4_ok m e1 e2 h1 h2 l t) rfl rfl Tryd.func7 (sr' := ⟨0, [.d (.raw (.bool (false)))], []⟩) (cs := [((!x.toList == y.toList) = false), ((e != f) = true)]) [false, true] true (by kernel_rfl) (by kernel_rfl) ⟨hb1, hb2, trivial⟩ (by (exfalso; clear hsim next; subst hy hf; simp_all [bne]; done)) hsim
    · skip
      rcases Bool.eq_false_or_eq_true (!t.toList == t.toList) with hb3 | hb3
      · skip
        have q0_ : ((56 : Nat) = (56 : Nat)) := (by first | exact hnl | exact hel | exact ⟨ht, hr⟩ | rfl)
        have q1_ : ((60 : Nat) = (60 : Nat)) := (by first | exact hnl | exact hel | exact ⟨ht, hr⟩ | rfl)
        have q2_ : (nl = l.length) := (by first | exact hnl | exact hel | exact ⟨ht, hr⟩ | rfl)
        have q3_ : (el = rowEl l) := (by first | exact hnl | exact hel | exact ⟨ht, hr⟩ | rfl)
        have q4_ : (Tidy l ∧ t = packB (flatM l)) := (by first | exact hnl | exact hel | exact ⟨ht, hr⟩ | rfl)
        exact go_ret (W4_ok m e1 e2 h1 h2 l t) rfl rfl Tryd.func7 (sr' := ⟨0, [.d (.raw (.bool (false)))], []⟩) (cs := ((fun (c0 c1 c2 c3 c4 : Prop) => [((!x.toList == y.toList) = false), ((e != f) = false), c0, c1, c2, c3, c4, c0, c1, c2, c3, c4, ((!t.toList == t.toList) = true)]) ((56 : Nat) = (56 : Nat)) ((60 : Nat) = (60 : Nat)) (nl = l.length) (el = rowEl l) (Tidy l ∧ t = packB (flatM l)))) [false, false, true] true (by kernel_rfl) (by kernel_rfl) ⟨hb1, hb2, q0_, q1_, q2_, q3_, q4_, q0_, q1_, q2_, q3_, q4_, hb3, trivial⟩ (by (exfalso; clear hsim next; subst hy hf; simp_all [bne]; done)) hsim
      · skip
        have q0_ : ((56 : Nat) = (56 : Nat)) := (by first | exact hnl | exact hel | exact ⟨ht, hr⟩ | rfl)
        have q1_ : ((60 : Nat) = (60 : Nat)) := (by first | exact hnl | exact hel | exact ⟨ht, hr⟩ | rfl)
        have q2_ : (nl = l.length) := (by first | exact hnl | exact hel | exact ⟨ht, hr⟩ | rfl)
        have q3_ : (el = rowEl l) := (by first | exact hnl | exact hel | exact ⟨ht, hr⟩ | rfl)
        have q4_ : (Tidy l ∧ t = packB (flatM l)) := (by first | exact hnl | exact hel | exact ⟨ht, hr⟩ | rfl)
        refine go_head (W4_ok m e1 e2 h1 h2 l t) rfl rfl (k' := loopAt Tryd.f7 1) (s' := mk 0 91 [(5, .ref 0 0), (8, .ref 2 0), (56, .d (.list 4 (bs.length) (opEl bs))), (57, .d (.raw (.int .i64 (n)))), (58, .d (.raw (.int .i64 (IntKind.i64.wrap (i + (1 : Int))))))] [(0, .obj 56 [.own 1]), (1, .row 60 2 (nl) (el)), (2, .obj 56 [.own 3]), (3, .row 60 2 (nl) (el))]) (cs := ((fun (c0 c1 c2 c3 c4 : Prop) => [((!x.toList == y.toList) = false), ((e != f) = false), c0, c1, c2, c3, c4, c0, c1, c2, c3, c4, ((!t.toList == t.toList) = false)]) ((56 : Nat) = (56 : Nat)) ((60 : Nat) = (60 : Nat)) (nl = l.length) (el = rowEl l) (Tidy l ∧ t = packB (flatM l)))) [false, false, false] [5,8,56,57,58] (by kernel_rfl) (by kernel_rfl) ⟨hb1, hb2, q0_, q1_, q2_, q3_, q4_, q0_, q1_, q2_, q3_, q4_, hb3, trivial⟩ hsim fun E a w hsim => ?_
        exact next E a w hsim
theorem bk_two {m : Int} {e1 e2 : Value} (h1 : ErrV e1) (h2 : ErrV e2) {w0 : World} {N : Nat → Prop} {E0 : Env} (bs : List OpV) (hk : bs.length ≤ 200) : ∀ (d : Nat) (n i : Int), n = (bs.length : Int) → 0 ≤ i → i + d = n → ∀ l, Tidy l → GoB m e1 e2 w0 N E0 (loopAt Tryd.f7 1) (bk2 bs l n i) := by
  intro d
  induction d with
  | zero =>
    intro n i en h0 hd l ht E a w hsim
    let t : ByteArray := ByteArray.empty
    rcases Bool.eq_false_or_eq_true (decide (i < n)) with hb1 | hb1
    · skip
      have q0_ : ((56 : Nat) = (56 : Nat)) := (by first | exact ht | rfl | omega | exact absurd (of_decide_eq_true hb1) (by omega))
      have q1_ : ((60 : Nat) = (60 : Nat)) := (by first | exact ht | rfl | omega | exact absurd (of_decide_eq_true hb1) (by omega))
      have q2_ : (l.length = l.length) := (by first | exact ht | rfl | omega | exact absurd (of_decide_eq_true hb1) (by omega))
      have q3_ : (rowEl l = rowEl l) := (by first | exact ht | rfl | omega | exact absurd (of_decide_eq_true hb1) (by omega))
      have q4_ : (Tidy l) := (by first | exact ht | rfl | omega | exact absurd (of_decide_eq_true hb1) (by omega))
      refine go_cut 14 (W4_ok m e1 e2 h1 h2 l t) rfl rfl (k' := regAt Tryd.f7 17) (s' := mk 0 91 [(5, .ref 0 0), (8, .ref 2 0), (12, .d (.raw (.string ((doM l (opAt bs i.toNat).fst (opAt bs i.toNat).snd.fst (opAt bs i.toNat).snd.snd.fst (opAt bs i.toNat).snd.snd.snd.fst).fst)))), (13, .d (.raw (.int .i64 ((doM l (opAt bs i.toNat).fst (opAt bs i.toNat).snd.fst (opAt bs i.toNat).snd.snd.fst (opAt bs i.toNat).snd.snd.snd.fst).snd.fst)))), (14, .d (.raw (.string ((doM l (opAt bs i.toNat).fst (opAt bs i.toNat).snd.fst (opAt bs i.toNat).snd.snd.fst (opAt bs i.toNat).snd.snd.snd.fst).fst)))), (15, .d (.raw (.int .i64 ((doM l (opAt bs i.toNat).fst (opAt bs i.toNat).snd.fst (opAt bs i.toNat).snd.snd.fst (opAt bs i.toNat).snd.snd.snd.fst).snd.fst)))), (56, .d (.list 4 (bs.length) (opEl bs))), (57, .d (.raw (.int .i64 (n)))), (58, .d (.raw (.int .i64 (i))))] [(0, .obj 56 [.own 1]), (1, .row 60 2 ((doM l (opAt bs i.toNat).fst (opAt bs i.toNat).snd.fst (opAt bs i.toNat).snd.snd.fst (opAt bs i.toNat).snd.snd.snd.fst).snd.snd.length) (rowEl (doM l (opAt bs i.toNat).fst (opAt bs i.toNat).snd.fst (opAt bs i.toNat).snd.snd.fst (opAt bs i.toNat).snd.snd.snd.fst).snd.snd)), (2, .obj 56 [.own 3]), (3, .row 60 2 ((doM l (opAt bs i.toNat).fst (opAt bs i.toNat).snd.fst (opAt bs i.toNat).snd.snd.fst (opAt bs i.toNat).snd.snd.snd.fst).snd.snd.length) (rowEl (doM l (opAt bs i.toNat).fst (opAt bs i.toNat).snd.fst (opAt bs i.toNat).snd.snd.fst (opAt bs i.toNat).snd.snd.snd.fst).snd.snd))]) (cs := ((fun (c0 c1 c2 c3 c4 : Prop) => [((decide (i < n)) = true), ((0 : Int) ≤ i ∧ i < (↑bs.length : Int)), c0, c1, c2, c3, c4, c0, c1, c2, c3, c4]) ((56 : Nat) = (56 : Nat)) ((60 : Nat) = (60 : Nat)) (l.length = l.length) (rowEl l = rowEl l) (Tidy l))) [true] [5,8,12,13,14,15,56,57,58] (by kernel_rfl) (by kernel_rfl) ⟨hb1, (by first | exact ht | rfl | omega | exact absurd (of_decide_eq_true hb1) (by omega)), q0_, q1_, q2_, q3_, q4_, q0_, q1_, q2_, q3_, q4_, trivial⟩ hsim fun E a w hsim => ?_
      exact absurd (of_decide_eq_true hb1) (by omega)
    · skip
      exact go_ret (W4_ok m e1 e2 h1 h2 l t) rfl rfl Tryd.func7 (sr' := ⟨0, [.d (.raw (.bool (true)))], []⟩) (cs := [((decide (i < n)) = false)]) [false] true (by kernel_rfl) (by kernel_rfl) ⟨hb1, trivial⟩ (by rfl) hsim
  | succ d ih =>
    intro n i en h0 hd l ht E a w hsim
    let t : ByteArray := ByteArray.empty
    have ht2 := do_tidy ht (opAt bs i.toNat).1 (opAt bs i.toNat).2.1 (opAt bs i.toNat).2.2.1 (opAt bs i.toNat).2.2.2.1
    have ih := ih n (IntKind.i64.wrap (i + 1)) en (by rw [wrapI (i + 1) (by omega)]; omega) (by rw [wrapI (i + 1) (by omega)]; omega) _ ht2
    rcases Bool.eq_false_or_eq_true (decide (i < n)) with hb1 | hb1
    · skip
      have q0_ : ((56 : Nat) = (56 : Nat)) := (by first | exact ht | rfl | omega | exact absurd (of_decide_eq_false hb1) (by omega))
      have q1_ : ((60 : Nat) = (60 : Nat)) := (by first | exact ht | rfl | omega | exact absurd (of_decide_eq_false hb1) (by omega))
      have q2_ : (l.length = l.length) := (by first | exact ht | rfl | omega | exact absurd (of_decide_eq_false hb1) (by omega))
      have q3_ : (rowEl l = rowEl l) := (by first | exact ht | rfl | omega | exact absurd (of_decide_eq_false hb1) (by omega))
      have q4_ : (Tidy l) := (by first | exact ht | rfl | omega | exact absurd (of_decide_eq_false hb1) (by omega))
      refine go_cut 14 (W4_ok m e1 e2 h1 h2 l t) rfl rfl (k' := regAt Tryd.f7 17) (s' := mk 0 91 [(5, .ref 0 0), (8, .ref 2 0), (12, .d (.raw (.string ((doM l (opAt bs i.toNat).fst (opAt bs i.toNat).snd.fst (opAt bs i.toNat).snd.snd.fst (opAt bs i.toNat).snd.snd.snd.fst).fst)))), (13, .d (.raw (.int .i64 ((doM l (opAt bs i.toNat).fst (opAt bs i.toNat).snd.fst (opAt bs i.toNat).snd.snd.fst (opAt bs i.toNat).snd.snd.snd.fst).snd.fst)))), (14, .d (.raw (.string ((doM l (opAt bs i.toNat).fst (opAt bs i.toNat).snd.fst (opAt bs i.toNat).snd.snd.fst (opAt bs i.toNat).snd.snd.snd.fst).fst)))), (15, .d (.raw (.int .i64 ((doM l (opAt bs i.toNat).fst (opAt bs i.toNat).snd.fst (opAt bs i.toNat).snd.snd.fst (opAt bs i.toNat).snd.snd.snd.fst).snd.fst)))), (56, .d (.list 4 (bs.length) (opEl bs))), (57, .d (.raw (.int .i64 (n)))), (58, .d (.raw (.int .i64 (i))))] [(0, .obj 56 [.own 1]), (1, .row 60 2 ((doM l (opAt bs i.toNat).fst (opAt bs i.toNat).snd.fst (opAt bs i.toNat).snd.snd.fst (opAt bs i.toNat).snd.snd.snd.fst).snd.snd.length) (rowEl (doM l (opAt bs i.toNat).fst (opAt bs i.toNat).snd.fst (opAt bs i.toNat).snd.snd.fst (opAt bs i.toNat).snd.snd.snd.fst).snd.snd)), (2, .obj 56 [.own 3]), (3, .row 60 2 ((doM l (opAt bs i.toNat).fst (opAt bs i.toNat).snd.fst (opAt bs i.toNat).snd.snd.fst (opAt bs i.toNat).snd.snd.snd.fst).snd.snd.length) (rowEl (doM l (opAt bs i.toNat).fst (opAt bs i.toNat).snd.fst (opAt bs i.toNat).snd.snd.fst (opAt bs i.toNat).snd.snd.snd.fst).snd.snd))]) (cs := ((fun (c0 c1 c2 c3 c4 : Prop) => [((decide (i < n)) = true), ((0 : Int) ≤ i ∧ i < (↑bs.length : Int)), c0, c1, c2, c3, c4, c0, c1, c2, c3, c4]) ((56 : Nat) = (56 : Nat)) ((60 : Nat) = (60 : Nat)) (l.length = l.length) (rowEl l = rowEl l) (Tidy l))) [true] [5,8,12,13,14,15,56,57,58] (by kernel_rfl) (by kernel_rfl) ⟨hb1, (by first | exact ht | rfl | omega | exact absurd (of_decide_eq_false hb1) (by omega)), q0_, q1_, q2_, q3_, q4_, q0_, q1_, q2_, q3_, q4_, trivial⟩ hsim fun E a w hsim => ?_
      exact bk_three h1 h2 bs _ _ _ rfl rfl ht2 n i _ _ ih E a w hsim
    · skip
      exact go_ret (W4_ok m e1 e2 h1 h2 l t) rfl rfl Tryd.func7 (sr' := ⟨0, [.d (.raw (.bool (true)))], []⟩) (cs := [((decide (i < n)) = false)]) [false] true (by kernel_rfl) (by kernel_rfl) ⟨hb1, trivial⟩ (by exact absurd (of_decide_eq_false hb1) (by omega)) hsim
theorem bk_one {m : Int} {e1 e2 : Value} (h1 : ErrV e1) (h2 : ErrV e2) {w0 : World} {N : Nat → Prop} {E0 : Env} (aa bs : List OpV) (hka : aa.length ≤ 200) (hk : bs.length ≤ 200) : ∀ (d : Nat) (n i : Int), n = (aa.length : Int) → 0 ≤ i → i + d = n → ∀ l, Tidy l → GoB m e1 e2 w0 N E0 (loopAt Tryd.f7 0) (bk1 aa bs l n i) := by
  intro d
  induction d with
  | zero =>
    intro n i en h0 hd l ht E a w hsim
    obtain ⟨t, hr⟩ : ∃ t, t = packB (flatM l) := ⟨_, rfl⟩
    rcases Bool.eq_false_or_eq_true (decide (i < n)) with hb1 | hb1
    · skip
      refine go_head (W4_ok m e1 e2 h1 h2 l t) rfl rfl (k' := loopAt Tryd.f7 0) (s' := mk 0 91 [(1, .d (.list 4 (bs.length) (opEl bs))), (5, .ref 0 0), (34, .d (.list 4 (aa.length) (opEl aa))), (35, .d (.raw (.int .i64 (n)))), (36, .d (.raw (.int .i64 (IntKind.i64.wrap (i + (1 : Int))))))] [(0, .obj 56 [.own 1]), (1, .row 60 2 ((doM l (opAt aa i.toNat).fst (opAt aa i.toNat).snd.fst (opAt aa i.toNat).snd.snd.fst (opAt aa i.toNat).snd.snd.snd.fst).snd.snd.length) (rowEl (doM l (opAt aa i.toNat).fst (opAt aa i.toNat).snd.fst (opAt aa i.toNat).snd.snd.fst (opAt aa i.toNat).snd.snd.snd.fst).snd.snd))]) (cs := [((decide (i < n)) = true), ((0 : Int) ≤ i ∧ i < (↑aa.length : Int)), ((56 : Nat) = (56 : Nat)), ((60 : Nat) = (60 : Nat)), (l.length = l.length), (rowEl l = rowEl l), (Tidy l)]) [true] [1,5,8,34,35,36,56,57,58] (by kernel_rfl) (by kernel_rfl) ⟨hb1, (by first | exact ht | exact hr | exact ⟨ht, hr⟩ | rfl | omega | exact absurd (of_decide_eq_true hb1) (by omega)), (by first | exact ht | exact hr | exact ⟨ht, hr⟩ | rfl | omega | exact absurd (of_decide_eq_true hb1) (by omega)), (by first | exact ht | exact hr | exact ⟨ht, hr⟩ | rfl | omega | exact absurd (of_decide_eq_true hb1) (by omega)), (by first | exact ht | exact hr | exact ⟨ht, hr⟩ | rfl | omega | exact absurd (of_decide_eq_true hb1) (by omega)), (by first | exact ht | exact hr | exact ⟨ht, hr⟩ | rfl | omega | exact absurd (of_decide_eq_true hb1) (by omega)), (by first | exact ht | exact hr | exact ⟨ht, hr⟩ | rfl | omega | exact absurd (of_decide_eq_true hb1) (by omega)), trivial⟩ hsim fun E a w hsim => ?_
      exact absurd (of_decide_eq_true hb1) (by omega)
    · skip
      refine go_head (W4_ok m e1 e2 h1 h2 l t) rfl rfl (k' := loopAt Tryd.f7 1) (s' := mk 0 91 [(1, .d (.list 4 (bs.length) (opEl bs))), (5, .ref 0 0), (8, .ref 2 0), (34, .d (.list 4 (aa.length) (opEl aa))), (35, .d (.raw (.int .i64 (n)))), (36, .d (.raw (.int .i64 (i)))), (56, .d (.list 4 (bs.length) (opEl bs))), (57, .d (.raw (.int .i64 ((↑bs.length : Int))))), (58, .d (.raw (.int .i64 ((0 : Int)))))] [(0, .obj 56 [.own 1]), (1, .row 60 2 (l.length) (rowEl l)), (2, .obj 56 [.own 3]), (3, .row 60 2 (l.length) (rowEl l))]) (cs := [((decide (i < n)) = false), ((56 : Nat) = (56 : Nat)), ((60 : Nat) = (60 : Nat)), (l.length = l.length), (rowEl l = rowEl l), (Tidy l ∧ t = packB (flatM l)), (t = t), (t = packB (flatM l)), (Tidy l), ((false) = false)]) [false, false] [1,5,8,34,35,36,56,57,58] (by kernel_rfl) (by kernel_rfl) ⟨hb1, (by first | exact ht | exact hr | exact ⟨ht, hr⟩ | rfl | omega | exact absurd (of_decide_eq_true hb1) (by omega)), (by first | exact ht | exact hr | exact ⟨ht, hr⟩ | rfl | omega | exact absurd (of_decide_eq_true hb1) (by omega)), (by first | exact ht | exact hr | exact ⟨ht, hr⟩ | rfl | omega | exact absurd (of_decide_eq_true hb1) (by omega)), (by first | exact ht | exact hr | exact ⟨ht, hr⟩ | rfl | omega | exact absurd (of_decide_eq_true hb1) (by omega)), (by first | exact ht | exact hr | exact ⟨ht, hr⟩ | rfl | omega | exact absurd (of_decide_eq_true hb1) (by omega)), (by first | exact ht | exact hr | exact ⟨ht, hr⟩ | rfl | omega | exact absurd (of_decide_eq_true hb1) (by omega)), (by first | exact ht | exact hr | exact ⟨ht, hr⟩ | rfl | omega | exact absurd (of_decide_eq_true hb1) (by omega)), (by first | exact ht | exact hr | exact ⟨ht, hr⟩ | rfl | omega | exact absurd (of_decide_eq_true hb1) (by omega)), rfl, trivial⟩ hsim fun E a w hsim => ?_
      obtain ⟨E2, h3⟩ := hsim.keep [5,8,56,57,58]
      exact bk_two h1 h2 bs hk bs.length (bs.length : Int) 0 rfl (by omega) (by omega) l ht E2 a w ((congrArg (fun s => Sim _ E2 s a w) (by kernel_rfl)).mp h3)
  | succ d ih =>
    intro n i en h0 hd l ht E a w hsim
    let t : ByteArray := ByteArray.empty
    have ih := ih n (IntKind.i64.wrap (i + 1)) en (by rw [wrapI (i + 1) (by omega)]; omega) (by rw [wrapI (i + 1) (by omega)]; omega) _ (do_tidy ht (opAt aa i.toNat).1 (opAt aa i.toNat).2.1 (opAt aa i.toNat).2.2.1 (opAt aa i.toNat).2.2.2.1)
    rcases Bool.eq_false_or_eq_true (decide (i < n)) with hb1 | hb1
    · skip
      refine go_head (W4_ok m e1 e2 h1 h2 l t) rfl rfl (k' := loopAt Tryd.f7 0) (s' := mk 0 91 [(1, .d (.list 4 (bs.length) (opEl bs))), (5, .ref 0 0), (34, .d (.list 4 (aa.length) (opEl aa))), (35, .d (.raw (.int .i64 (n)))), (36, .d (.raw (.int .i64 (IntKind.i64.wrap (i + (1 : Int))))))] [(0, .obj 56 [.own 1]), (1, .row 60 2 ((doM l (opAt aa i.toNat).fst (opAt aa i.toNat).snd.fst (opAt aa i.toNat).snd.snd.fst (opAt aa i.toNat).snd.snd.snd.fst).snd.snd.length) (rowEl (doM l (opAt aa i.toNat).fst (opAt aa i.toNat).snd.fst (opAt aa i.toNat).snd.snd.fst (opAt aa i.toNat).snd.snd.snd.fst).snd.snd))]) (cs := [((decide (i < n)) = true), ((0 : Int) ≤ i ∧ i < (↑aa.length : Int)), ((56 : Nat) = (56 : Nat)), ((60 : Nat) = (60 : Nat)), (l.length = l.length), (rowEl l = rowEl l), (Tidy l)]) [true] [1,5,8,34,35,36,56,57,58] (by kernel_rfl) (by kernel_rfl) ⟨hb1, (by first | exact ht | rfl | omega | exact absurd (of_decide_eq_false hb1) (by omega)), (by first | exact ht | rfl | omega | exact absurd (of_decide_eq_false hb1) (by omega)), (by first | exact ht | rfl | omega | exact absurd (of_decide_eq_false hb1) (by omega)), (by first | exact ht | rfl | omega | exact absurd (of_decide_eq_false hb1) (by omega)), (by first | exact ht | rfl | omega | exact absurd (of_decide_eq_false hb1) (by omega)), (by first | exact ht | rfl | omega | exact absurd (of_decide_eq_false hb1) (by omega)), trivial⟩ hsim fun E a w hsim => ?_
      exact ih E a w hsim
    · skip
      refine go_head (W4_ok m e1 e2 h1 h2 l t) rfl rfl (k' := loopAt Tryd.f7 1) (s' := mk 0 91 [(1, .d (.list 4 (bs.length) (opEl bs))), (5, .ref 0 0), (8, .ref 2 0), (34, .d (.list 4 (aa.length) (opEl aa))), (35, .d (.raw (.int .i64 (n)))), (36, .d (.raw (.int .i64 (i)))), (56, .d (.list 4 (bs.length) (opEl bs))), (57, .d (.raw (.int .i64 ((↑bs.length : Int))))), (58, .d (.raw (.int .i64 ((0 : Int)))))] [(0, .obj 56 [.own 1]), (1, .row 60 2 (l.length) (rowEl l)), (2, .obj 56 [.own 3]), (3, .row 60 2 (l.length) (rowEl l))]) (cs := [((decide (i < n)) = false), ((56 : Nat) = (56 : Nat)), ((60 : Nat) = (60 : Nat)), (l.length = l.length), (rowEl l = rowEl l), (Tidy l ∧ t = packB (flatM l)), (t = t), (t = packB (flatM l)), (Tidy l), ((false) = false)]) [false, false] [1,5,8,34,35,36,56,57,58] (by kernel_rfl) (by kernel_rfl) ⟨hb1, (by first | exact ht | rfl | omega | exact absurd (of_decide_eq_false hb1) (by omega)), (by first | exact ht | rfl | omega | exact absurd (of_decide_eq_false hb1) (by omega)), (by first | exact ht | rfl | omega | exact absurd (of_decide_eq_false hb1) (by omega)), (by first | exact ht | rfl | omega | exact absurd (of_decide_eq_false hb1) (by omega)), (by first | exact ht | rfl | omega | exact absurd (of_decide_eq_false hb1) (by omega)), (by first | exact ht | rfl | omega | exact absurd (of_decide_eq_false hb1) (by omega)), (by first | exact ht | rfl | omega | exact absurd (of_decide_eq_false hb1) (by omega)), (by first | exact ht | rfl | omega | exact absurd (of_decide_eq_false hb1) (by omega)), rfl, trivial⟩ hsim fun E a w hsim => ?_
      exact absurd (of_decide_eq_false hb1) (by omega)
theorem law_back_ok (m : Int) (e1 e2 : Value) (h1 : ErrV e1) (h2 : ErrV e2) (aa bs : List OpV) : Eng.Spec Tryd.prog (glU m e1 e2) 7 [.d (.list 4 aa.length (opEl aa)), .d (.list 4 bs.length (opEl bs))] [] (.d (.raw (.bool true))) [] := by
  refine spec_fn Tryd.func7 rfl fun {w N E a} hsim => ?_
  let t : ByteArray := ByteArray.empty
  rcases Bool.eq_false_or_eq_true (decide ((↑aa.length : Int) > (200 : Int))) with hb1 | hb1
  · skip
    exact go_ret (W4_ok m e1 e2 h1 h2 [] t) rfl rfl Tryd.func7 (sr' := ⟨0, [.d (.raw (.bool (true)))], []⟩) (cs := [((decide ((↑aa.length : Int) > (200 : Int))) = true)]) [true] true (by kernel_rfl) (by kernel_rfl) ⟨hb1, trivial⟩ (by rfl) hsim
  · skip
    rcases Bool.eq_false_or_eq_true (decide ((↑bs.length : Int) > (200 : Int))) with hb2 | hb2
    · skip
      exact go_ret (W4_ok m e1 e2 h1 h2 [] t) rfl rfl Tryd.func7 (sr' := ⟨0, [.d (.raw (.bool (true)))], []⟩) (cs := [((decide ((↑aa.length : Int) > (200 : Int))) = false), ((decide ((↑bs.length : Int) > (200 : Int))) = true)]) [false, true] true (by kernel_rfl) (by kernel_rfl) ⟨hb1, hb2, trivial⟩ (by rfl) hsim
    · skip
      refine go_head (W4_ok m e1 e2 h1 h2 [] t) rfl rfl (k' := loopAt Tryd.f7 0) (s' := mk 0 91 [(1, .d (.list 4 (bs.length) (opEl bs))), (5, .ref 0 0), (34, .d (.list 4 (aa.length) (opEl aa))), (35, .d (.raw (.int .i64 ((↑aa.length : Int))))), (36, .d (.raw (.int .i64 ((0 : Int)))))] [(0, .obj 56 [.own 1]), (1, .row 60 2 0 (rowEl []))]) (cs := [((decide ((↑aa.length : Int) > (200 : Int))) = false), ((decide ((↑bs.length : Int) > (200 : Int))) = false)]) [false, false] [1,5,34,35,36] (by kernel_rfl) (by kernel_rfl) ⟨hb1, hb2, trivial⟩ hsim fun E a w hsim => ?_
      exact bk_one h1 h2 aa bs (by have := of_decide_eq_false hb1; omega) (by have := of_decide_eq_false hb2; omega) aa.length (aa.length : Int) 0 rfl (by omega) (by omega) [] tidy_nil E a w hsim
end Go.Tab
