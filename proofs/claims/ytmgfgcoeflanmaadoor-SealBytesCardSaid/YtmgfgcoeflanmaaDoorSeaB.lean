/-
  Contracts of given functions, or plain laws that they need. No condition.
-/
import Derived.Test.YtmgfgcoeflanmaaDoorSeaA
import Derived.Test.YtmgfgcoeflanmaaDoorNamR
namespace Go.Sea
open Go Go.Eng Go.Proofs Go.Nest Go.RowKit Go.Memo
set_option linter.unusedVariables false
set_option linter.unusedSimpArgs false
set_option maxRecDepth 100000
set_option maxHeartbeats 4000000
theorem B2_ok (r : List ByteArray) (q p : ByteArray) (e : Int) : OrcOK Tryd.prog (B2 r q p e) := ((OrcOK.none gz).add _ false _ (mNameR_ok q e)).add _ false _ (mPackR_ok r p)
theorem B3_ok (r : List ByteArray) (f g n h : Int) : OrcOK Tryd.prog (B3 r f g n h) := ((OrcOK.none gz).add _ false _ (mUnpR_ok r f)).add _ false _ (mPartyR_ok g n h)
theorem encR_ok (g n : Int) (t tag : ByteArray) (ht : t.size ≤ 600000) : Eng.Spec Tryd.prog gz 21 [.d (.agg [.raw (.int .i64 g), .raw (.int .i64 n)]), .d (.raw (.string t)), .d (.raw (.string tag))] [] (.tup [.d (.raw (.string (encS g n t tag).1)), .d (.raw (.int .i64 (encS g n t tag).2))]) [] := by
  refine spec_fn Tryd.func21 rfl fun {w N E a} hsim => ?_
  obtain ⟨q, hq⟩ : ∃ q, q = (nameM g n).1 := ⟨_, rfl⟩
  obtain ⟨r, hr⟩ : ∃ r, r = [q, t, tag] := ⟨_, rfl⟩
  obtain ⟨p, hp⟩ : ∃ p, p = packB r := ⟨_, rfl⟩
  obtain ⟨e, he⟩ : ∃ e, e = (nameM g n).2 := ⟨_, rfl⟩
  have hn := name_e g n
  rw [← he] at hn
  have nt : (e != (0 : Int)) = true → isM g n = false := fun h => by cases hi : isM g n with
    | false => rfl
    | true => rw [hi, if_pos rfl] at hn; rw [hn] at h; exact absurd h (by decide)
  have nf : (e != (0 : Int)) = false → isM g n = true := fun h => by cases hi : isM g n with
    | true => rfl
    | false => rw [hi, if_neg (by decide)] at hn; rw [hn] at h; exact absurd h (by decide)
  have e1' : (e != (0 : Int)) = true → e = 1 := fun h => by rw [nt h] at hn; simpa using hn
  have e0' : (e != (0 : Int)) = false → e = 0 := fun h => by simpa using h
  have hl3 : 3 = r.length := by rw [hr]; rfl
  have l0 : strEl r 0 = .raw (.string q) := by rw [hr]; rfl
  have l1 : strEl r 1 = .raw (.string t) := by rw [hr]; rfl
  have l2 : strEl r 2 = .raw (.string tag) := by rw [hr]; rfl
  have hs16 : ((tag.size : Int) != (16 : Int)) = false → tag.size = 16 := fun h => sz16 h
  have hz : ((tag.size : Int) != (16 : Int)) = false → (packL r).length ≤ 1073741824 := fun h => by rw [hr, hq]; exact Nat.le_trans (pack3_len ht (hs16 h)) (by decide)
  have r1 : (e != (0 : Int)) = true → encS g n t tag = (ByteArray.mk #[], e) := fun h => by unfold encS; rw [nt h, e1' h]; rfl
  have r2 : (e != (0 : Int)) = false → ((tag.size : Int) != (16 : Int)) = true → encS g n t tag = (ByteArray.mk #[], 4) := fun h h' => by unfold encS; rw [nf h, if_pos rfl, if_neg (by intro h2; rw [h2] at h'; exact absurd h' (by decide))]; rfl
  have r3 : (e != (0 : Int)) = false → ((tag.size : Int) != (16 : Int)) = false → encS g n t tag = (p, 0) := fun h h' => by unfold encS; rw [nf h, if_pos rfl, if_pos (hs16 h'), hp, hr, hq]
  rcases Bool.eq_false_or_eq_true (e != (0 : Int)) with hb1 | hb1
  · skip
    exact go_ret (B2_ok r q p e) rfl rfl Tryd.func21 (sr' := ⟨0, [.tup [.d (.raw (.string (ByteArray.mk #[]))), .d (.raw (.int .i64 (e)))]], []⟩) (cs := [(q = (nameM g n).fst), (e = (nameM g n).snd), ((e != (0 : Int)) = true)]) [true] true (by kernel_rfl) (by kernel_rfl) ⟨(by first | rfl | exact hq | exact he | exact ⟨hl3, all3 l0.symm l1.symm l2.symm, hp, hz hb2⟩), (by first | rfl | exact hq | exact he | exact ⟨hl3, all3 l0.symm l1.symm l2.symm, hp, hz hb2⟩), hb1, trivial⟩ (by first | (rw [r1 hb1]; done) | (rw [r2 hb1 hb2]; done) | (rw [r3 hb1 hb2]; done) | (rw [r1 hb1]; rfl) | (rw [r2 hb1 hb2]; rfl) | (rw [r3 hb1 hb2]; rfl)) hsim
  · skip
    rcases Bool.eq_false_or_eq_true ((↑tag.size : Int) != (16 : Int)) with hb2 | hb2
    · skip
      exact go_ret (B2_ok r q p e) rfl rfl Tryd.func21 (sr' := ⟨0, [.tup [.d (.raw (.string (ByteArray.mk #[]))), .d (.raw (.int .i64 ((4 : Int))))]], []⟩) (cs := [(q = (nameM g n).fst), (e = (nameM g n).snd), ((e != (0 : Int)) = false), (((↑tag.size : Int) != (16 : Int)) = true)]) [false, true] true (by kernel_rfl) (by kernel_rfl) ⟨(by first | rfl | exact hq | exact he | exact ⟨hl3, all3 l0.symm l1.symm l2.symm, hp, hz hb2⟩), (by first | rfl | exact hq | exact he | exact ⟨hl3, all3 l0.symm l1.symm l2.symm, hp, hz hb2⟩), hb1, hb2, trivial⟩ (by first | (rw [r1 hb1]; done) | (rw [r2 hb1 hb2]; done) | (rw [r3 hb1 hb2]; done) | (rw [r1 hb1]; rfl) | (rw [r2 hb1 hb2]; rfl) | (rw [r3 hb1 hb2]; rfl)) hsim
    · skip
      exact go_ret (B2_ok r q p e) rfl rfl Tryd.func21 (sr' := ⟨0, [.tup [.d (.raw (.string (p))), .d (.raw (.int .i64 ((0 : Int))))]], []⟩) (cs := [(q = (nameM g n).fst), (e = (nameM g n).snd), ((e != (0 : Int)) = false), (((↑tag.size : Int) != (16 : Int)) = false), ((9 : Nat) = (9 : Nat)), ((3 : Nat) = r.length ∧ (∀ (i : Nat), i < (3 : Nat) → segD false (1 : Nat) (splice (splice (splice (List.map (fun j => (List.map D.raw (Value.string (ByteArray.mk #[])).cells.toList).getD (j % (1 : Nat)) default) (List.range (3 : Nat))) (0 : Nat) (D.raw (Value.string q)).cells) (1 : Nat) (D.raw (Value.string t)).cells) (2 : Nat) (D.raw (Value.string tag)).cells) i = strEl r i) ∧ p = packB r ∧ (packL r).length ≤ (1073741824 : Nat))]) [false, false] true (by kernel_rfl) (by kernel_rfl) ⟨(by first | rfl | exact hq | exact he | exact ⟨hl3, all3 l0.symm l1.symm l2.symm, hp, hz hb2⟩), (by first | rfl | exact hq | exact he | exact ⟨hl3, all3 l0.symm l1.symm l2.symm, hp, hz hb2⟩), hb1, hb2, (by first | rfl | exact hq | exact he | exact ⟨hl3, all3 l0.symm l1.symm l2.symm, hp, hz hb2⟩), (by first | rfl | exact hq | exact he | exact ⟨hl3, all3 l0.symm l1.symm l2.symm, hp, hz hb2⟩), trivial⟩ (by first | (rw [r1 hb1]; done) | (rw [r2 hb1 hb2]; done) | (rw [r3 hb1 hb2]; done) | (rw [r1 hb1]; rfl) | (rw [r2 hb1 hb2]; rfl) | (rw [r3 hb1 hb2]; rfl)) hsim
theorem decR_ok (s : ByteArray) (hs : s.size ≤ 1073741824) : Eng.Spec Tryd.prog gz 23 [.d (.raw (.string s))] [] (.tup [.d (.agg [.raw (.int .i64 (decS s).1.g), .raw (.int .i64 (decS s).1.n), .raw (.string (decS s).1.t), .raw (.string (decS s).1.tag)]), .d (.raw (.int .i64 (decS s).2))]) [] := by
  refine spec_fn Tryd.func23 rfl fun {w N E a} hsim => ?_
  obtain ⟨r, hr⟩ : ∃ r, r = (unpR s).1 := ⟨_, rfl⟩
  obtain ⟨f, hf⟩ : ∃ f, f = (unpR s).2 := ⟨_, rfl⟩
  obtain ⟨g, hg⟩ : ∃ g, g = (partyM (r.getD 0 ByteArray.empty)).1 := ⟨_, rfl⟩
  obtain ⟨n, hn⟩ : ∃ n, n = (partyM (r.getD 0 ByteArray.empty)).2.1 := ⟨_, rfl⟩
  obtain ⟨h, hh⟩ : ∃ h, h = (partyM (r.getD 0 ByteArray.empty)).2.2 := ⟨_, rfl⟩
  have hm : ∀ i, i < r.length → (r.getD i ByteArray.empty).size ≤ 1073741824 := fun i hi => by rw [hr] at hi ⊢; exact unp_sub hs hi
  have hD : decS s = if f = 0 ∧ r.length = 3 ∧ (r.getD 2 ByteArray.empty).size = 16 ∧ h = 0 then (⟨g, n, r.getD 1 ByteArray.empty, r.getD 2 ByteArray.empty⟩, 0) else (⟨0, 0, ByteArray.empty, ByteArray.empty⟩, 4) := by
    unfold decS; rw [hf, hg, hn, hh, hr]; rfl
  have hl : (((r.length : Nat) : Int) != (3 : Int)) = false → r.length = 3 := fun a2 => by
    have : ((r.length : Nat) : Int) = 3 := by simpa using a2
    omega
  have nz : ∀ x y : Int, (x != y) = true → ¬ x = y := fun x y h h0 => by rw [h0] at h; simp at h
  have zz : ∀ x y : Int, (x != y) = false → x = y := fun x y h => by simpa using h
  have hno : ¬ (f = 0 ∧ r.length = 3 ∧ (r.getD 2 ByteArray.empty).size = 16 ∧ h = 0) → decS s = (⟨0, 0, ByteArray.empty, ByteArray.empty⟩, 4) := fun h => by rw [hD, if_neg h]
  have D0 : (f != (0 : Int)) = true → decS s = (⟨0, 0, ByteArray.empty, ByteArray.empty⟩, 4) := fun h => hno fun h1 => nz _ _ h h1.1
  have D1 : (((r.length : Nat) : Int) != (3 : Int)) = true → decS s = (⟨0, 0, ByteArray.empty, ByteArray.empty⟩, 4) := fun h => hno fun h1 => nz _ _ h (by rw [h1.2.1]; rfl)
  have D2 : (((r.getD 2 ByteArray.empty).size : Int) != (16 : Int)) = true → decS s = (⟨0, 0, ByteArray.empty, ByteArray.empty⟩, 4) := fun h => hno fun h1 => nz _ _ h (by rw [h1.2.2.1]; rfl)
  have D3 : (h != (0 : Int)) = true → decS s = (⟨0, 0, ByteArray.empty, ByteArray.empty⟩, 4) := fun h => hno fun h1 => nz _ _ h h1.2.2.2
  have D4 : (f != (0 : Int)) = false → (((r.length : Nat) : Int) != (3 : Int)) = false → (((r.getD 2 ByteArray.empty).size : Int) != (16 : Int)) = false → (h != (0 : Int)) = false → decS s = (⟨g, n, r.getD 1 ByteArray.empty, r.getD 2 ByteArray.empty⟩, 0) := fun a1 a2 a3 a4 => by
    rw [hD, if_pos ⟨zz _ _ a1, hl a2, by have := zz _ _ a3; omega, zz _ _ a4⟩]
  rcases Bool.eq_false_or_eq_true (f != (0 : Int)) with hb1 | hb1
  · skip
    exact go_ret (B3_ok r f g n h) rfl rfl Tryd.func23 (sr' := ⟨0, [.tup [.d (.agg [.raw (.int .i64 ((0 : Int))), .raw (.int .i64 ((0 : Int))), .raw (.string (ByteArray.mk #[])), .raw (.string (ByteArray.mk #[]))]), .d (.raw (.int .i64 ((4 : Int))))]], []⟩) (cs := [(s.size ≤ (1073741824 : Nat)), (r = (unpR s).fst), (f = (unpR s).snd), ((f != (0 : Int)) = true)]) [true] true (by kernel_rfl) (by kernel_rfl) ⟨(by first | rfl | exact hs | exact hr | exact hf | exact hg | exact hn | exact hh | exact hm _ (by rw [hl hb2]; decide) | (have := hl hb2; omega)), (by first | rfl | exact hs | exact hr | exact hf | exact hg | exact hn | exact hh | exact hm _ (by rw [hl hb2]; decide) | (have := hl hb2; omega)), (by first | rfl | exact hs | exact hr | exact hf | exact hg | exact hn | exact hh | exact hm _ (by rw [hl hb2]; decide) | (have := hl hb2; omega)), hb1, trivial⟩ (by first | (rw [D0 hb1]; rfl) | (rw [D1 hb2]; rfl) | (rw [D2 hb3]; rfl) | (rw [D3 hb4]; rfl) | (rw [D4 hb1 hb2 hb3 hb4]; rfl)) hsim
  · skip
    rcases Bool.eq_false_or_eq_true ((↑r.length : Int) != (3 : Int)) with hb2 | hb2
    · skip
      exact go_ret (B3_ok r f g n h) rfl rfl Tryd.func23 (sr' := ⟨0, [.tup [.d (.agg [.raw (.int .i64 ((0 : Int))), .raw (.int .i64 ((0 : Int))), .raw (.string (ByteArray.mk #[])), .raw (.string (ByteArray.mk #[]))]), .d (.raw (.int .i64 ((4 : Int))))]], []⟩) (cs := [(s.size ≤ (1073741824 : Nat)), (r = (unpR s).fst), (f = (unpR s).snd), ((f != (0 : Int)) = false), (((↑r.length : Int) != (3 : Int)) = true)]) [false, true] true (by kernel_rfl) (by kernel_rfl) ⟨(by first | rfl | exact hs | exact hr | exact hf | exact hg | exact hn | exact hh | exact hm _ (by rw [hl hb2]; decide) | (have := hl hb2; omega)), (by first | rfl | exact hs | exact hr | exact hf | exact hg | exact hn | exact hh | exact hm _ (by rw [hl hb2]; decide) | (have := hl hb2; omega)), (by first | rfl | exact hs | exact hr | exact hf | exact hg | exact hn | exact hh | exact hm _ (by rw [hl hb2]; decide) | (have := hl hb2; omega)), hb1, hb2, trivial⟩ (by first | (rw [D0 hb1]; rfl) | (rw [D1 hb2]; rfl) | (rw [D2 hb3]; rfl) | (rw [D3 hb4]; rfl) | (rw [D4 hb1 hb2 hb3 hb4]; rfl)) hsim
    · skip
      rcases Bool.eq_false_or_eq_true ((↑(r.getD (2 : Nat) ByteArray.empty).size : Int) != (16 : Int)) with hb3 | hb3
      · skip
        exact go_ret (B3_ok r f g n h) rfl rfl Tryd.func23 (sr' := ⟨0, [.tup [.d (.agg [.raw (.int .i64 ((0 : Int))), .raw (.int .i64 ((0 : Int))), .raw (.string (ByteArray.mk #[])), .raw (.string (ByteArray.mk #[]))]), .d (.raw (.int .i64 ((4 : Int))))]], []⟩) (cs := [(s.size ≤ (1073741824 : Nat)), (r = (unpR s).fst), (f = (unpR s).snd), ((f != (0 : Int)) = false), (((↑r.length : Int) != (3 : Int)) = false), ((0 : Int) ≤ (2 : Int) ∧ (2 : Int) < (↑r.length : Int)), (((↑(r.getD (2 : Nat) ByteArray.empty).size : Int) != (16 : Int)) = true)]) [false, false, true] true (by kernel_rfl) (by kernel_rfl) ⟨(by first | rfl | exact hs | exact hr | exact hf | exact hg | exact hn | exact hh | exact hm _ (by rw [hl hb2]; decide) | (have := hl hb2; omega)), (by first | rfl | exact hs | exact hr | exact hf | exact hg | exact hn | exact hh | exact hm _ (by rw [hl hb2]; decide) | (have := hl hb2; omega)), (by first | rfl | exact hs | exact hr | exact hf | exact hg | exact hn | exact hh | exact hm _ (by rw [hl hb2]; decide) | (have := hl hb2; omega)), hb1, hb2, (by first | rfl | exact hs | exact hr | exact hf | exact hg | exact hn | exact hh | exact hm _ (by rw [hl hb2]; decide) | (have := hl hb2; omega)), hb3, trivial⟩ (by first | (rw [D0 hb1]; rfl) | (rw [D1 hb2]; rfl) | (rw [D2 hb3]; rfl) | (rw [D3 hb4]; rfl) | (rw [D4 hb1 hb2 hb3 hb4]; rfl)) hsim
      · skip
        rcases Bool.eq_false_or_eq_true (h != (0 : Int)) with hb4 | hb4
        · skip
          exact go_ret (B3_ok r f g n h) rfl rfl Tryd.func23 (sr' := ⟨0, [.tup [.d (.agg [.raw (.int .i64 ((0 : Int))), .raw (.int .i64 ((0 : Int))), .raw (.string (ByteArray.mk #[])), .raw (.string (ByteArray.mk #[]))]), .d (.raw (.int .i64 ((4 : Int))))]], []⟩) (cs := [(s.size ≤ (1073741824 : Nat)), (r = (unpR s).fst), (f = (unpR s).snd), ((f != (0 : Int)) = false), (((↑r.length : Int) != (3 : Int)) = false), ((0 : Int) ≤ (2 : Int) ∧ (2 : Int) < (↑r.length : Int)), (((↑(r.getD (2 : Nat) ByteArray.empty).size : Int) != (16 : Int)) = false), ((0 : Int) ≤ (0 : Int) ∧ (0 : Int) < (↑r.length : Int)), ((r.getD (0 : Nat) ByteArray.empty).size ≤ (1073741824 : Nat)), (g = (partyM (r.getD (0 : Nat) ByteArray.empty)).fst), (n = (partyM (r.getD (0 : Nat) ByteArray.empty)).snd.fst), (h = (partyM (r.getD (0 : Nat) ByteArray.empty)).snd.snd), ((h != (0 : Int)) = true)]) [false, false, false, true] true (by kernel_rfl) (by kernel_rfl) ⟨(by first | rfl | exact hs | exact hr | exact hf | exact hg | exact hn | exact hh | exact hm _ (by rw [hl hb2]; decide) | (have := hl hb2; omega)), (by first | rfl | exact hs | exact hr | exact hf | exact hg | exact hn | exact hh | exact hm _ (by rw [hl hb2]; decide) | (have := hl hb2; omega)), (by first | rfl | exact hs | exact hr | exact hf | exact hg | exact hn | exact hh | exact hm _ (by rw [hl hb2]; decide) | (have := hl hb2; omega)), hb1, hb2, (by first | rfl | exact hs | exact hr | exact hf | exact hg | exact hn | exact hh | exact hm _ (by rw [hl hb2]; decide) | (have := hl hb2; omega)), hb3, (by first | rfl | exact hs | exact hr | exact hf | exact hg | exact hn | exact hh | exact hm _ (by rw [hl hb2]; decide) | (have := hl hb2; omega)), (by first | rfl | exact hs | exact hr | exact hf | exact hg | exact hn | exact hh | exact hm _ (by rw [hl hb2]; decide) | (have := hl hb2; omega)), (by first | rfl | exact hs | exact hr | exact hf | exact hg | exact hn | exact hh | exact hm _ (by rw [hl hb2]; decide) | (have := hl hb2; omega)), (by first | rfl | exact hs | exact hr | exact hf | exact hg | exact hn | exact hh | exact hm _ (by rw [hl hb2]; decide) | (have := hl hb2; omega)), (by first | rfl | exact hs | exact hr | exact hf | exact hg | exact hn | exact hh | exact hm _ (by rw [hl hb2]; decide) | (have := hl hb2; omega)), hb4, trivial⟩ (by first | (rw [D0 hb1]; rfl) | (rw [D1 hb2]; rfl) | (rw [D2 hb3]; rfl) | (rw [D3 hb4]; rfl) | (rw [D4 hb1 hb2 hb3 hb4]; rfl)) hsim
        · skip
          have q0_ : ((0 : Int) ≤ (2 : Int) ∧ (2 : Int) < (↑r.length : Int)) := (by first | rfl | exact hs | exact hr | exact hf | exact hg | exact hn | exact hh | exact hm _ (by rw [hl hb2]; decide) | (have := hl hb2; omega))
          exact go_ret (B3_ok r f g n h) rfl rfl Tryd.func23 (sr' := ⟨0, [.tup [.d (.agg [.raw (.int .i64 (g)), .raw (.int .i64 (n)), .raw (.string (r.getD (1 : Nat) ByteArray.empty)), .raw (.string (r.getD (2 : Nat) ByteArray.empty))]), .d (.raw (.int .i64 ((0 : Int))))]], []⟩) (cs := ((fun (c0 : Prop) => [(s.size ≤ (1073741824 : Nat)), (r = (unpR s).fst), (f = (unpR s).snd), ((f != (0 : Int)) = false), (((↑r.length : Int) != (3 : Int)) = false), c0, (((↑(r.getD (2 : Nat) ByteArray.empty).size : Int) != (16 : Int)) = false), ((0 : Int) ≤ (0 : Int) ∧ (0 : Int) < (↑r.length : Int)), ((r.getD (0 : Nat) ByteArray.empty).size ≤ (1073741824 : Nat)), (g = (partyM (r.getD (0 : Nat) ByteArray.empty)).fst), (n = (partyM (r.getD (0 : Nat) ByteArray.empty)).snd.fst), (h = (partyM (r.getD (0 : Nat) ByteArray.empty)).snd.snd), ((h != (0 : Int)) = false), ((0 : Int) ≤ (1 : Int) ∧ (1 : Int) < (↑r.length : Int)), c0]) ((0 : Int) ≤ (2 : Int) ∧ (2 : Int) < (↑r.length : Int)))) ((List.replicate 4 false)) true (by kernel_rfl) (by kernel_rfl) ⟨(by first | rfl | exact hs | exact hr | exact hf | exact hg | exact hn | exact hh | exact hm _ (by rw [hl hb2]; decide) | (have := hl hb2; omega)), (by first | rfl | exact hs | exact hr | exact hf | exact hg | exact hn | exact hh | exact hm _ (by rw [hl hb2]; decide) | (have := hl hb2; omega)), (by first | rfl | exact hs | exact hr | exact hf | exact hg | exact hn | exact hh | exact hm _ (by rw [hl hb2]; decide) | (have := hl hb2; omega)), hb1, hb2, q0_, hb3, (by first | rfl | exact hs | exact hr | exact hf | exact hg | exact hn | exact hh | exact hm _ (by rw [hl hb2]; decide) | (have := hl hb2; omega)), (by first | rfl | exact hs | exact hr | exact hf | exact hg | exact hn | exact hh | exact hm _ (by rw [hl hb2]; decide) | (have := hl hb2; omega)), (by first | rfl | exact hs | exact hr | exact hf | exact hg | exact hn | exact hh | exact hm _ (by rw [hl hb2]; decide) | (have := hl hb2; omega)), (by first | rfl | exact hs | exact hr | exact hf | exact hg | exact hn | exact hh | exact hm _ (by rw [hl hb2]; decide) | (have := hl hb2; omega)), (by first | rfl | exact hs | exact hr | exact hf | exact hg | exact hn | exact hh | exact hm _ (by rw [hl hb2]; decide) | (have := hl hb2; omega)), hb4, (by first | rfl | exact hs | exact hr | exact hf | exact hg | exact hn | exact hh | exact hm _ (by rw [hl hb2]; decide) | (have := hl hb2; omega)), q0_, trivial⟩ (by first | (rw [D0 hb1]; rfl) | (rw [D1 hb2]; rfl) | (rw [D2 hb3]; rfl) | (rw [D3 hb4]; rfl) | (rw [D4 hb1 hb2 hb3 hb4]; rfl)) hsim
end Go.Sea
