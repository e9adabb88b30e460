/-
  Contracts of given functions, or plain laws that they need. No condition.
-/
import Derived.Test.YtmgfgcoeflanmaaDoorUnpW
import Derived.RangeFuncNested
import Derived.RangeFuncBound
import Derived.RangeFuncCalls
import Derived.RangeFuncLeaves
import Derived.RangeFuncBox
import Derived.Shelf.Abstract
import Derived.Shelf.RegionOpen
import Derived.WalkKit
import Derived.OwnWalkIn
import Derived.TacticsInMore
import Derived.LoopNIn
import Derived.LoopIn
import Derived.Maps.AppendAt
namespace Go.Nest
open Go Go.Eng Go.Proofs Go.RowKit
set_option linter.unusedVariables false
set_option linter.unusedSimpArgs false
set_option maxRecDepth 100000
set_option maxHeartbeats 4000000
theorem UT_ok (m : Int) (e1 e2 : Value) (h1 : ErrV e1) (h2 : ErrV e2) (hd rs : ByteArray) (fd : Bool) (n f : Int) : OrcOK Tryd.prog (UT m e1 e2 hd rs fd n f) := (((OrcOK.none (glU m e1 e2)).add _ false (mCutV hd rs fd) fun args H r H' cs h hc => by
  unfold mCutV at h
  split at h
  · cases h; obtain ⟨rfl, hs, rfl, rfl, rfl, -⟩ := hc; exact cut_ok m e1 e2 h1 h2 _ hs
  · cases h).add _ false (mNumV n f) fun args H r H' cs h hc => by
  unfold mNumV at h
  split at h
  · cases h; obtain ⟨hs, rfl, rfl, -⟩ := hc; exact toNum_ok m e1 e2 h1 h2 _ hs
  · cases h)
theorem take_ok (m : Int) (e1 e2 : Value) (h1 : ErrV e1) (h2 : ErrV e2) (s : ByteArray) (hs : s.size ≤ 1073741824) : Eng.Spec Tryd.prog (glU m e1 e2) 49 [.d (.raw (.string s))] [] (.tup [.d (.raw (.string (takeM s).1)), .d (.raw (.string (takeM s).2.1)), .d (.raw (.int .i64 (takeM s).2.2))]) [] := by
  refine spec_fn Tryd.func49 rfl fun {w N E a} hsim => ?_
  have hz := head_size s
  have hr := rest_size s
  obtain ⟨hd, hhd⟩ : ∃ hd, hd = headM s := ⟨_, rfl⟩
  obtain ⟨rs, hrs⟩ : ∃ rs, rs = restM s := ⟨_, rfl⟩
  obtain ⟨fd, hfd⟩ : ∃ fd, fd = foundM s := ⟨_, rfl⟩
  obtain ⟨n, hn⟩ : ∃ n, n = (numM hd).1 := ⟨_, rfl⟩
  obtain ⟨f, hf⟩ : ∃ f, f = (numM hd).2 := ⟨_, rfl⟩
  have hR : takeM s = if fd = true ∧ f = 0 ∧ hd.size ≤ 9 ∧ 0 ≤ n ∧ n < (rs.size : Int) ∧ byteAt rs n.toNat = 44
    then (rs.extract 0 n.toNat, rs.extract (n.toNat + 1) rs.size, 0) else (ByteArray.empty, ByteArray.empty, 4) := by rw [hfd, hf, hn, hhd, hrs]; rfl
  rw [← hhd] at hz; rw [← hrs] at hr
  obtain ⟨T, hT⟩ : ∃ T, T = takeM s := ⟨_, rfl⟩
  rw [← hT] at hR ⊢
  rcases Bool.eq_false_or_eq_true (!fd) with hb1 | hb1
  · skip
    exact go_ret (UT_ok m e1 e2 h1 h2 hd rs fd n f) rfl rfl Tryd.func49 (sr' := ⟨0, [.tup [.d (.raw (.string (ByteArray.mk #[]))), .d (.raw (.string (ByteArray.mk #[]))), .d (.raw (.int .i64 ((4 : Int))))]], []⟩) (cs := [(ByteArray.mk #[(58 : UInt8)] = ByteArray.mk #[(58 : UInt8)]), (s.size ≤ (1073741824 : Nat)), (hd = headM s), (rs = restM s), (fd = foundM s), (hd.size ≤ (1073741824 : Nat)), (n = (numM hd).fst), (f = (numM hd).snd), ((!fd) = true)]) [true] true (by kernel_rfl) (by kernel_rfl) ⟨(by first | rfl | exact hhd | exact hrs | exact hfd | exact hn | exact hf | omega | (have k1 := of_decide_eq_false hb4; have k2 := of_decide_eq_false hb5; first | omega | (rw [wrapI _ (by omega)]; omega))), (by first | rfl | exact hhd | exact hrs | exact hfd | exact hn | exact hf | omega | (have k1 := of_decide_eq_false hb4; have k2 := of_decide_eq_false hb5; first | omega | (rw [wrapI _ (by omega)]; omega))), (by first | rfl | exact hhd | exact hrs | exact hfd | exact hn | exact hf | omega | (have k1 := of_decide_eq_false hb4; have k2 := of_decide_eq_false hb5; first | omega | (rw [wrapI _ (by omega)]; omega))), (by first | rfl | exact hhd | exact hrs | exact hfd | exact hn | exact hf | omega | (have k1 := of_decide_eq_false hb4; have k2 := of_decide_eq_false hb5; first | omega | (rw [wrapI _ (by omega)]; omega))), (by first | rfl | exact hhd | exact hrs | exact hfd | exact hn | exact hf | omega | (have k1 := of_decide_eq_false hb4; have k2 := of_decide_eq_false hb5; first | omega | (rw [wrapI _ (by omega)]; omega))), (by first | rfl | exact hhd | exact hrs | exact hfd | exact hn | exact hf | omega | (have k1 := of_decide_eq_false hb4; have k2 := of_decide_eq_false hb5; first | omega | (rw [wrapI _ (by omega)]; omega))), (by first | rfl | exact hhd | exact hrs | exact hfd | exact hn | exact hf | omega | (have k1 := of_decide_eq_false hb4; have k2 := of_decide_eq_false hb5; first | omega | (rw [wrapI _ (by omega)]; omega))), (by first | rfl | exact hhd | exact hrs | exact hfd | exact hn | exact hf | omega | (have k1 := of_decide_eq_false hb4; have k2 := of_decide_eq_false hb5; first | omega | (rw [wrapI _ (by omega)]; omega))), hb1, trivial⟩ (by first | (have e : T = (ByteArray.empty, ByteArray.empty, 4) := (by rw [hR]; exact if_neg (by clear hR hT hsim; rintro ⟨c1, c2, c3, c4, c5, c6⟩; first | (simp_all; done) | (have := of_decide_eq_true hb3; omega) | (have := of_decide_eq_true hb4; omega) | (have := of_decide_eq_true hb5; omega))); rw [e]; rfl) | (have e : T = (rs.extract 0 n.toNat, rs.extract (n.toNat + 1) rs.size, 0) := (by clear hsim; rw [hR, if_pos ⟨by simpa using hb1, by simpa using hb2, by (have := of_decide_eq_false hb3; omega), by (have := of_decide_eq_false hb4; omega), by (have := of_decide_eq_false hb5; omega), by simpa using hb6⟩]); have k1 := of_decide_eq_false hb4; have k2 := of_decide_eq_false hb5; rw [e, wrapI (n + 1) (by omega), show (n + 1).toNat = n.toNat + 1 by omega, Int.toNat_natCast]; rfl)) hsim
  · skip
    rcases Bool.eq_false_or_eq_true (f != (0 : Int)) with hb2 | hb2
    · skip
      exact go_ret (UT_ok m e1 e2 h1 h2 hd rs fd n f) rfl rfl Tryd.func49 (sr' := ⟨0, [.tup [.d (.raw (.string (ByteArray.mk #[]))), .d (.raw (.string (ByteArray.mk #[]))), .d (.raw (.int .i64 ((4 : Int))))]], []⟩) (cs := [(ByteArray.mk #[(58 : UInt8)] = ByteArray.mk #[(58 : UInt8)]), (s.size ≤ (1073741824 : Nat)), (hd = headM s), (rs = restM s), (fd = foundM s), (hd.size ≤ (1073741824 : Nat)), (n = (numM hd).fst), (f = (numM hd).snd), ((!fd) = false), ((f != (0 : Int)) = true)]) [false, true] true (by kernel_rfl) (by kernel_rfl) ⟨(by first | rfl | exact hhd | exact hrs | exact hfd | exact hn | exact hf | omega | (have k1 := of_decide_eq_false hb4; have k2 := of_decide_eq_false hb5; first | omega | (rw [wrapI _ (by omega)]; omega))), (by first | rfl | exact hhd | exact hrs | exact hfd | exact hn | exact hf | omega | (have k1 := of_decide_eq_false hb4; have k2 := of_decide_eq_false hb5; first | omega | (rw [wrapI _ (by omega)]; omega))), (by first | rfl | exact hhd | exact hrs | exact hfd | exact hn | exact hf | omega | (have k1 := of_decide_eq_false hb4; have k2 := of_decide_eq_false hb5; first | omega | (rw [wrapI _ (by omega)]; omega))), (by first | rfl | exact hhd | exact hrs | exact hfd | exact hn | exact hf | omega | (have k1 := of_decide_eq_false hb4; have k2 := of_decide_eq_false hb5; first | omega | (rw [wrapI _ (by omega)]; omega))), (by first | rfl | exact hhd | exact hrs | exact hfd | exact hn | exact hf | omega | (have k1 := of_decide_eq_false hb4; have k2 := of_decide_eq_false hb5; first | omega | (rw [wrapI _ (by omega)]; omega))), (by first | rfl | exact hhd | exact hrs | exact hfd | exact hn | exact hf | omega | (have k1 := of_decide_eq_false hb4; have k2 := of_decide_eq_false hb5; first | omega | (rw [wrapI _ (by omega)]; omega))), (by first | rfl | exact hhd | exact hrs | exact hfd | exact hn | exact hf | omega | (have k1 := of_decide_eq_false hb4; have k2 := of_decide_eq_false hb5; first | omega | (rw [wrapI _ (by omega)]; omega))), (by first | rfl | exact hhd | exact hrs | exact hfd | exact hn | exact hf | omega | (have k1 := of_decide_eq_false hb4; have k2 := of_decide_eq_false hb5; first | omega | (rw [wrapI _ (by omega)]; omega))), hb1, hb2, trivial⟩ (by first | (have e : T = (ByteArray.empty, ByteArray.empty, 4) := (by rw [hR]; exact if_neg (by clear hR hT hsim; rintro ⟨c1, c2, c3, c4, c5, c6⟩; first | (simp_all; done) | (have := of_decide_eq_true hb3; omega) | (have := of_decide_eq_true hb4; omega) | (have := of_decide_eq_true hb5; omega))); rw [e]; rfl) | (have e : T = (rs.extract 0 n.toNat, rs.extract (n.toNat + 1) rs.size, 0) := (by clear hsim; rw [hR, if_pos ⟨by simpa using hb1, by simpa using hb2, by (have := of_decide_eq_false hb3; omega), by (have := of_decide_eq_false hb4; omega), by (have := of_decide_eq_false hb5; omega), by simpa using hb6⟩]); have k1 := of_decide_eq_false hb4; have k2 := of_decide_eq_false hb5; rw [e, wrapI (n + 1) (by omega), show (n + 1).toNat = n.toNat + 1 by omega, Int.toNat_natCast]; rfl)) hsim
    · skip
      rcases Bool.eq_false_or_eq_true (decide ((↑hd.size : Int) > (9 : Int))) with hb3 | hb3
      · skip
        exact go_ret (UT_ok m e1 e2 h1 h2 hd rs fd n f) rfl rfl Tryd.func49 (sr' := ⟨0, [.tup [.d (.raw (.string (ByteArray.mk #[]))), .d (.raw (.string (ByteArray.mk #[]))), .d (.raw (.int .i64 ((4 : Int))))]], []⟩) (cs := [(ByteArray.mk #[(58 : UInt8)] = ByteArray.mk #[(58 : UInt8)]), (s.size ≤ (1073741824 : Nat)), (hd = headM s), (rs = restM s), (fd = foundM s), (hd.size ≤ (1073741824 : Nat)), (n = (numM hd).fst), (f = (numM hd).snd), ((!fd) = false), ((f != (0 : Int)) = false), ((decide ((↑hd.size : Int) > (9 : Int))) = true)]) [false, false, true] true (by kernel_rfl) (by kernel_rfl) ⟨(by first | rfl | exact hhd | exact hrs | exact hfd | exact hn | exact hf | omega | (have k1 := of_decide_eq_false hb4; have k2 := of_decide_eq_false hb5; first | omega | (rw [wrapI _ (by omega)]; omega))), (by first | rfl | exact hhd | exact hrs | exact hfd | exact hn | exact hf | omega | (have k1 := of_decide_eq_false hb4; have k2 := of_decide_eq_false hb5; first | omega | (rw [wrapI _ (by omega)]; omega))), (by first | rfl | exact hhd | exact hrs | exact hfd | exact hn | exact hf | omega | (have k1 := of_decide_eq_false hb4; have k2 := of_decide_eq_false hb5; first | omega | (rw [wrapI _ (by omega)]; omega))), (by first | rfl | exact hhd | exact hrs | exact hfd | exact hn | exact hf | omega | (have k1 := of_decide_eq_false hb4; have k2 := of_decide_eq_false hb5; first | omega | (rw [wrapI _ (by omega)]; omega))), (by first | rfl | exact hhd | exact hrs | exact hfd | exact hn | exact hf | omega | (have k1 := of_decide_eq_false hb4; have k2 := of_decide_eq_false hb5; first | omega | (rw [wrapI _ (by omega)]; omega))), (by first | rfl | exact hhd | exact hrs | exact hfd | exact hn | exact hf | omega | (have k1 := of_decide_eq_false hb4; have k2 := of_decide_eq_false hb5; first | omega | (rw [wrapI _ (by omega)]; omega))), (by first | rfl | exact hhd | exact hrs | exact hfd | exact hn | exact hf | omega | (have k1 := of_decide_eq_false hb4; have k2 := of_decide_eq_false hb5; first | omega | (rw [wrapI _ (by omega)]; omega))), (by first | rfl | exact hhd | exact hrs | exact hfd | exact hn | exact hf | omega | (have k1 := of_decide_eq_false hb4; have k2 := of_decide_eq_false hb5; first | omega | (rw [wrapI _ (by omega)]; omega))), hb1, hb2, hb3, trivial⟩ (by first | (have e : T = (ByteArray.empty, ByteArray.empty, 4) := (by rw [hR]; exact if_neg (by clear hR hT hsim; rintro ⟨c1, c2, c3, c4, c5, c6⟩; first | (simp_all; done) | (have := of_decide_eq_true hb3; omega) | (have := of_decide_eq_true hb4; omega) | (have := of_decide_eq_true hb5; omega))); rw [e]; rfl) | (have e : T = (rs.extract 0 n.toNat, rs.extract (n.toNat + 1) rs.size, 0) := (by clear hsim; rw [hR, if_pos ⟨by simpa using hb1, by simpa using hb2, by (have := of_decide_eq_false hb3; omega), by (have := of_decide_eq_false hb4; omega), by (have := of_decide_eq_false hb5; omega), by simpa using hb6⟩]); have k1 := of_decide_eq_false hb4; have k2 := of_decide_eq_false hb5; rw [e, wrapI (n + 1) (by omega), show (n + 1).toNat = n.toNat + 1 by omega, Int.toNat_natCast]; rfl)) hsim
      · skip
        rcases Bool.eq_false_or_eq_true (decide (n < (0 : Int))) with hb4 | hb4
        · skip
          exact go_ret (UT_ok m e1 e2 h1 h2 hd rs fd n f) rfl rfl Tryd.func49 (sr' := ⟨0, [.tup [.d (.raw (.string (ByteArray.mk #[]))), .d (.raw (.string (ByteArray.mk #[]))), .d (.raw (.int .i64 ((4 : Int))))]], []⟩) (cs := [(ByteArray.mk #[(58 : UInt8)] = ByteArray.mk #[(58 : UInt8)]), (s.size ≤ (1073741824 : Nat)), (hd = headM s), (rs = restM s), (fd = foundM s), (hd.size ≤ (1073741824 : Nat)), (n = (numM hd).fst), (f = (numM hd).snd), ((!fd) = false), ((f != (0 : Int)) = false), ((decide ((↑hd.size : Int) > (9 : Int))) = false), ((decide (n < (0 : Int))) = true)]) [false, false, false, true] true (by kernel_rfl) (by kernel_rfl) ⟨(by first | rfl | exact hhd | exact hrs | exact hfd | exact hn | exact hf | omega | (have k1 := of_decide_eq_false hb4; have k2 := of_decide_eq_false hb5; first | omega | (rw [wrapI _ (by omega)]; omega))), (by first | rfl | exact hhd | exact hrs | exact hfd | exact hn | exact hf | omega | (have k1 := of_decide_eq_false hb4; have k2 := of_decide_eq_false hb5; first | omega | (rw [wrapI _ (by omega)]; omega))), (by first | rfl | exact hhd | exact hrs | exact hfd | exact hn | exact hf | omega | (have k1 := of_decide_eq_false hb4; have k2 := of_decide_eq_false hb5; first | omega | (rw [wrapI _ (by omega)]; omega))), (by first | rfl | exact hhd | exact hrs | exact hfd | exact hn | exact hf | omega | (have k1 := of_decide_eq_false hb4; have k2 := of_decide_eq_false hb5; first | omega | (rw [wrapI _ (by omega)]; omega))), (by first | rfl | exact hhd | exact hrs | exact hfd | exact hn | exact hf | omega | (have k1 := of_decide_eq_false hb4; have k2 := of_decide_eq_false hb5; first | omega | (rw [wrapI _ (by omega)]; omega))), (by first | rfl | exact hhd | exact hrs | exact hfd | exact hn | exact hf | omega | (have k1 := of_decide_eq_false hb4; have k2 := of_decide_eq_false hb5; first | omega | (rw [wrapI _ (by omega)]; omega))), (by first | rfl | exact hhd | exact hrs | exact hfd | exact hn | exact hf | omega | (have k1 := of_decide_eq_false hb4; have k2 := of_decide_eq_false hb5; first | omega | (rw [wrapI _ (by omega)]; omega))), (by first | rfl | exact hhd | exact hrs | exact hfd | exact hn | exact hf | omega | (have k1 := of_decide_eq_false hb4; have k2 := of_decide_eq_false hb5; first | omega | (rw [wrapI _ (by omega)]; omega))), hb1, hb2, hb3, hb4, trivial⟩ (by first | (have e : T = (ByteArray.empty, ByteArray.empty, 4) := (by rw [hR]; exact if_neg (by clear hR hT hsim; rintro ⟨c1, c2, c3, c4, c5, c6⟩; first | (simp_all; done) | (have := of_decide_eq_true hb3; omega) | (have := of_decide_eq_true hb4; omega) | (have := of_decide_eq_true hb5; omega))); rw [e]; rfl) | (have e : T = (rs.extract 0 n.toNat, rs.extract (n.toNat + 1) rs.size, 0) := (by clear hsim; rw [hR, if_pos ⟨by simpa using hb1, by simpa using hb2, by (have := of_decide_eq_false hb3; omega), by (have := of_decide_eq_false hb4; omega), by (have := of_decide_eq_false hb5; omega), by simpa using hb6⟩]); have k1 := of_decide_eq_false hb4; have k2 := of_decide_eq_false hb5; rw [e, wrapI (n + 1) (by omega), show (n + 1).toNat = n.toNat + 1 by omega, Int.toNat_natCast]; rfl)) hsim
        · skip
          rcases Bool.eq_false_or_eq_true (decide (n ≥ (↑rs.size : Int))) with hb5 | hb5
          · skip
            exact go_ret (UT_ok m e1 e2 h1 h2 hd rs fd n f) rfl rfl Tryd.func49 (sr' := ⟨0, [.tup [.d (.raw (.string (ByteArray.mk #[]))), .d (.raw (.string (ByteArray.mk #[]))), .d (.raw (.int .i64 ((4 : Int))))]], []⟩) (cs := [(ByteArray.mk #[(58 : UInt8)] = ByteArray.mk #[(58 : UInt8)]), (s.size ≤ (1073741824 : Nat)), (hd = headM s), (rs = restM s), (fd = foundM s), (hd.size ≤ (1073741824 : Nat)), (n = (numM hd).fst), (f = (numM hd).snd), ((!fd) = false), ((f != (0 : Int)) = false), ((decide ((↑hd.size : Int) > (9 : Int))) = false), ((decide (n < (0 : Int))) = false), ((decide (n ≥ (↑rs.size : Int))) = true)]) ((List.replicate 4 false) ++ [true]) true (by kernel_rfl) (by kernel_rfl) ⟨(by first | rfl | exact hhd | exact hrs | exact hfd | exact hn | exact hf | omega | (have k1 := of_decide_eq_false hb4; have k2 := of_decide_eq_false hb5; first | omega | (rw [wrapI _ (by omega)]; omega))), (by first | rfl | exact hhd | exact hrs | exact hfd | exact hn | exact hf | omega | (have k1 := of_decide_eq_false hb4; have k2 := of_decide_eq_false hb5; first | omega | (rw [wrapI _ (by omega)]; omega))), (by first | rfl | exact hhd | exact hrs | exact hfd | exact hn | exact hf | omega | (have k1 := of_decide_eq_false hb4; have k2 := of_decide_eq_false hb5; first | omega | (rw [wrapI _ (by omega)]; omega))), (by first | rfl | exact hhd | exact hrs | exact hfd | exact hn | exact hf | omega | (have k1 := of_decide_eq_false hb4; have k2 := of_decide_eq_false hb5; first | omega | (rw [wrapI _ (by omega)]; omega))), (by first | rfl | exact hhd | exact hrs | exact hfd | exact hn | exact hf | omega | (have k1 := of_decide_eq_false hb4; have k2 := of_decide_eq_false hb5; first | omega | (rw [wrapI _ (by omega)]; omega))), (by first | rfl | exact hhd | exact hrs | exact hfd | exact hn | exact hf | omega | (have k1 := of_decide_eq_false hb4; have k2 := of_decide_eq_false hb5; first | omega | (rw [wrapI _ (by omega)]; omega))), (by first | rfl | exact hhd | exact hrs | exact hfd | exact hn | exact hf | omega | (have k1 := of_decide_eq_false hb4; have k2 := of_decide_eq_false hb5; first | omega | (rw [wrapI _ (by omega)]; omega))), (by first | rfl | exact hhd | exact hrs | exact hfd | exact hn | exact hf | omega | (have k1 := of_decide_eq_false hb4; have k2 := of_decide_eq_false hb5; first | omega | (rw [wrapI _ (by omega)]; omega))), hb1, hb2, hb3, hb4, hb5, trivial⟩ (by first | (have e : T = (ByteArray.empty, ByteArray.empty, 4) := (by rw [hR]; exact if_neg (by clear hR hT hsim; rintro ⟨c1, c2, c3, c4, c5, c6⟩; first | (simp_all; done) | (have := of_decide_eq_true hb3; omega) | (have := of_decide_eq_true hb4; omega) | (have := of_decide_eq_true hb5; omega))); rw [e]; rfl) | (have e : T = (rs.extract 0 n.toNat, rs.extract (n.toNat + 1) rs.size, 0) := (by clear hsim; rw [hR, if_pos ⟨by simpa using hb1, by simpa using hb2, by (have := of_decide_eq_false hb3; omega), by (have := of_decide_eq_false hb4; omega), by (have := of_decide_eq_false hb5; omega), by simpa using hb6⟩]); have k1 := of_decide_eq_false hb4; have k2 := of_decide_eq_false hb5; rw [e, wrapI (n + 1) (by omega), show (n + 1).toNat = n.toNat + 1 by omega, Int.toNat_natCast]; rfl)) hsim
          · skip
            rcases Bool.eq_false_or_eq_true (byteAt rs n.toNat != (44 : Int)) with hb6 | hb6
            · skip
              exact go_ret (UT_ok m e1 e2 h1 h2 hd rs fd n f) rfl rfl Tryd.func49 (sr' := ⟨0, [.tup [.d (.raw (.string (ByteArray.mk #[]))), .d (.raw (.string (ByteArray.mk #[]))), .d (.raw (.int .i64 ((4 : Int))))]], []⟩) (cs := [(ByteArray.mk #[(58 : UInt8)] = ByteArray.mk #[(58 : UInt8)]), (s.size ≤ (1073741824 : Nat)), (hd = headM s), (rs = restM s), (fd = foundM s), (hd.size ≤ (1073741824 : Nat)), (n = (numM hd).fst), (f = (numM hd).snd), ((!fd) = false), ((f != (0 : Int)) = false), ((decide ((↑hd.size : Int) > (9 : Int))) = false), ((decide (n < (0 : Int))) = false), ((decide (n ≥ (↑rs.size : Int))) = false), ((0 : Int) ≤ n ∧ n < (↑rs.size : Int)), ((byteAt rs n.toNat != (44 : Int)) = true)]) ((List.replicate 5 false) ++ [true]) true (by kernel_rfl) (by kernel_rfl) ⟨(by first | rfl | exact hhd | exact hrs | exact hfd | exact hn | exact hf | omega | (have k1 := of_decide_eq_false hb4; have k2 := of_decide_eq_false hb5; first | omega | (rw [wrapI _ (by omega)]; omega))), (by first | rfl | exact hhd | exact hrs | exact hfd | exact hn | exact hf | omega | (have k1 := of_decide_eq_false hb4; have k2 := of_decide_eq_false hb5; first | omega | (rw [wrapI _ (by omega)]; omega))), (by first | rfl | exact hhd | exact hrs | exact hfd | exact hn | exact hf | omega | (have k1 := of_decide_eq_false hb4; have k2 := of_decide_eq_false hb5; first | omega | (rw [wrapI _ (by omega)]; omega))), (by first | rfl | exact hhd | exact hrs | exact hfd | exact hn | exact hf | omega | (have k1 := of_decide_eq_false hb4; have k2 := of_decide_eq_false hb5; first | omega | (rw [wrapI _ (by omega)]; omega))), (by first | rfl | exact hhd | exact hrs | exact hfd | exact hn | exact hf | omega | (have k1 := of_decide_eq_false hb4; have k2 := of_decide_eq_false hb5; first | omega | (rw [wrapI _ (by omega)]; omega))), (by first | rfl | exact hhd | exact hrs | exact hfd | exact hn | exact hf | omega | (have k1 := of_decide_eq_false hb4; have k2 := of_decide_eq_false hb5; first | omega | (rw [wrapI _ (by omega)]; omega))), (by first | rfl | exact hhd | exact hrs | exact hfd | exact hn | exact hf | omega | (have k1 := of_decide_eq_false hb4; have k2 := of_decide_eq_false hb5; first | omega | (rw [wrapI _ (by omega)]; omega))), (by first | rfl | exact hhd | exact hrs | exact hfd | exact hn | exact hf | omega | (have k1 := of_decide_eq_false hb4; have k2 := of_decide_eq_false hb5; first | omega | (rw [wrapI _ (by omega)]; omega))), hb1, hb2, hb3, hb4, hb5, (by first | rfl | exact hhd | exact hrs | exact hfd | exact hn | exact hf | omega | (have k1 := of_decide_eq_false hb4; have k2 := of_decide_eq_false hb5; first | omega | (rw [wrapI _ (by omega)]; omega))), hb6, trivial⟩ (by first | (have e : T = (ByteArray.empty, ByteArray.empty, 4) := (by rw [hR]; exact if_neg (by clear hR hT hsim; rintro ⟨c1, c2, c3, c4, c5, c6⟩; first | (simp_all; done) | (have := of_decide_eq_true hb3; omega) | (have := of_decide_eq_true hb4; omega) | (have := of_decide_eq_true hb5; omega))); rw [e]; rfl) | (have e : T = (rs.extract 0 n.toNat, rs.extract (n.toNat + 1) rs.size, 0) := (by clear hsim; rw [hR, if_pos ⟨by simpa using hb1, by simpa using hb2, by (have := of_decide_eq_false hb3; omega), by (have := of_decide_eq_false hb4; omega), by (have := of_decide_eq_false hb5; omega), by simpa using hb6⟩]); have k1 := of_decide_eq_false hb4; have k2 := of_decide_eq_false hb5; rw [e, wrapI (n + 1) (by omega), show (n + 1).toNat = n.toNat + 1 by omega, Int.toNat_natCast]; rfl)) hsim
            · skip
              exact go_ret (UT_ok m e1 e2 h1 h2 hd rs fd n f) rfl rfl Tryd.func49 (sr' := ⟨0, [.tup [.d (.raw (.string (rs.extract (0 : Nat) n.toNat))), .d (.raw (.string (rs.extract (IntKind.i64.wrap (n + (1 : Int))).toNat (↑rs.size : Int).toNat))), .d (.raw (.int .i64 ((0 : Int))))]], []⟩) (cs := [(ByteArray.mk #[(58 : UInt8)] = ByteArray.mk #[(58 : UInt8)]), (s.size ≤ (1073741824 : Nat)), (hd = headM s), (rs = restM s), (fd = foundM s), (hd.size ≤ (1073741824 : Nat)), (n = (numM hd).fst), (f = (numM hd).snd), ((!fd) = false), ((f != (0 : Int)) = false), ((decide ((↑hd.size : Int) > (9 : Int))) = false), ((decide (n < (0 : Int))) = false), ((decide (n ≥ (↑rs.size : Int))) = false), ((0 : Int) ≤ n ∧ n < (↑rs.size : Int)), ((byteAt rs n.toNat != (44 : Int)) = false), ((0 : Int) ≤ (0 : Int) ∧ (0 : Int) ≤ n ∧ n ≤ (↑rs.size : Int)), ((0 : Int) ≤ IntKind.i64.wrap (n + (1 : Int)) ∧ IntKind.i64.wrap (n + (1 : Int)) ≤ (↑rs.size : Int) ∧ (↑rs.size : Int) ≤ (↑rs.size : Int))]) ((List.replicate 6 false)) true (by kernel_rfl) (by kernel_rfl) ⟨(by first | rfl | exact hhd | exact hrs | exact hfd | exact hn | exact hf | omega | (have k1 := of_decide_eq_false hb4; have k2 := of_decide_eq_false hb5; first | omega | (rw [wrapI _ (by omega)]; omega))), (by first | rfl | exact hhd | exact hrs | exact hfd | exact hn | exact hf | omega | (have k1 := of_decide_eq_false hb4; have k2 := of_decide_eq_false hb5; first | omega | (rw [wrapI _ (by omega)]; omega))), (by first | rfl | exact hhd | exact hrs | exact hfd | exact hn | exact hf | omega | (have k1 := of_decide_eq_false hb4; have k2 := of_decide_eq_false hb5; first | omega | (rw [wrapI _ (by omega)]; omega))), (by first | rfl | exact hhd | exact hrs | exact hfd | exact hn | exact hf | omega | (have k1 := of_decide_eq_false hb4; have k2 := of_decide_eq_false hb5; first | omega | (rw [wrapI _ (by omega)]; omega))), (by first | rfl | exact hhd | exact hrs | exact hfd | exact hn | exact hf | omega | (have k1 := of_decide_eq_false hb4; have k2 := of_decide_eq_false hb5; first | omega | (rw [wrapI _ (by omega)]; omega))), (by first | rfl | exact hhd | exact hrs | exact hfd | exact hn | exact hf | omega | (have k1 := of_decide_eq_false hb4; have k2 := of_decide_eq_false hb5; first | omega | (rw [wrapI _ (by omega)]; omega))), (by first | rfl | exact hhd | exact hrs | exact hfd | exact hn | exact hf | omega | (have k1 := of_decide_eq_false hb4; have k2 := of_decide_eq_false hb5; first | omega | (rw [wrapI _ (by omega)]; omega))), (by first | rfl | exact hhd | exact hrs | exact hfd | exact hn | exact hf | omega | (have k1 := of_decide_eq_false hb4; have k2 := of_decide_eq_false hb5; first | omega | (rw [wrapI _ (by omega)]; omega))), hb1, hb2, hb3, hb4, hb5, (by first | rfl | exact hhd | exact hrs | exact hfd | exact hn | exact hf | omega | (have k1 := of_decide_eq_false hb4; have k2 := of_decide_eq_false hb5; first | omega | (rw [wrapI _ (by omega)]; omega))), hb6, (by first | rfl | exact hhd | exact hrs | exact hfd | exact hn | exact hf | omega | (have k1 := of_decide_eq_false hb4; have k2 := of_decide_eq_false hb5; first | omega | (rw [wrapI _ (by omega)]; omega))), (by first | rfl | exact hhd | exact hrs | exact hfd | exact hn | exact hf | omega | (have k1 := of_decide_eq_false hb4; have k2 := of_decide_eq_false hb5; first | omega | (rw [wrapI _ (by omega)]; omega))), trivial⟩ (by first | (have e : T = (ByteArray.empty, ByteArray.empty, 4) := (by rw [hR]; exact if_neg (by clear hR hT hsim; rintro ⟨c1, c2, c3, c4, c5, c6⟩; first | (simp_all; done) | (have := of_decide_eq_true hb3; omega) | (have := of_decide_eq_true hb4; omega) | (have := of_decide_eq_true hb5; omega))); rw [e]; rfl) | (have e : T = (rs.extract 0 n.toNat, rs.extract (n.toNat + 1) rs.size, 0) := (by clear hsim; rw [hR, if_pos ⟨by simpa using hb1, by simpa using hb2, by (have := of_decide_eq_false hb3; omega), by (have := of_decide_eq_false hb4; omega), by (have := of_decide_eq_false hb5; omega), by simpa using hb6⟩]); have k1 := of_decide_eq_false hb4; have k2 := of_decide_eq_false hb5; rw [e, wrapI (n + 1) (by omega), show (n + 1).toNat = n.toNat + 1 by omega, Int.toNat_natCast]; rfl)) hsim
end Go.Nest

namespace Go.Nest
open Go Go.Eng Go.Proofs Go.RowKit Go.Shelf
attribute [local go_sem] Oper.semAt_some
set_option linter.unusedVariables false
set_option linter.all false
theorem glIn_below {gl : Nat → Option (List D)} {w w' : World} (h : GlIn gl w) (hb : Below w.heap.size w w') : GlIn gl w' := fun g cs hg => by
  obtain ⟨h1, us, h2, h3, h4⟩ := h g cs hg
  refine ⟨Nat.lt_of_lt_of_le h1 hb.size, us, VCs.imp (fun b hb' => Nat.lt_of_lt_of_le hb' hb.size) (fun a v ha hc => (hb.cell (p := a) ha).trans hc) _ _ h2, fun j u hu => (hb.cell (p := ⟨g, j, none⟩) h1).trans (h3 j u hu), fun hl => ?_⟩
  have := h4 hl
  unfold wholeOf at this ⊢
  rw [hb.block g h1]; exact this
/-- Take's contract, in the walk's words. -/
theorem take_calls {m : Int} {e1 e2 : Value} (h1 : ErrV e1) (h2 : ErrV e2) (s : ByteArray) (hs : s.size ≤ 1073741824) (w : World) (hg : GlIn (glU m e1 e2) w) : Calls Tryd.prog 49 #[.string s] w fun e w' => e = .returned (.tuple #[.string (takeM s).1, .string (takeM s).2.1, .int .i64 (takeM s).2.2]) ∧ Below w.heap.size w w' := by
  have hno : ∀ k : Nat, ¬ ∃ t, Eng.look ([] : List (Nat × Th)) k = some t := fun k ⟨t, h⟩ => by cases h
  have hfit : Fit (cx Tryd.prog (glU m e1 e2) w (fun b => b < w.heap.size) (fun _ => undef) []) (fun _ => undef) ⟨0, [], []⟩ w := by
    refine ⟨rfl, fun b hb => ⟨hb, fun ⟨k, t, h, _⟩ => hno k ⟨t, h⟩⟩, ⟨rfl, rfl, rfl, Nat.le_refl _, fun _ _ _ => rfl⟩, fun _ _ => rfl, fun k t h => (by cases h), fun k k' t t' h => (by cases h), ?_⟩
    intro g cs hcs
    exact hg g cs hcs
  have := take_ok m e1 e2 h1 h2 s hs w (fun b => b < w.heap.size) (fun _ => undef) [.string s] hfit (vas_cons (VD_raw rfl) vas_nil)
  refine this.mono ?_
  rintro e w' ⟨v, E', rfl, hf, hv⟩
  refine ⟨?_, ⟨hf.keep.os, hf.keep.tape, hf.keep.output, hf.keep.size, fun b hb => hf.keep.block b hb fun ⟨k, t, hk, _⟩ => hno k ⟨t, hk⟩⟩⟩
  unfold VA at hv
  obtain ⟨vs, rfl, hv⟩ := hv
  rw [VAs_cons] at hv
  obtain ⟨a, b, rfl, ha, hb⟩ := hv
  rw [VAs_cons] at hb
  obtain ⟨a2, b2, rfl, ha2, hb2⟩ := hb
  rw [VAs_cons] at hb2
  obtain ⟨a3, b3, rfl, ha3, hb3⟩ := hb2
  obtain rfl : b3 = [] := by unfold VAs at hb3; exact hb3
  unfold VA at ha ha2 ha3
  rw [(VD_raw_inv ha).1, (VD_raw_inv ha2).1, (VD_raw_inv ha3).1]
/-- What is in the block of the text that is left. -/
def SC (Bs : Nat) (W : World) (s : ByteArray) : Prop := W.cell? ⟨Bs, 0, none⟩ = some (.string s) ∧ W.frozen? ⟨Bs, 0, none⟩ = false ∧ Bs < W.heap.size
set_option maxRecDepth 100000 in
set_option maxHeartbeats 4000000 in
theorem texts1_in {m : Int} {e1 e2 : Value} (h1 : ErrV e1) (h2 : ErrV e2) (n : Nat) (l Bs : Nat) (J : List ByteArray → World → Prop) (Jx : World → Prop)
    (hJg : ∀ pre W, J pre W → GlIn (glU m e1 e2) W)
    (hJt : ∀ pre W W', J pre W → Below W.heap.size W W' → J pre W')
    (hJs : ∀ pre W s v, J pre W → SC Bs W s → J pre (W.setCell ⟨Bs, 0, none⟩ v))
    (N : Nat) (hY0 : ∀ pre t s W, J pre W → SC Bs W s → pre.length < N → YieldAt Fence.wide (n - 1) Tryd.prog l #[.string t, .int .i64 0] W fun e W' => e = .returned (.bool true) ∧ J (pre ++ [t]) W' ∧ SC Bs W' s)
    (hY4 : ∀ pre t s W, J pre W → SC Bs W s → YieldAt Fence.wide (n - 1) Tryd.prog l #[.string t, .int .i64 4] W fun e W' => e = .returned (.bool false) ∧ Jx W')
    (pre : List ByteArray) (s : ByteArray) (hs : s.size ≤ 1073741824) (hN : pre.length + s.size ≤ N) (W : World) (hJ : J pre W) (hS : SC Bs W s) :
    CallsIn Fence.wide n Tryd.prog 48 #[.func (.yield l) #[] #[], .pointer (some ⟨Bs, 0, none⟩)] W fun e W' => (∃ v, e = .returned v) ∧
      ((∃ xs, unpF s.size s = some xs ∧ J (pre ++ xs) W') ∨ (unpF s.size s = none ∧ Jx W')) := by
  refine callsIn_of_wp Tryd.func48 rfl trivial ?_ rfl
  simp only [Tryd.ntmps48, List.size_toArray, List.length_cons, List.length_nil, Nat.reduceAdd, Nat.reduceSub, Array.replicate_succ, Array.replicate_zero, List.push_toArray, List.append_toArray, List.nil_append, List.cons_append]
  gi_wp2
  gi_loopw [] (fun wr => ∃ (ys : List ByteArray) (r : ByteArray) (d : Nat), r.size ≤ d ∧ ys.length + d ≤ s.size ∧ J (pre ++ ys) wr ∧ SC Bs wr r ∧ (unpF s.size s = (unpF d r).map (ys ++ ·)))
    (fun wr => match wr.cell? ⟨Bs, 0, none⟩ with | some (.string r) => r.size | _ => 0)
  case atStart => exact ⟨[], s, s.size, Nat.le_refl _, by simp, by simpa using hJ, hS, by simp⟩
  case round =>
    obtain ⟨ys, r, d, hrd, hds, hJr, hSr, hu⟩ := hrel
    have hSr0 := hSr
    obtain ⟨hc, hf, hlt⟩ := hSr
    have hg := hJg _ _ hJr
    by_cases hr0 : r.size = 0
    · have hre : r = ⟨#[]⟩ := by apply ext_ba; rw [size_ba] at hr0; exact List.length_eq_zero_iff.1 hr0
      subst hre
      gi_wp2
      go_end0
      refine ⟨⟨_, rfl⟩, .inl ⟨ys, ?_, hJr⟩⟩
      rw [hu, unpF_nil d _ rfl]; simp
    · have htk := take_calls h1 h2 r (by omega) wr hg
      have he : r.toList.isEmpty = false := by
        rw [toList_ba]
        cases h : r.data.toList with
        | nil => rw [size_ba, h] at hr0; exact absurd rfl hr0
        | cons a b => rfl
      obtain ⟨d', rfl⟩ : ∃ d', d = d' + 1 := ⟨d - 1, by omega⟩
      obtain ⟨T, hT⟩ : ∃ T, T = takeM r := ⟨_, rfl⟩
      rw [← hT] at htk
      have hstep : unpF (d' + 1) r = if T.2.2 = 0 then (unpF d' T.2.1).map (T.1 :: ·) else none := by rw [hT]; show (if r.size = 0 then _ else _) = _; rw [if_neg hr0]
      have hless : T.2.2 = 0 → T.2.1.size < r.size := fun h => by rw [hT] at h ⊢; exact take_less h
      have h4 : T.2.2 ≠ 0 → T.2.2 = 4 := fun h => by rw [hT] at h ⊢; exact take_err h
      clear hT
      by_cases hz : T.2.2 = 0
      · have hless := hless hz
        rw [if_pos hz] at hstep
        gi_wp2
        refine ⟨trivial, fun h => (by cases h), ?_⟩
        refine (callsIn_wide.2 htk).mono ?_
        rintro e w1 ⟨rfl, hb1⟩
        rw [hz]
        have hJ1 := hJt _ _ _ hJr hb1
        have hc1 := (hb1.cell (p := ⟨Bs, 0, none⟩) hlt).trans hc
        have hl1 := Nat.lt_of_lt_of_le hlt hb1.size
        have hf1 : w1.frozen? ⟨Bs, 0, none⟩ = false := by rw [← hf]; unfold World.frozen?; rw [hb1.block Bs hlt]
        obtain ⟨fn, tmps, assign, body, hy, hR⟩ := hY0 _ T.1 r w1 hJ1 ⟨hc1, hf1, hl1⟩ (by rw [List.length_append]; omega)
        gi_wp2
        refine ⟨fun h => (by cases h), hR.mono ?_⟩
        rintro e W3 ⟨rfl, hJ3, hS3⟩
        have hS3' := hS3
        obtain ⟨hc3, hf3, hl3⟩ := hS3
        gi_wp2
        go_roundw
        case rel =>
          refine ⟨ys ++ [T.1], T.2.1, d', by omega, by rw [List.length_append, List.length_singleton]; omega, ?_, ?_, ?_⟩
          · have := hJs _ _ _ (.string T.2.1) hJ3 hS3'
            rwa [List.append_assoc] at this
          · exact ⟨World.cell?_setCell_same' _ _ _ (by rw [hc3]; rfl), by rw [World.frozen?_setCell]; exact hf3, by simpa using hl3⟩
          · rw [hu, hstep, Option.map_map]
            congr 1
            funext xs; simp
        case measure =>
          rw [hc, World.cell?_setCell_same' _ _ _ (by rw [hc3]; rfl)]
          exact hless
      · have e4 := h4 hz
        clear h4
        have hR4 := hY4 (pre ++ ys) T.1
        rw [if_neg hz] at hstep
        gi_wp2
        refine ⟨trivial, fun h => (by cases h), ?_⟩
        refine (callsIn_wide.2 htk).mono ?_
        rintro e w1 ⟨rfl, hb1⟩
        have hJ1 := hJt _ _ _ hJr hb1
        have hc1 := (hb1.cell (p := ⟨Bs, 0, none⟩) hlt).trans hc
        have hl1 := Nat.lt_of_lt_of_le hlt hb1.size
        have hf1 : w1.frozen? ⟨Bs, 0, none⟩ = false := by rw [← hf]; unfold World.frozen?; rw [hb1.block Bs hlt]
        obtain ⟨fn, tmps, assign, body, hy, hR⟩ := hR4 r w1 hJ1 ⟨hc1, hf1, hl1⟩
        gi_wp2
        refine ⟨fun h => (by cases h), hR.mono ?_⟩
        rintro e W3 ⟨rfl, hJ3⟩
        gi_wp2
        refine bodyPost_ret (results_none rfl _ _ _) rfl ?_
        exact ⟨⟨_, rfl⟩, .inr ⟨by rw [hu, hstep]; rfl, hJ3⟩⟩
end Go.Nest

namespace Go.Nest
open Go Go.Eng Go.Proofs Go.RowKit Go.Shelf
set_option linter.unusedVariables false
set_option linter.all false
/-- A range over the texts of a text: each text in its turn; a text that is no more of that form ends it. -/
theorem rangeFunc_texts {m : Int} {e1 e2 : Value} (h1 : ErrV e1) (h2 : ErrV e2) {n : Nat} {g : Operand} {ps : Array Tmp} {assign body : Code} {Q : Exit → Act → World → Prop} {a : Act} {w : World} (hps : ps.size = 2)
    (Bs : Nat) (hg : a.eval g = .func (.func 48) #[] #[.pointer (some ⟨Bs, 0, none⟩)]) (s : ByteArray) (hs : s.size ≤ 1073741824) (hS : SC Bs w s)
    (I : List ByteArray → World → Prop) (Ix : World → Prop)
    (hIg : ∀ pre W, I pre W → GlIn (glU m e1 e2) W)
    (hIt : ∀ pre W W', I pre W → Below W.heap.size W W' → I pre W')
    (hIs : ∀ pre W s v, I pre W → SC Bs W s → I pre (W.setCell ⟨Bs, 0, none⟩ v))
    (hIp : ∀ pre W l o o', I pre W → w.heap.size ≤ l → W.heap[l]? = some o → o.isCells = false → I pre (W.putObj l o'))
    (hIxp : ∀ W l o o', Ix W → w.heap.size ≤ l → W.heap[l]? = some o → o.isCells = false → Ix (W.putObj l o'))
    (h0 : I [] w) (a₁ : ByteArray → Int → Act)
    (hassign : ∀ (l : Nat) (t : ByteArray) (k : Int) (W : World) (K : Act → World → Prop), K (a₁ t k) W →
      assign.wpIn (Fence.wide.inRound l) (n - 1 - 1) Tryd.prog (Exit.then K (fun _ _ _ => False)) { tmps := (ps.zip #[.string t, .int .i64 k]).foldl (fun t (p, v) => t.setIfInBounds p v) a.tmps, defers := [] } W)
    (hbody0 : ∀ (l : Nat) (pre : List ByteArray) (t s' : ByteArray) (W : World), pre.length < s.size → I pre W → SC Bs W s' → body.wpIn (Fence.wide.inRound l) (n - 1 - 1) Tryd.prog (fun e _ W' => e = .normal ∧ KeepsOthers W W' ∧ I (pre ++ [t]) W' ∧ SC Bs W' s') (a₁ t 0) W)
    (hbody4 : ∀ (l : Nat) (pre : List ByteArray) (t : ByteArray) (k : Int) (s : ByteArray) (W : World), k = 4 → I pre W → SC Bs W s → body.wpIn (Fence.wide.inRound l) (n - 1 - 1) Tryd.prog (fun e _ W' => e = .ret ∧ KeepsOthers W W' ∧ Ix W') (a₁ t k) W)
    (hdone : ∀ (D : Nat) (xs : List ByteArray) (W : World), w.heap.size ≤ D → unpF s.size s = some xs → I xs W → W.heap[D]? = some (.deferred (some [])) → Q .normal { a with defers := { target := .collected D, args := #[] } :: a.defers } W)
    (hstop : ∀ (D : Nat) (W : World), w.heap.size ≤ D → unpF s.size s = none → Ix W → W.heap[D]? = some (.deferred (some [])) → Code.ret.wpIn Fence.wide n Tryd.prog Q { a with defers := { target := .collected D, args := #[] } :: a.defers } W) :
    (Code.rangeFunc g ps assign body).wpIn Fence.wide n Tryd.prog Q a w := by
  refine wpIn_rangeFunc fun fn hfn => ?_
  obtain ⟨rc, hrc⟩ : ∃ rc : LoopState → Option Code → Loop, rc = fun st pe => { state := st, pending := pe, fn, tmps := a.tmps, params := ps, assign, body, defers := w.heap.size } := ⟨_, rfl⟩
  obtain ⟨W1, hW1⟩ : ∃ W1, (w.alloc (.deferred (some []))).alloc (.loop (rc .ready none)) = W1 := ⟨_, rfl⟩
  have hL1 : W1.heap[w.heap.size + 1]? = some (.loop (rc .ready none)) := by
    rw [← hW1]; have := World.alloc_heap_new (w.alloc (.deferred (some []))) (.loop (rc .ready none)); rwa [World.size_alloc] at this
  have hK1 : W1.heap[w.heap.size]? = some (.deferred (some [])) := by
    rw [← hW1]; exact (Below.heap_alloc _ _ _ (by simp)).trans (World.alloc_heap_new w _)
  have hb1 : Below w.heap.size w W1 := by
    rw [← hW1]; exact ((Below.refl _ w).alloc (Nat.le_refl _) _).alloc (by simp) _
  have hS1 : SC Bs W1 s := by
    obtain ⟨c1, c2, c3⟩ := hS
    exact ⟨(hb1.cell (p := ⟨Bs, 0, none⟩) c3).trans c1, by rw [← c2]; unfold World.frozen?; rw [hb1.block Bs c3], Nat.lt_of_lt_of_le c3 hb1.size⟩
  have hI1 : I [] W1 := hIt _ _ _ h0 hb1
  refine ⟨w.heap.size + 1, [{ target := .collected w.heap.size, args := #[] }], W1, { target := .fn (.func 48) #[.pointer (some ⟨Bs, 0, none⟩)], args := #[.func (.yield (w.heap.size + 1)) #[] #[]] }, W1, 48,
    #[.func (.yield (w.heap.size + 1)) #[] #[], .pointer (some ⟨Bs, 0, none⟩)], W1, ?_, ?_, ?_, ?_, fun h => (by cases h), ?_⟩
  · rw [← hW1, hrc]; exact run_enterLoop_outer _ _ _ _ _
  · simp only [resolve, hg]
    simp [go_sem]
  · intro f' hf'; trivial
  · simp [invoke, go_sem, enters_of Tryd.func48 (by kernel_rfl) rfl]
  · have hfin : ∀ (jump : Option Code) (W2 W3 : World), W2.heap[w.heap.size + 1]? = some (.loop (rc .ready none)) → W2.heap[w.heap.size]? = some (.deferred (some [])) →
        KeepsOthers (W2.putObj (w.heap.size + 1) (.loop (rc .busy none))) W3 →
        (Instr.endRound (w.heap.size + 1) jump).run Tryd.prog W3 = .ok (.bool jump.isNone) (W3.putObj (w.heap.size + 1) (.loop (rc (if jump.isNone then .ready else .done) jump))) ∧
          W3.heap[w.heap.size + 1]? = some (.loop (rc .busy none)) ∧
          (W3.putObj (w.heap.size + 1) (.loop (rc (if jump.isNone then .ready else .done) jump))).heap[w.heap.size + 1]? = some (.loop (rc (if jump.isNone then .ready else .done) jump)) ∧
          (W3.putObj (w.heap.size + 1) (.loop (rc (if jump.isNone then .ready else .done) jump))).heap[w.heap.size]? = some (.deferred (some [])) := fun jump W2 W3 hl hk hk3 => by
      have hl2 : (W2.putObj (w.heap.size + 1) (.loop (rc .busy none))).heap[w.heap.size + 1]? = some (.loop (rc .busy none)) := World.putObj_heap_same (Array.getElem?_eq_some_iff.1 hl).1
      have hk2 : (W2.putObj (w.heap.size + 1) (.loop (rc .busy none))).heap[w.heap.size]? = some (.deferred (some [])) := (World.putObj_heap_other (by omega)).trans hk
      have hl3 := hk3.same _ _ hl2 rfl
      have := run_endRound (P := Tryd.prog) jump hl3
      rw [hrc] at this ⊢
      exact ⟨this, by rw [hrc] at hl3; exact hl3, World.putObj_heap_same (Array.getElem?_eq_some_iff.1 hl3).1, (World.putObj_heap_other (by omega)).trans (hk3.same _ _ hk2 rfl)⟩
    have scp : ∀ W l o o' s, SC Bs W s → W.heap[l]? = some o → o.isCells = false → SC Bs (W.putObj l o') s := fun W l o o' s hs hl ho => by
      obtain ⟨c1, c2, c3⟩ := hs
      have hne : l ≠ Bs := fun e => by
        subst e
        unfold World.cell? at c1
        rw [show W.heap[l]? = _ from hl] at c1
        cases o <;> first | (cases ho; done) | (simp at c1; done)
      have e : (W.putObj l o').heap[Bs]? = W.heap[Bs]? := World.putObj_heap_other (Ne.symm hne)
      refine ⟨?_, ?_, ?_⟩
      · unfold World.cell? at c1 ⊢; rw [e]; exact c1
      · unfold World.frozen? at c2 ⊢; rw [e]; exact c2
      · rcases Nat.lt_or_ge Bs (W.putObj l o').heap.size with h | h
        · exact h
        · rw [Array.getElem?_eq_none h] at e
          rw [Array.getElem?_eq_getElem c3] at e; cases e
    have hbusy : ({ rc .ready none with state := .busy } : Loop) = rc .busy none := by rw [hrc]
    refine (texts1_in h1 h2 (n - 1) (w.heap.size + 1) Bs
      (fun pre W => I pre W ∧ W.heap[w.heap.size + 1]? = some (.loop (rc .ready none)) ∧ W.heap[w.heap.size]? = some (.deferred (some [])))
      (fun W => Ix W ∧ W.heap[w.heap.size + 1]? = some (.loop (rc .done (some .ret))) ∧ W.heap[w.heap.size]? = some (.deferred (some [])))
      (fun pre W h => hIg pre W h.1) (fun pre W W' h hb => ⟨hIt _ _ _ h.1 hb, ?_, ?_⟩) (fun pre W s v h hs => ⟨hIs _ _ _ _ h.1 hs, ?_, ?_⟩) s.size ?_ ?_ [] s hs (by simp) W1 ⟨hI1, hL1, hK1⟩ hS1).mono ?_
    · exact (hb.block _ (Array.getElem?_eq_some_iff.1 h.2.1).1).trans h.2.1
    · exact (hb.block _ (Array.getElem?_eq_some_iff.1 h.2.2).1).trans h.2.2
    · exact (KeepsOthers.setCell W _ v).same _ _ h.2.1 rfl
    · exact (KeepsOthers.setCell W _ v).same _ _ h.2.2 rfl
    · rintro pre t s' W ⟨hi, hl, hk⟩ hs hpl
      have hy := run_yield (P := Tryd.prog) (args := #[.string t, .int .i64 0]) hl (by rw [hrc]; exact hps.symm)
      rw [hrc] at hy
      refine ⟨fn, _, assign, body, hy, roundIn_of_wpIn hfn (hassign _ t 0 W _ ⟨_, run_beginRound hl (by rw [hrc]), ?_⟩)⟩
      rw [hbusy]
      refine wpIn_mono (hbody0 _ pre t s' _ hpl (hIp _ _ _ _ _ hi (by omega) hl rfl) (scp _ _ _ _ _ hs hl rfl)) ?_
      rintro e a3 W3 ⟨rfl, hk3, hi3, hs3⟩
      obtain ⟨hr, hl3, hl4, hk4⟩ := hfin none W W3 hl hk hk3
      exact ⟨_, _, hr, rfl, ⟨hIp _ _ _ _ _ hi3 (by omega) hl3 rfl, hl4, hk4⟩, scp _ _ _ _ _ hs3 hl3 rfl⟩
    · rintro pre t s' W ⟨hi, hl, hk⟩ hs
      have hy := run_yield (P := Tryd.prog) (args := #[.string t, .int .i64 4]) hl (by rw [hrc]; exact hps.symm)
      rw [hrc] at hy
      refine ⟨fn, _, assign, body, hy, roundIn_of_wpIn hfn (hassign _ t 4 W _ ⟨_, run_beginRound hl (by rw [hrc]), ?_⟩)⟩
      rw [hbusy]
      refine wpIn_mono (hbody4 _ pre t 4 s' _ rfl (hIp _ _ _ _ _ hi (by omega) hl rfl) (scp _ _ _ _ _ hs hl rfl)) ?_
      rintro e a3 W3 ⟨rfl, hk3, hi3⟩
      obtain ⟨hr, hl3, hl4, hk4⟩ := hfin (some .ret) W W3 hl hk hk3
      exact ⟨_, _, hr, rfl, hIxp _ _ _ _ hi3 (by omega) hl3 rfl, hl4, hk4⟩
    · rintro e W2 ⟨⟨v, rfl⟩, (⟨xs, hx, hi, hl, hk⟩ | ⟨hx, hi, hl, hk⟩)⟩
      · have he := run_endLoop (P := Tryd.prog) hl (by rw [hrc]; simp)
        rw [hrc] at he
        exact ⟨none, _, he, hdone _ xs _ (Nat.le_refl _) hx (hIp _ _ _ _ _ hi (by omega) hl rfl) ((World.putObj_heap_other (by omega)).trans hk)⟩
      · have he := run_endLoop (P := Tryd.prog) hl (by rw [hrc]; simp)
        rw [hrc] at he
        exact ⟨some .ret, _, he, hstop _ _ (Nat.le_refl _) hx (hIxp _ _ _ _ hi (by omega) hl rfl) ((World.putObj_heap_other (by omega)).trans hk)⟩
end Go.Nest

namespace Go.Nest
open Go Go.Eng Go.Proofs Go.RowKit Go.Shelf
attribute [local go_sem] Oper.semAt_some
set_option linter.unusedVariables false
set_option linter.all false
theorem texts_in (n : Nat) (s : ByteArray) (w : World) : CallsIn Fence.wide n Tryd.prog 40 #[.string s] w fun e w' => e = .returned (.func (.func 48) #[] #[.pointer (some ⟨w.heap.size, 0, none⟩)]) ∧ w' = w.alloc (.cells #[.string s] 9) := by
  refine callsIn_of_wp Tryd.func40 rfl trivial ?_ rfl
  simp only [Tryd.ntmps40, List.size_toArray, List.length_cons, List.length_nil, Nat.reduceAdd, Nat.reduceSub, Array.replicate_succ, Array.replicate_zero, List.push_toArray, List.append_toArray, List.nil_append, List.cons_append]
  gi_wp2
  go_ret
  exact ⟨rfl, rfl⟩
theorem infoS : (Tryd.prog.info? 9).map (fun i => (i.zero, i.size, i.bytes)) = some (some (.string ByteArray.empty), 1, 16) := by kernel_rfl
theorem boxed_below {W W' : World} {B : Nat} {t : TypeId} {v : Value} (h : Boxed W B t v) (hb : Below W.heap.size W W') : Boxed W' B t v := (hb.block B h.lt).trans h
theorem boxed_put {W : World} {B : Nat} {t : TypeId} {v : Value} (h : Boxed W B t v) {l : Nat} {o : Obj} (o' : Obj) (hl : W.heap[l]? = some o) (ho : o.isCells = false) : Boxed (W.putObj l o') B t v := by
  have hne : B ≠ l := fun e => by
    subst e
    rw [show W.heap[B]? = _ from h] at hl
    cases hl; cases ho
  exact (World.putObj_heap_other hne).trans h
theorem below_put {W w : World} {n : Nat} (hB : Below n w W) (l : Nat) (o' : Obj) (hl : n ≤ l) : Below n w (W.putObj l o') :=
  hB.trans ⟨rfl, rfl, rfl, by rw [World.putObj_size]; exact Nat.le_refl _, fun b hb => World.putObj_heap_other (by omega)⟩
theorem row_ge {W : World} {bs : Nat} {e : TypeId} {size : Nat} {v : Value} {k : Nat} {xs : List Value} (h : W.ownsRow bs e size v k xs) {g : Nat} (hg : v.ownBlock = some g) : bs ≤ g := by
  rcases h.2 with ⟨rfl, _⟩ | ⟨g', cap, cur, rfl, hb, _⟩
  · simp [Value.ownBlock] at hg
  · obtain rfl : g' = g := by simpa [Value.ownBlock] using hg
    exact hb
theorem results_two (tmps : Array Value) (W : World) (b0 b1 : Nat) (v0 v1 : Value) (h2 : tmps[2]? = some (.pointer (some ⟨b0, 0, none⟩))) (h3 : tmps[3]? = some (.pointer (some ⟨b1, 0, none⟩))) (c0 : W.cell? ⟨b0, 0, none⟩ = some v0) (c1 : W.cell? ⟨b1, 0, none⟩ = some v1) :
    (results Tryd.f31 tmps).run Tryd.prog W = .ok (.tuple #[v0, v1]) W := by
  have hr : Tryd.f31.results = #[.cell 2 66, .cell 3 27] := rfl
  simp [results, hr, h2, h3, c0, c1, go_sem]
/-- Behind an append, and the store of its result into the box: the rows lie from bs on, the boxes ahead of it. -/
theorem appended2 {W w1 : World} {n₀ bs B : Nat} {t e : TypeId} {size : Nat} {v v' : Value} {k m : Nat} {xs ys : List Value} {tmp : Obj}
    (hv : Boxed W B t v) (hrow : W.ownsRow bs e size v k xs) (hn₀ : n₀ ≤ W.heap.size) (hB : n₀ ≤ B) (hBs : B < bs) (hbs : n₀ ≤ bs)
    (hown' : w1.ownsRow bs e size v' m ys) (hgrow : (W.alloc tmp).grownBy w1 v.ownBlock) :
    Boxed w1 B t v ∧ Boxed (w1.setCell ⟨B, 0, none⟩ v') B t v' ∧ (w1.setCell ⟨B, 0, none⟩ v').ownsRow bs e size v' m ys ∧ KeepsOthers W (w1.setCell ⟨B, 0, none⟩ v') ∧ Below n₀ W (w1.setCell ⟨B, 0, none⟩ v') ∧
      ∀ X, X < W.heap.size → X < bs → X ≠ B → (w1.setCell ⟨B, 0, none⟩ v').heap[X]? = W.heap[X]? := by
  have hne : ∀ X, X < bs → some X ≠ v.ownBlock := fun X hX e => absurd (row_ge hrow e.symm) (by omega)
  have hv1 : Boxed w1 B t v := (hv.alloc tmp).kept hgrow (hne B hBs)
  refine ⟨hv1, hv1.set v', ownsRow_setCell_below hown' (a := ⟨B, 0, none⟩) hBs v', ?_, ?_, fun X hlt hX hXB => ?_⟩
  · refine ((KeepsOthers.alloc W tmp).trans (KeepsOthers.of_grownBy hgrow fun j o ej hj => ?_)).trans (KeepsOthers.setCell _ _ _)
    rcases (hrow.alloc tmp).2 with ⟨rfl, _⟩ | ⟨g, cap, cur, rfl, _, hgb, _⟩
    · simp [Value.ownBlock] at ej
    · obtain rfl : g = j := by simpa [Value.ownBlock] using ej
      rw [hgb] at hj; cases hj; rfl
  · refine (((Below.refl n₀ W).alloc hn₀ tmp).grown hgrow (by simp; omega) fun j ej => ?_).setCell (p := ⟨B, 0, none⟩) hB v'
    exact Nat.le_trans hbs (row_ge hrow ej)
  · have hlt2 : X < (W.alloc tmp).heap.size := by simp; omega
    have e1 := hgrow.block X hlt2 (hne X hX)
    have e2 := (grownBy_setCell' w1 B v').block X (Nat.lt_of_lt_of_le hlt2 hgrow.size) (fun e => hXB (Option.some.inj e))
    exact e2.trans (e1.trans (Below.heap_alloc _ _ _ hlt))
set_option maxRecDepth 100000 in
set_option maxHeartbeats 4000000 in
theorem unpack_walk {m : Int} {e1 e2 : Value} (h1 : ErrV e1) (h2 : ErrV e2) (s : ByteArray) (hs : s.size ≤ 1073741824) (w : World) (hg : GlIn (glU m e1 e2) w) :
    Calls Tryd.prog 31 #[.string s] w fun e W' => Below w.heap.size w W' ∧
      ((∃ xs v, unpF s.size s = some xs ∧ e = .returned (.tuple #[v, .int .i64 0]) ∧ W'.ownsRow w.heap.size 9 1 v xs.length (xs.map Value.string)) ∨ (unpF s.size s = none ∧ e = .returned (.tuple #[.slice none 0 0, .int .i64 4]))) := by
  obtain ⟨i0, hi, hz0, hz1, hz2⟩ := info_parts infoS
  refine (callsIn_wide (n := 3)).1 ?_
  refine callsIn_of_wp_marks Tryd.func31 rfl trivial ?_ rfl
  simp only [Tryd.ntmps31, List.size_toArray, List.length_cons, List.length_nil, Nat.reduceAdd, Nat.reduceSub, Array.replicate_succ, Array.replicate_zero, List.push_toArray, List.append_toArray, List.nil_append, List.cons_append]
  gi_wp2
  refine ⟨trivial, ?_⟩
  refine (texts_in _ s _).mono ?_
  rintro e w1 ⟨rfl, rfl⟩
  gi_wp2
  obtain ⟨n0, hn0⟩ : ∃ n0, n0 = w.heap.size := ⟨_, rfl⟩
  have B0 := Boxed.new w 66 (.slice none 0 0)
  have B1 := Boxed.new (w.alloc (.cells #[.slice none 0 0] 66)) 27 (.int .i64 0)
  have B2 := Boxed.new ((w.alloc (.cells #[.slice none 0 0] 66)).alloc (.cells #[.int .i64 0] 27)) 66 (.slice none 0 0)
  have B3 := Boxed.new (((w.alloc (.cells #[.slice none 0 0] 66)).alloc (.cells #[.int .i64 0] 27)).alloc (.cells #[.slice none 0 0] 66)) 9 (.string s)
  simp only [World.size_alloc] at B1 B2 B3
  have hbw : Below w.heap.size w ((((w.alloc (.cells #[.slice none 0 0] 66)).alloc (.cells #[.int .i64 0] 27)).alloc (.cells #[.slice none 0 0] 66)).alloc (.cells #[.string s] 9)) := ((((Below.refl _ w).alloc (Nat.le_refl _) _).alloc (by simp) _).alloc (by simp; omega) _).alloc (by simp; omega) _
  have B2' := B2.alloc (.cells #[.string s] 9)
  have B1' := (B1.alloc (.cells #[.slice none 0 0] 66)).alloc (.cells #[.string s] 9)
  have B0' := ((B0.alloc (.cells #[.int .i64 0] 27)).alloc (.cells #[.slice none 0 0] 66)).alloc (.cells #[.string s] 9)
  have hsz : ((((w.alloc (.cells #[.slice none 0 0] 66)).alloc (.cells #[.int .i64 0] 27)).alloc (.cells #[.slice none 0 0] 66)).alloc (.cells #[.string s] 9)).heap.size = w.heap.size + 4 := by simp
  obtain ⟨W4, hW4⟩ : ∃ W4, W4 = ((((w.alloc (.cells #[.slice none 0 0] 66)).alloc (.cells #[.int .i64 0] 27)).alloc (.cells #[.slice none 0 0] 66)).alloc (.cells #[.string s] 9)) := ⟨_, rfl⟩
  rw [← hW4] at B0' B1' B2' B3 hbw hsz
  (try simp only [World.size_alloc])
  rw [← hW4]
  clear hW4 B0 B1 B2
  have hS : SC (w.heap.size + 1 + 1 + 1) W4 s := ⟨B3.cell, B3.frozen, B3.lt⟩
  refine rangeFunc_texts h1 h2 rfl (w.heap.size + 1 + 1 + 1) rfl s hs hS
    (fun pre W => (∃ v, Boxed W (w.heap.size + 1 + 1) 66 v ∧ W.ownsRow (w.heap.size + 4) 9 1 v pre.length (pre.map Value.string)) ∧ Boxed W w.heap.size 66 (.slice none 0 0) ∧ Boxed W (w.heap.size + 1) 27 (.int .i64 0) ∧ Below w.heap.size w W ∧ w.heap.size + 4 ≤ W.heap.size)
    (fun W => ∃ k, k = 4 ∧ Boxed W w.heap.size 66 (.slice none 0 0) ∧ Boxed W (w.heap.size + 1) 27 (.int .i64 k) ∧ Below w.heap.size w W)
    (fun pre W h => glIn_below hg h.2.2.2.1) (fun pre W W' h hb => ?_) (fun pre W s v h hs => ?_) (fun pre W l o o' h hl ho hc => ?_) (fun W l o o' h hl ho hc => ?_)
    ⟨⟨_, B2', World.ownsRow_nil _ _ _ _⟩, B0', B1', hbw, by omega⟩ (fun t k => { tmps := #[.string s, undef, .pointer (some ⟨w.heap.size, 0, none⟩), .pointer (some ⟨w.heap.size + 1, 0, none⟩), .pointer (some ⟨w.heap.size + 1 + 1, 0, none⟩), .string t, .int .i64 k, .string s, .func (.func 48) #[] #[.pointer (some ⟨w.heap.size + 1 + 1 + 1, 0, none⟩)], .string t, .int .i64 k, undef, undef, undef, undef, undef, undef, undef, undef], defers := [] }) ?assign ?body0 ?body4 ?done ?stop
  case assign =>
    intro l t k W K hK
    gi_wp2
    exact hK
  case body0 =>
    rintro l pre t s' W hpl ⟨⟨v, hv, hrow⟩, b0, b1, hB, hz⟩ hs'
    have hc := hv.cell
    have hpm : (pre.map Value.string).length = pre.length := by simp
    gi_wp2_with (gi_at_builtin; refine wpListIn_append_own _ rfl _ _ 66 rfl (w.heap.size + 4) 9 i0 (.string ByteArray.empty) 1 16 Tryd.underlying66 hi hz0 hz1 hz2 rfl (by decide) _ _ _ rfl (hrow.alloc _) ⟨W.heap.size, 0, none⟩ 1 1 [.string t] rfl rfl (cell_one_new _ _ _) (by simp [Value.oneCell']) (by show _ ≤ 9223372036854775807; omega) (by omega) (by simp; omega) ?_; intro v' w1 hown' hgrow _; obtain ⟨g', cap', rfl⟩ := ownsRow_succ hown'; obtain ⟨q1, q2, q3, q4, q5, q6⟩ := appended2 (n₀ := w.heap.size) hv hrow (by omega) (by omega) (by omega) (by omega) hown' hgrow; have hc1 := q1.cell; have hf1 := q1.frozen)
    have lt3 := hs'.2.2
    have e0 := q6 w.heap.size (by omega) (by omega) (by omega)
    have e1 := q6 (w.heap.size + 1) (by omega) (by omega) (by omega)
    have e3 := q6 (w.heap.size + 1 + 1 + 1) (by omega) (by omega) (by omega)
    have hz1 : w.heap.size + 4 ≤ (w1.setCell ⟨w.heap.size + 1 + 1, 0, none⟩ (.slice (some ⟨g', 0, none⟩) (pre.length + 1) cap')).heap.size := Nat.le_trans hz q4.size
    refine ⟨⟨⟨_, q2, q3⟩, e0.trans b0, e1.trans b1, hB.trans q5, by simpa using hz1⟩, ?_, ?_, by simpa using Nat.lt_of_lt_of_le lt3 (by simpa using q4.size)⟩
    · have := hs'.1
      unfold World.cell? at this ⊢; rw [e3]; exact this
    · have := hs'.2.1
      unfold World.frozen? at this ⊢; rw [e3]; exact this
  case body4 =>
    rintro l pre t k s' W hk0 ⟨⟨v, hv, hrow⟩, b0, b1, hB, hz⟩ hs'
    obtain rfl := hk0
    have hc0 := b0.cell
    have hf0 := b0.frozen
    have b1' := b1.other (B' := w.heap.size) (by omega) (.slice none 0 0)
    have hc1 := b1'.cell
    have hf1 := b1'.frozen
    gi_wp2
    refine ⟨(KeepsOthers.setCell _ _ _).trans (KeepsOthers.setCell _ _ _), ?_, b1'.set _, (hB.setCell (p := ⟨w.heap.size, 0, none⟩) (Nat.le_refl _) _).setCell (p := ⟨w.heap.size + 1, 0, none⟩) (Nat.le_succ _) _⟩
    exact (b0.set (.slice none 0 0)).other (by omega) _
  case done =>
    rintro D xs W hD hx ⟨⟨v, hv, hrow⟩, b0, b1, hB, hz⟩ hK
    have hcv := hv.cell
    have hc0 := b0.cell
    have hf0 := b0.frozen
    have b1' := b1.other (B' := w.heap.size) (by omega) v
    have hc1 := b1'.cell
    have hf1 := b1'.frozen
    have B0 := (b0.set v).other (B' := w.heap.size + 1) (by omega) (.int .i64 0)
    have B1 := b1'.set (.int .i64 0)
    have hR := ownsRow_setCell_below (ownsRow_setCell_below hrow (a := ⟨w.heap.size, 0, none⟩) (by show w.heap.size < w.heap.size + 4; omega) v) (a := ⟨w.heap.size + 1, 0, none⟩) (by show w.heap.size + 1 < w.heap.size + 4; omega) (.int .i64 0)
    have hK2 := ((KeepsOthers.setCell W ⟨w.heap.size, 0, none⟩ v).trans (KeepsOthers.setCell _ ⟨w.heap.size + 1, 0, none⟩ (.int .i64 0))).same _ _ hK rfl
    have hB2 := (hB.setCell (p := ⟨w.heap.size, 0, none⟩) (Nat.le_refl _) v).setCell (p := ⟨w.heap.size + 1, 0, none⟩) (Nat.le_succ _) (.int .i64 0)
    have fin0 := (boxed_put B0 (.deferred none) hK2 rfl).cell
    have fin1 := (boxed_put B1 (.deferred none) hK2 rfl).cell
    have finR := ownsRow_putObj hR (.deferred none) hK2 rfl
    have finB := below_put hB2 D (.deferred none) (by omega)
    have low : ∀ {W' : World} {v k xs}, W'.ownsRow (w.heap.size + 4) 9 1 v k xs → W'.ownsRow w.heap.size 9 1 v k xs := by
      intro W' v k xs h
      refine ⟨h.1, ?_⟩
      rcases h.2 with h2 | ⟨g, cap, cur, e, hb, hrest⟩
      · exact .inl h2
      · exact .inr ⟨g, cap, cur, e, by omega, hrest⟩
    rcases hrow.2 with ⟨rfl, hn⟩ | ⟨gg, cap, cur, rfl, hgb, hrest⟩
    · gi_wp2
      refine ⟨by simp, .inl ⟨_, _, rfl, run_takeDeferred hK2, ?_⟩⟩
      exact ⟨_, results_two _ _ _ _ _ _ rfl rfl fin0 fin1, finB, .inl ⟨xs, _, hx, rfl, low finR⟩⟩
    · gi_wp2
      refine ⟨by simp, .inl ⟨_, _, rfl, run_takeDeferred hK2, ?_⟩⟩
      exact ⟨_, results_two _ _ _ _ _ _ rfl rfl fin0 fin1, finB, .inl ⟨xs, _, hx, rfl, low finR⟩⟩
  case stop =>
    rintro D W hD hx ⟨k, hk0, b0, b1, hB⟩ hK
    have hc0 := (boxed_put b0 (.deferred none) hK rfl).cell
    have hc1 := (boxed_put b1 (.deferred none) hK rfl).cell
    gi_wp2
    refine ⟨by simp, .inl ⟨_, _, rfl, run_takeDeferred hK, ?_⟩⟩
    exact ⟨_, results_two _ _ _ _ _ _ rfl rfl hc0 hc1, below_put hB D _ (by omega), .inr ⟨hx, by rw [hk0]⟩⟩
  · obtain ⟨⟨v, hv, hr⟩, b0, b1, hB, hsz'⟩ := h
    exact ⟨⟨v, boxed_below hv hb, hr.kept (row := none) ⟨hb.os, hb.tape, hb.output, hb.size, fun j hj _ => hb.block j hj⟩ (by cases hv : v.ownBlock <;> simp)⟩, boxed_below b0 hb, boxed_below b1 hb, hB.trans (hb.mono hB.size), Nat.le_trans hsz' hb.size⟩
  · obtain ⟨⟨u, hv, hr⟩, b0, b1, hB, hsz'⟩ := h
    exact ⟨⟨u, hv.other (by omega) v, ownsRow_setCell_below hr (a := ⟨w.heap.size + 1 + 1 + 1, 0, none⟩) (by show w.heap.size + 1 + 1 + 1 < w.heap.size + 4; omega) v⟩, b0.other (by omega) v, b1.other (by omega) v, hB.setCell (p := ⟨w.heap.size + 1 + 1 + 1, 0, none⟩) (by show w.heap.size ≤ w.heap.size + 1 + 1 + 1; omega) v, by simpa using hsz'⟩
  · obtain ⟨⟨u, hv, hr⟩, b0, b1, hB, hsz'⟩ := h
    exact ⟨⟨u, boxed_put hv o' ho hc, ownsRow_putObj hr o' ho hc⟩, boxed_put b0 o' ho hc, boxed_put b1 o' ho hc, below_put hB l o' (by omega), by simpa using hsz'⟩
  · obtain ⟨k, hk, b0, b1, hB⟩ := h
    exact ⟨k, hk, boxed_put b0 o' ho hc, boxed_put b1 o' ho hc, below_put hB l o' (by omega)⟩
end Go.Nest

namespace Go.Nest
open Go Go.Eng Go.Proofs Go.RowKit
set_option linter.unusedVariables false
set_option linter.all false
theorem unpack_ok (m : Int) (e1 e2 : Value) (h1 : ErrV e1) (h2 : ErrV e2) (s : ByteArray) (hs : s.size ≤ 1073741824) : Eng.Spec Tryd.prog (glU m e1 e2) 31 [.d (.raw (.string s))] [] (.tup [.d (.list 1 (unpR s).1.length (strEl (unpR s).1)), .d (.raw (.int .i64 (unpR s).2))]) [] := by
  refine Spec.pureG fun w N E vs hg hvs hN => ?_
  rw [VAs_cons] at hvs
  obtain ⟨v, us, rfl, hv, hus⟩ := hvs
  obtain rfl : us = [] := by unfold VAs at hus; exact hus
  unfold VA at hv
  obtain rfl := (VD_raw_inv hv).1
  have hG : GlIn (glU m e1 e2) w := fun g cs h => by
    obtain ⟨h3, us, h4, h5, h6⟩ := hg g cs h
    exact ⟨hN g h3, us, VCs.imp (fun b hb => hN b hb) (fun a v ha hc => hc) _ _ h4, h5, h6⟩
  refine (unpack_walk h1 h2 s hs w hG).mono ?_
  rintro e W' ⟨hb, ⟨xs, v, hx, rfl, hrow⟩ | ⟨hx, rfl⟩⟩
  · have e : unpR s = (xs, 0) := by unfold unpR; rw [hx]
    rw [e]
    refine ⟨_, rfl, hb, ?_⟩
    unfold VA
    refine ⟨[_, _], rfl, vas_cons ?_ (vas_cons (VD_raw rfl) vas_nil)⟩
    unfold VD VC
    refine ⟨v, rfl, ?_⟩
    rcases hrow.2 with ⟨rfl, hn⟩ | ⟨g, cap, cur, rfl, hbg, hgb, hrest⟩
    · exact .inl ⟨hn, rfl⟩
    · refine .inr ⟨⟨g, 0, none⟩, cap, xs.map Value.string, rfl, ?_, ?_, rfl, ⟨(Array.getElem?_eq_some_iff.1 hgb).1, .inr hbg⟩, by simp, fun j u hu => ?_, fun i hi => ?_⟩
      · exact hrest.1
      · exact hrest.2.1
      · rw [addr_mk_add, Nat.zero_add]
        have h3 := hrest.2.2.2
        rw [← h3, List.getElem?_take] at hu
        split at hu
        · unfold World.cell?
          rw [hgb]
          simpa using hu
        · cases hu
      · have hi : i < xs.length := hi
        have e1 : List.take 1 (List.drop (i * 1) (xs.map Value.string)) = [.string (xs.getD i ByteArray.empty)] := by
          rw [Nat.mul_one, List.drop_eq_getElem_cons (by simpa using hi)]
          simp [List.getD, hi]
        rw [e1]
        unfold strEl VC
        exact ⟨rfl, rfl⟩
  · have e : unpR s = ([], 4) := by unfold unpR; rw [hx]
    rw [e]
    refine ⟨_, rfl, hb, ?_⟩
    unfold VA
    refine ⟨[_, _], rfl, vas_cons ?_ (vas_cons (VD_raw rfl) vas_nil)⟩
    unfold VD VC
    exact ⟨_, rfl, .inl ⟨rfl, rfl⟩⟩
end Go.Nest
