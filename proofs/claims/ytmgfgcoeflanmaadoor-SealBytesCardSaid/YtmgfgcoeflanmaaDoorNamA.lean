/-
  Contracts of given functions, or plain laws that they need. No condition.
-/
import Derived.Test.YtmgfgcoeflanmaaDoorMemM
import Derived.Test.YtmgfgcoeflanmaaDoorUnpT
import Derived.Test.YtmgfgcoeflanmaaDoorPackG
import Derived.Test.YtmgfgcoeflanmaaDoorRowK
namespace Go.Memo
open Go Go.Eng Go.Proofs Go.Nest Go.RowKit
set_option linter.unusedVariables false
set_option linter.unusedSimpArgs false
set_option maxRecDepth 100000
set_option maxHeartbeats 4000000
theorem mNumP_ok : MoOK Tryd.prog glP 28 mNum := fun args H ret H' cs h hc => by
  unfold mNum at h
  split at h
  · cases h; exact numP_ok _ hc.1
  · cases h
theorem mPackP_ok (q : ByteArray) : MoOK Tryd.prog glP 27 (mPackV q) := fun args H ret H' cs h hc => by
  unfold mPackV at h
  split at h
  · cases h; obtain ⟨⟨r, hr, he, rfl, hz⟩, -⟩ := hc; exact packP_ok _ _ r hr he hz
  · cases h
theorem mNum_ok (m : Int) (e1 e2 : Value) (h1 : ErrV e1) (h2 : ErrV e2) : MoOK Tryd.prog (glU m e1 e2) 28 mNum := mNumP_ok.up (pU m e1 e2)
theorem mPackV_ok (m : Int) (e1 e2 : Value) (h1 : ErrV e1) (h2 : ErrV e2) (q : ByteArray) : MoOK Tryd.prog (glU m e1 e2) 27 (mPackV q) := (mPackP_ok q).up (pU m e1 e2)
theorem mUnpV_ok (m : Int) (e1 e2 : Value) (h1 : ErrV e1) (h2 : ErrV e2) (r : List ByteArray) (f : Int) : MoOK Tryd.prog (glU m e1 e2) 31 (mUnpV r f) := fun args H ret H' cs h hc => by
  unfold mUnpV at h
  split at h
  · cases h; obtain ⟨hs, rfl, rfl, -⟩ := hc; exact unpack_ok m e1 e2 h1 h2 _ hs
  · cases h
theorem mToNum_ok (m : Int) (e1 e2 : Value) (h1 : ErrV e1) (h2 : ErrV e2) : MoOK Tryd.prog (glU m e1 e2) 32 mToNum := fun args H ret H' cs h hc => by
  unfold mToNum at h
  split at h
  · cases h; exact toNum_ok m e1 e2 h1 h2 _ hc.1
  · cases h
theorem is_ok (g n : Int) : Eng.Spec Tryd.prog (fun _ => none) 26 [.d (.agg [.raw (.int .i64 g), .raw (.int .i64 n)])] [] (.d (.raw (.bool (isM g n)))) [] := by
  refine spec_fn Tryd.func26 rfl fun {w N E a} hsim => ?_
  rcases Bool.eq_false_or_eq_true (decide (g ≥ (-1 : Int))) with hb1 | hb1
  · skip
    rcases Bool.eq_false_or_eq_true (decide (g ≤ (4 : Int))) with hb2 | hb2
    · skip
      rcases Bool.eq_false_or_eq_true (decide (n ≥ (0 : Int))) with hb3 | hb3
      · skip
        exact go_ret (OrcOK.none _) rfl rfl Tryd.func26 (sr' := ⟨0, [.d (.raw (.bool (decide (n ≤ (15 : Int)))))], []⟩) (cs := [((decide (g ≥ (-1 : Int))) = true), ((decide (g ≤ (4 : Int))) = true), ((decide (n ≥ (0 : Int))) = true)]) [true, true, true] true (by kernel_rfl) (by kernel_rfl) ⟨hb1, hb2, hb3, trivial⟩ (by (clear hsim; refine congrArg (fun b : Bool => (⟨0, [.d (.raw (.bool b))], []⟩ : St)) ?_; rw [Bool.eq_iff_iff]; unfold isM; simp at *; omega)) hsim
      · skip
        exact go_ret (OrcOK.none _) rfl rfl Tryd.func26 (sr' := ⟨0, [.d (.raw (.bool (false)))], []⟩) (cs := [((decide (g ≥ (-1 : Int))) = true), ((decide (g ≤ (4 : Int))) = true), ((decide (n ≥ (0 : Int))) = false)]) [true, true, false] true (by kernel_rfl) (by kernel_rfl) ⟨hb1, hb2, hb3, trivial⟩ (by (clear hsim; refine congrArg (fun b : Bool => (⟨0, [.d (.raw (.bool b))], []⟩ : St)) ?_; rw [Bool.eq_iff_iff]; unfold isM; simp at *; omega)) hsim
    · skip
      exact go_ret (OrcOK.none _) rfl rfl Tryd.func26 (sr' := ⟨0, [.d (.raw (.bool (false)))], []⟩) (cs := [((decide (g ≥ (-1 : Int))) = true), ((decide (g ≤ (4 : Int))) = false)]) [true, false] true (by kernel_rfl) (by kernel_rfl) ⟨hb1, hb2, trivial⟩ (by (clear hsim; refine congrArg (fun b : Bool => (⟨0, [.d (.raw (.bool b))], []⟩ : St)) ?_; rw [Bool.eq_iff_iff]; unfold isM; simp at *; omega)) hsim
  · skip
    exact go_ret (OrcOK.none _) rfl rfl Tryd.func26 (sr' := ⟨0, [.d (.raw (.bool (false)))], []⟩) (cs := [((decide (g ≥ (-1 : Int))) = false)]) [false] true (by kernel_rfl) (by kernel_rfl) ⟨hb1, trivial⟩ (by (clear hsim; refine congrArg (fun b : Bool => (⟨0, [.d (.raw (.bool b))], []⟩ : St)) ?_; rw [Bool.eq_iff_iff]; unfold isM; simp at *; omega)) hsim
theorem mIs_ok : MoOK Tryd.prog (fun _ => none) 26 mIs := fun args H ret H' cs h hc => by
  unfold mIs at h
  split at h
  · cases h; exact is_ok _ _
  · cases h
theorem N0_ok : OrcOK Tryd.prog N0 := ((OrcOK.none glP).add _ false mNum mNumP_ok).add _ false mIs mIs_ok.any
theorem N1_ok (q : ByteArray) : OrcOK Tryd.prog (N1 q) := N0_ok.add _ true (mPackV q) (mPackP_ok q)
theorem N2_ok (m : Int) (e1 e2 : Value) (h1 : ErrV e1) (h2 : ErrV e2) (r : List ByteArray) (f : Int) : OrcOK Tryd.prog (N2 m e1 e2 r f) := (((OrcOK.none (glU m e1 e2)).add _ false mIs mIs_ok.any).add _ false (mUnpV r f) (mUnpV_ok m e1 e2 h1 h2 r f)).add _ false mToNum (mToNum_ok m e1 e2 h1 h2)
theorem nameP_ok (g n : Int) : Eng.Spec Tryd.prog glP 16 [.d (.agg [.raw (.int .i64 g), .raw (.int .i64 n)])] [] (.tup [.d (.raw (.string (nameM g n).1)), .d (.raw (.int .i64 (nameM g n).2))]) [] := by
  refine spec_fn Tryd.func16 rfl fun {w N E a} hsim => ?_
  obtain ⟨q, hq⟩ : ∃ q, q = packB [numJ g, numJ n] := ⟨_, rfl⟩
  have hin : isM g n = true → -1 ≤ g ∧ g ≤ 4 ∧ 0 ≤ n ∧ n ≤ 15 := fun h => of_decide_eq_true h
  have hz : isM g n = true → (packL [numJ g, numJ n]).length ≤ 1073741824 := fun h => by have := name_size g n (hin h); rw [packB_size] at this; omega
  have r1 : isM g n = true → nameM g n = (q, 0) := fun h => by unfold nameM; rw [if_pos h, hq]
  have r2 : isM g n = false → nameM g n = (ByteArray.mk #[], 1) := fun h => by unfold nameM; rw [if_neg (by rw [h]; decide)]; rfl
  have bt : (!isM g n) = true → isM g n = false := fun h => by simpa using h
  have bf : (!isM g n) = false → isM g n = true := fun h => by simpa using h
  rcases Bool.eq_false_or_eq_true (!isM g n) with hb1 | hb1
  · skip
    exact go_ret (N1_ok q) rfl rfl Tryd.func16 (sr' := ⟨0, [.tup [.d (.raw (.string (ByteArray.mk #[]))), .d (.raw (.int .i64 ((1 : Int))))]], []⟩) (cs := [((!isM g n) = true)]) [true] true (by kernel_rfl) (by kernel_rfl) ⟨hb1, trivial⟩ (by first | (rw [r1 (bf hb1)]; rfl) | (rw [r2 (bt hb1)]; rfl)) hsim
  · skip
    exact go_ret (N1_ok q) rfl rfl Tryd.func16 (sr' := ⟨0, [.tup [.d (.raw (.string (q))), .d (.raw (.int .i64 ((0 : Int))))]], []⟩) (cs := [((!isM g n) = false), ((-9223372036854775808 : Int) ≤ g ∧ g < (9223372036854775808 : Int)), ((-9223372036854775808 : Int) ≤ n ∧ n < (9223372036854775808 : Int)), (∃ r, (2 : Nat) = r.length ∧ (∀ (i : Nat), i < (2 : Nat) → segD false (1 : Nat) (splice (splice (List.map (fun j => (List.map D.raw (Value.string (ByteArray.mk #[])).cells.toList).getD (j % (1 : Nat)) default) (List.range (2 : Nat))) (0 : Nat) (D.raw (Value.string (numJ g))).cells) (1 : Nat) (D.raw (Value.string (numJ n))).cells) i = strEl r i) ∧ q = packB r ∧ (packL r).length ≤ (1073741824 : Nat))]) [false] true (by kernel_rfl) (by kernel_rfl) ⟨hb1, (by first | rfl | (have := hin (bf hb1); omega) | (have := hin hb1; omega) | exact ⟨[numJ g, numJ n], rfl, all2 rfl rfl, hq, hz (bf hb1)⟩ | exact ⟨[numJ g, numJ n], rfl, all2 rfl rfl, hq, hz hb1⟩), (by first | rfl | (have := hin (bf hb1); omega) | (have := hin hb1; omega) | exact ⟨[numJ g, numJ n], rfl, all2 rfl rfl, hq, hz (bf hb1)⟩ | exact ⟨[numJ g, numJ n], rfl, all2 rfl rfl, hq, hz hb1⟩), (by first | rfl | (have := hin (bf hb1); omega) | (have := hin hb1; omega) | exact ⟨[numJ g, numJ n], rfl, all2 rfl rfl, hq, hz (bf hb1)⟩ | exact ⟨[numJ g, numJ n], rfl, all2 rfl rfl, hq, hz hb1⟩), trivial⟩ (by first | (rw [r1 (bf hb1)]; rfl) | (rw [r2 (bt hb1)]; rfl)) hsim
theorem name_ok (m : Int) (e1 e2 : Value) (h1 : ErrV e1) (h2 : ErrV e2) (g n : Int) : Eng.Spec Tryd.prog (glU m e1 e2) 16 [.d (.agg [.raw (.int .i64 g), .raw (.int .i64 n)])] [] (.tup [.d (.raw (.string (nameM g n).1)), .d (.raw (.int .i64 (nameM g n).2))]) [] := Spec.mono (pU m e1 e2) (nameP_ok g n)
theorem mNameP_ok (q : ByteArray) (e : Int) : MoOK Tryd.prog glP 16 (mName q e) := fun args H ret H' cs h hc => by
  unfold mName at h
  split at h
  · cases h; obtain ⟨rfl, rfl, -⟩ := hc; exact nameP_ok _ _
  · cases h
theorem party_ok (m : Int) (e1 e2 : Value) (h1 : ErrV e1) (h2 : ErrV e2) (s : ByteArray) (hs : s.size ≤ 1073741824) : Eng.Spec Tryd.prog (glU m e1 e2) 18 [.d (.raw (.string s))] [] (.tup [.d (.agg [.raw (.int .i64 (partyM s).1), .raw (.int .i64 (partyM s).2.1)]), .d (.raw (.int .i64 (partyM s).2.2))]) [] := by
  refine spec_fn Tryd.func18 rfl fun {w N E a} hsim => ?_
  obtain ⟨r, hr⟩ : ∃ r, r = (unpR s).1 := ⟨_, rfl⟩
  obtain ⟨f, hf⟩ : ∃ f, f = (unpR s).2 := ⟨_, rfl⟩
  have hP : partyM s = if f = 0 ∧ r.length = 2 ∧ (numM (at' r 0)).2 = 0 ∧ (numM (at' r 1)).2 = 0 ∧ isM (numM (at' r 0)).1 (numM (at' r 1)).1 = true then ((numM (at' r 0)).1, (numM (at' r 1)).1, 0) else (0, 0, 4) := by unfold partyM; rw [← hr, ← hf]
  have hm : ∀ i, i < r.length → (r.getD i ByteArray.empty).size ≤ 1073741824 := fun i hi => by
    have h0 : (unpR s).2 = 0 := by
      apply Classical.byContradiction; intro h
      have : (unpR s).1 = [] := by unfold unpR at h ⊢; split at h <;> first | (exact absurd rfl h) | rfl
      rw [hr, this] at hi; exact absurd hi (by simp)
    have h1 : r.getD i ByteArray.empty ∈ r := by rw [List.getD_eq_getElem?_getD, List.getElem?_eq_getElem hi]; exact List.getElem_mem hi
    rw [hr] at h1 ⊢
    have := unp_mem h0 _ h1; omega
  have R0 : (f != (0 : Int)) = true → partyM s = (0, 0, 4) := fun h => by rw [hP, if_neg]; rintro ⟨h1, -⟩; rw [h1] at h; exact absurd h (by decide)
  have R1 : (((r.length : Nat) : Int) != (2 : Int)) = true → partyM s = (0, 0, 4) := fun h => by rw [hP, if_neg]; rintro ⟨-, h1, -⟩; rw [h1] at h; exact absurd h (by decide)
  have R2 : ((numM (r.getD 0 ByteArray.empty)).2 != (0 : Int)) = true → partyM s = (0, 0, 4) := fun h => by rw [hP, if_neg]; rintro ⟨-, -, h1, -⟩; unfold at' at h1; rw [h1] at h; exact absurd h (by decide)
  have R3 : ((numM (r.getD 1 ByteArray.empty)).2 != (0 : Int)) = true → partyM s = (0, 0, 4) := fun h => by rw [hP, if_neg]; rintro ⟨-, -, -, h1, -⟩; unfold at' at h1; rw [h1] at h; exact absurd h (by decide)
  have R4 : (!isM (numM (r.getD 0 ByteArray.empty)).1 (numM (r.getD 1 ByteArray.empty)).1) = true → partyM s = (0, 0, 4) := fun h => by rw [hP, if_neg]; rintro ⟨-, -, -, -, h1⟩; unfold at' at h1; rw [h1] at h; exact absurd h (by decide)
  have R5 : (f != (0 : Int)) = false → (((r.length : Nat) : Int) != (2 : Int)) = false → ((numM (r.getD 0 ByteArray.empty)).2 != (0 : Int)) = false → ((numM (r.getD 1 ByteArray.empty)).2 != (0 : Int)) = false → (!isM (numM (r.getD 0 ByteArray.empty)).1 (numM (r.getD 1 ByteArray.empty)).1) = false → partyM s = ((numM (at' r 0)).1, (numM (at' r 1)).1, 0) := fun a1 a2 a3 a4 a5 => by
    rw [hP, if_pos]
    refine ⟨by simpa using a1, ?_, by simpa [at'] using a3, by simpa [at'] using a4, by simpa [at'] using a5⟩
    have : ((r.length : Nat) : Int) = 2 := by simpa using a2
    omega
  have hl2 : (((r.length : Nat) : Int) != (2 : Int)) = false → r.length = 2 := fun a2 => by
    have : ((r.length : Nat) : Int) = 2 := by simpa using a2
    omega
  rcases Bool.eq_false_or_eq_true (f != (0 : Int)) with hb1 | hb1
  · skip
    exact go_ret (N2_ok m e1 e2 h1 h2 r f) rfl rfl Tryd.func18 (sr' := ⟨0, [.tup [.d (.agg [.raw (.int .i64 ((0 : Int))), .raw (.int .i64 ((0 : Int)))]), .d (.raw (.int .i64 ((4 : Int))))]], []⟩) (cs := [(s.size ≤ (1073741824 : Nat)), (r = (unpR s).fst), (f = (unpR s).snd), ((f != (0 : Int)) = true)]) [true] true (by kernel_rfl) (by kernel_rfl) ⟨(by first | rfl | exact hs | exact hr | exact hf | exact hm _ (by rw [hl2 hb2]; decide) | (have := hl2 hb2; omega)), (by first | rfl | exact hs | exact hr | exact hf | exact hm _ (by rw [hl2 hb2]; decide) | (have := hl2 hb2; omega)), (by first | rfl | exact hs | exact hr | exact hf | exact hm _ (by rw [hl2 hb2]; decide) | (have := hl2 hb2; omega)), hb1, trivial⟩ (by first | (rw [R0 hb1]; rfl) | (rw [R1 hb2]; rfl) | (rw [R2 hb3]; rfl) | (rw [R3 hb4]; rfl) | (rw [R4 hb5]; rfl) | (rw [R5 hb1 hb2 hb3 hb4 hb5]; rfl)) hsim
  · skip
    rcases Bool.eq_false_or_eq_true ((↑r.length : Int) != (2 : Int)) with hb2 | hb2
    · skip
      exact go_ret (N2_ok m e1 e2 h1 h2 r f) rfl rfl Tryd.func18 (sr' := ⟨0, [.tup [.d (.agg [.raw (.int .i64 ((0 : Int))), .raw (.int .i64 ((0 : Int)))]), .d (.raw (.int .i64 ((4 : Int))))]], []⟩) (cs := [(s.size ≤ (1073741824 : Nat)), (r = (unpR s).fst), (f = (unpR s).snd), ((f != (0 : Int)) = false), (((↑r.length : Int) != (2 : Int)) = true)]) [false, true] true (by kernel_rfl) (by kernel_rfl) ⟨(by first | rfl | exact hs | exact hr | exact hf | exact hm _ (by rw [hl2 hb2]; decide) | (have := hl2 hb2; omega)), (by first | rfl | exact hs | exact hr | exact hf | exact hm _ (by rw [hl2 hb2]; decide) | (have := hl2 hb2; omega)), (by first | rfl | exact hs | exact hr | exact hf | exact hm _ (by rw [hl2 hb2]; decide) | (have := hl2 hb2; omega)), hb1, hb2, trivial⟩ (by first | (rw [R0 hb1]; rfl) | (rw [R1 hb2]; rfl) | (rw [R2 hb3]; rfl) | (rw [R3 hb4]; rfl) | (rw [R4 hb5]; rfl) | (rw [R5 hb1 hb2 hb3 hb4 hb5]; rfl)) hsim
    · skip
      rcases Bool.eq_false_or_eq_true ((numM (r.getD (0 : Nat) ByteArray.empty)).snd != (0 : Int)) with hb3 | hb3
      · skip
        exact go_ret (N2_ok m e1 e2 h1 h2 r f) rfl rfl Tryd.func18 (sr' := ⟨0, [.tup [.d (.agg [.raw (.int .i64 ((0 : Int))), .raw (.int .i64 ((0 : Int)))]), .d (.raw (.int .i64 ((4 : Int))))]], []⟩) (cs := [(s.size ≤ (1073741824 : Nat)), (r = (unpR s).fst), (f = (unpR s).snd), ((f != (0 : Int)) = false), (((↑r.length : Int) != (2 : Int)) = false), ((0 : Int) ≤ (0 : Int) ∧ (0 : Int) < (↑r.length : Int)), ((r.getD (0 : Nat) ByteArray.empty).size ≤ (1073741824 : Nat)), ((0 : Int) ≤ (1 : Int) ∧ (1 : Int) < (↑r.length : Int)), ((r.getD (1 : Nat) ByteArray.empty).size ≤ (1073741824 : Nat)), (((numM (r.getD (0 : Nat) ByteArray.empty)).snd != (0 : Int)) = true)]) [false, false, true] true (by kernel_rfl) (by kernel_rfl) ⟨(by first | rfl | exact hs | exact hr | exact hf | exact hm _ (by rw [hl2 hb2]; decide) | (have := hl2 hb2; omega)), (by first | rfl | exact hs | exact hr | exact hf | exact hm _ (by rw [hl2 hb2]; decide) | (have := hl2 hb2; omega)), (by first | rfl | exact hs | exact hr | exact hf | exact hm _ (by rw [hl2 hb2]; decide) | (have := hl2 hb2; omega)), hb1, hb2, (by first | rfl | exact hs | exact hr | exact hf | exact hm _ (by rw [hl2 hb2]; decide) | (have := hl2 hb2; omega)), (by first | rfl | exact hs | exact hr | exact hf | exact hm _ (by rw [hl2 hb2]; decide) | (have := hl2 hb2; omega)), (by first | rfl | exact hs | exact hr | exact hf | exact hm _ (by rw [hl2 hb2]; decide) | (have := hl2 hb2; omega)), (by first | rfl | exact hs | exact hr | exact hf | exact hm _ (by rw [hl2 hb2]; decide) | (have := hl2 hb2; omega)), hb3, trivial⟩ (by first | (rw [R0 hb1]; rfl) | (rw [R1 hb2]; rfl) | (rw [R2 hb3]; rfl) | (rw [R3 hb4]; rfl) | (rw [R4 hb5]; rfl) | (rw [R5 hb1 hb2 hb3 hb4 hb5]; rfl)) hsim
      · skip
        rcases Bool.eq_false_or_eq_true ((numM (r.getD (1 : Nat) ByteArray.empty)).snd != (0 : Int)) with hb4 | hb4
        · skip
          exact go_ret (N2_ok m e1 e2 h1 h2 r f) rfl rfl Tryd.func18 (sr' := ⟨0, [.tup [.d (.agg [.raw (.int .i64 ((0 : Int))), .raw (.int .i64 ((0 : Int)))]), .d (.raw (.int .i64 ((4 : Int))))]], []⟩) (cs := [(s.size ≤ (1073741824 : Nat)), (r = (unpR s).fst), (f = (unpR s).snd), ((f != (0 : Int)) = false), (((↑r.length : Int) != (2 : Int)) = false), ((0 : Int) ≤ (0 : Int) ∧ (0 : Int) < (↑r.length : Int)), ((r.getD (0 : Nat) ByteArray.empty).size ≤ (1073741824 : Nat)), ((0 : Int) ≤ (1 : Int) ∧ (1 : Int) < (↑r.length : Int)), ((r.getD (1 : Nat) ByteArray.empty).size ≤ (1073741824 : Nat)), (((numM (r.getD (0 : Nat) ByteArray.empty)).snd != (0 : Int)) = false), (((numM (r.getD (1 : Nat) ByteArray.empty)).snd != (0 : Int)) = true)]) [false, false, false, true] true (by kernel_rfl) (by kernel_rfl) ⟨(by first | rfl | exact hs | exact hr | exact hf | exact hm _ (by rw [hl2 hb2]; decide) | (have := hl2 hb2; omega)), (by first | rfl | exact hs | exact hr | exact hf | exact hm _ (by rw [hl2 hb2]; decide) | (have := hl2 hb2; omega)), (by first | rfl | exact hs | exact hr | exact hf | exact hm _ (by rw [hl2 hb2]; decide) | (have := hl2 hb2; omega)), hb1, hb2, (by first | rfl | exact hs | exact hr | exact hf | exact hm _ (by rw [hl2 hb2]; decide) | (have := hl2 hb2; omega)), (by first | rfl | exact hs | exact hr | exact hf | exact hm _ (by rw [hl2 hb2]; decide) | (have := hl2 hb2; omega)), (by first | rfl | exact hs | exact hr | exact hf | exact hm _ (by rw [hl2 hb2]; decide) | (have := hl2 hb2; omega)), (by first | rfl | exact hs | exact hr | exact hf | exact hm _ (by rw [hl2 hb2]; decide) | (have := hl2 hb2; omega)), hb3, hb4, trivial⟩ (by first | (rw [R0 hb1]; rfl) | (rw [R1 hb2]; rfl) | (rw [R2 hb3]; rfl) | (rw [R3 hb4]; rfl) | (rw [R4 hb5]; rfl) | (rw [R5 hb1 hb2 hb3 hb4 hb5]; rfl)) hsim
        · skip
          rcases Bool.eq_false_or_eq_true (!isM (numM (r.getD (0 : Nat) ByteArray.empty)).fst (numM (r.getD (1 : Nat) ByteArray.empty)).fst) with hb5 | hb5
          · skip
            exact go_ret (N2_ok m e1 e2 h1 h2 r f) rfl rfl Tryd.func18 (sr' := ⟨0, [.tup [.d (.agg [.raw (.int .i64 ((0 : Int))), .raw (.int .i64 ((0 : Int)))]), .d (.raw (.int .i64 ((4 : Int))))]], []⟩) (cs := [(s.size ≤ (1073741824 : Nat)), (r = (unpR s).fst), (f = (unpR s).snd), ((f != (0 : Int)) = false), (((↑r.length : Int) != (2 : Int)) = false), ((0 : Int) ≤ (0 : Int) ∧ (0 : Int) < (↑r.length : Int)), ((r.getD (0 : Nat) ByteArray.empty).size ≤ (1073741824 : Nat)), ((0 : Int) ≤ (1 : Int) ∧ (1 : Int) < (↑r.length : Int)), ((r.getD (1 : Nat) ByteArray.empty).size ≤ (1073741824 : Nat)), (((numM (r.getD (0 : Nat) ByteArray.empty)).snd != (0 : Int)) = false), (((numM (r.getD (1 : Nat) ByteArray.empty)).snd != (0 : Int)) = false), ((!isM (numM (r.getD (0 : Nat) ByteArray.empty)).fst (numM (r.getD (1 : Nat) ByteArray.empty)).fst) = true)]) ((List.replicate 4 false) ++ [true]) true (by kernel_rfl) (by kernel_rfl) ⟨(by first | rfl | exact hs | exact hr | exact hf | exact hm _ (by rw [hl2 hb2]; decide) | (have := hl2 hb2; omega)), (by first | rfl | exact hs | exact hr | exact hf | exact hm _ (by rw [hl2 hb2]; decide) | (have := hl2 hb2; omega)), (by first | rfl | exact hs | exact hr | exact hf | exact hm _ (by rw [hl2 hb2]; decide) | (have := hl2 hb2; omega)), hb1, hb2, (by first | rfl | exact hs | exact hr | exact hf | exact hm _ (by rw [hl2 hb2]; decide) | (have := hl2 hb2; omega)), (by first | rfl | exact hs | exact hr | exact hf | exact hm _ (by rw [hl2 hb2]; decide) | (have := hl2 hb2; omega)), (by first | rfl | exact hs | exact hr | exact hf | exact hm _ (by rw [hl2 hb2]; decide) | (have := hl2 hb2; omega)), (by first | rfl | exact hs | exact hr | exact hf | exact hm _ (by rw [hl2 hb2]; decide) | (have := hl2 hb2; omega)), hb3, hb4, hb5, trivial⟩ (by first | (rw [R0 hb1]; rfl) | (rw [R1 hb2]; rfl) | (rw [R2 hb3]; rfl) | (rw [R3 hb4]; rfl) | (rw [R4 hb5]; rfl) | (rw [R5 hb1 hb2 hb3 hb4 hb5]; rfl)) hsim
          · skip
            exact go_ret (N2_ok m e1 e2 h1 h2 r f) rfl rfl Tryd.func18 (sr' := ⟨0, [.tup [.d (.agg [.raw (.int .i64 ((numM (r.getD (0 : Nat) ByteArray.empty)).fst)), .raw (.int .i64 ((numM (r.getD (1 : Nat) ByteArray.empty)).fst))]), .d (.raw (.int .i64 ((0 : Int))))]], []⟩) (cs := [(s.size ≤ (1073741824 : Nat)), (r = (unpR s).fst), (f = (unpR s).snd), ((f != (0 : Int)) = false), (((↑r.length : Int) != (2 : Int)) = false), ((0 : Int) ≤ (0 : Int) ∧ (0 : Int) < (↑r.length : Int)), ((r.getD (0 : Nat) ByteArray.empty).size ≤ (1073741824 : Nat)), ((0 : Int) ≤ (1 : Int) ∧ (1 : Int) < (↑r.length : Int)), ((r.getD (1 : Nat) ByteArray.empty).size ≤ (1073741824 : Nat)), (((numM (r.getD (0 : Nat) ByteArray.empty)).snd != (0 : Int)) = false), (((numM (r.getD (1 : Nat) ByteArray.empty)).snd != (0 : Int)) = false), ((!isM (numM (r.getD (0 : Nat) ByteArray.empty)).fst (numM (r.getD (1 : Nat) ByteArray.empty)).fst) = false)]) ((List.replicate 5 false)) true (by kernel_rfl) (by kernel_rfl) ⟨(by first | rfl | exact hs | exact hr | exact hf | exact hm _ (by rw [hl2 hb2]; decide) | (have := hl2 hb2; omega)), (by first | rfl | exact hs | exact hr | exact hf | exact hm _ (by rw [hl2 hb2]; decide) | (have := hl2 hb2; omega)), (by first | rfl | exact hs | exact hr | exact hf | exact hm _ (by rw [hl2 hb2]; decide) | (have := hl2 hb2; omega)), hb1, hb2, (by first | rfl | exact hs | exact hr | exact hf | exact hm _ (by rw [hl2 hb2]; decide) | (have := hl2 hb2; omega)), (by first | rfl | exact hs | exact hr | exact hf | exact hm _ (by rw [hl2 hb2]; decide) | (have := hl2 hb2; omega)), (by first | rfl | exact hs | exact hr | exact hf | exact hm _ (by rw [hl2 hb2]; decide) | (have := hl2 hb2; omega)), (by first | rfl | exact hs | exact hr | exact hf | exact hm _ (by rw [hl2 hb2]; decide) | (have := hl2 hb2; omega)), hb3, hb4, hb5, trivial⟩ (by first | (rw [R0 hb1]; rfl) | (rw [R1 hb2]; rfl) | (rw [R2 hb3]; rfl) | (rw [R3 hb4]; rfl) | (rw [R4 hb5]; rfl) | (rw [R5 hb1 hb2 hb3 hb4 hb5]; rfl)) hsim
theorem mParty_ok (m : Int) (e1 e2 : Value) (h1 : ErrV e1) (h2 : ErrV e2) (g n f : Int) : MoOK Tryd.prog (glU m e1 e2) 18 (mParty g n f) := fun args H ret H' cs h hc => by
  unfold mParty at h
  split at h
  · cases h; obtain ⟨hs, rfl, rfl, rfl, -⟩ := hc; exact party_ok m e1 e2 h1 h2 _ hs
  · cases h
theorem mName_ok (m : Int) (e1 e2 : Value) (h1 : ErrV e1) (h2 : ErrV e2) (q : ByteArray) (e : Int) : MoOK Tryd.prog (glU m e1 e2) 16 (mName q e) := (mNameP_ok q e).up (pU m e1 e2)
theorem unp_sub {s : ByteArray} (hs : s.size ≤ 1073741824) {i : Nat} (hi : i < (unpR s).1.length) : ((unpR s).1.getD i ByteArray.empty).size ≤ 1073741824 := by
  have h0 : (unpR s).2 = 0 := by
    apply Classical.byContradiction; intro h
    have : (unpR s).1 = [] := by unfold unpR at h ⊢; split at h <;> first | (exact absurd rfl h) | rfl
    rw [this] at hi; exact absurd hi (by simp)
  have h1 : (unpR s).1.getD i ByteArray.empty ∈ (unpR s).1 := by rw [List.getD_eq_getElem?_getD, List.getElem?_eq_getElem hi]; exact List.getElem_mem hi
  have := unp_mem h0 _ h1; omega
end Go.Memo
