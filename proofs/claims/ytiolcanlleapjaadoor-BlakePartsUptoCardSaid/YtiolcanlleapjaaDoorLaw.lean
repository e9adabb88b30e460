/-
  Contracts of given functions, or plain laws that they need. No condition.
-/
import Derived.Test.YtiolcanlleapjaaDoorRef4
import Derived.Test.YtiolcanlleapjaaDoorBlaP
import Derived.Test.YtiolcanlleapjaaDoorLawG
import Derived.Test.YtiolcanlleapjaaDoorProg
namespace Go.Bla
open Go Go.Eng Go.Proofs
set_option linter.unusedVariables false
set_option linter.unusedSimpArgs false
set_option maxRecDepth 100000
set_option maxHeartbeats 4000000
theorem K1_ok : OrcOK Tryd.prog K1 := (OrcOK.none gl).add _ false mSum fun args H r H' cs h hc => by
  unfold mSum at h
  split at h
  · cases h; exact sum_ok _ _
  · cases h
theorem K2_ok : OrcOK Tryd.prog K2 := K1_ok.add _ false mRSum fun args H r H' cs h hc => by
  unfold mRSum at h
  split at h
  · rename_i key text
    cases h
    have := rsum_ok key text hc.1
    unfold sumR sumE
    by_cases hk : key.size ≤ 32
    · rw [if_pos hk] at this ⊢; rw [if_pos hk, sum_eq key text hk hc.1] at this; rw [if_pos hk]; exact this
    · rw [if_neg hk] at this ⊢; rw [if_neg hk] at this; rw [if_neg hk]; exact this
  · cases h
theorem V1_ok (r : ByteArray) : OrcOK Tryd.prog (V1 r) := (OrcOK.none gl).add _ false (mSumV r) fun args H ret H' cs h hc => by
  unfold mSumV at h
  split at h
  · rename_i key text
    cases h
    have := sum_ok key text
    rw [if_pos hc.2.1, if_pos hc.2.1, ← hc.1] at this
    exact this
  · cases h
def abcS : ByteArray := ⟨#[97, 98, 99]⟩
def abcR : ByteArray := ⟨#[80, 140, 94, 140, 50, 124, 20, 226, 225, 167, 43, 163, 78, 235, 69, 47, 55, 69, 139, 32, 158, 214, 58, 41, 77, 153, 155, 76, 134, 103, 89, 130]⟩
/-- As sumM, by sizes: the kernel computes it. -/
def goN : Nat → Bool → ByteArray → List W → Int → List W
  | 0, _, _, h, _ => h
  | n + 1, first, text, h, t =>
    if first || !(text.size == 0) then
      let k := Nat.min text.size 64
      let rest := text.extract k text.size
      goN n false rest (blockM h (mW (byteAt text)) (BitVec.ofNat 32 (tadd t k)) (BitVec.ofNat 32 (tadd t k / 4294967296)) (rest.size == 0)) (tadd t k)
    else h
theorem goN_eq : ∀ n first text h t, goM n first text h t = goN n first text h t
  | 0, _, _, _, _ => rfl
  | n + 1, first, text, h, t => by
    rw [goM, goN, beq_empty]
    split
    · simp only; rw [beq_empty, goN_eq n]
    · rfl
def sumN (key text : ByteArray) : ByteArray :=
  let h := h0M key.size
  if key.size == 0 then outM (goN (text.size + 2) true text h 0)
  else outM (goN (text.size + 2) false text (blockM h (mW (byteAt key)) (BitVec.ofNat 32 (tadd 0 64)) (BitVec.ofNat 32 (tadd 0 64 / 4294967296)) (text.size == 0)) (tadd 0 64))
theorem sumN_eq (key text : ByteArray) : sumM key text = sumN key text := by
  unfold sumM sumN
  simp only [beq_empty, goN_eq]
theorem abc_eq : sumM ByteArray.empty abcS = abcR := by
  rw [sumN_eq]
  have h : (sumN ByteArray.empty abcS).data.toList = abcR.data.toList := by decide +kernel
  exact ext_ba h
theorem abc_ok : Eng.Spec Tryd.prog gl 8 [] [] (.d (.raw (.bool true))) [] := by
  refine spec_fn Tryd.func8 rfl fun {w N E a} hsim => ?_
  have hr : ∃ r, r = sumM ByteArray.empty abcS := ⟨_, rfl⟩
  obtain ⟨r, hr⟩ := hr
  have hr2 : r = abcR := by rw [hr, abc_eq]
  have hq : (r.toList == abcR.toList) = true := by rw [hr2, beq_self_eq_true]
  exact go_ret (V1_ok r) rfl rfl Tryd.func8 (sr' := ⟨0, [.d (.raw (.bool (r.toList == (ByteArray.mk #[80, 140, 94, 140, 50, 124, 20, 226, 225, 167, 43, 163, 78, 235, 69, 47, 55, 69, 139, 32, 158, 214, 58, 41, 77, 153, 155, 76, 134, 103, 89, 130]).toList)))], []⟩) (cs := [(r = sumM (ByteArray.mk #[]) (ByteArray.mk #[(97 : UInt8), (98 : UInt8), (99 : UInt8)])), ((0 : Nat) ≤ (32 : Nat)), ((true) = true)]) [true] true (by kernel_rfl) (by kernel_rfl) ⟨(by first | exact hr | decide), (by first | exact hr | decide), rfl, trivial⟩ (by first | exact congrArg (fun b => (⟨0, [.d (.raw (.bool b))], []⟩ : St)) hq | rfl) hsim
theorem K3_ok : OrcOK Tryd.prog K3 := K2_ok.add _ false mAbc fun args H r H' cs h hc => by
  unfold mAbc at h
  split at h
  · cases h; exact abc_ok
  · cases h
theorem len_outM (h : List W) : (outM h).size = 32 := by unfold outM; rfl
theorem sumR_size (key text : ByteArray) (hk : key.size ≤ 32) : (sumR key text).size = 32 := by
  unfold sumR; rw [if_pos hk]; unfold sumM; simp only; split <;> exact len_outM _
theorem sums_ok (key text : ByteArray) (ht : text.size ≤ 140737488351232) : Eng.Spec Tryd.prog gl 3 [.d (.raw (.string key)), .d (.raw (.string text))] [] (.d (.raw (.bool true))) [] := by
  refine spec_fn Tryd.func3 rfl fun {w N E a} hsim => ?_
  have q1 : ((sumR key text).toList == (sumR key text).toList) = true := beq_self_eq_true _
  have q2 : (sumE key == sumE key) = true := beq_self_eq_true _
  rcases Bool.eq_false_or_eq_true ((sumR key text).toList == (sumR key text).toList) with hb1 | hb1
  · skip
    rcases Bool.eq_false_or_eq_true (sumE key == sumE key) with hb2 | hb2
    · skip
      exact go_ret K3_ok rfl rfl Tryd.func3 (sr' := ⟨0, [.d (.raw (.bool (true)))], []⟩) (cs := [(text.size ≤ (140737488351232 : Nat)), (((sumR key text).toList == (sumR key text).toList) = true), ((sumE key == sumE key) = true)]) [true, true] true (by kernel_rfl) (by kernel_rfl) ⟨(by first | exact ht | decide), hb1, hb2, trivial⟩ (by first | rfl | exact absurd hb1 (by rw [q1]; decide) | exact absurd hb2 (by rw [q2]; decide)) hsim
    · skip
      exact go_ret K3_ok rfl rfl Tryd.func3 (sr' := ⟨0, [.d (.raw (.bool (false)))], []⟩) (cs := [(text.size ≤ (140737488351232 : Nat)), (((sumR key text).toList == (sumR key text).toList) = true), ((sumE key == sumE key) = false)]) [true, false] true (by kernel_rfl) (by kernel_rfl) ⟨(by first | exact ht | decide), hb1, hb2, trivial⟩ (by first | rfl | exact absurd hb1 (by rw [q1]; decide) | exact absurd hb2 (by rw [q2]; decide)) hsim
  · skip
    exact go_ret K3_ok rfl rfl Tryd.func3 (sr' := ⟨0, [.d (.raw (.bool (false)))], []⟩) (cs := [(text.size ≤ (140737488351232 : Nat)), (((sumR key text).toList == (sumR key text).toList) = false)]) [false] true (by kernel_rfl) (by kernel_rfl) ⟨(by first | exact ht | decide), hb1, trivial⟩ (by first | rfl | exact absurd hb1 (by rw [q1]; decide) | exact absurd hb2 (by rw [q2]; decide)) hsim
theorem lens_ok (key text : ByteArray) : Eng.Spec Tryd.prog gl 4 [.d (.raw (.string key)), .d (.raw (.string text))] [] (.d (.raw (.bool true))) [] := by
  refine spec_fn Tryd.func4 rfl fun {w N E a} hsim => ?_
  have h1 : key.size ≤ 32 → sumE key = 0 ∧ (sumR key text).size = 32 ∧ decide ((key.size : Int) ≤ 32) = true := fun h => ⟨if_pos h, sumR_size key text h, decide_eq_true (by omega)⟩
  have h2 : ¬ key.size ≤ 32 → sumE key = 2 ∧ sumR key text = ByteArray.mk #[] ∧ decide ((key.size : Int) ≤ 32) = false := fun h => ⟨if_neg h, if_neg h, decide_eq_false (by omega)⟩
  rcases Bool.eq_false_or_eq_true ((sumE key == (0 : Int)) == decide ((↑key.size : Int) ≤ (32 : Int))) with hb1 | hb1
  · skip
    rcases Bool.eq_false_or_eq_true (sumE key == (0 : Int)) with hb2 | hb2
    · skip
      rcases Bool.eq_false_or_eq_true ((↑(sumR key text).size : Int) == (32 : Int)) with hb3 | hb3
      · skip
        exact go_ret K3_ok rfl rfl Tryd.func4 (sr' := ⟨0, [.d (.raw (.bool (true)))], []⟩) (cs := [(((sumE key == (0 : Int)) == decide ((↑key.size : Int) ≤ (32 : Int))) = true), ((sumE key == (0 : Int)) = true), (((↑(sumR key text).size : Int) == (32 : Int)) = true)]) [true, true, true] true (by kernel_rfl) (by kernel_rfl) ⟨hb1, hb2, hb3, trivial⟩ (by first | rfl | exact False.elim ((Decidable.em (key.size ≤ 32)).elim (fun hk => by obtain ⟨e1, e2, e3⟩ := h1 hk; simp_all) (fun hk => by obtain ⟨e1, e2, e3⟩ := h2 hk; simp_all))) hsim
      · skip
        rcases Bool.eq_false_or_eq_true (sumE key != (0 : Int)) with hb4 | hb4
        · skip
          rcases Bool.eq_false_or_eq_true ((sumR key text).toList == (ByteArray.mk #[]).toList) with hb5 | hb5
          · skip
            exact go_ret K3_ok rfl rfl Tryd.func4 (sr' := ⟨0, [.d (.raw (.bool (true)))], []⟩) (cs := [(((sumE key == (0 : Int)) == decide ((↑key.size : Int) ≤ (32 : Int))) = true), ((sumE key == (0 : Int)) = true), (((↑(sumR key text).size : Int) == (32 : Int)) = false), ((sumE key != (0 : Int)) = true), (((sumR key text).toList == (ByteArray.mk #[]).toList) = true)]) [true, true, false, true, true] true (by kernel_rfl) (by kernel_rfl) ⟨hb1, hb2, hb3, hb4, hb5, trivial⟩ (by first | rfl | exact False.elim ((Decidable.em (key.size ≤ 32)).elim (fun hk => by obtain ⟨e1, e2, e3⟩ := h1 hk; simp_all) (fun hk => by obtain ⟨e1, e2, e3⟩ := h2 hk; simp_all))) hsim
          · skip
            exact go_ret K3_ok rfl rfl Tryd.func4 (sr' := ⟨0, [.d (.raw (.bool (false)))], []⟩) (cs := [(((sumE key == (0 : Int)) == decide ((↑key.size : Int) ≤ (32 : Int))) = true), ((sumE key == (0 : Int)) = true), (((↑(sumR key text).size : Int) == (32 : Int)) = false), ((sumE key != (0 : Int)) = true), (((sumR key text).toList == (ByteArray.mk #[]).toList) = false)]) [true, true, false, true, false] true (by kernel_rfl) (by kernel_rfl) ⟨hb1, hb2, hb3, hb4, hb5, trivial⟩ (by first | rfl | exact False.elim ((Decidable.em (key.size ≤ 32)).elim (fun hk => by obtain ⟨e1, e2, e3⟩ := h1 hk; simp_all) (fun hk => by obtain ⟨e1, e2, e3⟩ := h2 hk; simp_all))) hsim
        · skip
          exact go_ret K3_ok rfl rfl Tryd.func4 (sr' := ⟨0, [.d (.raw (.bool (false)))], []⟩) (cs := [(((sumE key == (0 : Int)) == decide ((↑key.size : Int) ≤ (32 : Int))) = true), ((sumE key == (0 : Int)) = true), (((↑(sumR key text).size : Int) == (32 : Int)) = false), ((sumE key != (0 : Int)) = false)]) [true, true, false, false] true (by kernel_rfl) (by kernel_rfl) ⟨hb1, hb2, hb3, hb4, trivial⟩ (by first | rfl | exact False.elim ((Decidable.em (key.size ≤ 32)).elim (fun hk => by obtain ⟨e1, e2, e3⟩ := h1 hk; simp_all) (fun hk => by obtain ⟨e1, e2, e3⟩ := h2 hk; simp_all))) hsim
    · skip
      rcases Bool.eq_false_or_eq_true (sumE key != (0 : Int)) with hb6 | hb6
      · skip
        rcases Bool.eq_false_or_eq_true ((sumR key text).toList == (ByteArray.mk #[]).toList) with hb7 | hb7
        · skip
          exact go_ret K3_ok rfl rfl Tryd.func4 (sr' := ⟨0, [.d (.raw (.bool (true)))], []⟩) (cs := [(((sumE key == (0 : Int)) == decide ((↑key.size : Int) ≤ (32 : Int))) = true), ((sumE key == (0 : Int)) = false), ((sumE key != (0 : Int)) = true), (((sumR key text).toList == (ByteArray.mk #[]).toList) = true)]) [true, false, true, true] true (by kernel_rfl) (by kernel_rfl) ⟨hb1, hb2, hb6, hb7, trivial⟩ (by first | rfl | exact False.elim ((Decidable.em (key.size ≤ 32)).elim (fun hk => by obtain ⟨e1, e2, e3⟩ := h1 hk; simp_all) (fun hk => by obtain ⟨e1, e2, e3⟩ := h2 hk; simp_all))) hsim
        · skip
          exact go_ret K3_ok rfl rfl Tryd.func4 (sr' := ⟨0, [.d (.raw (.bool (false)))], []⟩) (cs := [(((sumE key == (0 : Int)) == decide ((↑key.size : Int) ≤ (32 : Int))) = true), ((sumE key == (0 : Int)) = false), ((sumE key != (0 : Int)) = true), (((sumR key text).toList == (ByteArray.mk #[]).toList) = false)]) [true, false, true, false] true (by kernel_rfl) (by kernel_rfl) ⟨hb1, hb2, hb6, hb7, trivial⟩ (by first | rfl | exact False.elim ((Decidable.em (key.size ≤ 32)).elim (fun hk => by obtain ⟨e1, e2, e3⟩ := h1 hk; simp_all) (fun hk => by obtain ⟨e1, e2, e3⟩ := h2 hk; simp_all))) hsim
      · skip
        exact go_ret K3_ok rfl rfl Tryd.func4 (sr' := ⟨0, [.d (.raw (.bool (false)))], []⟩) (cs := [(((sumE key == (0 : Int)) == decide ((↑key.size : Int) ≤ (32 : Int))) = true), ((sumE key == (0 : Int)) = false), ((sumE key != (0 : Int)) = false)]) [true, false, false] true (by kernel_rfl) (by kernel_rfl) ⟨hb1, hb2, hb6, trivial⟩ (by first | rfl | exact False.elim ((Decidable.em (key.size ≤ 32)).elim (fun hk => by obtain ⟨e1, e2, e3⟩ := h1 hk; simp_all) (fun hk => by obtain ⟨e1, e2, e3⟩ := h2 hk; simp_all))) hsim
  · skip
    exact go_ret K3_ok rfl rfl Tryd.func4 (sr' := ⟨0, [.d (.raw (.bool (false)))], []⟩) (cs := [(((sumE key == (0 : Int)) == decide ((↑key.size : Int) ≤ (32 : Int))) = false)]) [false] true (by kernel_rfl) (by kernel_rfl) ⟨hb1, trivial⟩ (by first | rfl | exact False.elim ((Decidable.em (key.size ≤ 32)).elim (fun hk => by obtain ⟨e1, e2, e3⟩ := h1 hk; simp_all) (fun hk => by obtain ⟨e1, e2, e3⟩ := h2 hk; simp_all))) hsim
end Go.Bla
