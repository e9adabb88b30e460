/-
  Contracts of given functions, or plain laws that they need. No condition.
-/
import Derived.Test.YtbppcjkpkelbfaaDoorRef3
import Derived.Test.YtbppcjkpkelbfaaDoorBlaG
import Derived.Test.YtbppcjkpkelbfaaDoorRowU
import Derived.Test.YtbppcjkpkelbfaaDoorBla9
import Derived.Test.YtbppcjkpkelbfaaDoorRef4
namespace Go.Bla
open Go Go.Eng
set_option linter.unusedVariables false
theorem tadd_small (t n : Nat) (h : t + n < 9223372036854775808) (hn : n < 9223372036854775808) : tadd (t : Int) (n : Int) = t + n := by
  unfold tadd
  rw [wrap_u64, wrap_u64]; omega
def nblk (first : Bool) (c : Nat) : Nat := if c = 0 then (if first then 1 else 0) else (c + 63) / 64
theorem nblk_false (c : Nat) : nblk false c = (c + 63) / 64 := by
  unfold nblk
  split
  · rename_i h; rw [h]; rfl
  · rfl
theorem go_eq (f : Nat → Int) : ∀ (fuel : Nat) (first : Bool) (rest : ByteArray) (h : List W) (i : Nat), rest.size + (if first then 1 else 0) < fuel → i + rest.size < 4611686018427387904 → (∀ j, f (i + j) = byteAt rest j) →
    goM fuel first rest h i = rgoM f (i + 64 * nblk first rest.size) (i + rest.size) (nblk first rest.size) i h
  | 0, first, rest, h, i, hf, _, _ => by omega
  | fuel + 1, first, rest, h, i, hf, hi, hb => by
    have hmin : Nat.min rest.size 64 = min rest.size 64 := rfl
    have hext : (rest.extract (Nat.min rest.size 64) rest.size).size = rest.size - min rest.size 64 := by
      rw [size_ba, extract_ba, List.length_take, List.length_drop, ← size_ba]; omega
    rw [goM]
    by_cases hc : (first || !(rest.toList == ByteArray.empty.toList)) = true
    · rw [if_pos hc]
      simp only
      have ht : tadd (i : Int) ((Nat.min rest.size 64 : Nat) : Int) = i + min rest.size 64 := by rw [hmin]; exact tadd_small _ _ (by omega) (by omega)
      rw [ht]
      have hmw : mW (byteAt rest) = mW fun j => f (i + j) := mW_congr fun j _ => (hb j).symm
      rw [hmw]
      by_cases hs : rest.size ≤ 64
      · -- the last block
        have he : (rest.extract (Nat.min rest.size 64) rest.size).size = 0 := by rw [hext]; omega
        have hl : ((rest.extract (Nat.min rest.size 64) rest.size).toList == ByteArray.empty.toList) = true := by rw [beq_empty, he]; rfl
        rw [hl]
        have hn : nblk first rest.size = 1 := by
          unfold nblk
          split
          · rename_i h0
            rw [beq_empty, h0] at hc
            have : first = true := by simpa using hc
            rw [if_pos this]
          · omega
        rw [hn]
        show _ = rgoM f _ _ (0 + 1) i h
        rw [rgoM, rgoM, if_pos rfl, decide_eq_true rfl]
        have hk : i + min rest.size 64 = i + rest.size := by omega
        rw [hk]
        cases fuel with
        | zero =>
          rw [beq_empty] at hc
          cases first with
          | true => simp only [if_true] at hf; omega
          | false =>
            have h1 : rest.size = 0 := by simp only [Bool.false_eq_true, if_false] at hf; omega
            rw [h1] at hc; simp at hc
        | succ fuel =>
          rw [goM, if_neg (by rw [beq_empty, he]; decide)]
      · have hn : nblk first rest.size = nblk false (rest.size - 64) + 1 := by
          unfold nblk
          rw [if_neg (by omega)]
          split
          · omega
          · omega
        have he : (rest.extract (Nat.min rest.size 64) rest.size).size = rest.size - 64 := by rw [hext]; omega
        have hl : ((rest.extract (Nat.min rest.size 64) rest.size).toList == ByteArray.empty.toList) = false := by rw [beq_empty, he, beq_eq_false_iff_ne]; omega
        rw [hl, hn]
        have hpos : 0 < nblk false (rest.size - 64) := by unfold nblk; rw [if_neg (by omega)]; omega
        rw [rgoM, if_neg (by omega), decide_eq_false (by omega)]
        have hk : i + min rest.size 64 = i + 64 := by omega
        rw [hk]
        have ih := go_eq f fuel false (rest.extract (Nat.min rest.size 64) rest.size) (blockM h (mW fun j => f (i + j)) (BitVec.ofNat 32 (i + 64)) (BitVec.ofNat 32 ((i + 64) / 4294967296)) false) (i + 64)
          (by rw [he]; split at hf <;> simp <;> omega) (by rw [he]; omega) (fun j => by
            rw [Nat.add_assoc, hb]
            unfold byteAt
            rw [extract_ba, hmin]
            have e : min rest.size 64 = 64 := by omega
            rw [e, List.getD_eq_getElem?_getD, List.getD_eq_getElem?_getD, List.getElem?_take]
            split
            · rw [List.getElem?_drop]
            · rename_i hj
              rw [List.getElem?_eq_none (by rw [← size_ba]; omega)])
        rw [he] at ih
        rw [ih]
        have e1 : i + 64 + 64 * nblk false (rest.size - 64) = i + 64 * (nblk false (rest.size - 64) + 1) := by omega
        have e2 : i + 64 + (rest.size - 64) = i + rest.size := by omega
        rw [e1, e2]
    · rw [if_neg hc]
      have h0 : first = false ∧ rest.size = 0 := by
        rw [beq_empty] at hc
        simpa using hc
      have hn : nblk first rest.size = 0 := by unfold nblk; rw [h0.1, h0.2]; rfl
      rw [hn, rgoM]
theorem sum_eq (key text : ByteArray) (hk : key.size ≤ 32) (ht : text.size ≤ 140737488351232) : rsumM key text = sumM key text := by
  unfold rsumM sumM
  simp only
  by_cases h0 : key.size = 0
  · rw [if_pos (by rw [beq_empty, h0]; rfl)]
    have hc : cntM key text = text.size := by unfold cntM; rw [if_pos h0]; omega
    have := go_eq (msgF key text) (text.size + 2) true text (h0M key.size) 0 (by simp) (by omega) (fun j => by unfold msgF; rw [if_pos h0, Nat.zero_add])
    have hb : blksM (cntM key text) = nblk true text.size := by rw [hc]; rfl
    rw [hb, hc]
    rw [Nat.zero_add, Nat.zero_add] at this
    have e : ((0 : Nat) : Int) = 0 := rfl
    rw [e] at this
    rw [this]
  · rw [if_neg (by rw [beq_empty, beq_iff_eq]; exact h0)]
    have hc : cntM key text = 64 + text.size := by unfold cntM; rw [if_neg h0]
    have ht64 : tadd 0 64 = 64 := by rfl
    rw [ht64]
    have hmw : mW (byteAt key) = mW fun j => msgF key text (0 + j) := mW_congr fun j hj => by unfold msgF; rw [if_neg h0, Nat.zero_add, if_pos hj]
    have hb : blksM (cntM key text) = nblk false text.size + 1 := by
      rw [hc, nblk_false]; unfold blksM; rw [if_neg (by omega)]; omega
    have hlast : (text.toList == ByteArray.empty.toList) = decide (0 + 64 = 64 * (nblk false text.size + 1)) := by
      rw [beq_empty, Bool.eq_iff_iff, beq_iff_eq, decide_eq_true_eq, nblk_false]; omega
    rw [hb, hc, rgoM, hmw, hlast]
    have := go_eq (msgF key text) (text.size + 2) false text (blockM (h0M key.size) (mW fun j => msgF key text (0 + j)) (BitVec.ofNat 32 64) (BitVec.ofNat 32 (64 / 4294967296)) (decide (0 + 64 = 64 * (nblk false text.size + 1)))) 64 (by simp) (by omega) (fun j => by unfold msgF; rw [if_neg h0, if_neg (by omega), Nat.add_sub_cancel_left])
    rw [this]
    have e1 : (if 0 + 64 = 64 * (nblk false text.size + 1) then 64 + text.size else 0 + 64) = 64 := by
      rw [nblk_false]
      by_cases hz : text.size = 0
      · rw [hz]; rfl
      · rw [if_neg (by omega)]
    rw [e1]
    have e2 : 64 * (nblk false text.size + 1) = 64 + 64 * nblk false text.size := by omega
    rw [e2]
end Go.Bla

namespace Go.Plc
open Go Go.Eng Go.Proofs Go.RowKit
set_option linter.unusedVariables false
set_option linter.unusedSimpArgs false
set_option maxRecDepth 100000
set_option maxHeartbeats 4000000
theorem outM_size (h : List Go.Bla.W) : (Go.Bla.outM h).size = 32 := by unfold Go.Bla.outM; rfl
theorem sumM_size (k t : ByteArray) : (Go.Bla.sumM k t).size = 32 := by
  unfold Go.Bla.sumM; simp only; split <;> exact outM_size _
abbrev MoOK (P : Program) (gl : Nat → Option (List D)) (f : FuncId) (mo : Mo) : Prop := ∀ args H r H' cs, mo args H = some (r, H', cs) → Conds cs → Eng.Spec P gl f args H r H'
theorem mSumV_ok (q : ByteArray) : MoOK Tryd.prog Go.Bla.gl 54 (mSumV q) := fun args H ret H' cs h hc => by
  unfold mSumV at h
  split at h
  · cases h
    obtain ⟨rfl, rfl, -⟩ := hc
    exact Go.Bla.sum_ok ByteArray.empty _
  · cases h
theorem mSumRV_ok (q : ByteArray) : MoOK Tryd.prog Go.Bla.gl 53 (mSumV q) := fun args H ret H' cs h hc => by
  unfold mSumV at h
  split at h
  · rename_i k t
    cases h
    obtain ⟨rfl, rfl, ht, -⟩ := hc
    have := Go.Bla.rsum_ok ByteArray.empty t (by omega)
    rw [Go.Bla.sum_eq ByteArray.empty t (by decide) (by omega)] at this
    exact this
  · cases h
theorem X0_ok (q : ByteArray) : OrcOK Tryd.prog (X0 q) := (OrcOK.none _).add _ false _ (mSumV_ok q)
theorem X1_ok (q : ByteArray) : OrcOK Tryd.prog (X1 q) := (OrcOK.none _).add _ false _ (mSumRV_ok q)
theorem wrapP {x : Int} (h : -9223372036854775808 ≤ x ∧ x < 9223372036854775808) : IntKind.i64.wrap x = x := by rw [Go.Nest.wrapE]; omega
theorem place_ok (key : ByteArray) (hk : key.size ≤ 1073741824) : Eng.Spec Tryd.prog Go.Bla.gl 34 [.d (.raw (.string (key)))] [] (.d (.raw (.int .i64 (plc key)))) [] := by
  refine spec_fn Tryd.func34 rfl fun {w N E act} hsim => ?_
  obtain ⟨q, hq⟩ : ∃ q, q = Go.Bla.sumM ByteArray.empty key := ⟨_, rfl⟩
  have hz : q.size = 32 := by rw [hq]; exact sumM_size _ _
  have hb := byteAt_lt q 0
  have hr : plc key = (IntKind.i64.wrap (byteAt q 0)).tmod 4 := by unfold plc; rw [← hq, wrapP (by omega), Int.tmod_eq_emod_of_nonneg hb.1]
  exact gr (X0_ok q) Tryd.func34 (sr' := ⟨0, [vI ((IntKind.i64.wrap (byteAt q 0)).tmod (4 : Int))], []⟩) (cs := [(ByteArray.mk #[] = ByteArray.empty), (q = Bla.sumM (ByteArray.mk #[]) key), (key.size ≤ 1073741824), ((0 : Int) ≤ (0 : Int) ∧ (0 : Int) < (↑q.size : Int)), (Nz 4)]) [] true ⟨(by first | rfl | exact hq | exact hk | (rw [hz]; decide) | decide), (by first | rfl | exact hq | exact hk | (rw [hz]; decide) | decide), (by first | rfl | exact hq | exact hk | (rw [hz]; decide) | decide), (by first | rfl | exact hq | exact hk | (rw [hz]; decide) | decide), (by decide), trivial⟩ (by (rw [hr]; rfl)) hsim
theorem placeR_ok (key : ByteArray) (hk : key.size ≤ 1073741824) : Eng.Spec Tryd.prog Go.Bla.gl 33 [.d (.raw (.string (key)))] [] (.d (.raw (.int .i64 (plc key)))) [] := by
  refine spec_fn Tryd.func33 rfl fun {w N E act} hsim => ?_
  obtain ⟨q, hq⟩ : ∃ q, q = Go.Bla.sumM ByteArray.empty key := ⟨_, rfl⟩
  have hz : q.size = 32 := by rw [hq]; exact sumM_size _ _
  have hb := byteAt_lt q 0
  have hr : plc key = (IntKind.i64.wrap (byteAt q 0)).tmod 4 := by unfold plc; rw [← hq, wrapP (by omega), Int.tmod_eq_emod_of_nonneg hb.1]
  exact gr (X1_ok q) Tryd.func33 (sr' := ⟨0, [vI ((IntKind.i64.wrap (byteAt q 0)).tmod (4 : Int))], []⟩) (cs := [(ByteArray.mk #[] = ByteArray.empty), (q = Bla.sumM (ByteArray.mk #[]) key), (key.size ≤ 1073741824), ((0 : Int) ≤ (0 : Int) ∧ (0 : Int) < (↑q.size : Int)), (Nz 4)]) [] true ⟨(by first | rfl | exact hq | exact hk | (rw [hz]; decide) | decide), (by first | rfl | exact hq | exact hk | (rw [hz]; decide) | decide), (by first | rfl | exact hq | exact hk | (rw [hz]; decide) | decide), (by first | rfl | exact hq | exact hk | (rw [hz]; decide) | decide), (by decide), trivial⟩ (by (rw [hr]; rfl)) hsim
end Go.Plc
