/-
  Contracts of given functions, or plain laws that they need. No condition.
-/
import Derived.Test.YtmgfgcoeflanmaaDoorRef3
import Derived.Test.YtmgfgcoeflanmaaDoorSeaA1
import Derived.Test.YtmgfgcoeflanmaaDoorNamR1
import Derived.Test.YtmgfgcoeflanmaaDoorRef4
/-! The program's blocks and the reference's are the same. -/
namespace Go.Bla
open Go Go.Eng
set_option linter.unusedVariables false
theorem tadd_small (t n : Nat) (h : t + n < 9223372036854775808) (hn : n < 9223372036854775808) : tadd (t : Int) (n : Int) = t + n := by
  unfold tadd
  rw [wrap_u64, wrap_u64]; omega
def nblk (first : Bool) (c : Nat) : Nat := if c = 0 then (if first then 1 else 0) else (c + 63) / 64
theorem nblk_false (c : Nat) : nblk false c = (c + 63) / 64 := by
  unfold nblk
  split
  · rename_i h; rw [h]; rfl
  · rfl
theorem go_eq (f : Nat → Int) : ∀ (fuel : Nat) (first : Bool) (rest : ByteArray) (h : List W) (i : Nat), rest.size + (if first then 1 else 0) < fuel → i + rest.size < 4611686018427387904 → (∀ j, f (i + j) = byteAt rest j) →
    goM fuel first rest h i = rgoM f (i + 64 * nblk first rest.size) (i + rest.size) (nblk first rest.size) i h
  | 0, first, rest, h, i, hf, _, _ => by omega
  | fuel + 1, first, rest, h, i, hf, hi, hb => by
    have hmin : Nat.min rest.size 64 = min rest.size 64 := rfl
    have hext : (rest.extract (Nat.min rest.size 64) rest.size).size = rest.size - min rest.size 64 := by
      rw [size_ba, extract_ba, List.length_take, List.length_drop, ← size_ba]; omega
    rw [goM]
    by_cases hc : (first || !(rest.toList == ByteArray.empty.toList)) = true
    · rw [if_pos hc]
      simp only
      have ht : tadd (i : Int) ((Nat.min rest.size 64 : Nat) : Int) = i + min rest.size 64 := by rw [hmin]; exact tadd_small _ _ (by omega) (by omega)
      rw [ht]
      have hmw : mW (byteAt rest) = mW fun j => f (i + j) := mW_congr fun j _ => (hb j).symm
      rw [hmw]
      by_cases hs : rest.size ≤ 64
      · -- the last block
        have he : (rest.extract (Nat.min rest.size 64) rest.size).size = 0 := by rw [hext]; omega
        have hl : ((rest.extract (Nat.min rest.size 64) rest.size).toList == ByteArray.empty.toList) = true := by rw [beq_empty, he]; rfl
        rw [hl]
        have hn : nblk first rest.size = 1 := by
          unfold nblk
          split
          · rename_i h0
            rw [beq_empty, h0] at hc
            have : first = true := by simpa using hc
            rw [if_pos this]
          · omega
        rw [hn]
        show _ = rgoM f _ _ (0 + 1) i h
        rw [rgoM, rgoM, if_pos rfl, decide_eq_true rfl]
        have hk : i + min rest.size 64 = i + rest.size := by omega
        rw [hk]
        cases fuel with
        | zero =>
          rw [beq_empty] at hc
          cases first with
          | true => simp only [if_true] at hf; omega
          | false =>
            have h1 : rest.size = 0 := by simp only [Bool.false_eq_true, if_false] at hf; omega
            rw [h1] at hc; simp at hc
        | succ fuel =>
          rw [goM, if_neg (by rw [beq_empty, he]; decide)]
      · have hn : nblk first rest.size = nblk false (rest.size - 64) + 1 := by
          unfold nblk
          rw [if_neg (by omega)]
          split
          · omega
          · omega
        have he : (rest.extract (Nat.min rest.size 64) rest.size).size = rest.size - 64 := by rw [hext]; omega
        have hl : ((rest.extract (Nat.min rest.size 64) rest.size).toList == ByteArray.empty.toList) = false := by rw [beq_empty, he, beq_eq_false_iff_ne]; omega
        rw [hl, hn]
        have hpos : 0 < nblk false (rest.size - 64) := by unfold nblk; rw [if_neg (by omega)]; omega
        rw [rgoM, if_neg (by omega), decide_eq_false (by omega)]
        have hk : i + min rest.size 64 = i + 64 := by omega
        rw [hk]
        have ih := go_eq f fuel false (rest.extract (Nat.min rest.size 64) rest.size) (blockM h (mW fun j => f (i + j)) (BitVec.ofNat 32 (i + 64)) (BitVec.ofNat 32 ((i + 64) / 4294967296)) false) (i + 64)
          (by rw [he]; split at hf <;> simp <;> omega) (by rw [he]; omega) (fun j => by
            rw [Nat.add_assoc, hb]
            unfold byteAt
            rw [extract_ba, hmin]
            have e : min rest.size 64 = 64 := by omega
            rw [e, List.getD_eq_getElem?_getD, List.getD_eq_getElem?_getD, List.getElem?_take]
            split
            · rw [List.getElem?_drop]
            · rename_i hj
              rw [List.getElem?_eq_none (by rw [← size_ba]; omega)])
        rw [he] at ih
        rw [ih]
        have e1 : i + 64 + 64 * nblk false (rest.size - 64) = i + 64 * (nblk false (rest.size - 64) + 1) := by omega
        have e2 : i + 64 + (rest.size - 64) = i + rest.size := by omega
        rw [e1, e2]
    · rw [if_neg hc]
      have h0 : first = false ∧ rest.size = 0 := by
        rw [beq_empty] at hc
        simpa using hc
      have hn : nblk first rest.size = 0 := by unfold nblk; rw [h0.1, h0.2]; rfl
      rw [hn, rgoM]
theorem sum_eq (key text : ByteArray) (hk : key.size ≤ 32) (ht : text.size ≤ 140737488351232) : rsumM key text = sumM key text := by
  unfold rsumM sumM
  simp only
  by_cases h0 : key.size = 0
  · rw [if_pos (by rw [beq_empty, h0]; rfl)]
    have hc : cntM key text = text.size := by unfold cntM; rw [if_pos h0]; omega
    have := go_eq (msgF key text) (text.size + 2) true text (h0M key.size) 0 (by simp) (by omega) (fun j => by unfold msgF; rw [if_pos h0, Nat.zero_add])
    have hb : blksM (cntM key text) = nblk true text.size := by rw [hc]; rfl
    rw [hb, hc]
    rw [Nat.zero_add, Nat.zero_add] at this
    have e : ((0 : Nat) : Int) = 0 := rfl
    rw [e] at this
    rw [this]
  · rw [if_neg (by rw [beq_empty, beq_iff_eq]; exact h0)]
    have hc : cntM key text = 64 + text.size := by unfold cntM; rw [if_neg h0]
    have ht64 : tadd 0 64 = 64 := by rfl
    rw [ht64]
    have hmw : mW (byteAt key) = mW fun j => msgF key text (0 + j) := mW_congr fun j hj => by unfold msgF; rw [if_neg h0, Nat.zero_add, if_pos hj]
    have hb : blksM (cntM key text) = nblk false text.size + 1 := by
      rw [hc, nblk_false]; unfold blksM; rw [if_neg (by omega)]; omega
    have hlast : (text.toList == ByteArray.empty.toList) = decide (0 + 64 = 64 * (nblk false text.size + 1)) := by
      rw [beq_empty, Bool.eq_iff_iff, beq_iff_eq, decide_eq_true_eq, nblk_false]; omega
    rw [hb, hc, rgoM, hmw, hlast]
    have := go_eq (msgF key text) (text.size + 2) false text (blockM (h0M key.size) (mW fun j => msgF key text (0 + j)) (BitVec.ofNat 32 64) (BitVec.ofNat 32 (64 / 4294967296)) (decide (0 + 64 = 64 * (nblk false text.size + 1)))) 64 (by simp) (by omega) (fun j => by unfold msgF; rw [if_neg h0, if_neg (by omega), Nat.add_sub_cancel_left])
    rw [this]
    have e1 : (if 0 + 64 = 64 * (nblk false text.size + 1) then 64 + text.size else 0 + 64) = 64 := by
      rw [nblk_false]
      by_cases hz : text.size = 0
      · rw [hz]; rfl
      · rw [if_neg (by omega)]
    rw [e1]
    have e2 : 64 * (nblk false text.size + 1) = 64 + 64 * nblk false text.size := by omega
    rw [e2]
end Go.Bla

namespace Go.Sea
open Go Go.Eng Go.Proofs Go.Nest Go.RowKit Go.Memo
set_option linter.unusedVariables false
set_option linter.unusedSimpArgs false
set_option maxRecDepth 100000
set_option maxHeartbeats 4000000
theorem mSumR_ok : MoOK Tryd.prog Go.Bla.gl 25 mSumR := fun args H ret H' cs h hc => by
  unfold mSumR at h
  split at h
  · rename_i k t
    cases h
    have ht := hc.1
    have := Go.Bla.rsum_ok k t (by omega)
    unfold sumB
    by_cases hk : k.size ≤ 32
    · rw [if_pos hk] at this ⊢; rw [Go.Bla.sum_eq k t hk (by omega)] at this; rw [if_pos hk] at this; unfold sumE; rw [if_pos hk]; exact this
    · rw [if_neg hk] at this ⊢; rw [if_neg hk] at this; unfold sumE; rw [if_neg hk]; exact this
  · cases h
theorem B0_ok (q : ByteArray) (e : Int) : OrcOK Tryd.prog (B0 q e) := ((OrcOK.none Go.Bla.gl).add _ false _ (mNameR_ok q e).any).add _ false _ mSumR_ok
theorem tagR_ok (seed : ByteArray) (hs : seed.size ≤ 32) (g n : Int) (t : ByteArray) (ht : t.size ≤ 1073741824) : Eng.Spec Tryd.prog Go.Bla.gl 11 [.d (.raw (.string seed)), .d (.agg [.raw (.int .i64 g), .raw (.int .i64 n)]), .d (.raw (.string t))] [] (.tup [.d (.raw (.string (tagB seed g n t))), .d (.raw (.int .i64 (nameM g n).2))]) [] := by
  refine spec_fn Tryd.func11 rfl fun {w N E a} hsim => ?_
  obtain ⟨q, hq⟩ : ∃ q, q = (nameM g n).1 := ⟨_, rfl⟩
  obtain ⟨e, he⟩ : ∃ e, e = (nameM g n).2 := ⟨_, rfl⟩
  have hn := name_e g n
  rw [← he] at hn
  have nt : (e != (0 : Int)) = true → isM g n = false := fun h => by cases hi : isM g n with
    | false => rfl
    | true => rw [hi, if_pos rfl] at hn; rw [hn] at h; exact absurd h (by decide)
  have nf : (e != (0 : Int)) = false → isM g n = true := fun h => by cases hi : isM g n with
    | true => rfl
    | false => rw [hi, if_neg (by decide)] at hn; rw [hn] at h; exact absurd h (by decide)
  have e1' : (e != (0 : Int)) = true → e = 1 := fun h => by rw [nt h] at hn; simpa using hn
  have e0' : (e != (0 : Int)) = false → e = 0 := fun h => by simpa using h
  have hqs : q.size ≤ 1073741824 := by rw [hq]; exact Nat.le_trans (name_small g n) (by decide)
  have hz : (sumB (sumB seed q) t).size = 32 := by rw [hq]; exact tagS_size hs g n t
  have r1 : (e != (0 : Int)) = true → tagB seed g n t = ByteArray.mk #[] := fun h => by unfold tagB; rw [nt h]; rfl
  have r0 : (e != (0 : Int)) = false → tagB seed g n t = (sumB (sumB seed q) t).extract 0 16 := fun h => by unfold tagB tag16 tagS keyB; rw [nf h, if_pos rfl, hq]
  rcases Bool.eq_false_or_eq_true (e != (0 : Int)) with hb1 | hb1
  · skip
    exact go_ret (B0_ok q e) rfl rfl Tryd.func11 (sr' := ⟨0, [.tup [.d (.raw (.string (ByteArray.mk #[]))), .d (.raw (.int .i64 (e)))]], []⟩) (cs := [(q = (nameM g n).fst), (e = (nameM g n).snd), ((e != (0 : Int)) = true)]) [true] true (by kernel_rfl) (by kernel_rfl) ⟨(by first | rfl | exact hq | exact he | exact hqs | exact ht | omega), (by first | rfl | exact hq | exact he | exact hqs | exact ht | omega), hb1, trivial⟩ (by first | (rw [r1 hb1, ← he]; rfl) | (rw [r0 hb1, ← he, e0' hb1]; rfl)) hsim
  · skip
    exact go_ret (B0_ok q e) rfl rfl Tryd.func11 (sr' := ⟨0, [.tup [.d (.raw (.string ((sumB (sumB seed q) t).extract (0 : Nat) (16 : Nat)))), .d (.raw (.int .i64 ((0 : Int))))]], []⟩) (cs := [(q = (nameM g n).fst), (e = (nameM g n).snd), ((e != (0 : Int)) = false), (q.size ≤ (1073741824 : Nat)), (t.size ≤ (1073741824 : Nat)), ((0 : Int) ≤ (0 : Int) ∧ (0 : Int) ≤ (16 : Int) ∧ (16 : Int) ≤ (↑(sumB (sumB seed q) t).size : Int))]) [false] true (by kernel_rfl) (by kernel_rfl) ⟨(by first | rfl | exact hq | exact he | exact hqs | exact ht | omega), (by first | rfl | exact hq | exact he | exact hqs | exact ht | omega), hb1, (by first | rfl | exact hq | exact he | exact hqs | exact ht | omega), (by first | rfl | exact hq | exact he | exact hqs | exact ht | omega), (by first | rfl | exact hq | exact he | exact hqs | exact ht | omega), trivial⟩ (by first | (rw [r1 hb1, ← he]; rfl) | (rw [r0 hb1, ← he, e0' hb1]; rfl)) hsim
theorem mTagR_ok (z : ByteArray) (e : Int) : MoOK Tryd.prog Go.Bla.gl 11 (mTagR z e) := fun args H ret H' cs h hc => by
  unfold mTagR at h
  split at h
  · cases h; obtain ⟨⟨hs, ht⟩, rfl, rfl, -⟩ := hc; exact tagR_ok _ hs _ _ _ ht
  · cases h
theorem checkR_ok (seed : ByteArray) (hs : seed.size ≤ 32) (g n : Int) (t tag : ByteArray) (ht : t.size ≤ 1073741824) : Eng.Spec Tryd.prog Go.Bla.gl 14 [.d (.raw (.string seed)), .d (.agg [.raw (.int .i64 g), .raw (.int .i64 n)]), .d (.raw (.string t)), .d (.raw (.string tag))] [] (.d (.raw (.int .i64 (chkS seed g n t tag)))) [] := by
  refine spec_fn Tryd.func14 rfl fun {w N E a} hsim => ?_
  obtain ⟨z, hz⟩ : ∃ z, z = tagB seed g n t := ⟨_, rfl⟩
  obtain ⟨e, he⟩ : ∃ e, e = (nameM g n).2 := ⟨_, rfl⟩
  have hn := name_e g n
  rw [← he] at hn
  have nt : (e != (0 : Int)) = true → isM g n = false := fun h => by cases hi : isM g n with
    | false => rfl
    | true => rw [hi, if_pos rfl] at hn; rw [hn] at h; exact absurd h (by decide)
  have nf : (e != (0 : Int)) = false → isM g n = true := fun h => by cases hi : isM g n with
    | true => rfl
    | false => rw [hi, if_neg (by decide)] at hn; rw [hn] at h; exact absurd h (by decide)
  have e1' : (e != (0 : Int)) = true → e = 1 := fun h => by rw [nt h] at hn; simpa using hn
  have e0' : (e != (0 : Int)) = false → e = 0 := fun h => by simpa using h
  have zt : isM g n = true → z = tag16 seed g n t := fun h => by rw [hz]; unfold tagB; rw [h]; rfl
  have r1 : (e != (0 : Int)) = true → chkS seed g n t tag = e := fun h => by unfold chkS; rw [nt h, e1' h]; rfl
  have r2 : (e != (0 : Int)) = false → (!z.toList == tag.toList) = true → chkS seed g n t tag = 30 := fun h h' => by
    rw [beq_ba] at h'; unfold chkS; rw [nf h, if_pos rfl, if_neg]; intro h2; rw [zt (nf h), h2] at h'; simp at h'
  have r3 : (e != (0 : Int)) = false → (!z.toList == tag.toList) = false → chkS seed g n t tag = 0 := fun h h' => by
    rw [beq_ba] at h'; unfold chkS; rw [nf h, if_pos rfl, if_pos]; rw [← zt (nf h)]; exact (show z = tag by simpa using h').symm
  rcases Bool.eq_false_or_eq_true (e != (0 : Int)) with hb1 | hb1
  · skip
    exact go_ret ((OrcOK.none Go.Bla.gl).add _ false _ (mTagR_ok z e)) rfl rfl Tryd.func14 (sr' := ⟨0, [.d (.raw (.int .i64 (e)))], []⟩) (cs := [(seed.size ≤ (32 : Nat) ∧ t.size ≤ (1073741824 : Nat)), (z = tagB seed g n t), (e = (nameM g n).snd), ((e != (0 : Int)) = true)]) [true] true (by kernel_rfl) (by kernel_rfl) ⟨(by first | rfl | exact hz | exact he | exact ⟨hs, ht⟩), (by first | rfl | exact hz | exact he | exact ⟨hs, ht⟩), (by first | rfl | exact hz | exact he | exact ⟨hs, ht⟩), hb1, trivial⟩ (by first | (rw [r1 hb1]; done) | (rw [r2 hb1 hb2]; done) | (rw [r3 hb1 hb2]; done) | (rw [r1 hb1]; rfl) | (rw [r2 hb1 hb2]; rfl) | (rw [r3 hb1 hb2]; rfl)) hsim
  · skip
    rcases Bool.eq_false_or_eq_true (!z.toList == tag.toList) with hb2 | hb2
    · skip
      exact go_ret ((OrcOK.none Go.Bla.gl).add _ false _ (mTagR_ok z e)) rfl rfl Tryd.func14 (sr' := ⟨0, [.d (.raw (.int .i64 ((30 : Int))))], []⟩) (cs := [(seed.size ≤ (32 : Nat) ∧ t.size ≤ (1073741824 : Nat)), (z = tagB seed g n t), (e = (nameM g n).snd), ((e != (0 : Int)) = false), ((!z.toList == tag.toList) = true)]) [false, true] true (by kernel_rfl) (by kernel_rfl) ⟨(by first | rfl | exact hz | exact he | exact ⟨hs, ht⟩), (by first | rfl | exact hz | exact he | exact ⟨hs, ht⟩), (by first | rfl | exact hz | exact he | exact ⟨hs, ht⟩), hb1, hb2, trivial⟩ (by first | (rw [r1 hb1]; done) | (rw [r2 hb1 hb2]; done) | (rw [r3 hb1 hb2]; done) | (rw [r1 hb1]; rfl) | (rw [r2 hb1 hb2]; rfl) | (rw [r3 hb1 hb2]; rfl)) hsim
    · skip
      exact go_ret ((OrcOK.none Go.Bla.gl).add _ false _ (mTagR_ok z e)) rfl rfl Tryd.func14 (sr' := ⟨0, [.d (.raw (.int .i64 ((0 : Int))))], []⟩) (cs := [(seed.size ≤ (32 : Nat) ∧ t.size ≤ (1073741824 : Nat)), (z = tagB seed g n t), (e = (nameM g n).snd), ((e != (0 : Int)) = false), ((!z.toList == tag.toList) = false)]) [false, false] true (by kernel_rfl) (by kernel_rfl) ⟨(by first | rfl | exact hz | exact he | exact ⟨hs, ht⟩), (by first | rfl | exact hz | exact he | exact ⟨hs, ht⟩), (by first | rfl | exact hz | exact he | exact ⟨hs, ht⟩), hb1, hb2, trivial⟩ (by first | (rw [r1 hb1]; done) | (rw [r2 hb1 hb2]; done) | (rw [r3 hb1 hb2]; done) | (rw [r1 hb1]; rfl) | (rw [r2 hb1 hb2]; rfl) | (rw [r3 hb1 hb2]; rfl)) hsim
end Go.Sea
