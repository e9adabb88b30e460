/-
  Contracts of given functions, or plain laws that they need. No condition.
-/
import Derived.Test.YtmgfgcoeflanmaaDoorBlaG
import Derived.Test.YtmgfgcoeflanmaaDoorProg
namespace Go.Bla
open Go Go.Eng Go.Proofs
set_option linter.unusedVariables false
set_option maxRecDepth 100000
theorem rot_ok (x : W) (k : Int) (n : Nat) (hk : (k = -16 ∧ n = 16) ∨ (k = -12 ∧ n = 12) ∨ (k = -8 ∧ n = 8) ∨ (k = -7 ∧ n = 7)) : Eng.Spec Tryd.prog gl 74 [av x, .d (I k)] [] (av (x.rotateRight n)) [] := by
  refine spec_fn Tryd.func74 rfl fun {w N E a} hsim => ?_
  exact go_ret (OrcOK.none gl) rfl rfl Tryd.func74 (sr' := ⟨0, [.d (.raw (.int .u32 (IntKind.u32.wrap (↑(BitVec.ofInt (32 : Nat) (IntKind.u32.wrap ((↑(BitVec.toNat x) : Int) * (2 : Int) ^ min (IntKind.u64.wrap (↑(BitVec.ofInt (64 : Nat) (IntKind.u64.wrap k) &&& BitVec.ofInt (64 : Nat) (31 : Int)).toNat : Int)).toNat (32 : Nat))) ||| BitVec.ofInt (32 : Nat) ((↑(BitVec.toNat x) : Int).fdiv ((2 : Int) ^ min (IntKind.u64.wrap ((32 : Int) - IntKind.u64.wrap (↑(BitVec.ofInt (64 : Nat) (IntKind.u64.wrap k) &&& BitVec.ofInt (64 : Nat) (31 : Int)).toNat : Int))).toNat (32 : Nat)))).toNat : Int))))], []⟩) (cs := [((0 : Int) ≤ IntKind.u64.wrap (↑(BitVec.ofInt (64 : Nat) (IntKind.u64.wrap k) &&& BitVec.ofInt (64 : Nat) (31 : Int)).toNat : Int)), ((0 : Int) ≤ IntKind.u64.wrap ((32 : Int) - IntKind.u64.wrap (↑(BitVec.ofInt (64 : Nat) (IntKind.u64.wrap k) &&& BitVec.ofInt (64 : Nat) (31 : Int)).toNat : Int)))]) [] true (by kernel_rfl) (by kernel_rfl) ⟨(by rw [wrap_u64]; omega), (by rw [wrap_u64]; omega), trivial⟩ (by rcases hk with ⟨rfl, rfl⟩ | ⟨rfl, rfl⟩ | ⟨rfl, rfl⟩ | ⟨rfl, rfl⟩ <;> exact Eq.trans (by kernel_rfl) (congrArg (fun z => (⟨0, [.d (.raw (.int .u32 z))], []⟩ : St)) (rot_eq x _ (by decide)))) hsim
theorem O1_ok : OrcOK Tryd.prog O1 := (OrcOK.none gl).add _ false mRot fun args H r H' cs h hc => by
  unfold mRot at h
  split at h
  · rename_i x k
    cases h
    obtain ⟨h1, h2, _⟩ := hc
    have := rot_ok (unw x) k (-k).toNat (by omega)
    refine this.args fun hv => VAs_imp_cons (fun v hx => ?_) (fun vs h => VAs_imp_cons (fun v hx => ?_) (fun _ h => h) h) hv
    · rw [h1] at hx; exact hx
    · exact hx
  · cases h
theorem half_ok (a b c d w' : W) (p q : Int) (hpq : (p = 16 ∧ q = 12) ∨ (p = 8 ∧ q = 7)) : Eng.Spec Tryd.prog gl 63 [.d (lane (a, b, c, d)), av w', .d (I p), .d (I q)] [] (.d (lane (half a b c d w' p.toNat q.toNat))) [] := by
  refine spec_fn Tryd.func63 rfl fun {w N E a0} hsim => ?_
  exact go_ret O1_ok rfl rfl Tryd.func63 (sr' := ⟨0, [.d (.agg [.raw (.int .u32 (IntKind.u32.wrap (IntKind.u32.wrap ((↑(BitVec.toNat a) : Int) + (↑(BitVec.toNat b) : Int)) + (↑(BitVec.toNat w') : Int)))), .raw (.int .u32 ((↑(BitVec.rotateRight (unw (IntKind.u32.wrap (↑(BitVec.ofInt (32 : Nat) (↑(BitVec.toNat b) : Int) ^^^ BitVec.ofInt (32 : Nat) (IntKind.u32.wrap ((↑(BitVec.toNat c) : Int) + (↑(BitVec.rotateRight (unw (IntKind.u32.wrap (↑(BitVec.ofInt (32 : Nat) (↑(BitVec.toNat d) : Int) ^^^ BitVec.ofInt (32 : Nat) (IntKind.u32.wrap (IntKind.u32.wrap ((↑(BitVec.toNat a) : Int) + (↑(BitVec.toNat b) : Int)) + (↑(BitVec.toNat w') : Int)))).toNat : Int))) (-IntKind.i64.wrap ((0 : Int) - p)).toNat).toNat : Int)))).toNat : Int))) (-IntKind.i64.wrap ((0 : Int) - q)).toNat).toNat : Int))), .raw (.int .u32 (IntKind.u32.wrap ((↑(BitVec.toNat c) : Int) + (↑(BitVec.rotateRight (unw (IntKind.u32.wrap (↑(BitVec.ofInt (32 : Nat) (↑(BitVec.toNat d) : Int) ^^^ BitVec.ofInt (32 : Nat) (IntKind.u32.wrap (IntKind.u32.wrap ((↑(BitVec.toNat a) : Int) + (↑(BitVec.toNat b) : Int)) + (↑(BitVec.toNat w') : Int)))).toNat : Int))) (-IntKind.i64.wrap ((0 : Int) - p)).toNat).toNat : Int)))), .raw (.int .u32 ((↑(BitVec.rotateRight (unw (IntKind.u32.wrap (↑(BitVec.ofInt (32 : Nat) (↑(BitVec.toNat d) : Int) ^^^ BitVec.ofInt (32 : Nat) (IntKind.u32.wrap (IntKind.u32.wrap ((↑(BitVec.toNat a) : Int) + (↑(BitVec.toNat b) : Int)) + (↑(BitVec.toNat w') : Int)))).toNat : Int))) (-IntKind.i64.wrap ((0 : Int) - p)).toNat).toNat : Int)))])], []⟩) (cs := [(Ix 0 4), (Ix 1 4), (Ix 3 4), (IntKind.u32.wrap (↑(BitVec.ofInt (32 : Nat) (↑(BitVec.toNat d) : Int) ^^^ BitVec.ofInt (32 : Nat) (IntKind.u32.wrap (IntKind.u32.wrap ((↑(BitVec.toNat a) : Int) + (↑(BitVec.toNat b) : Int)) + (↑(BitVec.toNat w') : Int)))).toNat : Int) = (↑(BitVec.toNat (unw (IntKind.u32.wrap (↑(BitVec.ofInt (32 : Nat) (↑(BitVec.toNat d) : Int) ^^^ BitVec.ofInt (32 : Nat) (IntKind.u32.wrap (IntKind.u32.wrap ((↑(BitVec.toNat a) : Int) + (↑(BitVec.toNat b) : Int)) + (↑(BitVec.toNat w') : Int)))).toNat : Int)))) : Int)), (IntKind.i64.wrap ((0 : Int) - p) = (-16 : Int) ∨ IntKind.i64.wrap ((0 : Int) - p) = (-12 : Int) ∨ IntKind.i64.wrap ((0 : Int) - p) = (-8 : Int) ∨ IntKind.i64.wrap ((0 : Int) - p) = (-7 : Int)), (Ix 2 4), (Ix 1 4), (IntKind.u32.wrap (↑(BitVec.ofInt (32 : Nat) (↑(BitVec.toNat b) : Int) ^^^ BitVec.ofInt (32 : Nat) (IntKind.u32.wrap ((↑(BitVec.toNat c) : Int) + (↑(BitVec.rotateRight (unw (IntKind.u32.wrap (↑(BitVec.ofInt (32 : Nat) (↑(BitVec.toNat d) : Int) ^^^ BitVec.ofInt (32 : Nat) (IntKind.u32.wrap (IntKind.u32.wrap ((↑(BitVec.toNat a) : Int) + (↑(BitVec.toNat b) : Int)) + (↑(BitVec.toNat w') : Int)))).toNat : Int))) (-IntKind.i64.wrap ((0 : Int) - p)).toNat).toNat : Int)))).toNat : Int) = (↑(BitVec.toNat (unw (IntKind.u32.wrap (↑(BitVec.ofInt (32 : Nat) (↑(BitVec.toNat b) : Int) ^^^ BitVec.ofInt (32 : Nat) (IntKind.u32.wrap ((↑(BitVec.toNat c) : Int) + (↑(BitVec.rotateRight (unw (IntKind.u32.wrap (↑(BitVec.ofInt (32 : Nat) (↑(BitVec.toNat d) : Int) ^^^ BitVec.ofInt (32 : Nat) (IntKind.u32.wrap (IntKind.u32.wrap ((↑(BitVec.toNat a) : Int) + (↑(BitVec.toNat b) : Int)) + (↑(BitVec.toNat w') : Int)))).toNat : Int))) (-IntKind.i64.wrap ((0 : Int) - p)).toNat).toNat : Int)))).toNat : Int)))) : Int)), (IntKind.i64.wrap ((0 : Int) - q) = (-16 : Int) ∨ IntKind.i64.wrap ((0 : Int) - q) = (-12 : Int) ∨ IntKind.i64.wrap ((0 : Int) - q) = (-8 : Int) ∨ IntKind.i64.wrap ((0 : Int) - q) = (-7 : Int))]) ((List.replicate 5 true)) true (by kernel_rfl) (by kernel_rfl) ⟨(by decide), (by decide), (by decide), (by (first | (simp only [add_eq, xor_eq, unw_w]; done) | (rcases hpq with ⟨rfl, rfl⟩ | ⟨rfl, rfl⟩ <;> decide))), (by (first | (simp only [add_eq, xor_eq, unw_w]; done) | (rcases hpq with ⟨rfl, rfl⟩ | ⟨rfl, rfl⟩ <;> decide))), (by decide), (by decide), (by (first | (simp only [add_eq, xor_eq, unw_w]; done) | (rcases hpq with ⟨rfl, rfl⟩ | ⟨rfl, rfl⟩ <;> decide))), (by (first | (simp only [add_eq, xor_eq, unw_w]; done) | (rcases hpq with ⟨rfl, rfl⟩ | ⟨rfl, rfl⟩ <;> decide))), trivial⟩ (by rcases hpq with ⟨rfl, rfl⟩ | ⟨rfl, rfl⟩ <;> simp only [add_eq, xor_eq, unw_w] <;> rfl) hsim
theorem O2_ok : OrcOK Tryd.prog O2 := O1_ok.add _ false mHalf fun args H r H' cs h hc => by
  unfold mHalf at h
  split at h
  · rename_i a b c d w p q
    cases h
    obtain ⟨h1, h2, h3, h4, h5, h6, _⟩ := hc
    have := half_ok (unw a) (unw b) (unw c) (unw d) (unw w) p q h6
    refine this.args fun hv => ?_
    rw [h1, h2, h3, h4, h5] at hv
    exact hv
  · cases h
end Go.Bla

namespace Go.Bla
open Go Go.Eng Go.Proofs
set_option linter.unusedVariables false
set_option maxRecDepth 100000
set_option maxHeartbeats 4000000
theorem nib_of {row : ByteArray} {j : Nat} (h : HexRow row) (hj : j < 16) : (decide (IntKind.u8.wrap (byteAt row j - 48) > 9) = true → (IntKind.u8.wrap (IntKind.u8.wrap (byteAt row j - 97) + 10)).toNat = nib row j ∧ 0 ≤ IntKind.u8.wrap (IntKind.u8.wrap (byteAt row j - 97) + 10) ∧ IntKind.u8.wrap (IntKind.u8.wrap (byteAt row j - 97) + 10) < 16) ∧
    (decide (IntKind.u8.wrap (byteAt row j - 48) > 9) = false → (IntKind.u8.wrap (byteAt row j - 48)).toNat = nib row j ∧ 0 ≤ IntKind.u8.wrap (byteAt row j - 48) ∧ IntKind.u8.wrap (byteAt row j - 48) < 16) := by
  have := h.2 j hj
  unfold nib
  simp only [wrap_u8, decide_eq_true_eq, decide_eq_false_iff_not]
  constructor
  · intro h1
    rw [if_pos h1]
    refine ⟨?_, by omega, by omega⟩
    have e : ((byteAt row j - 97) % 256 + 10) % 256 = (byteAt row j - 97) % 256 + 10 := by omega
    rw [e]; omega
  · intro h1
    rw [if_neg h1]
    refine ⟨rfl, by omega, by omega⟩
theorem getD_av (l : List W) (k : Nat) : (l.map fun x => (x.toNat : Int)).getD k 0 = ((l.getD k 0).toNat : Int) := by
  rw [List.getD_eq_getElem?_getD, List.getD_eq_getElem?_getD, List.getElem?_map]
  cases l[k]? <;> simp
theorem dig_ok (m0 m1 m2 m3 m4 m5 m6 m7 m8 m9 m10 m11 m12 m13 m14 m15 : W) (T : Nat) (row : ByteArray) (j : Int) (hr : HexRow row) (hj : 0 ≤ j ∧ j < 16) : Eng.Spec Tryd.prog gl 64 [.ref 0 0, .d (.raw (.string row)), .d (I j)] [(0, .obj T (words [m0, m1, m2, m3, m4, m5, m6, m7, m8, m9, m10, m11, m12, m13, m14, m15]))] (av ([m0, m1, m2, m3, m4, m5, m6, m7, m8, m9, m10, m11, m12, m13, m14, m15].getD (nib row j.toNat) 0)) [(0, .obj T (words [m0, m1, m2, m3, m4, m5, m6, m7, m8, m9, m10, m11, m12, m13, m14, m15]))] := by
  refine spec_fn Tryd.func64 rfl fun {w N E a0} hsim => ?_
  have hn := nib_of hr (j := j.toNat) (by omega)
  have hsz := hr.1
  have hg := fun k => getD_av [m0, m1, m2, m3, m4, m5, m6, m7, m8, m9, m10, m11, m12, m13, m14, m15] k
  simp only [List.map_cons, List.map_nil] at hg
  rcases Bool.eq_false_or_eq_true (decide (IntKind.u8.wrap (byteAt row j.toNat - (48 : Int)) > (9 : Int))) with hb1 | hb1
  · skip
    have q0_ : ((0 : Int) ≤ j ∧ j < (↑row.size : Int)) := (by first | omega | exact hr | (have := hn.1 ‹_›; omega) | (have := hn.2 ‹_›; omega))
    exact go_ret O2_ok rfl rfl Tryd.func64 (sr' := ⟨1, [.d (.raw (.int .u32 ([(↑(BitVec.toNat m0) : Int), (↑(BitVec.toNat m1) : Int), (↑(BitVec.toNat m2) : Int), (↑(BitVec.toNat m3) : Int), (↑(BitVec.toNat m4) : Int), (↑(BitVec.toNat m5) : Int), (↑(BitVec.toNat m6) : Int), (↑(BitVec.toNat m7) : Int), (↑(BitVec.toNat m8) : Int), (↑(BitVec.toNat m9) : Int), (↑(BitVec.toNat m10) : Int), (↑(BitVec.toNat m11) : Int), (↑(BitVec.toNat m12) : Int), (↑(BitVec.toNat m13) : Int), (↑(BitVec.toNat m14) : Int), (↑(BitVec.toNat m15) : Int)].getD (IntKind.u8.wrap (IntKind.u8.wrap (byteAt row j.toNat - (97 : Int)) + (10 : Int))).toNat (0 : Int))))], [(0, .obj (T) [.d (.raw (.int .u32 ((↑(BitVec.toNat m0) : Int)))), .d (.raw (.int .u32 ((↑(BitVec.toNat m1) : Int)))), .d (.raw (.int .u32 ((↑(BitVec.toNat m2) : Int)))), .d (.raw (.int .u32 ((↑(BitVec.toNat m3) : Int)))), .d (.raw (.int .u32 ((↑(BitVec.toNat m4) : Int)))), .d (.raw (.int .u32 ((↑(BitVec.toNat m5) : Int)))), .d (.raw (.int .u32 ((↑(BitVec.toNat m6) : Int)))), .d (.raw (.int .u32 ((↑(BitVec.toNat m7) : Int)))), .d (.raw (.int .u32 ((↑(BitVec.toNat m8) : Int)))), .d (.raw (.int .u32 ((↑(BitVec.toNat m9) : Int)))), .d (.raw (.int .u32 ((↑(BitVec.toNat m10) : Int)))), .d (.raw (.int .u32 ((↑(BitVec.toNat m11) : Int)))), .d (.raw (.int .u32 ((↑(BitVec.toNat m12) : Int)))), .d (.raw (.int .u32 ((↑(BitVec.toNat m13) : Int)))), .d (.raw (.int .u32 ((↑(BitVec.toNat m14) : Int)))), .d (.raw (.int .u32 ((↑(BitVec.toNat m15) : Int))))])]⟩) (cs := ((fun (c0 : Prop) => [c0, ((decide (IntKind.u8.wrap (byteAt row j.toNat - (48 : Int)) > (9 : Int))) = true), c0, ((0 : Int) ≤ IntKind.u8.wrap (IntKind.u8.wrap (byteAt row j.toNat - (97 : Int)) + (10 : Int)) ∧ IntKind.u8.wrap (IntKind.u8.wrap (byteAt row j.toNat - (97 : Int)) + (10 : Int)) < (16 : Int)), ((IntKind.u8.wrap (IntKind.u8.wrap (byteAt row j.toNat - (97 : Int)) + (10 : Int))).toNat < (16 : Nat))]) ((0 : Int) ≤ j ∧ j < (↑row.size : Int)))) [true, false] true (by kernel_rfl) (by kernel_rfl) ⟨q0_, hb1, q0_, (by first | omega | exact hr | (have := hn.1 ‹_›; omega) | (have := hn.2 ‹_›; omega)), (by first | omega | exact hr | (have := hn.1 ‹_›; omega) | (have := hn.2 ‹_›; omega)), trivial⟩ (by first | (rw [(hn.1 hb1).1, hg]; rfl) | (rw [(hn.2 hb1).1, hg]; rfl)) hsim
  · skip
    exact go_ret O2_ok rfl rfl Tryd.func64 (sr' := ⟨1, [.d (.raw (.int .u32 ([(↑(BitVec.toNat m0) : Int), (↑(BitVec.toNat m1) : Int), (↑(BitVec.toNat m2) : Int), (↑(BitVec.toNat m3) : Int), (↑(BitVec.toNat m4) : Int), (↑(BitVec.toNat m5) : Int), (↑(BitVec.toNat m6) : Int), (↑(BitVec.toNat m7) : Int), (↑(BitVec.toNat m8) : Int), (↑(BitVec.toNat m9) : Int), (↑(BitVec.toNat m10) : Int), (↑(BitVec.toNat m11) : Int), (↑(BitVec.toNat m12) : Int), (↑(BitVec.toNat m13) : Int), (↑(BitVec.toNat m14) : Int), (↑(BitVec.toNat m15) : Int)].getD (IntKind.u8.wrap (byteAt row j.toNat - (48 : Int))).toNat (0 : Int))))], [(0, .obj (T) [.d (.raw (.int .u32 ((↑(BitVec.toNat m0) : Int)))), .d (.raw (.int .u32 ((↑(BitVec.toNat m1) : Int)))), .d (.raw (.int .u32 ((↑(BitVec.toNat m2) : Int)))), .d (.raw (.int .u32 ((↑(BitVec.toNat m3) : Int)))), .d (.raw (.int .u32 ((↑(BitVec.toNat m4) : Int)))), .d (.raw (.int .u32 ((↑(BitVec.toNat m5) : Int)))), .d (.raw (.int .u32 ((↑(BitVec.toNat m6) : Int)))), .d (.raw (.int .u32 ((↑(BitVec.toNat m7) : Int)))), .d (.raw (.int .u32 ((↑(BitVec.toNat m8) : Int)))), .d (.raw (.int .u32 ((↑(BitVec.toNat m9) : Int)))), .d (.raw (.int .u32 ((↑(BitVec.toNat m10) : Int)))), .d (.raw (.int .u32 ((↑(BitVec.toNat m11) : Int)))), .d (.raw (.int .u32 ((↑(BitVec.toNat m12) : Int)))), .d (.raw (.int .u32 ((↑(BitVec.toNat m13) : Int)))), .d (.raw (.int .u32 ((↑(BitVec.toNat m14) : Int)))), .d (.raw (.int .u32 ((↑(BitVec.toNat m15) : Int))))])]⟩) (cs := [((0 : Int) ≤ j ∧ j < (↑row.size : Int)), ((decide (IntKind.u8.wrap (byteAt row j.toNat - (48 : Int)) > (9 : Int))) = false), ((0 : Int) ≤ IntKind.u8.wrap (byteAt row j.toNat - (48 : Int)) ∧ IntKind.u8.wrap (byteAt row j.toNat - (48 : Int)) < (16 : Int)), ((IntKind.u8.wrap (byteAt row j.toNat - (48 : Int))).toNat < (16 : Nat))]) [false, false] true (by kernel_rfl) (by kernel_rfl) ⟨(by first | omega | exact hr | (have := hn.1 ‹_›; omega) | (have := hn.2 ‹_›; omega)), hb1, (by first | omega | exact hr | (have := hn.1 ‹_›; omega) | (have := hn.2 ‹_›; omega)), (by first | omega | exact hr | (have := hn.1 ‹_›; omega) | (have := hn.2 ‹_›; omega)), trivial⟩ (by first | (rw [(hn.1 hb1).1, hg]; rfl) | (rw [(hn.2 hb1).1, hg]; rfl)) hsim
theorem O3_ok : OrcOK Tryd.prog O3 := O2_ok.add _ false mDig fun args H r H' cs h hc => by
  unfold mDig at h
  split at h
  · rename_i row j T cs
    split at h
    · rename_i ns hns
      cases h
      obtain ⟨h1, h2, h3, h4, _⟩ := hc
      rw [words_of hns h1]
      generalize hm : ns.map unw = m at *
      have hl : m.length = 16 := by rw [← hm]; simpa using h2
      match m, hl with
      | [m0, m1, m2, m3, m4, m5, m6, m7, m8, m9, m10, m11, m12, m13, m14, m15], _ => exact dig_ok m0 m1 m2 m3 m4 m5 m6 m7 m8 m9 m10 m11 m12 m13 m14 m15 T row j h3 h4
    · cases h
  · cases h
end Go.Bla
