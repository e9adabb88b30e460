/-
  Contracts of given functions, or plain laws that they need. No condition.
-/
import Derived.Test.YtiolcanlleapjaaDoorBlaG
import Derived.Test.YtiolcanlleapjaaDoorProg
namespace Go.Bla
open Go Go.Eng Go.Proofs
set_option linter.unusedVariables false
set_option maxRecDepth 100000
theorem rot_ok (x : W) (k : Int) (n : Nat) (hk : (k = -16 ∧ n = 16) ∨ (k = -12 ∧ n = 12) ∨ (k = -8 ∧ n = 8) ∨ (k = -7 ∧ n = 7)) : Eng.Spec Tryd.prog gl 25 [av x, .d (I k)] [] (av (x.rotateRight n)) [] := by
  refine spec_fn Tryd.func25 rfl fun {w N E a} hsim => ?_
  exact go_ret (OrcOK.none gl) rfl rfl Tryd.func25 (sr' := ⟨0, [.d (.raw (.int .u32 (IntKind.u32.wrap (↑(BitVec.ofInt (32 : Nat) (IntKind.u32.wrap ((↑(BitVec.toNat x) : Int) * (2 : Int) ^ min (IntKind.u64.wrap (↑(BitVec.ofInt (64 : Nat) (IntKind.u64.wrap k) &&& BitVec.ofInt (64 : Nat) (31 : Int)).toNat : Int)).toNat (32 : Nat))) ||| BitVec.ofInt (32 : Nat) ((↑(BitVec.toNat x) : Int).fdiv ((2 : Int) ^ min (IntKind.u64.wrap ((32 : Int) - IntKind.u64.wrap (↑(BitVec.ofInt (64 : Nat) (IntKind.u64.wrap k) &&& BitVec.ofInt (64 : Nat) (31 : Int)).toNat : Int))).toNat (32 : Nat)))).toNat : Int))))], []⟩) (cs := [((0 : Int) ≤ IntKind.u64.wrap (↑(BitVec.ofInt (64 : Nat) (IntKind.u64.wrap k) &&& BitVec.ofInt (64 : Nat) (31 : Int)).toNat : Int)), ((0 : Int) ≤ IntKind.u64.wrap ((32 : Int) - IntKind.u64.wrap (↑(BitVec.ofInt (64 : Nat) (IntKind.u64.wrap k) &&& BitVec.ofInt (64 : Nat) (31 : Int)).toNat : Int)))]) [] true (by kernel_rfl) (by kernel_rfl) ⟨(by rw [wrap_u64]; omega), (by rw [wrap_u64]; omega), trivial⟩ (by rcases hk with ⟨rfl, rfl⟩ | ⟨rfl, rfl⟩ | ⟨rfl, rfl⟩ | ⟨rfl, rfl⟩ <;> exact Eq.trans (by kernel_rfl) (congrArg (fun z => (⟨0, [.d (.raw (.int .u32 z))], []⟩ : St)) (rot_eq x _ (by decide)))) hsim
theorem O1_ok : OrcOK Tryd.prog O1 := (OrcOK.none gl).add _ false mRot fun args H r H' cs h hc => by
  unfold mRot at h
  split at h
  · rename_i x k
    cases h
    obtain ⟨h1, h2, _⟩ := hc
    have := rot_ok (unw x) k (-k).toNat (by omega)
    refine this.args fun hv => VAs_imp_cons (fun v hx => ?_) (fun vs h => VAs_imp_cons (fun v hx => ?_) (fun _ h => h) h) hv
    · rw [h1] at hx; exact hx
    · exact hx
  · cases h
theorem half_ok (a b c d w' : W) (p q : Int) (hpq : (p = 16 ∧ q = 12) ∨ (p = 8 ∧ q = 7)) : Eng.Spec Tryd.prog gl 20 [.d (lane (a, b, c, d)), av w', .d (I p), .d (I q)] [] (.d (lane (half a b c d w' p.toNat q.toNat))) [] := by
  refine spec_fn Tryd.func20 rfl fun {w N E a0} hsim => ?_
  exact go_ret O1_ok rfl rfl Tryd.func20 (sr' := ⟨0, [.d (.agg [.raw (.int .u32 (IntKind.u32.wrap (IntKind.u32.wrap ((↑(BitVec.toNat a) : Int) + (↑(BitVec.toNat b) : Int)) + (↑(BitVec.toNat w') : Int)))), .raw (.int .u32 ((↑(BitVec.rotateRight (unw (IntKind.u32.wrap (↑(BitVec.ofInt (32 : Nat) (↑(BitVec.toNat b) : Int) ^^^ BitVec.ofInt (32 : Nat) (IntKind.u32.wrap ((↑(BitVec.toNat c) : Int) + (↑(BitVec.rotateRight (unw (IntKind.u32.wrap (↑(BitVec.ofInt (32 : Nat) (↑(BitVec.toNat d) : Int) ^^^ BitVec.ofInt (32 : Nat) (IntKind.u32.wrap (IntKind.u32.wrap ((↑(BitVec.toNat a) : Int) + (↑(BitVec.toNat b) : Int)) + (↑(BitVec.toNat w') : Int)))).toNat : Int))) (-IntKind.i64.wrap ((0 : Int) - p)).toNat).toNat : Int)))).toNat : Int))) (-IntKind.i64.wrap ((0 : Int) - q)).toNat).toNat : Int))), .raw (.int .u32 (IntKind.u32.wrap ((↑(BitVec.toNat c) : Int) + (↑(BitVec.rotateRight (unw (IntKind.u32.wrap (↑(BitVec.ofInt (32 : Nat) (↑(BitVec.toNat d) : Int) ^^^ BitVec.ofInt (32 : Nat) (IntKind.u32.wrap (IntKind.u32.wrap ((↑(BitVec.toNat a) : Int) + (↑(BitVec.toNat b) : Int)) + (↑(BitVec.toNat w') : Int)))).toNat : Int))) (-IntKind.i64.wrap ((0 : Int) - p)).toNat).toNat : Int)))), .raw (.int .u32 ((↑(BitVec.rotateRight (unw (IntKind.u32.wrap (↑(BitVec.ofInt (32 : Nat) (↑(BitVec.toNat d) : Int) ^^^ BitVec.ofInt (32 : Nat) (IntKind.u32.wrap (IntKind.u32.wrap ((↑(BitVec.toNat a) : Int) + (↑(BitVec.toNat b) : Int)) + (↑(BitVec.toNat w') : Int)))).toNat : Int))) (-IntKind.i64.wrap ((0 : Int) - p)).toNat).toNat : Int)))])], []⟩) (cs := [(Ix 0 4), (Ix 1 4), (Ix 3 4), (IntKind.u32.wrap (↑(BitVec.ofInt (32 : Nat) (↑(BitVec.toNat d) : Int) ^^^ BitVec.ofInt (32 : Nat) (IntKind.u32.wrap (IntKind.u32.wrap ((↑(BitVec.toNat a) : Int) + (↑(BitVec.toNat b) : Int)) + (↑(BitVec.toNat w') : Int)))).toNat : Int) = (↑(BitVec.toNat (unw (IntKind.u32.wrap (↑(BitVec.ofInt (32 : Nat) (↑(BitVec.toNat d) : Int) ^^^ BitVec.ofInt (32 : Nat) (IntKind.u32.wrap (IntKind.u32.wrap ((↑(BitVec.toNat a) : Int) + (↑(BitVec.toNat b) : Int)) + (↑(BitVec.toNat w') : Int)))).toNat : Int)))) : Int)), (IntKind.i64.wrap ((0 : Int) - p) = (-16 : Int) ∨ IntKind.i64.wrap ((0 : Int) - p) = (-12 : Int) ∨ IntKind.i64.wrap ((0 : Int) - p) = (-8 : Int) ∨ IntKind.i64.wrap ((0 : Int) - p) = (-7 : Int)), (Ix 2 4), (Ix 1 4), (IntKind.u32.wrap (↑(BitVec.ofInt (32 : Nat) (↑(BitVec.toNat b) : Int) ^^^ BitVec.ofInt (32 : Nat) (IntKind.u32.wrap ((↑(BitVec.toNat c) : Int) + (↑(BitVec.rotateRight (unw (IntKind.u32.wrap (↑(BitVec.ofInt (32 : Nat) (↑(BitVec.toNat d) : Int) ^^^ BitVec.ofInt (32 : Nat) (IntKind.u32.wrap (IntKind.u32.wrap ((↑(BitVec.toNat a) : Int) + (↑(BitVec.toNat b) : Int)) + (↑(BitVec.toNat w') : Int)))).toNat : Int))) (-IntKind.i64.wrap ((0 : Int) - p)).toNat).toNat : Int)))).toNat : Int) = (↑(BitVec.toNat (unw (IntKind.u32.wrap (↑(BitVec.ofInt (32 : Nat) (↑(BitVec.toNat b) : Int) ^^^ BitVec.ofInt (32 : Nat) (IntKind.u32.wrap ((↑(BitVec.toNat c) : Int) + (↑(BitVec.rotateRight (unw (IntKind.u32.wrap (↑(BitVec.ofInt (32 : Nat) (↑(BitVec.toNat d) : Int) ^^^ BitVec.ofInt (32 : Nat) (IntKind.u32.wrap (IntKind.u32.wrap ((↑(BitVec.toNat a) : Int) + (↑(BitVec.toNat b) : Int)) + (↑(BitVec.toNat w') : Int)))).toNat : Int))) (-IntKind.i64.wrap ((0 : Int) - p)).toNat).toNat : Int)))).toNat : Int)))) : Int)), (IntKind.i64.wrap ((0 : Int) - q) = (-16 : Int) ∨ IntKind.i64.wrap ((0 : Int) - q) = (-12 : Int) ∨ IntKind.i64.wrap ((0 : Int) - q) = (-8 : Int) ∨ IntKind.i64.wrap ((0 : Int) - q) = (-7 : Int))]) ((List.replicate 5 true)) true (by kernel_rfl) (by kernel_rfl) ⟨(by decide), (by decide), (by decide), (by (first | (simp only [add_eq, xor_eq, unw_w]; done) | (rcases hpq with ⟨rfl, rfl⟩ | ⟨rfl, rfl⟩ <;> decide))), (by (first | (simp only [add_eq, xor_eq, unw_w]; done) | (rcases hpq with ⟨rfl, rfl⟩ | ⟨rfl, rfl⟩ <;> decide))), (by decide), (by decide), (by (first | (simp only [add_eq, xor_eq, unw_w]; done) | (rcases hpq with ⟨rfl, rfl⟩ | ⟨rfl, rfl⟩ <;> decide))), (by (first | (simp only [add_eq, xor_eq, unw_w]; done) | (rcases hpq with ⟨rfl, rfl⟩ | ⟨rfl, rfl⟩ <;> decide))), trivial⟩ (by rcases hpq with ⟨rfl, rfl⟩ | ⟨rfl, rfl⟩ <;> simp only [add_eq, xor_eq, unw_w] <;> rfl) hsim
theorem O2_ok : OrcOK Tryd.prog O2 := O1_ok.add _ false mHalf fun args H r H' cs h hc => by
  unfold mHalf at h
  split at h
  · rename_i a b c d w p q
    cases h
    obtain ⟨h1, h2, h3, h4, h5, h6, _⟩ := hc
    have := half_ok (unw a) (unw b) (unw c) (unw d) (unw w) p q h6
    refine this.args fun hv => ?_
    rw [h1, h2, h3, h4, h5] at hv
    exact hv
  · cases h
end Go.Bla
