/-
  Contracts of given functions, or plain laws that they need. No condition.
-/
import Derived.Test.YtbppcjkpkelbfaaDoorBlaG
import Derived.Test.YtbppcjkpkelbfaaDoorBla1
import Derived.Test.YtbppcjkpkelbfaaDoorProg
import Derived.Test.YtbppcjkpkelbfaaDoorBla9
import Derived.Test.YtbppcjkpkelbfaaDoorRowU
namespace Go.Bla
open Go Go.Eng
set_option linter.unusedVariables false
end Go.Bla

namespace Go.Bla
open Go Go.Eng
set_option linter.unusedVariables false
end Go.Bla

namespace Go.Bla
open Go Go.Eng Go.Proofs
set_option linter.unusedVariables false
set_option linter.unusedSimpArgs false
set_option maxRecDepth 100000
set_option maxHeartbeats 4000000
end Go.Bla

namespace Go.Bla
open Go Go.Eng Go.Proofs
set_option linter.unusedVariables false
set_option linter.unusedSimpArgs false
set_option maxRecDepth 100000
set_option maxHeartbeats 4000000
end Go.Bla

namespace Go.Bla
open Go Go.Eng
set_option linter.unusedVariables false
def u8 (f : Nat → Int) (i : Nat) : D := .raw (.int .u8 (f i))
end Go.Bla

namespace Go.Bla
open Go Go.Eng Go.Proofs
set_option linter.unusedVariables false
set_option linter.unusedSimpArgs false
set_option maxRecDepth 100000
set_option maxHeartbeats 4000000
end Go.Bla

namespace Go.Bla
open Go Go.Eng Go.Proofs
set_option linter.unusedVariables false
set_option linter.unusedSimpArgs false
set_option maxRecDepth 100000
set_option maxHeartbeats 4000000
end Go.Bla

namespace Go.Bla
open Go Go.Eng
set_option linter.unusedVariables false
end Go.Bla

namespace Go.Plc
open Go Go.Eng Go.Proofs Go.RowKit
set_option linter.unusedVariables false
set_option linter.unusedSimpArgs false
set_option maxRecDepth 100000
set_option maxHeartbeats 4000000
theorem outM_size (h : List Go.Bla.W) : (Go.Bla.outM h).size = 32 := by unfold Go.Bla.outM; rfl
theorem sumM_size (k t : ByteArray) : (Go.Bla.sumM k t).size = 32 := by
  unfold Go.Bla.sumM; simp only; split <;> exact outM_size _
abbrev MoOK (P : Program) (gl : Nat → Option (List D)) (f : FuncId) (mo : Mo) : Prop := ∀ args H r H' cs, mo args H = some (r, H', cs) → Conds cs → Eng.Spec P gl f args H r H'
theorem mSumV_ok (q : ByteArray) : MoOK Tryd.prog Go.Bla.gl 54 (mSumV q) := fun args H ret H' cs h hc => by
  unfold mSumV at h
  split at h
  · cases h
    obtain ⟨rfl, rfl, -⟩ := hc
    exact Go.Bla.sum_ok ByteArray.empty _
  · cases h
theorem X0_ok (q : ByteArray) : OrcOK Tryd.prog (X0 q) := (OrcOK.none _).add _ false _ (mSumV_ok q)
theorem plc_bd (key : ByteArray) : 0 ≤ plc key ∧ plc key < 4 := by unfold plc; omega
theorem wrapP {x : Int} (h : -9223372036854775808 ≤ x ∧ x < 9223372036854775808) : IntKind.i64.wrap x = x := by rw [Go.Nest.wrapE]; omega
theorem place_ok (key : ByteArray) (hk : key.size ≤ 1073741824) : Eng.Spec Tryd.prog Go.Bla.gl 34 [.d (.raw (.string (key)))] [] (.d (.raw (.int .i64 (plc key)))) [] := by
  refine spec_fn Tryd.func34 rfl fun {w N E act} hsim => ?_
  obtain ⟨q, hq⟩ : ∃ q, q = Go.Bla.sumM ByteArray.empty key := ⟨_, rfl⟩
  have hz : q.size = 32 := by rw [hq]; exact sumM_size _ _
  have hb := byteAt_lt q 0
  have hr : plc key = (IntKind.i64.wrap (byteAt q 0)).tmod 4 := by unfold plc; rw [← hq, wrapP (by omega), Int.tmod_eq_emod_of_nonneg hb.1]
  exact go_ret (X0_ok q) rfl rfl Tryd.func34 (sr' := ⟨0, [.d (.raw (.int .i64 ((IntKind.i64.wrap (byteAt q (0 : Nat))).tmod (4 : Int))))], []⟩) (cs := [(ByteArray.mk #[] = ByteArray.empty), (q = Bla.sumM (ByteArray.mk #[]) key), (key.size ≤ (1073741824 : Nat)), ((0 : Int) ≤ (0 : Int) ∧ (0 : Int) < (↑q.size : Int)), (Nz 4)]) [] true (by kernel_rfl) (by kernel_rfl) ⟨(by first | rfl | exact hq | exact hk | (rw [hz]; decide) | decide), (by first | rfl | exact hq | exact hk | (rw [hz]; decide) | decide), (by first | rfl | exact hq | exact hk | (rw [hz]; decide) | decide), (by first | rfl | exact hq | exact hk | (rw [hz]; decide) | decide), (by decide), trivial⟩ (by (rw [hr]; rfl)) hsim
end Go.Plc
