/-
  Contracts of given functions, or plain laws that they need. No condition.
-/
import Derived.Test.YtbnfeabagcnacaaDoorMemM
import Derived.Test.YtbnfeabagcnacaaDoorUnpT
import Derived.Test.YtbnfeabagcnacaaDoorPackG
import Derived.Test.YtbnfeabagcnacaaDoorRowK
namespace Go.Memo
open Go Go.Eng Go.Proofs Go.Nest Go.RowKit
set_option linter.unusedVariables false
theorem mNumP_ok : MoOK Tryd.prog glP 31 mNum := fun args H ret H' cs h hc => by
  unfold mNum at h
  split at h
  · cases h; exact numP_ok _ hc.1
  · cases h
theorem mPackP_ok (q : ByteArray) : MoOK Tryd.prog glP 32 (mPackV q) := fun args H ret H' cs h hc => by
  unfold mPackV at h
  split at h
  · cases h; obtain ⟨⟨r, hr, he, rfl, hz⟩, -⟩ := hc; exact packP_ok _ _ r hr he hz
  · cases h
theorem mNum_ok (m : Int) (e1 e2 : Value) (h1 : ErrV e1) (h2 : ErrV e2) : MoOK Tryd.prog (glU m e1 e2) 31 mNum := mNumP_ok.up (pU m e1 e2)
theorem mPackV_ok (m : Int) (e1 e2 : Value) (h1 : ErrV e1) (h2 : ErrV e2) (q : ByteArray) : MoOK Tryd.prog (glU m e1 e2) 32 (mPackV q) := (mPackP_ok q).up (pU m e1 e2)
theorem mUnpV_ok (m : Int) (e1 e2 : Value) (h1 : ErrV e1) (h2 : ErrV e2) (r : List ByteArray) (f : Int) : MoOK Tryd.prog (glU m e1 e2) 34 (mUnpV r f) := fun args H ret H' cs h hc => by
  unfold mUnpV at h
  split at h
  · cases h; obtain ⟨hs, rfl, rfl, -⟩ := hc; exact unpack_ok m e1 e2 h1 h2 _ hs
  · cases h
theorem mToNum_ok (m : Int) (e1 e2 : Value) (h1 : ErrV e1) (h2 : ErrV e2) : MoOK Tryd.prog (glU m e1 e2) 35 mToNum := fun args H ret H' cs h hc => by
  unfold mToNum at h
  split at h
  · cases h; exact toNum_ok m e1 e2 h1 h2 _ hc.1
  · cases h
theorem unp_sub {s : ByteArray} (hs : s.size ≤ 1073741824) {i : Nat} (hi : i < (unpR s).1.length) : ((unpR s).1.getD i ByteArray.empty).size ≤ 1073741824 := by
  have h0 : (unpR s).2 = 0 := by
    apply Classical.byContradiction; intro h
    have : (unpR s).1 = [] := by unfold unpR at h ⊢; split at h <;> first | (exact absurd rfl h) | rfl
    rw [this] at hi; exact absurd hi (by simp)
  have h1 : (unpR s).1.getD i ByteArray.empty ∈ (unpR s).1 := by rw [List.getD_eq_getElem?_getD, List.getElem?_eq_getElem hi]; exact List.getElem_mem hi
  have := unp_mem h0 _ h1; omega
end Go.Memo
