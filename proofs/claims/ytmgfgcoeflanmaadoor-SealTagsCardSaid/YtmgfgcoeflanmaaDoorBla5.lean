/-
  Contracts of given functions, or plain laws that they need. No condition.
-/
import Derived.Test.YtmgfgcoeflanmaaDoorBla4
import Derived.Test.YtmgfgcoeflanmaaDoorBlaG
namespace Go.Bla
open Go Go.Eng Go.Proofs
set_option linter.unusedVariables false
set_option linter.unusedSimpArgs false
set_option maxRecDepth 100000
set_option maxHeartbeats 4000000
theorem O4_ok : OrcOK Tryd.prog O4 := O3_ok.add _ false mTurn fun args H r H' cs h hc => by
  unfold mTurn at h
  split at h
  · rename_i row at_ ap T cs U ds
    split at h
    · rename_i ns ms hns hms
      have key : ∀ (l : List W), l.length = 16 → words l = outW l := fun l hl => outW_eq hl
      split at h
      · rename_i h1
        simp only [Bool.and_eq_true, beq_iff_eq] at h1
        obtain ⟨rfl, rfl⟩ := h1
        cases h
        obtain ⟨h1, h2, h3, h4, h5, _⟩ := hc
        rw [words_of hns h1, words_of hms h3, ← key _ (by rw [len_colM]; simpa using h2)]
        exact turn0_ok _ _ (by simpa using h2) (by simpa using h4) T U row h5
      · rename_i h1 h0
        simp only [Bool.and_eq_true, beq_iff_eq] at h1
        obtain ⟨rfl, rfl⟩ := h1
        cases h
        obtain ⟨h1, h2, h3, h4, h5, _⟩ := hc
        rw [words_of hns h1, words_of hms h3, ← key _ (by rw [len_diaM]; simpa using h2)]
        exact turn1_ok _ _ (by simpa using h2) (by simpa using h4) T U row h5
      · cases h
    · cases h
  · cases h
end Go.Bla
