/-
  Contracts of given functions, or plain laws that they need. No condition.
-/
import Derived.Test.YtiolcanlleapjaaDoorRows
import Derived.Test.YtiolcanlleapjaaDoorRowU
namespace Go.Eng
open Go Go.Proofs.YtiolcanlleapjaaDoor
set_option linter.unusedVariables false
mutual
/-- What the second form's bound gives. -/
theorem Ty.bulk_le {H : Type} : ∀ (τ : Ty) (a : τ.Val) (d : DataW H), τ.Rel H a d → τ.bulk a ≤ Rows.uptoBulk d
  | .bool, a, d, h => by simp only [Ty.Rel] at h; subst h; simp [Ty.bulk, Rows.uptoBulk]
  | .int k, a, d, h => by simp only [Ty.Rel] at h; subst h; simp [Ty.bulk, Rows.uptoBulk]
  | .str, a, d, h => by
    simp only [Ty.Rel] at h; subst h
    simp only [Ty.bulk, Rows.uptoBulk]
    exact Nat.le_of_eq (congrArg (· + 1) (size_ba _))
  | .list e, l, d, h => by
    simp only [Ty.Rel] at h
    have each : ∀ (l : List e.Val) (es : List (DataW H)), l.length = es.length → (∀ i (h : i < es.length), e.Rel H (l.getD i e.dflt) es[i]) → (l.map fun x => e.bulk x).sum ≤ Rows.uptoBulkAll es := by
      intro l
      induction l with
      | nil => intro es _ _; simp
      | cons x xs ih =>
        intro es hl hr
        cases es with
        | nil => simp at hl
        | cons d ds =>
          have h1 := ih ds (by simpa using hl) fun i hi => by have := hr (i + 1) (by simpa using hi); simpa using this
          have h2 := Ty.bulk_le e x d (by have := hr 0 (by simp); simpa using this)
          simp only [List.map_cons, List.sum_cons, Rows.uptoBulkAll]; omega
    rcases h with ⟨rfl, rfl⟩ | ⟨es, rs, rfl, hl, hr⟩
    · simp [Ty.bulk, Rows.uptoBulk]
    · have := each l es hl hr
      simp only [Ty.bulk, Rows.uptoBulk]
      show (List.map (fun x => e.bulk x) l).sum + 1 ≤ _
      omega
  | .agg fs, x, d, h => by
    simp only [Ty.Rel] at h
    obtain ⟨ds, rfl, h⟩ := h
    have := Ty.bulks_le fs x ds h
    simp only [Ty.bulk, Rows.uptoBulk]
    omega
theorem Ty.bulks_le {H : Type} : ∀ (ts : List Ty) (a : Ty.Vals ts) (ds : List (DataW H)), Ty.Rels H ts a ds → Ty.bulks ts a ≤ Rows.uptoBulkAll ds
  | [], a, ds, h => by simp [Ty.bulks]
  | t :: ts, a, ds, h => by
    simp only [Ty.Rels] at h
    obtain ⟨d, ds', rfl, h1, h2⟩ := h
    have := Ty.bulk_le t a.1 d h1
    have := Ty.bulks_le ts a.2 ds' h2
    simp only [Ty.bulks, Rows.uptoBulkAll]
    omega
end
end Go.Eng
