/-
  Contracts of given functions, or plain laws that they need. No condition.
-/
import Derived.Test.YtmgfgcoeflanmaaDoorRowK
import Derived.SizedLaws
namespace Go.Eng
open Go
set_option linter.unusedVariables false
mutual
/-- Each string in a value is of a size that the first form lets in. -/
def Ty.strs : (t : Ty) → t.Val → Prop
  | .bool, _ => True
  | .int _, _ => True
  | .str, s => ByteArray.size s ≤ reachBytes
  | .list e, l => ∀ x, List.Mem x (l : List e.Val) → e.strs x
  | .agg fs, x => Ty.strss fs x
def Ty.strss : (ts : List Ty) → Ty.Vals ts → Prop
  | [], _ => True
  | t :: ts, x => t.strs x.1 ∧ Ty.strss ts x.2
end
theorem weights_all {H : Type} {P : Program} {e : TypeId} : ∀ {es : List (DataW H)} {d : DataW H}, d ∈ es → ∀ n ∈ d.weights P e, n ∈ DataW.weightsAll P e es
  | x :: r, d, hd, n, hn => by
    rw [DataW.weightsAll, List.mem_append]
    rcases List.mem_cons.1 hd with rfl | hd
    · exact .inl hn
    · exact .inr (weights_all hd n hn)
theorem mem_getD {α : Type} {l : List α} (d : α) {x : α} (h : List.Mem x l) : ∃ i, i < List.length (α := α) l ∧ List.getD (α := α) l i d = x := by
  obtain ⟨i, hi, rfl⟩ := List.getElem_of_mem (a := x) (l := l) h
  exact ⟨i, hi, by rw [List.getD, List.getElem?_eq_getElem hi]; rfl⟩
mutual
theorem Ty.sized {H : Type} {P : Program} : ∀ (τ : Ty) (t : TypeId) (a : τ.Val) (d : DataW H), τ.is P t = true → τ.Rel H a d → (∀ n ∈ d.weights P t, n ≤ reachBytes) → τ.strs a
  | .bool, _, _, _, _, _, _ => by unfold Ty.strs; trivial
  | .int _, _, _, _, _, _, _ => by unfold Ty.strs; trivial
  | .str, t, a, d, hi, hr, hw => by
    simp only [Ty.Rel] at hr
    subst hr
    unfold Ty.strs
    exact Nat.le_trans (Nat.le_of_eq (size_ba _)) (hw _ (by simp [DataW.weights]))
  | .list e, t, l, d, hi, hr, hw => by
    simp only [Ty.is] at hi
    split at hi
    · rename_i u hu
      simp only [Bool.and_eq_true] at hi
      simp only [Ty.Rel] at hr
      unfold Ty.strs
      rcases hr with ⟨rfl, rfl⟩ | ⟨es, rs, rfl, hl, hr⟩
      · intro x hx; cases hx
      · intro x hx
        obtain ⟨i, hi2, hx2⟩ := mem_getD (α := e.Val) (l := l) e.dflt hx
        have hi3 : i < es.length := hl ▸ hi2
        have h2 := hr i hi3
        rw [hx2] at h2
        refine Ty.sized e u _ es[i] hi.2 h2 fun n hn => hw n ?_
        simp only [DataW.weights, hu]
        exact List.mem_cons_of_mem _ (List.mem_append.2 (.inl (weights_all (List.getElem_mem hi3) n hn)))
    · cases hi
  | .agg fs, t, x, d, hi, hr, hw => by
    simp only [Ty.is] at hi
    split at hi
    · rename_i gs hu
      simp only [Bool.and_eq_true] at hi
      simp only [Ty.Rel] at hr
      obtain ⟨ds, rfl, hr⟩ := hr
      unfold Ty.strs
      refine Ty.sizeds fs gs.toList 0 x ds hi.2 hr fun n hn => hw n ?_
      simp only [DataW.weights, hu]
      exact hn
    · cases hi
theorem Ty.sizeds {H : Type} {P : Program} : ∀ (ts : List Ty) (gs : List Field) (off : Nat) (a : Ty.Vals ts) (ds : List (DataW H)), Ty.iss P ts gs off = true → Ty.Rels H ts a ds → (∀ n ∈ DataW.weightsEach P (gs.map (·.type)) ds, n ≤ reachBytes) → Ty.strss ts a
  | [], _, _, _, _, _, _, _ => by unfold Ty.strss; trivial
  | t :: ts, [], _, _, _, hi, _, _ => by simp [Ty.iss] at hi
  | t :: ts, g :: gs, off, a, ds, hi, hr, hw => by
    simp only [Ty.iss, Bool.and_eq_true] at hi
    simp only [Ty.Rels] at hr
    obtain ⟨d, ds', rfl, h1, h2⟩ := hr
    unfold Ty.strss
    simp only [List.map_cons, DataW.weightsEach, List.mem_append] at hw
    exact ⟨Ty.sized t g.type a.1 d hi.1.2 h1 fun n hn => hw n (.inl hn), Ty.sizeds ts gs _ a.2 ds' hi.2 h2 fun n hn => hw n (.inr hn)⟩
end
end Go.Eng
