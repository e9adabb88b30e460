/-
  Contracts of the given functions, and the statement's own walk. No condition.
-/
import Derived.Test.YticnclmadldkkaaTurM
import Derived.Test.YticnclmadldkkaaRos3
namespace Go.Abs
open Go Go.RowKit
variable {B : Nat} {w0 : World} {N0 : Nat → Prop} {E : Env} {s : St} {a : Act} {w : World}
theorem St.set_obj (s : St) (k : Nat) (o o' : Ob) (hk : s.obj k = some o) (i : Nat) : St.obj { s with objs := s.objs.set k (some o') } i = if i = k then some o' else s.obj i := by
  unfold St.obj at *
  have hl : k < s.objs.length := by
    rcases Nat.lt_or_ge k s.objs.length with h | h
    · exact h
    · rw [List.getD_eq_getElem?_getD, List.getElem?_eq_none h] at hk; cases hk
  simp only [List.getD_eq_getElem?_getD, List.getElem?_set]
  by_cases e : i = k
  · subst e; rw [if_pos rfl, if_pos rfl, if_pos hl]; rfl
  · rw [if_neg (Ne.symm e), if_neg e]
/-- An object's cells told in another way. -/
theorem Sim.retellO (h : Sim B w0 N0 E s a w) {k : Nat} {T : TypeId} {cells cells' : List AV} (hk : s.obj k = some ⟨T, cells⟩) (hc : ∀ (E : Env) (w : World) (N : Nat → Prop) vs, VAs E w N cells vs → VAs E w N cells' vs) :
    Sim B w0 N0 E { s with objs := s.objs.set k (some ⟨T, cells'⟩) } a w := by
  have ho := fun i => St.set_obj s k ⟨T, cells⟩ ⟨T, cells'⟩ hk i
  have hM : ∀ b, Mut E { s with objs := s.objs.set k (some ⟨T, cells'⟩) } b ↔ Mut E s b := fun b => by
    constructor
    · rintro (⟨i, o, h1, h2⟩ | h1)
      · rw [ho] at h1
        by_cases e : i = k
        · subst e; exact .inl ⟨i, _, hk, h2⟩
        · rw [if_neg e] at h1; exact .inl ⟨i, o, h1, h2⟩
      · exact .inr h1
    · rintro (⟨i, o, h1, h2⟩ | h1)
      · by_cases e : i = k
        · subst e; exact .inl ⟨i, ⟨T, cells'⟩, by rw [ho, if_pos rfl], h2⟩
        · exact .inl ⟨i, o, by rw [ho, if_neg e]; exact h1, h2⟩
      · exact .inr h1
  have hS : Stable B N0 E { s with objs := s.objs.set k (some ⟨T, cells'⟩) } w = Stable B N0 E s w := by
    funext b; unfold Stable; rw [propext (hM b)]
  obtain ⟨f, tm, df⟩ := h
  refine ⟨⟨f.low, f.below, f.size, fun i o h1 => ?_, ?_, fun i j o p h1 h2 hne => ?_, f.rr, fun r R i o h1 h2 => ?_⟩, by rw [hS]; exact tm, df⟩
  · rw [ho] at h1
    rw [hS]
    by_cases e : i = k
    · subst e
      rw [if_pos rfl] at h1; cases h1
      obtain ⟨h2, vs, h3, h4⟩ := f.obj i _ hk
      exact ⟨h2, vs, h3, hc _ _ _ _ h4⟩
    · rw [if_neg e] at h1; exact f.obj i o h1
  · rw [hS]; exact f.row
  · have q : ∀ i o, St.obj { s with objs := s.objs.set k (some ⟨T, cells'⟩) } i = some o → ∃ o', s.obj i = some o' := fun i o h1 => by
      rw [ho] at h1
      by_cases e : i = k
      · subst e; exact ⟨_, hk⟩
      · rw [if_neg e] at h1; exact ⟨_, h1⟩
    obtain ⟨o', h3⟩ := q i o h1
    obtain ⟨p', h4⟩ := q j p h2
    exact f.oo i j o' p' h3 h4 hne
  · have : ∃ o', s.obj i = some o' := by
      rw [ho] at h2
      by_cases e : i = k
      · subst e; exact ⟨_, hk⟩
      · rw [if_neg e] at h2; exact ⟨_, h2⟩
    obtain ⟨o', h3⟩ := this
    exact f.ro r R i o' h1 h3
def AV.dt : AV → AV
  | .known b => .d (Bo b)
  | x => x
theorem VAs.dt {E : Env} {w : World} {N : Nat → Prop} : ∀ (xs : List AV) (vs : List Value), VAs E w N xs vs → VAs E w N (xs.map AV.dt) vs
  | [], vs, h => h
  | x :: xs, vs, h => by
    unfold VAs at h
    obtain ⟨v, vs', e, h1, h2⟩ := h
    have := VAs.dt xs vs' h2
    show VAs E w N (x.dt :: xs.map AV.dt) vs
    unfold VAs
    refine ⟨v, vs', e, ?_, this⟩
    cases x <;> first | exact h1 | skip
    unfold VA at h1 ⊢
    subst h1
    exact VD_raw rfl
end Go.Abs
