/-
  Part of the engine: abstract states of a call (values as trees, objects and rows of the call's own), and that each operation of the model does to the world what it does to them. No condition.
-/
import Derived.Test.YticnclmadldkkaaAbs2
namespace Go.Abs
open Go Go.RowKit
variable {B : Nat} {w0 : World} {N0 : Nat → Prop} {E E' : Env} {s s' : St} {a : Act} {w w' : World}

/-- Row r is written no more: whoever held it holds its elements. -/
def AV.thaw (r : Nat) (x : D) : AV → AV
  | .own r' => if r' = r then .d x else .own r'
  | y => if y.hasOwn r then .dead else y
def St.freeze (s : St) (r : Nat) (R : Row) : St :=
  { tmps := s.tmps.map (AV.thaw r (.list R.sz R.n R.el)), objs := s.objs.map (Option.map fun o => { o with cells := o.cells.map (AV.thaw r (.list R.sz R.n R.el)) }), rows := s.rows.set r none }

theorem own_VD {N : Nat → Prop} {R : Row} {v : Value} {vs : List Value} (h : w.ownsRow B R.E R.sz v R.n vs) (hN : ∀ b, v.ownBlock = some b → N b)
    (hel : ∀ i, i < R.n → VC w N (R.el i) ((vs.drop (i * R.sz)).take R.sz)) : VD w N (.list R.sz R.n R.el) v := by
  show VC w N (.list R.sz R.n R.el) [v]
  unfold VC
  refine ⟨v, rfl, ?_⟩
  rcases h.2 with ⟨h1, h2⟩ | ⟨g, cap, cur, hv, _, _, hnc, hcm, _, _⟩
  · exact .inl ⟨h2, h1⟩
  · subst hv
    exact .inr ⟨_, cap, vs, rfl, hnc, hcm, rfl, hN g rfl, h.1, h.cells (g := g) rfl, hel⟩

theorem Fit.freeze (h : Fit B w0 N0 E s w) (r : Nat) (R : Row) (hR : s.row r = some R) :
    Fit B w0 N0 E (s.freeze r R) w ∧ (∀ b, Stable B N0 E s w b → Stable B N0 E (s.freeze r R) w b) ∧
    (∀ x u, VA E w (Stable B N0 E s w) x u → VA E w (Stable B N0 E (s.freeze r R) w) (AV.thaw r (.list R.sz R.n R.el) x) u) := by
  generalize hs : s.freeze r R = s'
  have hrl : r < s.rows.length := by
    unfold St.row at hR
    rw [List.getD_eq_getElem?_getD] at hR
    rcases Nat.lt_or_ge r s.rows.length with h1 | h1
    · exact h1
    · rw [List.getElem?_eq_none h1] at hR; cases hR
  have hobj : ∀ i, s'.obj i = (s.obj i).map fun o => { o with cells := o.cells.map (AV.thaw r (.list R.sz R.n R.el)) } := fun i => by rw [← hs]; exact St.obj_map s _ i
  have hrow : ∀ i, s'.row i = if i = r then none else s.row i := fun i => by
    rw [← hs]; exact St.row_set s r none i hrl
  have hold : ∀ i R', s'.row i = some R' → s.row i = some R' ∧ i ≠ r := fun i R' hi => by
    rw [hrow] at hi
    by_cases e : i = r
    · rw [if_pos e] at hi; cases hi
    · rw [if_neg e] at hi; exact ⟨hi, e⟩
  have hM : ∀ b, Mut E s' b → w.heap.size ≤ b ∨ Mut E s b := by
    rintro b (⟨i, o, ho, rfl⟩ | ⟨i, R', hi, hb⟩)
    · rw [hobj] at ho
      obtain ⟨o', ho', _⟩ := Option.map_eq_some_iff.1 ho
      exact .inr (.inl ⟨i, o', ho', rfl⟩)
    · exact .inr (.inr ⟨i, R', (hold i R' hi).1, hb⟩)
  have hS : ∀ b, Stable B N0 E s w b → Stable B N0 E s' w b := Stable.step (Nat.le_refl _) hM
  have hC : ∀ a u, Stable B N0 E s w a.block → w.cell? a = some u → w.cell? a = some u := fun _ _ _ h => h
  obtain ⟨us, hu1, hu2⟩ := h.row r R hR
  have hSr : ∀ b, (E.τ r).ownBlock = some b → Stable B N0 E s' w b := fun b hb => by
    have := h.mut_old (.inr ⟨r, R, hR, hb⟩)
    refine ⟨this.1, .inr this.2, ?_⟩
    rintro (⟨i, o, ho, he⟩ | ⟨i, R', hi, hb'⟩)
    · rw [hobj] at ho
      obtain ⟨o', ho', _⟩ := Option.map_eq_some_iff.1 ho
      exact h.ro r R i o' hR ho' (by rw [hb, he])
    · obtain ⟨h1, h2⟩ := hold i R' hi
      exact h.rr r i R R' hR h1 (Ne.symm h2) b hb hb'
  have hP : ∀ x u, VA E w (Stable B N0 E s w) x u → VA E w (Stable B N0 E s' w) (AV.thaw r (.list R.sz R.n R.el) x) u := by
    intro x u hx
    have gen : ∀ y, VA E w (Stable B N0 E s w) y u → VA E w (Stable B N0 E s' w) (if y.hasOwn r then .dead else y) u := fun y hy => by
      split
      · unfold VA; trivial
      · exact VA.imp hS hC y u (fun _ => .inl rfl) (fun _ => .inl rfl) hy
    cases x with
    | own r' =>
      show VA E w _ (if r' = r then _ else _) u
      split
      · rename_i e
        subst e
        unfold VA at hx ⊢
        obtain ⟨rfl, _⟩ := hx
        exact own_VD hu1 hSr fun i hi => VC.imp hS hC _ _ (hu2 i hi)
      · unfold VA at hx ⊢; exact hx
    | dead => exact gen _ hx
    | d x => exact gen _ hx
    | ref k o => exact gen _ hx
    | fn f a b => exact gen _ hx
    | tup xs => exact gen _ hx
    | cptr cs => exact gen _ hx
    | el r' i z o => exact gen _ hx
    | known b => exact gen _ hx
  refine ⟨⟨h.low, h.below, h.size, fun i o ho => ?_, fun i R' hi => ?_, ?_, ?_, ?_⟩, hS, hP⟩
  · rw [hobj] at ho
    obtain ⟨o', ho', rfl⟩ := Option.map_eq_some_iff.1 ho
    obtain ⟨h1, vs, h2, h3⟩ := h.obj i o' ho'
    exact ⟨h1, vs, h2, VAs.map _ h3 hP⟩
  · obtain ⟨vs, h1, h2⟩ := h.row i R' (hold i R' hi).1
    exact ⟨vs, h1, fun j hj => VC.imp hS hC _ _ (h2 j hj)⟩
  · intro i j o o' hi hj hij
    rw [hobj] at hi hj
    obtain ⟨o1, ho1, _⟩ := Option.map_eq_some_iff.1 hi
    obtain ⟨o2, ho2, _⟩ := Option.map_eq_some_iff.1 hj
    exact h.oo i j o1 o2 ho1 ho2 hij
  · intro i j R1 R2 hi hj hij
    exact h.rr i j R1 R2 (hold i R1 hi).1 (hold j R2 hj).1 hij
  · intro i R1 k o hi hk
    rw [hobj] at hk
    obtain ⟨o1, ho1, _⟩ := Option.map_eq_some_iff.1 hk
    exact h.ro i R1 k o1 (hold i R1 hi).1 ho1

theorem Sim.freeze (h : Sim B w0 N0 E s a w) (r : Nat) (R : Row) (hR : s.row r = some R) : Sim B w0 N0 E (s.freeze r R) a w := by
  obtain ⟨h1, h2, h3⟩ := h.fit.freeze r R hR
  exact ⟨h1, VAs.map _ h.tm h3, h.df⟩

/-- (store) The elements of row r are others now: only its block has changed. -/
theorem Fit.setRow (h : Fit B w0 N0 E s w) (r : Nat) (R : Row) (hR : s.row r = some R) (el : Nat → D) (vs : List Value)
    (hg : w.grownBy w' (E.τ r).ownBlock) (hown : w'.ownsRow B R.E R.sz (E.τ r) R.n vs)
    (hel : ∀ i, i < R.n → VC w (Stable B N0 E s w) (el i) ((vs.drop (i * R.sz)).take R.sz)) :
    Fit B w0 N0 E { s with rows := s.rows.set r (some ⟨R.E, R.sz, R.n, el⟩) } w' ∧ (∀ b, Stable B N0 E s w b → Stable B N0 E { s with rows := s.rows.set r (some ⟨R.E, R.sz, R.n, el⟩) } w' b) ∧
    (∀ a u, Stable B N0 E s w a.block → w.cell? a = some u → w'.cell? a = some u) := by
  generalize hs : ({ s with rows := s.rows.set r (some ⟨R.E, R.sz, R.n, el⟩) } : St) = s'
  have hrl : r < s.rows.length := by
    unfold St.row at hR
    rw [List.getD_eq_getElem?_getD] at hR
    rcases Nat.lt_or_ge r s.rows.length with h1 | h1
    · exact h1
    · rw [List.getElem?_eq_none h1] at hR; cases hR
  have hobj : ∀ i, s'.obj i = s.obj i := fun i => by rw [← hs]; rfl
  have hrow : ∀ i, s'.row i = if i = r then some ⟨R.E, R.sz, R.n, el⟩ else s.row i := fun i => by rw [← hs]; exact St.row_set s r _ i hrl
  have hex : ∀ i R', s'.row i = some R' → ∃ R2, s.row i = some R2 := fun i R' hi => by
    rw [hrow] at hi
    by_cases e : i = r
    · subst e; exact ⟨R, hR⟩
    · rw [if_neg e] at hi; exact ⟨R', hi⟩
  have hM : ∀ b, Mut E s' b → w.heap.size ≤ b ∨ Mut E s b := by
    rintro b (⟨i, o, ho, rfl⟩ | ⟨i, R', hi, hb⟩)
    · rw [hobj] at ho; exact .inr (.inl ⟨i, o, ho, rfl⟩)
    · obtain ⟨R2, h2⟩ := hex i R' hi; exact .inr (.inr ⟨i, R2, h2, hb⟩)
  have hS : ∀ b, Stable B N0 E s w b → Stable B N0 E s' w' b := Stable.step hg.size hM
  have hW : ∀ b, b < w.heap.size → ¬ Mut E s b → w'.heap[b]? = w.heap[b]? := fun b h1 h2 => hg.block b h1 fun e => h2 (.inr ⟨r, R, hR, e.symm⟩)
  have hC := Stable.cell (B := B) (N0 := N0) hW
  refine ⟨⟨h.low, ?_, Nat.le_trans h.size hg.size, fun i o ho => ?_, fun i R' hi => ?_, ?_, ?_, ?_⟩, hS, hC⟩
  · refine h.below.trans ⟨hg.os, hg.tape, hg.output, hg.size, fun b hb => hg.block b (Nat.lt_of_lt_of_le hb h.size) fun e => ?_⟩
    have := (h.mut_old (.inr ⟨r, R, hR, e.symm⟩)).2
    omega
  · rw [hobj] at ho
    obtain ⟨h1, us, h2, h3⟩ := h.obj i o ho
    exact ⟨h1, us, (hg.block _ (h.mut_old (.inl ⟨i, o, ho, rfl⟩)).1 fun e => h.ro r R i o hR ho e.symm).trans h2, VAs.imp hS hC _ _ (fun _ => .inl rfl) (fun _ => .inl rfl) h3⟩
  · rw [hrow] at hi
    by_cases e : i = r
    · subst e
      rw [if_pos rfl] at hi
      cases hi
      exact ⟨vs, hown, fun j hj => VC.imp hS hC _ _ (hel j hj)⟩
    · rw [if_neg e] at hi
      obtain ⟨us, h2, h3⟩ := h.row i R' hi
      refine ⟨us, h2.kept hg ?_, fun j hj => VC.imp hS hC _ _ (h3 j hj)⟩
      cases hb : (E.τ i).ownBlock with
      | none => exact .inl rfl
      | some b => exact .inr fun hc => h.rr i r R' R hi hR e b hb hc.symm
  · intro i j o o' hi hj
    rw [hobj] at hi hj
    exact h.oo i j o o' hi hj
  · intro i j R1 R2 hi hj hij
    obtain ⟨p1, q1⟩ := hex i R1 hi
    obtain ⟨p2, q2⟩ := hex j R2 hj
    exact h.rr i j p1 p2 q1 q2 hij
  · intro i R1 k o hi hk
    obtain ⟨p1, q1⟩ := hex i R1 hi
    rw [hobj] at hk
    exact h.ro i p1 k o q1 hk
end Go.Abs
