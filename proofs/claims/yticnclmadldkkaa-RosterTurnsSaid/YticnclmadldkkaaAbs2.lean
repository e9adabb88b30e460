/-
  Part of the engine: abstract states of a call (values as trees, objects and rows of the call's own), and that each operation of the model does to the world what it does to them. No condition.
-/
import Derived.Test.YticnclmadldkkaaAbs1
namespace Go.Abs
open Go Go.RowKit
variable {B : Nat} {w0 : World} {N0 : Nat → Prop} {E E' : Env} {s s' : St} {a : Act} {w w' : World}

def Env.setτ (E : Env) (r : Nat) (v : Value) : Env := { E with τ := fun i => if i = r then v else E.τ i }
def rowBlock (E : Env) : Option Nat → Option Nat
  | some q => (E.τ q).ownBlock
  | none => none
def St.noOwnO (s : St) : Option Nat → St
  | some q => { s.noOwn q with rows := s.rows.set q none }
  | none => s
def AV.noOwnO (q : Option Nat) (x : AV) : AV := match q with | some q => x.noOwn q | none => x

theorem St.row_set (s : St) (r : Nat) (R : Option Row) (i : Nat) (hr : r < s.rows.length) : ({ s with rows := s.rows.set r R } : St).row i = if i = r then R else s.row i := by
  simp only [St.row, List.getD_eq_getElem?_getD, List.getElem?_set]
  by_cases e : r = i
  · subst e; simp [hr]
  · rw [if_neg e, if_neg (Ne.symm e)]
theorem St.noOwn_obj (s : St) (r k : Nat) : (s.noOwn r).obj k = (s.obj k).map fun o => { o with cells := o.cells.map (AV.noOwn r) } := St.obj_map s _ k

/-- (row) Row q, if any, is used up; the slice v, in its block or in a new one, becomes row r. -/
theorem Fit.newRow (h : Fit B w0 N0 E s w) (q : Option Nat) (hq : ∀ k, q = some k → ∃ R, s.row k = some R) (r : Nat) (hr : r < s.rows.length) (R : Row) (v : Value) (vs : List Value)
    (hg : w.grownBy w' (rowBlock E q)) (hown : w'.ownsRow B R.E R.sz v R.n vs) (hat : ∀ b, v.ownBlock = some b → w.heap.size ≤ b ∨ some b = rowBlock E q)
    (hel : ∀ i, i < R.n → VC w (Stable B N0 E s w) (R.el i) ((vs.drop (i * R.sz)).take R.sz)) (f : AV → AV) (hf : f = fun x => AV.noOwn r (AV.noOwnO q x)) (sq : St) (hsq : sq = (s.noOwnO q).noOwn r) :
    Fit B w0 N0 (E.setτ r v) { sq with rows := sq.rows.set r (some R) } w' ∧
    (∀ b, Stable B N0 E s w b → Stable B N0 (E.setτ r v) { sq with rows := sq.rows.set r (some R) } w' b) ∧
    (∀ a u, Stable B N0 E s w a.block → w.cell? a = some u → w'.cell? a = some u) ∧
    (∀ x u, VA E w (Stable B N0 E s w) x u → VA (E.setτ r v) w' (Stable B N0 (E.setτ r v) { sq with rows := sq.rows.set r (some R) } w') (f x) u) := by
  generalize hs : ({ sq with rows := sq.rows.set r (some R) } : St) = s'
  have hτ : ∀ i, (E.setτ r v).τ i = if i = r then v else E.τ i := fun i => rfl
  have hσ : ∀ i, (E.setτ r v).σ i = E.σ i := fun i => rfl
  generalize E.setτ r v = E' at *
  have hobj : ∀ i, s'.obj i = (s.obj i).map fun o => { o with cells := o.cells.map f } := fun i => by
    have h1 : s'.obj i = sq.obj i := by rw [← hs]; rfl
    rw [h1, hsq, St.noOwn_obj]
    cases q with
    | none => cases h2 : s.obj i <;> simp [St.noOwnO, AV.noOwnO, h2, hf]
    | some q =>
      have h2 : ({ s.noOwn q with rows := s.rows.set q none } : St).obj i = (s.noOwn q).obj i := rfl
      simp only [St.noOwnO, h2, St.noOwn_obj]
      cases h3 : s.obj i <;> simp [AV.noOwnO, hf]
  have hlen : sq.rows.length = s.rows.length := by rw [hsq]; cases q <;> simp [St.noOwnO, St.noOwn]
  have hrow : ∀ i, s'.row i = if i = r then some R else if q = some i then none else s.row i := fun i => by
    rw [← hs, St.row_set _ _ _ _ (by omega)]
    by_cases e : i = r
    · rw [if_pos e, if_pos e]
    · rw [if_neg e, if_neg e, hsq]
      cases q with
      | none => simp [St.noOwnO, St.noOwn, St.row]
      | some q =>
        simp only [St.noOwnO, St.noOwn, St.row, List.getD_eq_getElem?_getD, List.getElem?_set]
        by_cases e' : q = i
        · subst e'
          simp
          split <;> rfl
        · rw [if_neg e', if_neg (by simpa using e')]
  have hrowold : ∀ i R', i ≠ r → s'.row i = some R' → s.row i = some R' ∧ q ≠ some i := fun i R' e hi => by
    rw [hrow, if_neg e] at hi
    split at hi
    · cases hi
    · rename_i hne; exact ⟨hi, hne⟩
  have hqm : ∀ b, rowBlock E q = some b → Mut E s b := fun b hb => by
    cases q with
    | none => cases hb
    | some q => obtain ⟨R', hR'⟩ := hq q rfl; exact .inr ⟨q, R', hR', hb⟩
  have hM : ∀ b, Mut E' s' b → w.heap.size ≤ b ∨ Mut E s b := by
    rintro b (⟨i, o, ho, rfl⟩ | ⟨i, R', hR', hb⟩)
    · rw [hobj] at ho; rw [hσ]
      obtain ⟨o', ho', _⟩ := Option.map_eq_some_iff.1 ho
      exact .inr (.inl ⟨i, o', ho', rfl⟩)
    · rw [hτ] at hb
      by_cases e : i = r
      · rw [if_pos e] at hb
        rcases hat b hb with h1 | h1
        · exact .inl h1
        · exact .inr (hqm b h1.symm)
      · rw [if_neg e] at hb
        exact .inr (.inr ⟨i, R', (hrowold i R' e hR').1, hb⟩)
  have hS : ∀ b, Stable B N0 E s w b → Stable B N0 E' s' w' b := Stable.step hg.size hM
  have hW : ∀ b, b < w.heap.size → ¬ Mut E s b → w'.heap[b]? = w.heap[b]? := fun b h1 h2 => hg.block b h1 fun e => h2 (hqm b e.symm)
  have hC : ∀ a u, Stable B N0 E s w a.block → w.cell? a = some u → w'.cell? a = some u := Stable.cell hW
  have hP : ∀ x u, VA E w (Stable B N0 E s w) x u → VA E' w' (Stable B N0 E' s' w') (f x) u := by
    intro x u hx
    subst hf
    have h1 : VA E w (Stable B N0 E s w) (AV.noOwnO q x) u := by
      unfold AV.noOwnO AV.noOwn
      split
      · split
        · unfold VA; trivial
        · exact hx
      · exact hx
    show VA E' w' _ (AV.noOwn r (AV.noOwnO q x)) u
    generalize AV.noOwnO q x = y at h1
    unfold AV.noOwn
    split
    · unfold VA; trivial
    · rename_i hne
      refine VA.imp hS hC y u (fun i => .inl (hσ i)) (fun i => ?_) h1
      by_cases e : i = r
      · subst e; exact .inr (by simpa using hne)
      · exact .inl (by rw [hτ, if_neg e])
  have hkeep : ∀ i R', s.row i = some R' → q ≠ some i → (E.τ i).ownBlock = none ∨ (E.τ i).ownBlock ≠ rowBlock E q := fun i R' hi hne => by
    cases hb : (E.τ i).ownBlock with
    | none => exact .inl rfl
    | some b =>
      refine .inr fun hc => ?_
      cases q with
      | none => cases hc
      | some q =>
        obtain ⟨Rq, hRq⟩ := hq q rfl
        exact h.rr i q R' Rq hi hRq (fun e => hne (by rw [e])) b hb hc.symm
  have hfar : ∀ i R', s.row i = some R' → q ≠ some i → ∀ b, (E.τ i).ownBlock = some b → v.ownBlock ≠ some b := fun i R' hi hne b hb hv => by
    rcases hat b hv with h1 | h1
    · exact absurd (h.mut_old (.inr ⟨i, R', hi, hb⟩)).1 (by omega)
    · rcases hkeep i R' hi hne with h2 | h2
      · rw [hb] at h2; cases h2
      · exact h2 (hb.trans h1)
  have hgb : Below B w w' := by
    refine ⟨hg.os, hg.tape, hg.output, hg.size, fun b hb => hg.block b (Nat.lt_of_lt_of_le hb h.size) fun e => ?_⟩
    have := (h.mut_old (hqm b e.symm)).2
    omega
  refine ⟨⟨h.low, h.below.trans hgb, Nat.le_trans h.size hg.size, fun i o ho => ?_, fun i R' hR' => ?_, ?_, ?_, ?_⟩, hS, hC, hP⟩
  · rw [hobj] at ho; rw [hσ]
    obtain ⟨o', ho', rfl⟩ := Option.map_eq_some_iff.1 ho
    obtain ⟨h1, us, h2, h3⟩ := h.obj i o' ho'
    refine ⟨h1, us, (hg.block _ (h.mut_old (.inl ⟨i, o', ho', rfl⟩)).1 fun e => ?_).trans h2, VAs.map _ h3 hP⟩
    cases q with
    | none => cases e
    | some q => obtain ⟨Rq, hRq⟩ := hq q rfl; exact h.ro q Rq i o' hRq ho' e.symm
  · rw [hτ]
    by_cases e : i = r
    · subst e
      rw [hrow, if_pos rfl] at hR'
      cases hR'
      rw [if_pos rfl]
      exact ⟨vs, hown, fun j hj => VC.imp hS hC _ _ (hel j hj)⟩
    · rw [if_neg e]
      obtain ⟨h1, hne⟩ := hrowold i R' e hR'
      obtain ⟨us, h2, h3⟩ := h.row i R' h1
      exact ⟨us, h2.kept hg (hkeep i R' h1 hne), fun j hj => VC.imp hS hC _ _ (h3 j hj)⟩
  · intro i j o o' hi hj hij
    rw [hobj] at hi hj; rw [hσ, hσ]
    obtain ⟨o1, ho1, _⟩ := Option.map_eq_some_iff.1 hi
    obtain ⟨o2, ho2, _⟩ := Option.map_eq_some_iff.1 hj
    exact h.oo i j o1 o2 ho1 ho2 hij
  · intro i j R1 R2 hi hj hij b
    rw [hτ, hτ]
    by_cases e : i = r
    · rw [if_pos e]
      have e' : j ≠ r := fun e' => hij (e.trans e'.symm)
      rw [if_neg e']
      obtain ⟨h1, hne⟩ := hrowold j R2 e' hj
      exact fun hv hj' => hfar j R2 h1 hne b hj' hv
    · rw [if_neg e]
      obtain ⟨h1, hne⟩ := hrowold i R1 e hi
      by_cases e' : j = r
      · rw [if_pos e']; exact hfar i R1 h1 hne b
      · rw [if_neg e']
        obtain ⟨h2, _⟩ := hrowold j R2 e' hj
        exact h.rr i j R1 R2 h1 h2 hij b
  · intro i R1 k o hi hk
    rw [hobj] at hk; rw [hτ, hσ]
    obtain ⟨o1, ho1, _⟩ := Option.map_eq_some_iff.1 hk
    by_cases e : i = r
    · rw [if_pos e]
      intro hv
      rcases hat _ hv with h1 | h1
      · exact absurd (h.mut_old (.inl ⟨k, o1, ho1, rfl⟩)).1 (by omega)
      · cases q with
        | none => cases h1
        | some q => obtain ⟨Rq, hRq⟩ := hq q rfl; exact h.ro q Rq k o1 hRq ho1 h1.symm
    · rw [if_neg e]
      exact h.ro i R1 k o1 (hrowold i R1 e hi).1 ho1

/-- (store) The cells of object k are others now. -/
theorem Fit.setObj (h : Fit B w0 N0 E s w) (k : Nat) (o : Ob) (hk : s.obj k = some o) (cells : List AV) (vs : List Value) (hc : VAs E w (Stable B N0 E s w) cells vs)
    (hbel : Below B w w') (hsz : w'.heap.size = w.heap.size) (hw : ∀ b, b ≠ E.σ k → w'.heap[b]? = w.heap[b]?) (hnew : w'.heap[E.σ k]? = some (.cells vs.toArray o.T (0, 0))) :
    Fit B w0 N0 E { s with objs := s.objs.set k (some ⟨o.T, cells⟩) } w' ∧ (∀ b, Stable B N0 E s w b → Stable B N0 E { s with objs := s.objs.set k (some ⟨o.T, cells⟩) } w' b) ∧
    (∀ a u, Stable B N0 E s w a.block → w.cell? a = some u → w'.cell? a = some u) := by
  generalize hs : ({ s with objs := s.objs.set k (some ⟨o.T, cells⟩) } : St) = s'
  have hkl : k < s.objs.length := by
    unfold St.obj at hk
    rw [List.getD_eq_getElem?_getD] at hk
    rcases Nat.lt_or_ge k s.objs.length with h1 | h1
    · exact h1
    · rw [List.getElem?_eq_none h1] at hk; cases hk
  have hobj : ∀ i, s'.obj i = if i = k then some ⟨o.T, cells⟩ else s.obj i := fun i => by
    rw [← hs]
    simp only [St.obj, List.getD_eq_getElem?_getD, List.getElem?_set]
    by_cases e : k = i
    · subst e; simp [hkl]
    · rw [if_neg e, if_neg (Ne.symm e)]
  have hrow : ∀ r, s'.row r = s.row r := fun r => by rw [← hs]; rfl
  have hex : ∀ i o', s'.obj i = some o' → ∃ o2, s.obj i = some o2 := fun i o' hi => by
    rw [hobj] at hi
    by_cases e : i = k
    · subst e; exact ⟨o, hk⟩
    · rw [if_neg e] at hi; exact ⟨o', hi⟩
  have hM : ∀ b, Mut E s' b → w.heap.size ≤ b ∨ Mut E s b := by
    rintro b (⟨i, o', ho, rfl⟩ | ⟨r, R, hR, hb⟩)
    · obtain ⟨o2, h2⟩ := hex i o' ho; exact .inr (.inl ⟨i, o2, h2, rfl⟩)
    · rw [hrow] at hR; exact .inr (.inr ⟨r, R, hR, hb⟩)
  have hS : ∀ b, Stable B N0 E s w b → Stable B N0 E s' w' b := Stable.step (by omega) hM
  have hW : ∀ b, b < w.heap.size → ¬ Mut E s b → w'.heap[b]? = w.heap[b]? := fun b _ h2 => hw b fun e => h2 (e ▸ .inl ⟨k, o, hk, rfl⟩)
  have hC := Stable.cell (B := B) (N0 := N0) hW
  have hI : ∀ xs us, VAs E w (Stable B N0 E s w) xs us → VAs E w' (Stable B N0 E s' w') xs us := fun xs us => VAs.imp hS hC xs us (fun _ => .inl rfl) (fun _ => .inl rfl)
  refine ⟨⟨h.low, h.below.trans hbel, by rw [hsz]; exact h.size, fun i o' ho => ?_, fun r R hR => ?_, ?_, ?_, ?_⟩, hS, hC⟩
  · rw [hobj] at ho
    by_cases e : i = k
    · subst e
      rw [if_pos rfl] at ho
      cases ho
      exact ⟨(h.obj i o hk).1, vs, hnew, hI _ _ hc⟩
    · rw [if_neg e] at ho
      obtain ⟨h1, us, h2, h3⟩ := h.obj i o' ho
      exact ⟨h1, us, (hw _ (h.oo i k o' o ho hk e)).trans h2, hI _ _ h3⟩
  · rw [hrow] at hR
    obtain ⟨us, h1, h2⟩ := h.row r R hR
    refine ⟨us, h1.kept (row := some (E.σ k)) ⟨hbel.os, hbel.tape, hbel.output, hbel.size, fun b _ hb => hw b fun e => hb (by rw [e])⟩ (.inr (h.ro r R k o hR hk)), fun i hi => VC.imp hS hC _ _ (h2 i hi)⟩
  · intro i j o1 o2 hi hj hij
    obtain ⟨p1, q1⟩ := hex i o1 hi
    obtain ⟨p2, q2⟩ := hex j o2 hj
    exact h.oo i j p1 p2 q1 q2 hij
  · intro r r' R R' hR hR'
    rw [hrow] at hR hR'
    exact h.rr r r' R R' hR hR'
  · intro r R i o1 hR hi
    rw [hrow] at hR
    obtain ⟨p1, q1⟩ := hex i o1 hi
    exact h.ro r R i p1 hR q1
end Go.Abs
