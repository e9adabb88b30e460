/-
  Part of the engine: abstract states of a call (values as trees, objects and rows of the call's own), and that each operation of the model does to the world what it does to them. No condition.
-/
import Derived.Test.YticnclmadldkkaaAbs0
import Derived.Maps.AppendAt
import Derived.Deep.Draws
namespace Go.Abs
open Go Go.RowKit

/-- An object of the call's own: its cells. -/
structure Ob where
  T : TypeId
  cells : List AV
/-- A row of the call's own: its elements. -/
structure Row where
  E : TypeId
  sz : Nat
  n : Nat
  el : Nat → D
/-- What is known of a call's frame, objects and rows. -/
structure St where
  tmps : List AV
  objs : List (Option Ob)
  rows : List (Option Row)

def St.obj (s : St) (k : Nat) : Option Ob := (s.objs.getD k none)
def St.row (s : St) (r : Nat) : Option Row := (s.rows.getD r none)

/-- Blocks that the call may write. -/
def Mut (E : Env) (s : St) (b : Nat) : Prop := (∃ k o, s.obj k = some o ∧ E.σ k = b) ∨ ∃ r R, s.row r = some R ∧ (E.τ r).ownBlock = some b
/-- Blocks that nobody writes from here on. -/
def Stable (B : Nat) (N0 : Nat → Prop) (E : Env) (s : St) (w : World) (b : Nat) : Prop := b < w.heap.size ∧ (N0 b ∨ B ≤ b) ∧ ¬ Mut E s b

structure Fit (B : Nat) (w0 : World) (N0 : Nat → Prop) (E : Env) (s : St) (w : World) : Prop where
  low : ∀ b, N0 b → b < B
  below : Below B w0 w
  size : B ≤ w.heap.size
  obj : ∀ k o, s.obj k = some o → B ≤ E.σ k ∧ ∃ vs, w.heap[E.σ k]? = some (.cells vs.toArray o.T (0, 0)) ∧ VAs E w (Stable B N0 E s w) o.cells vs
  row : ∀ r R, s.row r = some R → ∃ vs, w.ownsRow B R.E R.sz (E.τ r) R.n vs ∧ ∀ i, i < R.n → VC w (Stable B N0 E s w) (R.el i) ((vs.drop (i * R.sz)).take R.sz)
  oo : ∀ k k' o o', s.obj k = some o → s.obj k' = some o' → k ≠ k' → E.σ k ≠ E.σ k'
  rr : ∀ r r' R R', s.row r = some R → s.row r' = some R' → r ≠ r' → ∀ b, (E.τ r).ownBlock = some b → (E.τ r').ownBlock ≠ some b
  ro : ∀ r R k o, s.row r = some R → s.obj k = some o → (E.τ r).ownBlock ≠ some (E.σ k)

structure Sim (B : Nat) (w0 : World) (N0 : Nat → Prop) (E : Env) (s : St) (a : Act) (w : World) : Prop where
  fit : Fit B w0 N0 E s w
  tm : VAs E w (Stable B N0 E s w) s.tmps a.tmps.toList
  df : a.defers = []

variable {B : Nat} {w0 : World} {N0 : Nat → Prop} {E E' : Env} {s s' : St} {a : Act} {w w' : World}

theorem Fit.mut_old (h : Fit B w0 N0 E s w) {b : Nat} (hm : Mut E s b) : b < w.heap.size ∧ B ≤ b := by
  rcases hm with ⟨k, o, ho, rfl⟩ | ⟨r, R, hR, hb⟩
  · obtain ⟨h1, vs, h2, _⟩ := h.obj k o ho
    exact ⟨(Array.getElem?_eq_some_iff.1 h2).1, h1⟩
  · obtain ⟨vs, h2, _⟩ := h.row r R hR
    have := h2.lt b hb
    exact ⟨this.2, this.1⟩

/-- What is stable stays stable: what becomes mutable was mutable, or is new. -/
theorem Stable.step (hsz : w.heap.size ≤ w'.heap.size) (hm : ∀ b, Mut E' s' b → w.heap.size ≤ b ∨ Mut E s b) (b : Nat) (h : Stable B N0 E s w b) : Stable B N0 E' s' w' b :=
  ⟨Nat.lt_of_lt_of_le h.1 hsz, h.2.1, fun hb => (hm b hb).elim (fun h' => absurd h.1 (by omega)) h.2.2⟩
/-- Cells of stable blocks read as before. -/
theorem Stable.cell (hw : ∀ b, b < w.heap.size → ¬ Mut E s b → w'.heap[b]? = w.heap[b]?) (a : Addr) (v : Value) (h : Stable B N0 E s w a.block) (hc : w.cell? a = some v) : w'.cell? a = some v :=
  (World.cell?_of_block (hw a.block h.1 h.2.2)).trans hc

theorem VAs.length {N : Nat → Prop} : ∀ {xs : List AV} {vs : List Value}, VAs E w N xs vs → vs.length = xs.length
  | [], vs, h => by unfold VAs at h; subst h; rfl
  | x :: xs, vs, h => by
    unfold VAs at h
    obtain ⟨v, vs', rfl, _, h⟩ := h
    simp [VAs.length h]
theorem VAs.get {N : Nat → Prop} : ∀ {xs : List AV} {vs : List Value}, VAs E w N xs vs → ∀ (i : Nat) (x : AV), xs[i]? = some x → ∃ v, vs[i]? = some v ∧ VA E w N x v
  | [], vs, h, i, x, hx => by simp at hx
  | y :: xs, vs, h, i, x, hx => by
    unfold VAs at h
    obtain ⟨v, vs', rfl, h1, h⟩ := h
    cases i with
    | zero => simp at hx; subst hx; exact ⟨v, rfl, h1⟩
    | succ i => simpa using VAs.get h i x (by simpa using hx)
theorem VAs.of_get {N : Nat → Prop} : ∀ {xs : List AV} {vs : List Value}, vs.length = xs.length → (∀ (i : Nat) (x : AV) (v : Value), xs[i]? = some x → vs[i]? = some v → VA E w N x v) → VAs E w N xs vs
  | [], vs, h, _ => by unfold VAs; exact List.eq_nil_of_length_eq_zero (by simpa using h)
  | x :: xs, [], h, _ => by simp at h
  | x :: xs, v :: vs, h, hg => by
    unfold VAs
    exact ⟨v, vs, rfl, hg 0 x v rfl rfl, VAs.of_get (by simpa using h) fun i y u hy hu => hg (i + 1) y u (by simpa using hy) (by simpa using hu)⟩
theorem VAs.set {N : Nat → Prop} {xs : List AV} {vs : List Value} (h : VAs E w N xs vs) (i : Nat) {x : AV} {v : Value} (hv : VA E w N x v) : VAs E w N (xs.set i x) (vs.set i v) := by
  refine VAs.of_get (by simp [h.length]) fun j y u hy hu => ?_
  rw [List.getElem?_set] at hy hu
  by_cases hij : i = j
  · subst hij
    have hl := h.length
    by_cases hi : i < xs.length
    · rw [if_pos rfl, if_pos hi] at hy
      rw [if_pos rfl, if_pos (by omega)] at hu
      cases hy; cases hu; exact hv
    · rw [if_pos rfl, if_neg hi] at hy
      cases hy
  · rw [if_neg hij] at hy hu
    obtain ⟨u', h1, h2⟩ := h.get j y hy
    rw [h1] at hu; cases hu; exact h2
/-- Elementwise: from one relation to another. -/
theorem VAs.map {N N' : Nat → Prop} {xs : List AV} {vs : List Value} (f : AV → AV) (h : VAs E w N xs vs) (hf : ∀ x v, VA E w N x v → VA E' w' N' (f x) v) : VAs E' w' N' (xs.map f) vs := by
  refine VAs.of_get (by simp [h.length]) fun j y u hy hu => ?_
  rw [List.getElem?_map, Option.map_eq_some_iff] at hy
  obtain ⟨x, hx, rfl⟩ := hy
  obtain ⟨u', h1, h2⟩ := h.get j x hx
  rw [h1] at hu; cases hu
  exact hf x _ h2

/-- (put) A slot is set. -/
theorem Sim.put (h : Sim B w0 N0 E s a w) (dst : Option Tmp) {x : AV} {v : Value} (hv : VA E w (Stable B N0 E s w) x v) :
    Sim B w0 N0 E { s with tmps := match dst with | some d => s.tmps.set d x | none => s.tmps } (a.put dst v) w := by
  have hst : ∀ t, Stable B N0 E { s with tmps := t } w = Stable B N0 E s w := fun t => rfl
  cases dst with
  | none => exact h
  | some d =>
    refine ⟨⟨h.fit.low, h.fit.below, h.fit.size, h.fit.obj, h.fit.row, h.fit.oo, h.fit.rr, h.fit.ro⟩, ?_, h.df⟩
    show VAs E w (Stable B N0 E s w) (s.tmps.set d x) ((a.tmps.setIfInBounds d v).toList)
    rw [Array.toList_setIfInBounds]
    exact h.tm.set d hv

/-- (general step) The world has changed only in what is mutable; objects and rows are as told. -/
theorem Fit.ext (h : Fit B w0 N0 E s w) (hb : Below w.heap.size w w') : Fit B w0 N0 E s w' ∧ (∀ b, Stable B N0 E s w b → Stable B N0 E s w' b) ∧ (∀ a v, Stable B N0 E s w a.block → w.cell? a = some v → w'.cell? a = some v) := by
  have hS : ∀ b, Stable B N0 E s w b → Stable B N0 E s w' b := fun b hb' => Stable.step hb.size (fun b h => .inr h) b hb'
  have hC : ∀ a v, Stable B N0 E s w a.block → w.cell? a = some v → w'.cell? a = some v := fun a v ha hc => Stable.cell (fun b h1 _ => hb.block b h1) a v ha hc
  refine ⟨⟨h.low, h.below.trans (hb.mono h.size), Nat.le_trans h.size hb.size, fun k o ho => ?_, fun r R hR => ?_, h.oo, h.rr, h.ro⟩, hS, hC⟩
  · obtain ⟨h1, vs, h2, h3⟩ := h.obj k o ho
    refine ⟨h1, vs, (hb.block _ (Array.getElem?_eq_some_iff.1 h2).1).trans h2, VAs.imp hS hC _ _ (fun _ => .inl rfl) (fun _ => .inl rfl) h3⟩
  · obtain ⟨vs, h1, h2⟩ := h.row r R hR
    refine ⟨vs, h1.kept (row := none) ⟨hb.os, hb.tape, hb.output, hb.size, fun k hk _ => hb.block k hk⟩ (by cases hv : (E.τ r).ownBlock <;> simp), fun i hi => VC.imp hS hC _ _ (h2 i hi)⟩
theorem Sim.ext (h : Sim B w0 N0 E s a w) (hb : Below w.heap.size w w') : Sim B w0 N0 E s a w' := by
  obtain ⟨h1, h2, h3⟩ := h.fit.ext hb
  exact ⟨h1, VAs.imp h2 h3 _ _ (fun _ => .inl rfl) (fun _ => .inl rfl) h.tm, h.df⟩

/-- Whatever led to object k is forgotten. -/
def St.noRef (s : St) (k : Nat) : St :=
  { tmps := s.tmps.map (AV.noRef k), objs := s.objs.map (Option.map fun o => { o with cells := o.cells.map (AV.noRef k) }), rows := s.rows }
def St.noOwn (s : St) (r : Nat) : St :=
  { tmps := s.tmps.map (AV.noOwn r), objs := s.objs.map (Option.map fun o => { o with cells := o.cells.map (AV.noOwn r) }), rows := s.rows }

theorem St.obj_map (s : St) (f : Ob → Ob) (k : Nat) : (s.objs.map (Option.map f)).getD k none = (s.obj k).map f := by
  unfold St.obj
  simp only [List.getD_eq_getElem?_getD, List.getElem?_map]
  cases h : s.objs[k]? <;> simp

/-- (newObj) A new block becomes object k. -/
theorem Fit.newObj (h : Fit B w0 N0 E s w) (k : Nat) (hk : k < s.objs.length) (T : TypeId) (cells : List AV) (vs : List Value) (hc : VAs E w (Stable B N0 E s w) cells vs) (hno : AV.hasRefs k cells = false) :
    Fit B w0 N0 { E with σ := fun i => if i = k then w.heap.size else E.σ i } { s.noRef k with objs := (s.noRef k).objs.set k (some ⟨T, cells⟩) } (w.alloc (.cells vs.toArray T)) ∧
    (∀ b, Stable B N0 E s w b → Stable B N0 { E with σ := fun i => if i = k then w.heap.size else E.σ i } { s.noRef k with objs := (s.noRef k).objs.set k (some ⟨T, cells⟩) } (w.alloc (.cells vs.toArray T)) b) ∧
    (∀ a v, Stable B N0 E s w a.block → w.cell? a = some v → (w.alloc (.cells vs.toArray T)).cell? a = some v) ∧
    (∀ x v, VA E w (Stable B N0 E s w) x v → VA { E with σ := fun i => if i = k then w.heap.size else E.σ i } (w.alloc (.cells vs.toArray T)) (Stable B N0 { E with σ := fun i => if i = k then w.heap.size else E.σ i } { s.noRef k with objs := (s.noRef k).objs.set k (some ⟨T, cells⟩) } (w.alloc (.cells vs.toArray T))) (AV.noRef k x) v) := by
  generalize hE : ({ E with σ := fun i => if i = k then w.heap.size else E.σ i } : Env) = E'
  generalize hs : ({ s.noRef k with objs := (s.noRef k).objs.set k (some ⟨T, cells⟩) } : St) = s'
  have hσ : ∀ i, E'.σ i = if i = k then w.heap.size else E.σ i := fun i => by rw [← hE]
  have hτ : ∀ i, E'.τ i = E.τ i := fun i => by rw [← hE]
  have hobj : ∀ i, s'.obj i = if i = k then some ⟨T, cells⟩ else (s.obj i).map fun o => { o with cells := o.cells.map (AV.noRef k) } := fun i => by
    rw [← hs]
    simp only [St.obj, List.getD_eq_getElem?_getD, List.getElem?_set]
    by_cases e : k = i
    · subst e; simp [St.noRef, hk]
    · rw [if_neg e, if_neg (Ne.symm e)]
      have := St.obj_map s (fun o => { o with cells := o.cells.map (AV.noRef k) }) i
      simpa [St.noRef, St.obj, List.getD_eq_getElem?_getD] using this
  have hrow : ∀ r, s'.row r = s.row r := fun r => by rw [← hs]; rfl
  have hbel : Below w.heap.size w (w.alloc (.cells vs.toArray T)) := (Below.refl _ _).alloc (Nat.le_refl _) _
  have hM : ∀ b, Mut E' s' b → w.heap.size ≤ b ∨ Mut E s b := by
    rintro b (⟨i, o, ho, rfl⟩ | ⟨r, R, hR, hb⟩)
    · rw [hobj] at ho; rw [hσ]
      by_cases e : i = k
      · rw [if_pos e]; exact .inl (Nat.le_refl _)
      · rw [if_neg e] at ho ⊢
        obtain ⟨o', ho', _⟩ := Option.map_eq_some_iff.1 ho
        exact .inr (.inl ⟨i, o', ho', rfl⟩)
    · rw [hrow] at hR; rw [hτ] at hb; exact .inr (.inr ⟨r, R, hR, hb⟩)
  have hS : ∀ b, Stable B N0 E s w b → Stable B N0 E' s' (w.alloc (.cells vs.toArray T)) b := Stable.step hbel.size hM
  have hC : ∀ a v, Stable B N0 E s w a.block → w.cell? a = some v → (w.alloc (.cells vs.toArray T)).cell? a = some v := Stable.cell fun b h1 _ => hbel.block b h1
  have hP : ∀ x v, VA E w (Stable B N0 E s w) x v → VA E' (w.alloc (.cells vs.toArray T)) (Stable B N0 E' s' (w.alloc (.cells vs.toArray T))) (AV.noRef k x) v := by
    intro x v hx
    unfold AV.noRef
    split
    · unfold VA; trivial
    · rename_i hf
      refine VA.imp hS hC x v (fun i => ?_) (fun r => .inl (hτ r)) hx
      by_cases e : i = k
      · subst e; exact .inr (by simpa using hf)
      · exact .inl (by rw [hσ, if_neg e])
  have hlt : ∀ i o, s.obj i = some o → E.σ i < w.heap.size := fun i o ho => (h.mut_old (.inl ⟨i, o, ho, rfl⟩)).1
  refine ⟨⟨h.low, h.below.trans (hbel.mono h.size), Nat.le_trans h.size hbel.size, fun i o ho => ?_, fun r R hR => ?_, ?_, ?_, ?_⟩, hS, hC, hP⟩
  · rw [hobj] at ho; rw [hσ]
    by_cases e : i = k
    · rw [if_pos e] at ho ⊢
      cases ho
      exact ⟨h.size, vs, heap_alloc_new w _, VAs.imp hS hC _ _ (fun j => by
        by_cases e' : j = k
        · subst e'; exact .inr hno
        · exact .inl (by rw [hσ, if_neg e'])) (fun r => .inl (hτ r)) hc⟩
    · rw [if_neg e] at ho ⊢
      obtain ⟨o', ho', rfl⟩ := Option.map_eq_some_iff.1 ho
      obtain ⟨h1, us, h2, h3⟩ := h.obj i o' ho'
      exact ⟨h1, us, (hbel.block _ (hlt i o' ho')).trans h2, VAs.map _ h3 hP⟩
  · rw [hrow] at hR
    obtain ⟨us, h1, h2⟩ := h.row r R hR
    rw [hτ]
    exact ⟨us, h1.alloc _, fun i hi => VC.imp hS hC _ _ (h2 i hi)⟩
  · intro i j o o' hi hj hij
    rw [hobj] at hi hj; rw [hσ, hσ]
    by_cases e : i = k
    · by_cases e' : j = k
      · exact absurd (e.trans e'.symm) hij
      · rw [if_pos e, if_neg e'] ; rw [if_neg e'] at hj
        obtain ⟨o2, ho2, _⟩ := Option.map_eq_some_iff.1 hj
        exact (Nat.ne_of_lt (hlt j o2 ho2)).symm
    · rw [if_neg e] at hi ⊢
      obtain ⟨o1, ho1, _⟩ := Option.map_eq_some_iff.1 hi
      by_cases e' : j = k
      · rw [if_pos e']; exact Nat.ne_of_lt (hlt i o1 ho1)
      · rw [if_neg e'] at hj ⊢
        obtain ⟨o2, ho2, _⟩ := Option.map_eq_some_iff.1 hj
        exact h.oo i j o1 o2 ho1 ho2 hij
  · intro r r' R R' hR hR' hne b
    rw [hrow] at hR hR'; rw [hτ, hτ]
    exact h.rr r r' R R' hR hR' hne b
  · intro r R i o hR hi
    rw [hrow] at hR; rw [hobj] at hi; rw [hτ, hσ]
    by_cases e : i = k
    · rw [if_pos e]
      exact fun hb => absurd (h.mut_old (.inr ⟨r, R, hR, hb⟩)).1 (Nat.lt_irrefl _)
    · rw [if_neg e] at hi ⊢
      obtain ⟨o1, ho1, _⟩ := Option.map_eq_some_iff.1 hi
      exact h.ro r R i o1 hR ho1
end Go.Abs
