/-
  Part of the engine: abstract states of a call (values as trees, things of the call's own), and that each operation of the model does to the world what it does to them. No condition.
-/
import Derived.Test.YtmgfgcoeflanmaaDoorEng18
namespace Go.Eng
open Go Go.RowKit Go.Lib
variable {P : Program} {gl : Nat → Option (List D)} {C : Cx} {E E' : Env} {s s' : St} {a : Act} {w w' : World}

/-! ### states as tables -/
def setL {α : Type} (f : List (Nat × α)) (xs : List α) : List α := f.foldl (fun xs p => xs.set p.1 p.2) xs
def mk (base n : Nat) (ts : List (Nat × AV)) (hs : List (Nat × Th)) : St := { base := base, tmps := setL ts (List.replicate n .dead), heap := hs }

/-! ### where the loops are -/
/-- The stack at each loop's head, in the text's order. -/
def loops : Code → List Item → List (List Item)
  | .seq x y, k => loops x (.code y :: k) ++ loops y k
  | .cond _ x y, k => loops x k ++ loops y k
  | .block id x, k => loops x (.inBlock id :: k)
  | .loop x, k => (.code x :: .inLoop x :: k) :: loops x (.inLoop x :: k)
  | _, _ => []
/-- The stack at each region, in the text's order. -/
def regs : Code → List Item → List (List Item)
  | .seq x y, k => regs x (.code y :: k) ++ regs y k
  | .cond _ x y, k => regs x k ++ regs y k
  | .block id x, k => regs x (.inBlock id :: k)
  | .loop x, k => regs x (.inLoop x :: k)
  | .region id ops dr, k => [.code (.region id ops dr) :: k]
  | _, _ => []
def bodyOf (fn : Func) : Code := fn.body.getD .skip
def loopAt (fn : Func) (i : Nat) : List Item := (loops (bodyOf fn) []).getD i []
def regAt (fn : Func) (i : Nat) : List Item := ((regs (bodyOf fn) []).find? fun k => match k with
  | .code (.region j _ _) :: _ => j == i
  | _ => false).getD []
theorem spec_fn {g : FuncId} {fn : Func} {args : List AV} {H H' : List (Nat × Th)} {ret : AV} (hf : P.funcs[g]? = some fn) (hb : fn.body.isSome = true)
    (h : ∀ {w : World} {N : Nat → Prop} {E0 : Env} {a : Act}, Sim (cx P gl w N E0 H) E0 (initSt fn.ntmps args H) a w → Goes P g [.code (bodyOf fn)] (RSpec (cx P gl w N E0 H) ⟨H.length, [ret], H'⟩) a w) : Spec P gl g args H ret H' := spec_of hf hb h

/-! ### data that tells another -/
/-- What reads as x reads as y. -/
structure SaysD (x y : D) : Prop where
  out : ∀ (w : World) (N : Nat → Prop) (v : Value), VD w N x v → VD w N y v
theorem SaysD.refl (x : D) : SaysD x x := ⟨fun _ _ _ h => h⟩
theorem SaysD.of_eq {x y : D} (h : x = y) : SaysD x y := h ▸ SaysD.refl x
theorem SaysD.list {sz n : Nat} {el el' : Nat → D} (he : ∀ i, i < n → el' i = el i) : SaysD (.list sz n el) (.list sz n el') := .mk fun w N v h => by
  have h' : VC w N (.list sz n el) [v] := h
  show VC w N (.list sz n el') [v]
  unfold VC at h' ⊢
  obtain ⟨u, hu, h'⟩ := h'
  refine ⟨u, hu, ?_⟩
  rcases h' with h1 | ⟨ad, cap, cs, h1, h2, h3, h4, h5, h6, h7, h8⟩
  · exact .inl h1
  · exact .inr ⟨ad, cap, cs, h1, h2, h3, h4, h5, h6, h7, fun i hi => by rw [he i hi]; exact h8 i hi⟩
theorem SaysD.nil (sz : Nat) (el : Nat → D) : SaysD (.raw (.slice none 0 0)) (.list sz 0 el) := .mk fun w N v h => by
  have h1 := (VD_raw_inv h).1
  subst h1
  show VC w N _ [_]
  unfold VC
  exact ⟨_, rfl, .inl ⟨rfl, rfl⟩⟩
/-- Cells, one by one. -/
inductive SaysL : List D → List D → Prop where
  | nil : SaysL [] []
  | cons {x y : D} {xs ys : List D} : SaysD x y → y.one = true → SaysL xs ys → SaysL (x :: xs) (y :: ys)
theorem VC_VD {N : Nat → Prop} {x : D} {v : Value} (h1 : x.one = true) : VC w N x [v] ↔ VD w N x v := by
  cases x with
  | agg xs => simp [D.one] at h1
  | raw u => exact Iff.rfl
  | list sz n el => exact Iff.rfl
theorem SaysL.vcs {N : Nat → Prop} : ∀ {xs ys : List D} {vs : List Value}, SaysL xs ys → VCs w N xs vs → VCs w N ys vs
  | _, _, _, .nil, h => h
  | _, _, _, .cons h1 h2 h3, h => by
    unfold VCs at h ⊢
    obtain ⟨v, vs', e, g1, g2, g3⟩ := h
    exact ⟨v, vs', e, h2, (VC_VD h2).2 (h1.out _ _ _ ((VC_VD g1).1 g2)), h3.vcs g3⟩
theorem SaysD.agg {xs ys : List D} (h : SaysL xs ys) : SaysD (.agg xs) (.agg ys) := .mk fun w N v hv => by
  obtain ⟨vs, h1, h2⟩ := hv
  refine ⟨vs, h1, ?_⟩
  unfold VC at h2 ⊢
  exact h.vcs h2
theorem SaysL.refl : ∀ {xs : List D}, xs.all D.one = true → SaysL xs xs
  | [], _ => .nil
  | x :: xs, h => by
    simp only [List.all_cons, Bool.and_eq_true] at h
    exact .cons (.refl x) h.1 (.refl h.2)

/-! ### what is known of callees, one by one -/
def Orc.none (gl : Nat → Option (List D)) : Orc := ⟨gl, fun _ => false, fun _ _ _ => Option.none⟩
def Orc.add (o : Orc) (k : Nat) (rows : Bool) (m : List AV → List (Nat × Th) → Option (AV × List (Nat × Th) × List Prop)) : Orc :=
  ⟨o.gl, fun f => if f == k then rows else o.lists f, fun f args H => if f == k then m args H else o.fn f args H⟩
theorem OrcOK.none (gl : Nat → Option (List D)) : OrcOK P (Orc.none gl) := fun _ _ _ _ _ _ h => by cases h
theorem OrcOK.add {o : Orc} (ho : OrcOK P o) (k : Nat) (rows : Bool) (m : List AV → List (Nat × Th) → Option (AV × List (Nat × Th) × List Prop))
    (h : ∀ args H r H' cs, m args H = some (r, H', cs) → Conds cs → Spec P o.gl k args H r H') : OrcOK P (o.add k rows m) := by
  intro f args H r H' cs hf hcs
  unfold Orc.add at hf
  simp only at hf
  split at hf
  · rename_i e
    have e : f = k := by simpa using e
    subst e; exact h args H r H' cs hf hcs
  · exact ho f args H r H' cs hf hcs
/-- Arguments that tell others. -/
theorem Spec.args {g : FuncId} {args args' : List AV} {H H' : List (Nat × Th)} {ret : AV} (h : Spec P gl g args' H ret H') (hA : ∀ {E : Env} {w : World} {N : Nat → Prop} {vs : List Value}, VAs E w N args vs → VAs E w N args' vs) : Spec P gl g args H ret H' :=
  fun w N E vs hf hv => h w N E vs hf (hA hv)
/-- How values of a kind are told. -/
class Cd (α : Type) where
  sz : Nat
  enc : α → D
  un : D → α
open Cd (enc un)
/-- The condition under which a datum is taken for one of the kind. -/
def Is (α : Type) [Cd α] (x : D) : Prop := SaysD x (enc (un x : α))
instance : Cd Int := ⟨1, fun n => .raw (.int .i64 n), fun d => unI d⟩
instance : Cd Bool := ⟨1, fun b => .raw (.bool b), fun d => unB d⟩
instance : Cd ByteArray := ⟨1, fun b => .raw (.string b), fun d => unS d⟩
def unL {α : Type} (f : D → α) (n : Nat) (el : Nat → D) : List α := (List.range n).map fun i => f (el i)
/-- A list whose elements are told by f. -/
def L {α : Type} [Inhabited α] (sz : Nat) (f : α → D) (xs : List α) : D := .list sz xs.length fun i => f (xs.getD i default)
def LRow {α : Type} [Inhabited α] (T sz : Nat) (f : α → D) (xs : List α) : Th := .row T sz xs.length fun i => f (xs.getD i default)
instance {α : Type} [Cd α] [Inhabited α] : Cd (List α) := ⟨1, L (Cd.sz α) enc, fun d => match d with
  | .list _ n el => unL un n el
  | _ => []⟩
theorem unL_L {α : Type} [Inhabited α] {f : α → D} {g : D → α} (h : ∀ x, g (f x) = x) (xs : List α) : unL g xs.length (fun i => f (xs.getD i default)) = xs := by
  apply List.ext_getElem
  · simp [unL]
  · intro i h1 h2; simp [unL, h, h2]
/-- A list is one whose elements are of the kind. -/
theorem Is.list {α : Type} [Cd α] [Inhabited α] {n : Nat} {el : Nat → D} (h : ∀ i, i < n → el i = enc (un (el i) : α)) : Is (List α) (.list (Cd.sz α) n el) := by
  unfold Is
  show SaysD (.list (Cd.sz α) n el) (L (Cd.sz α) enc (unL un n el))
  unfold L
  have hl : (unL un n el : List α).length = n := by simp [unL]
  rw [hl]
  refine SaysD.list fun i hi => ?_
  have e : (unL un n el : List α).getD i default = un (el i) := by simp [unL, hi]
  rw [e]; exact (h i hi).symm
theorem Is.nil {α : Type} [Cd α] [Inhabited α] : Is (List α) (.raw (.slice none 0 0)) := SaysD.nil _ _
theorem Is.L {α : Type} [Cd α] [Inhabited α] (h : ∀ x : α, un (enc x) = x) (xs : List α) : Is (List α) (Eng.L (Cd.sz α) enc xs) := Is.list fun i _ => by rw [h]
def pure1 {α : Type} [Cd α] (f : α → AV) (pre : α → List Prop) : List AV → List (Nat × Th) → Option (AV × List (Nat × Th) × List Prop)
  | [.d x], [] => some (f (un x), [], Is α x :: pre (un x))
  | _, _ => Option.none
def pure2 {α β : Type} [Cd α] [Cd β] (f : α → β → AV) (pre : α → β → List Prop) : List AV → List (Nat × Th) → Option (AV × List (Nat × Th) × List Prop)
  | [.d x, .d y], [] => some (f (un x) (un y), [], Is α x :: Is β y :: pre (un x) (un y))
  | _, _ => Option.none
def pure3 {α β γ : Type} [Cd α] [Cd β] [Cd γ] (f : α → β → γ → AV) (pre : α → β → γ → List Prop) : List AV → List (Nat × Th) → Option (AV × List (Nat × Th) × List Prop)
  | [.d x, .d y, .d z], [] => some (f (un x) (un y) (un z), [], Is α x :: Is β y :: Is γ z :: pre (un x) (un y) (un z))
  | _, _ => Option.none
def pure4 {α β γ δ : Type} [Cd α] [Cd β] [Cd γ] [Cd δ] (f : α → β → γ → δ → AV) (pre : α → β → γ → δ → List Prop) : List AV → List (Nat × Th) → Option (AV × List (Nat × Th) × List Prop)
  | [.d x, .d y, .d z, .d u], [] => some (f (un x) (un y) (un z) (un u), [], Is α x :: Is β y :: Is γ z :: Is δ u :: pre (un x) (un y) (un z) (un u))
  | _, _ => Option.none
theorem VAs1 {N : Nat → Prop} {x : AV} {v : Value} : VAs E w N [x] [v] ↔ VA E w N x v := by
  constructor
  · intro h; unfold VAs at h; obtain ⟨u, us, e, h1, _⟩ := h; cases e; exact h1
  · intro h; unfold VAs; exact ⟨v, [], rfl, h, by unfold VAs; rfl⟩
theorem VAs_cons {N : Nat → Prop} {x : AV} {xs : List AV} {vs : List Value} : VAs E w N (x :: xs) vs ↔ ∃ v vs', vs = v :: vs' ∧ VA E w N x v ∧ VAs E w N xs vs' := by
  constructor
  · intro h; unfold VAs at h; exact h
  · intro h; unfold VAs; exact h
theorem VAs_imp_cons {N : Nat → Prop} {x y : AV} {xs ys : List AV} {vs : List Value} (h : ∀ v, VA E w N x v → VA E w N y v) (hs : ∀ vs, VAs E w N xs vs → VAs E w N ys vs) (hv : VAs E w N (x :: xs) vs) : VAs E w N (y :: ys) vs := by
  rw [VAs_cons] at hv ⊢
  obtain ⟨v, vs', e, h1, h2⟩ := hv
  exact ⟨v, vs', e, h v h1, hs vs' h2⟩
theorem Is.va {α : Type} [Cd α] {x : D} (h : Is α x) {N : Nat → Prop} (v : Value) (hv : VA E w N (.d x) v) : VA E w N (.d (enc (un x : α))) v := by
  unfold VA at hv ⊢; exact h.out _ _ _ hv
theorem OrcOK.pure1 {α : Type} [Cd α] {o : Orc} (ho : OrcOK P o) (k : Nat) (rows : Bool) {f : α → AV} {pre : α → List Prop} (h : ∀ x, Conds (pre x) → Spec P o.gl k [.d (enc x)] [] (f x) []) : OrcOK P (o.add k rows (pure1 f pre)) :=
  ho.add k rows _ fun args H r H' cs hm hc => by
    unfold Eng.pure1 at hm
    split at hm
    · cases hm
      obtain ⟨h1, h2⟩ := hc
      exact (h _ h2).args fun hv => VAs_imp_cons (fun v => h1.va v) (fun _ h => h) hv
    · cases hm
theorem OrcOK.pure2 {α β : Type} [Cd α] [Cd β] {o : Orc} (ho : OrcOK P o) (k : Nat) (rows : Bool) {f : α → β → AV} {pre : α → β → List Prop} (h : ∀ x y, Conds (pre x y) → Spec P o.gl k [.d (enc x), .d (enc y)] [] (f x y) []) : OrcOK P (o.add k rows (pure2 f pre)) :=
  ho.add k rows _ fun args H r H' cs hm hc => by
    unfold Eng.pure2 at hm
    split at hm
    · cases hm
      obtain ⟨h1, h2, h3⟩ := hc
      exact (h _ _ h3).args fun hv => VAs_imp_cons (fun v => h1.va v) (fun _ h => VAs_imp_cons (fun v => h2.va v) (fun _ h => h) h) hv
    · cases hm
theorem OrcOK.pure3 {α β γ : Type} [Cd α] [Cd β] [Cd γ] {o : Orc} (ho : OrcOK P o) (k : Nat) (rows : Bool) {f : α → β → γ → AV} {pre : α → β → γ → List Prop} (h : ∀ x y z, Conds (pre x y z) → Spec P o.gl k [.d (enc x), .d (enc y), .d (enc z)] [] (f x y z) []) : OrcOK P (o.add k rows (pure3 f pre)) :=
  ho.add k rows _ fun args H r H' cs hm hc => by
    unfold Eng.pure3 at hm
    split at hm
    · cases hm
      obtain ⟨h1, h2, h3, h4⟩ := hc
      exact (h _ _ _ h4).args fun hv => VAs_imp_cons (fun v => h1.va v) (fun _ h => VAs_imp_cons (fun v => h2.va v) (fun _ h => VAs_imp_cons (fun v => h3.va v) (fun _ h => h) h) h) hv
    · cases hm
theorem OrcOK.pure4 {α β γ δ : Type} [Cd α] [Cd β] [Cd γ] [Cd δ] {o : Orc} (ho : OrcOK P o) (k : Nat) (rows : Bool) {f : α → β → γ → δ → AV} {pre : α → β → γ → δ → List Prop} (h : ∀ x y z u, Conds (pre x y z u) → Spec P o.gl k [.d (enc x), .d (enc y), .d (enc z), .d (enc u)] [] (f x y z u) []) : OrcOK P (o.add k rows (pure4 f pre)) :=
  ho.add k rows _ fun args H r H' cs hm hc => by
    unfold Eng.pure4 at hm
    split at hm
    · cases hm
      obtain ⟨h1, h2, h3, h4, h5⟩ := hc
      exact (h _ _ _ _ h5).args fun hv => VAs_imp_cons (fun v => h1.va v) (fun _ h => VAs_imp_cons (fun v => h2.va v) (fun _ h => VAs_imp_cons (fun v => h3.va v) (fun _ h => VAs_imp_cons (fun v => h4.va v) (fun _ h => h) h) h) h) hv
    · cases hm
def pure0 (r : AV) : List AV → List (Nat × Th) → Option (AV × List (Nat × Th) × List Prop)
  | [], [] => some (r, [], [])
  | _, _ => Option.none
theorem OrcOK.pure0 {o : Orc} (ho : OrcOK P o) (k : Nat) (rows : Bool) {r : AV} (h : Spec P o.gl k [] [] r []) : OrcOK P (o.add k rows (pure0 r)) :=
  ho.add k rows _ fun args H r H' cs hm hc => by
    unfold Eng.pure0 at hm
    split at hm
    · cases hm; exact h
    · cases hm

/-! ### what a state says, in other words -/
theorem St.th_lt {k : Nat} {t : Th} (h : s.th k = some t) : k < s.fresh := th_lt_fresh h
/-- The thing of k told in another way. -/
theorem Says.th {k : Nat} {t t' : Th} (hk : s.th k = some t) (h : ∀ {E : Env} {w : World} {N : Nat → Prop} {v : Value}, ThOK C.P E w N t v → ThOK C.P E w N t' v) : Says C s (s.setTh k t') := .mk fun E a w hs => by
  have st : Step C E E s (s.setTh k t') w w _ _ _ := Step.set' k t hk t' rfl rfl rfl (Nat.le_refl _) (fun _ _ _ => rfl)
  have hN : ∀ b, Stable C E s w b → Stable C E (s.setTh k t') w b := st.stable
  refine ⟨E, hs.fit.step st (fun x v hx => VA.mono hN (fun _ _ _ h => h) hx) (fun i t1 hi h1 => ?_), VAs.mono hN (fun _ _ _ h => h) hs.tm, hs.df⟩
  have e : i = k := by simpa [eqk] using hi
  subst e
  rw [St.setTh_th, if_pos rfl] at h1
  cases h1
  have h2 := (hs.fit.th i t hk).1
  have h3 : ThOK C.P E w (Stable C E (s.setTh i t') w) t (E i) := by
    have := h2.kept (f := fun x => x) hN (fun _ _ _ h => h) (fun _ _ => rfl) (fun x u hx => VA.mono hN (fun _ _ _ h => h) hx)
    rwa [Th.map_id] at this
  exact h h3
end Go.Eng
