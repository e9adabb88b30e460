/-
  Part of the engine: abstract states of a call (values as trees, objects and rows of the call's own), and that each operation of the model does to the world what it does to them. No condition.
-/
import Derived.Test.YticnclmadldkkaaAbs4
namespace Go.Abs
open Go Go.RowKit
variable {P : Program} {B : Nat} {w0 : World} {N0 : Nat → Prop} {E E' : Env} {s s' : St} {a : Act} {w w' : World}

theorem cells_one {v : Value} (h : v.oneCell' = true) : v.cells.toList = [v] := by
  cases v <;> first | rfl | (simp [Value.oneCell'] at h)
theorem VC_one {N : Nat → Prop} {x : D} {v : Value} (h1 : x.one = true) (h : VC w N x [v]) : v.oneCell' = true := by
  cases x with
  | raw u => unfold VC at h; obtain ⟨h2, h3⟩ := h; simp only [List.cons.injEq, and_true] at h2; rw [h2]; exact h3
  | list sz n el =>
    unfold VC at h
    obtain ⟨u, h2, h3⟩ := h
    simp only [List.cons.injEq, and_true] at h2
    rw [h2]
    rcases h3 with ⟨_, h4⟩ | ⟨ad, cap, cs, h4, _⟩ <;> rw [h4] <;> rfl
  | agg xs => simp [D.one] at h1

theorem VCs.length {N : Nat → Prop} : ∀ {xs : List D} {vs : List Value}, VCs w N xs vs → vs.length = xs.length
  | [], vs, h => by unfold VCs at h; subst h; rfl
  | x :: xs, vs, h => by
    unfold VCs at h
    obtain ⟨v, vs', rfl, _, _, h⟩ := h
    simp [VCs.length h]
theorem VCs.get {N : Nat → Prop} : ∀ {xs : List D} {vs : List Value}, VCs w N xs vs → ∀ (i : Nat) (x : D), xs[i]? = some x → ∃ v, vs[i]? = some v ∧ x.one = true ∧ VC w N x [v]
  | [], vs, h, i, x, hx => by simp at hx
  | y :: xs, vs, h, i, x, hx => by
    unfold VCs at h
    obtain ⟨v, vs', rfl, h1, h2, h⟩ := h
    cases i with
    | zero => simp at hx; subst hx; exact ⟨v, rfl, h1, h2⟩
    | succ i => simpa using VCs.get h i x (by simpa using hx)
theorem VCs.of_get {N : Nat → Prop} : ∀ {xs : List D} {vs : List Value}, vs.length = xs.length → (∀ (i : Nat) (x : D) (v : Value), xs[i]? = some x → vs[i]? = some v → x.one = true ∧ VC w N x [v]) → VCs w N xs vs
  | [], vs, h, _ => by unfold VCs; exact List.eq_nil_of_length_eq_zero (by simpa using h)
  | x :: xs, [], h, _ => by simp at h
  | x :: xs, v :: vs, h, hg => by
    unfold VCs
    obtain ⟨h1, h2⟩ := hg 0 x v rfl rfl
    exact ⟨v, vs, rfl, h1, h2, VCs.of_get (by simpa using h) fun i y u hy hu => hg (i + 1) y u (by simpa using hy) (by simpa using hu)⟩
theorem VCs.ones {N : Nat → Prop} {xs : List D} {vs : List Value} (h : VCs w N xs vs) : ∀ v ∈ vs, v.oneCell' = true := by
  intro v hv
  obtain ⟨i, hi, rfl⟩ := List.mem_iff_getElem.1 hv
  have hl := h.length
  obtain ⟨u, h1, h2, h3⟩ := h.get i xs[i] (List.getElem?_eq_getElem (by omega))
  rw [List.getElem?_eq_getElem hi] at h1
  cases h1
  exact VC_one h2 h3
theorem VCs.append {N : Nat → Prop} : ∀ {xs ys : List D} {vs us : List Value}, VCs w N xs vs → VCs w N ys us → VCs w N (xs ++ ys) (vs ++ us)
  | [], ys, vs, us, h, k => by unfold VCs at h; subst h; exact k
  | x :: xs, ys, vs, us, h, k => by
    unfold VCs at h
    obtain ⟨v, vs', rfl, h1, h2, h⟩ := h
    simp only [List.cons_append]
    unfold VCs
    exact ⟨v, vs' ++ us, rfl, h1, h2, VCs.append h k⟩
theorem VCs.take {N : Nat → Prop} {xs : List D} {vs : List Value} (h : VCs w N xs vs) (n : Nat) : VCs w N (xs.take n) (vs.take n) :=
  VCs.of_get (by simp [h.length]) fun i x v hx hv => by
    rw [List.getElem?_take] at hx hv
    split at hx
    · rename_i hlt
      rw [if_pos hlt] at hv
      obtain ⟨u, h1, h2, h3⟩ := h.get i x hx
      rw [h1] at hv; cases hv; exact ⟨h2, h3⟩
    · cases hx
theorem VCs.drop {N : Nat → Prop} {xs : List D} {vs : List Value} (h : VCs w N xs vs) (n : Nat) : VCs w N (xs.drop n) (vs.drop n) :=
  VCs.of_get (by simp [h.length]) fun i x v hx hv => by
    rw [List.getElem?_drop] at hx hv
    obtain ⟨u, h1, h2, h3⟩ := h.get _ x hx
    rw [h1] at hv; cases hv; exact ⟨h2, h3⟩
/-- The cells of a datum. -/
theorem VC.cells {N : Nat → Prop} {x : D} {vs : List Value} (h : VC w N x vs) : VCs w N x.cells vs := by
  cases x with
  | agg xs => unfold VC at h; exact h
  | raw u =>
    show VCs w N [.raw u] vs
    have h' := h
    unfold VC at h'
    obtain ⟨rfl, h1⟩ := h'
    unfold VCs
    exact ⟨u, [], rfl, h1, h, by unfold VCs; rfl⟩
  | list sz n el =>
    show VCs w N [.list sz n el] vs
    have h' := h
    unfold VC at h'
    obtain ⟨v, rfl, _⟩ := h'
    unfold VCs
    exact ⟨v, [], rfl, rfl, h, by unfold VCs; rfl⟩
theorem VD.cells {N : Nat → Prop} {x : D} {v : Value} (h : VD w N x v) : VCs w N x.cells v.cells.toList := by
  cases x with
  | agg xs =>
    obtain ⟨vs, rfl, h⟩ := h
    exact VC.cells h
  | raw u =>
    have h' : VC w N (.raw u) [v] := h
    rw [cells_one (VC_one (x := .raw u) (by have := h'; unfold VC at this; exact this.2) h')]
    exact VC.cells h'
  | list sz n el =>
    have h' : VC w N (.list sz n el) [v] := h
    rw [cells_one (VC_one rfl h')]
    exact VC.cells h'

/-- The cells of a value, where it is boxed or stored. -/
def AV.boxed : AV → Option (List AV)
  | .d x => some (x.cells.map .d)
  | .ref k o => some [.ref k o]
  | .own r => some [.own r]
  | .fn f a b => some [.fn f a b]
  | .cptr cs => some [.cptr cs]
  | .el r i z o => some [.el r i z o]
  | .known b => some [.known b]
  | .tup _ => none
  | .dead => none

theorem VAs_of_VCs {N : Nat → Prop} : ∀ {xs : List D} {vs : List Value}, VCs w N xs vs → VAs E w N (xs.map .d) vs
  | [], vs, h => by unfold VCs at h; subst h; unfold VAs; rfl
  | x :: xs, vs, h => by
    unfold VCs at h
    obtain ⟨v, vs', rfl, h1, h2, h⟩ := h
    simp only [List.map_cons]
    unfold VAs
    refine ⟨v, vs', rfl, ?_, VAs_of_VCs h⟩
    unfold VA
    cases x with
    | agg xs => simp [D.one] at h1
    | raw u => exact h2
    | list sz n el => exact h2
theorem VAs_single {N : Nat → Prop} {x : AV} {v : Value} (h : VA E w N x v) (h1 : v.oneCell' = true) : VAs E w N [x] v.cells.toList := by
  rw [cells_one h1]
  unfold VAs
  exact ⟨v, [], rfl, h, by unfold VAs; rfl⟩
theorem boxed_VAs {N : Nat → Prop} {x : AV} {v : Value} {cs : List AV} (h : VA E w N x v) (hb : x.boxed = some cs) : VAs E w N cs v.cells.toList ∧ ∀ u ∈ v.cells.toList, u.oneCell' = true := by
  cases x with
  | d x =>
    simp only [AV.boxed, Option.some.injEq] at hb
    subst hb
    unfold VA at h
    exact ⟨VAs_of_VCs (VD.cells h), (VD.cells h).ones⟩
  | ref k o =>
    simp only [AV.boxed, Option.some.injEq] at hb
    subst hb
    have h' := h
    unfold VA at h'
    subst h'
    exact ⟨VAs_single h rfl, by rw [cells_one rfl]; simp [Value.oneCell']⟩
  | own r =>
    simp only [AV.boxed, Option.some.injEq] at hb
    subst hb
    have h' := h
    unfold VA at h'
    exact ⟨VAs_single h h'.2, by rw [cells_one h'.2]; simpa using h'.2⟩
  | fn f p q =>
    simp only [AV.boxed, Option.some.injEq] at hb
    subst hb
    have h' := h
    unfold VA at h'
    obtain ⟨_, _, rfl, _⟩ := h'
    exact ⟨VAs_single h rfl, by rw [cells_one rfl]; simp [Value.oneCell']⟩
  | cptr cs' =>
    simp only [AV.boxed, Option.some.injEq] at hb
    subst hb
    have h' := h
    unfold VA at h'
    obtain ⟨_, _, rfl, _⟩ := h'
    exact ⟨VAs_single h rfl, by rw [cells_one rfl]; simp [Value.oneCell']⟩
  | el r i z o =>
    simp only [AV.boxed, Option.some.injEq] at hb
    subst hb
    have h' := h
    unfold VA at h'
    obtain ⟨_, _, _, _, rfl⟩ := h'
    exact ⟨VAs_single h rfl, by rw [cells_one rfl]; simp [Value.oneCell']⟩
  | known b =>
    simp only [AV.boxed, Option.some.injEq] at hb
    subst hb
    have h' := h
    unfold VA at h'
    subst h'
    exact ⟨VAs_single h rfl, by rw [cells_one rfl]; simp [Value.oneCell']⟩
  | tup _ => simp [AV.boxed] at hb
  | dead => simp [AV.boxed] at hb

/-! ### a new object -/
def St.newObj (s : St) (k : Nat) (T : TypeId) (cells : List AV) : St :=
  ({ s.noRef k with objs := (s.noRef k).objs.set k (some ⟨T, cells⟩) } : St).put (some k) (.ref k 0)

theorem newObj_ok {o : Oper} {k : Nat} {T : TypeId} {cells : List AV} {x : Value} (hd : o.dst = some k) (hk : k < s.objs.length) (hno : AV.hasRefs k cells = false)
    (hsim : Sim B w0 N0 E s a w) (hc : VAs E w (Stable B N0 E s w) cells x.cells.toList)
    (hrun : (execOp a.eval o).run P w = .ok (.value (.pointer (some ⟨w.heap.size, 0, none⟩))) (w.alloc (.cells x.cells T)))
    {next : Act → World → Prop} {Q : Exit → Act → World → Prop} (hn : ∀ E' a' w', Sim B w0 N0 E' (s.newObj k T cells) a' w' → (true = true → Below w.heap.size w w') → next a' w') : Oper.wp P o a w next Q := by
  refine wp_value hrun ?_
  obtain ⟨h1, h2, h3, h4⟩ := hsim.fit.newObj k hk T cells x.cells.toList hc hno
  have e : x.cells.toList.toArray = x.cells := by simp
  rw [e] at h1 h2 h3 h4
  have hsim' : Sim B w0 N0 { E with σ := fun i => if i = k then w.heap.size else E.σ i } { s.noRef k with objs := (s.noRef k).objs.set k (some ⟨T, cells⟩) } a (w.alloc (.cells x.cells T)) :=
    ⟨h1, VAs.map _ hsim.tm h4, hsim.df⟩
  have := hsim'.put o.dst (x := .ref k 0) (v := .pointer (some ⟨w.heap.size, 0, none⟩)) (by unfold VA; simp)
  rw [hd] at this ⊢
  exact hn _ _ _ this fun _ => (Below.refl _ _).alloc (Nat.le_refl _) _

def stepBox (o : Oper) (T : TypeId) (x : AV) (s : St) : Option St :=
  match o.dst, x.boxed with
  | some k, some cells => if k < s.objs.length ∧ AV.hasRefs k cells = false then some (s.newObj k T cells) else none
  | _, _ => none
theorem stepBox_ok {o : Oper} {T : TypeId} {x : Operand} (ho : o.op = .box T x) (h : stepBox o T (s.ev x) s = some s') : StepOK P true o s s' := by
  unfold stepBox at h
  split at h
  · rename_i k cells hd hb
    split at h
    · rename_i hc
      cases h
      constructor
      intro B w0 N0 E a w next Q hsim hn
      have hv := boxed_VAs (hsim.ev x) hb
      refine newObj_ok hd hc.1 hc.2 hsim hv.1 (x := a.eval x) ?_ hn
      simp [execOp, ho, Instr.box, newVar, newRow, newObj, Sem.run]
    · cases h
  · cases h
def stepAlloc (P : Program) (o : Oper) (T : TypeId) (s : St) : Option St :=
  match o.dst, (P.info? T).bind (·.zero) with
  | some k, some z =>
    match (ofValue z).boxed with
    | some cells => if k < s.objs.length ∧ AV.hasRefs k cells = false then some (s.newObj k T cells) else none
    | none => none
  | _, _ => none
theorem stepAlloc_ok {o : Oper} {T : TypeId} (ho : o.op = .alloc T) (h : stepAlloc P o T s = some s') : StepOK P true o s s' := by
  unfold stepAlloc at h
  split at h
  · rename_i k z hd hz
    split at h
    · rename_i cells hb
      split at h
      · rename_i hc
        cases h
        constructor
        intro B w0 N0 E a w next Q hsim hn
        have hv := boxed_VAs (ofValue_VA (E := E) (w := w) (N := Stable B N0 E s w) z) hb
        obtain ⟨i, hi, hz'⟩ := Option.bind_eq_some_iff.1 hz
        refine newObj_ok hd hc.1 hc.2 hsim hv.1 (x := z) ?_ hn
        simp [execOp, ho, Instr.alloc, zeroValue, typeInfo, program, hi, hz', newVar, newRow, newObj, Sem.run]
      · cases h
    · cases h
  · cases h

/-! ### loads -/
def AV.toD : AV → Option D
  | .d x => if x.one then some x else none
  | .known b => some (.raw (.bool b))
  | _ => none
def isAggT (P : Program) (t : TypeId) : Option Bool :=
  (P.underlying t).map fun d => match d with | .struct _ => true | .array _ _ => true | _ => false
/-- What a load of type t finds in cells from off on. -/
def loadCellsAV (P : Program) (t : TypeId) (cells : List AV) (off : Nat) : Option AV :=
  match isAggT P t, P.info? t with
  | some true, some i => if off + i.size ≤ cells.length then (((cells.drop off).take i.size).mapM AV.toD).map fun xs => .d (.agg xs) else none
  | some false, some _ => cells[off]?
  | _, _ => none

theorem mapM_toD {N : Nat → Prop} : ∀ {cs : List AV} {xs : List D} {vs : List Value}, cs.mapM AV.toD = some xs → VAs E w N cs vs → VCs w N xs vs
  | [], xs, vs, h, k => by
    simp at h; subst h
    unfold VAs at k; subst k; unfold VCs; rfl
  | c :: cs, xs, vs, h, k => by
    rw [List.mapM_cons] at h
    simp only [Option.bind_eq_bind, Option.bind_eq_some_iff, Option.pure_def, Option.some.injEq] at h
    obtain ⟨x, hx, xs', hxs, rfl⟩ := h
    unfold VAs at k
    obtain ⟨v, vs', rfl, hv, k⟩ := k
    cases c <;> simp only [AV.toD, reduceCtorEq] at hx
    case d y =>
      split at hx
      · rename_i h1
        cases hx
        unfold VA at hv
        unfold VCs
        refine ⟨v, vs', rfl, h1, ?_, mapM_toD hxs k⟩
        cases x with
        | agg xs => simp [D.one] at h1
        | raw u => exact hv
        | list sz n el => exact hv
      · cases hx
    case known b =>
      cases hx
      unfold VA at hv
      unfold VCs
      exact ⟨v, vs', rfl, rfl, by subst hv; exact (VD_raw (w := w) (N := N) (v := .bool b) rfl), mapM_toD hxs k⟩
theorem VAs.take {N : Nat → Prop} {xs : List AV} {vs : List Value} (h : VAs E w N xs vs) (n : Nat) : VAs E w N (xs.take n) (vs.take n) :=
  VAs.of_get (by simp [h.length]) fun i x v hx hv => by
    rw [List.getElem?_take] at hx hv
    split at hx
    · rename_i hlt
      rw [if_pos hlt] at hv
      obtain ⟨u, h1, h2⟩ := h.get i x hx
      rw [h1] at hv; cases hv; exact h2
    · cases hx
theorem VAs.drop {N : Nat → Prop} {xs : List AV} {vs : List Value} (h : VAs E w N xs vs) (n : Nat) : VAs E w N (xs.drop n) (vs.drop n) :=
  VAs.of_get (by simp [h.length]) fun i x v hx hv => by
    rw [List.getElem?_drop] at hx hv
    obtain ⟨u, h1, h2⟩ := h.get _ x hx
    rw [h1] at hv; cases hv; exact h2

theorem addr_add_add (ad : Addr) (h : ad.spot = none) (m n : Nat) : (ad.add m).add n = ad.add (m + n) := by
  rcases ad with ⟨b, o, sp⟩
  simp only at h
  subst h
  unfold Addr.add
  split <;> split <;> split <;> simp_all <;> omega
theorem addr_mk_add (b o n : Nat) : (⟨b, o, none⟩ : Addr).add n = ⟨b, o + n, none⟩ := by
  unfold Addr.add; split <;> simp_all

/-- The load itself. -/
theorem loadAV_run {t : TypeId} {cells : List AV} {vs : List Value} {off : Nat} {x : AV} {N : Nat → Prop} {ad : Addr} (h : loadCellsAV P t cells off = some x) (hc : VAs E w N cells vs)
    : ∃ v, (∀ w', (∀ (j : Nat) (u : Value), vs[off + j]? = some u → w'.cell? (ad.add j) = some u) → (loadVar t ad).run P w' = .ok v w') ∧ VA E w N x v := by
  unfold loadCellsAV at h
  split at h
  · rename_i i hu hi
    split at h
    · rename_i hl
      obtain ⟨xs, hxs, rfl⟩ := Option.map_eq_some_iff.1 h
      have h1 := mapM_toD hxs ((hc.drop off).take i.size)
      have hlen : ((vs.drop off).take i.size).length = i.size := by simp [hc.length]; omega
      refine ⟨.agg ((vs.drop off).take i.size).toArray, ?_, ?_⟩
      · intro w' hm
        have hr := run_loadCells_list (P := P) (w := w') ad ((vs.drop off).take i.size) (fun j v hv => by
          rw [List.getElem?_take] at hv
          split at hv
          · rw [List.getElem?_drop] at hv; exact hm j v hv
          · cases hv)
        rw [hlen] at hr
        unfold isAggT at hu
        obtain ⟨d, hd, hd'⟩ := Option.map_eq_some_iff.1 hu
        cases d <;> simp at hd' <;> simp [loadVar, isAgg, run_underlying hd, sizeOf, typeInfo, program, hi, hr, Sem.run]
      · unfold VA
        exact ⟨_, rfl, by unfold VC; exact h1⟩
    · cases h
  · rename_i i hu hi
    obtain ⟨v, hv1, hv2⟩ := hc.get off x h
    refine ⟨v, fun w' hm => ?_, hv2⟩
    have hcell := hm 0 v (by simpa using hv1)
    have hadd : ad.add 0 = ad := by simp [Addr.add]
    rw [hadd] at hcell
    unfold isAggT at hu
    obtain ⟨d, hd, hd'⟩ := Option.map_eq_some_iff.1 hu
    cases d <;> simp at hd' <;> simp [loadVar, isAgg, run_underlying hd, load, Sem.run, hcell]
  · cases h
end Go.Abs
