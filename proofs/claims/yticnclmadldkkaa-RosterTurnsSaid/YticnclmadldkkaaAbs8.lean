/-
  Part of the engine: abstract states of a call (values as trees, objects and rows of the call's own), and that each operation of the model does to the world what it does to them. No condition.
-/
import Derived.Test.YticnclmadldkkaaAbs7
import Derived.Laws.AppendOwnNone
namespace Go.Abs
open Go Go.RowKit
variable {P : Program} {B : Nat} {w0 : World} {N0 : Nat → Prop} {E E' : Env} {s s' : St} {a : Act} {w w' : World}

/-! ### structs and literals of slices -/
def rawCells (z : Value) : Option (List D) := if z.cells.toList.all (·.oneCell') then some (z.cells.toList.map .raw) else none
def builtD (P : Program) (t : TypeId) (parts : List (Nat × D)) : Option (List D) :=
  match P.info? t, P.underlying t with
  | some it, some (.array _ e) =>
    match it.zero.bind rawCells, P.info? e with
    | some z, some ie => fillD (fun i => some (i * ie.size, ie.size)) z parts
    | _, _ => none
  | some it, some (.struct fields) =>
    match it.zero.bind rawCells, fields.toList.mapM (fun f => (P.info? f.type).map fun i => (f.offset, i.size)) with
    | some z, some places => fillD (places.toArray[·]?) z parts
    | _, _ => none
  | _, _ => none
theorem rawCells_VCs {N : Nat → Prop} {z : Value} {cs : List D} (h : rawCells z = some cs) : VCs w N cs z.cells.toList := by
  unfold rawCells at h
  split at h
  · rename_i h1
    cases h
    exact VCs_raw _ h1
  · cases h
theorem builtD_run {N : Nat → Prop} {t : TypeId} {parts : List (Nat × D)} {vparts : List (Nat × Value)} {r : List D} (h : builtD P t parts = some r) (hl : vparts.length = parts.length)
    (hp : ∀ (j : Nat) i x k v, parts[j]? = some (i, x) → vparts[j]? = some (k, v) → k = i ∧ VD w N x v) : ∃ rs, P.built t vparts = some rs ∧ VCs w N r rs.toList := by
  unfold builtD at h
  unfold Program.built
  cases hi : P.info? t with
  | none => simp [hi] at h
  | some it =>
    cases hu : P.underlying t with
    | none => simp [hi, hu] at h
    | some d =>
      cases d <;> simp only [hi, hu, reduceCtorEq] at h
      case array n e =>
        cases hz : it.zero with
        | none => simp [hz] at h
        | some z =>
          simp only [hz, Option.bind_some] at h
          cases hz2 : rawCells z with
          | none => simp [hz2] at h
          | some zc =>
            cases he : P.info? e with
            | none => simp [hz2, he] at h
            | some ie =>
              simp only [hz2, he] at h
              simpa [hz, he] using fillD_run _ parts vparts zc z.cells r (rawCells_VCs hz2) hl hp h
      case struct fields =>
        cases hz : it.zero with
        | none => simp [hz] at h
        | some z =>
          simp only [hz, Option.bind_some] at h
          cases hz2 : rawCells z with
          | none => simp [hz2] at h
          | some zc =>
            cases he : fields.toList.mapM (fun f => (P.info? f.type).map fun i => (f.offset, i.size)) with
            | none => simp [hz2, he] at h
            | some places =>
              simp only [hz2, he] at h
              simpa [hz, he] using fillD_run _ parts vparts zc z.cells r (rawCells_VCs hz2) hl hp h

def AV.isRaw : AV → Bool
  | .d (.raw _) => true
  | .known _ => true
  | _ => false
def AV.rawOf : AV → Value
  | .d (.raw v) => v
  | .known b => .bool b
  | _ => undef
/-- An operand as a datum; a row is read as it stands. -/
def St.argD (s : St) : AV → Option D
  | .d x => some x
  | .known b => some (.raw (.bool b))
  | .own r => (s.row r).map fun R => .list R.sz R.n R.el
  | .fn f p q => if (p ++ q).all AV.isRaw then some (.raw (.func f (p.map AV.rawOf).toArray (q.map AV.rawOf).toArray)) else none
  | _ => none
/-- Data alone: nothing of the call's own. -/
def AV.pure : AV → Option D
  | .d x => some x
  | .known b => some (.raw (.bool b))
  | _ => none
def partsD (s : St) : List (Nat × Operand) → Option (List (Nat × D))
  | [] => some []
  | (i, x) :: rest => match (s.ev x).pure, partsD s rest with
    | some d, some ds => some ((i, d) :: ds)
    | _, _ => none
theorem partsD_ok (hsim : Sim B w0 N0 E s a w) : ∀ (ps : List (Nat × Operand)) (ds : List (Nat × D)), partsD s ps = some ds → ds.length = ps.length ∧
    ∀ (j : Nat) i x k v, ds[j]? = some (i, x) → (ps.map fun (i, x) => (i, a.eval x))[j]? = some (k, v) → k = i ∧ VD w (Stable B N0 E s w) x v
  | [], ds, h => by simp only [partsD, Option.some.injEq] at h; subst h; exact ⟨rfl, fun j i x k v h => by simp at h⟩
  | (i, x) :: ps, ds, h => by
    simp only [partsD] at h
    split at h
    · rename_i d ds' h1 h2
      cases h
      obtain ⟨h3, h4⟩ := partsD_ok hsim ps ds' h2
      refine ⟨by simp [h3], fun j i' x' k v hj hj' => ?_⟩
      cases j with
      | zero =>
        simp only [List.getElem?_cons_zero, Option.some.injEq, Prod.mk.injEq, List.map_cons] at hj hj'
        obtain ⟨rfl, rfl⟩ := hj
        obtain ⟨rfl, rfl⟩ := hj'
        have hx := hsim.ev x
        cases hxe : s.ev x <;> rw [hxe] at h1 hx <;> simp only [AV.pure, reduceCtorEq, Option.some.injEq] at h1
        · subst h1
          unfold VA at hx
          exact ⟨rfl, hx⟩
        · subst h1
          unfold VA at hx
          exact ⟨rfl, by rw [hx]; exact VD_raw rfl⟩
      | succ j => exact h4 j i' x' k v (by simpa using hj) (by simpa using hj')
    · cases h
theorem map_toList_toArray {α β : Type} (f : α → β) (z : Array α) : z.map f = (z.toList.map f).toArray := by rw [← Array.toList_map, Array.toArray_toList]

def stepBuild (P : Program) (t : TypeId) (parts : Array (Nat × Operand)) (s : St) : Option AV :=
  match partsD s parts.toList with
  | some ds => (builtD P t ds).map fun xs => .d (.agg xs)
  | none => none
theorem stepBuild_ok {o : Oper} {t : TypeId} {parts : Array (Nat × Operand)} {y : AV} (ho : o.op = .build t parts) (h : stepBuild P t parts s = some y) : LightOK P false o y s := by
  constructor
  intro B w0 N0 E a w hsim
  unfold stepBuild at h
  split at h
  · rename_i ds hds
    obtain ⟨xs, hxs, rfl⟩ := Option.map_eq_some_iff.1 h
    obtain ⟨h1, h2⟩ := partsD_ok hsim _ _ hds
    obtain ⟨rs, h3, h4⟩ := builtD_run (P := P) hxs (vparts := parts.toList.map fun (i, x) => (i, a.eval x)) (by simp [h1]) h2
    refine ⟨.agg rs, fun w' _ => ?_, ?_⟩
    · have hb := run_build (P := P) w' t (parts.map fun (i, x) => (i, a.eval x)) rs (by rw [map_toList_toArray]; simpa using h3)
      simp [execOp, ho, hb]
    · unfold VA
      exact ⟨rs.toList, by simp, by unfold VC; exact h4⟩
  · cases h

/-! ### a new row -/
def St.newRow (s : St) (q : Option Nat) (r : Nat) (R : Row) : St :=
  ({ (s.noOwnO q).noOwn r with rows := ((s.noOwnO q).noOwn r).rows.set r (some R) } : St).put (some r) (.own r)
theorem newRow_ok {o : Oper} {q : Option Nat} {r : Nat} {R : Row} {v : Value} {vs : List Value} (hd : o.dst = some r) (hr : r < s.rows.length) (hq : ∀ k, q = some k → ∃ R, s.row k = some R)
    (hsim : Sim B w0 N0 E s a w) (hv1 : v.oneCell' = true) (hg : w.grownBy w' (rowBlock E q)) (hown : w'.ownsRow B R.E R.sz v R.n vs) (hat : ∀ b, v.ownBlock = some b → w.heap.size ≤ b ∨ some b = rowBlock E q)
    (hel : ∀ i, i < R.n → VC w (Stable B N0 E s w) (R.el i) ((vs.drop (i * R.sz)).take R.sz))
    (hrun : (execOp a.eval o).run P w = .ok (.value v) w') {next : Act → World → Prop} {Q : Exit → Act → World → Prop}
    (hn : ∀ E' a' w', Sim B w0 N0 E' (s.newRow q r R) a' w' → (q = none → Below w.heap.size w w') → next a' w') : Oper.wp P o a w next Q := by
  refine wp_value hrun ?_
  obtain ⟨h1, h2, h3, h4⟩ := hsim.fit.newRow q hq r hr R v vs hg hown hat hel _ rfl _ rfl
  have hsq : (((s.noOwnO q).noOwn r).tmps) = s.tmps.map fun x => AV.noOwn r (AV.noOwnO q x) := by
    cases q with
    | none => simp [St.noOwnO, St.noOwn, AV.noOwnO]
    | some q => simp [St.noOwnO, St.noOwn, AV.noOwnO]
  have hsim' : Sim B w0 N0 (E.setτ r v) { (s.noOwnO q).noOwn r with rows := ((s.noOwnO q).noOwn r).rows.set r (some R) } a w' :=
    ⟨h1, by show VAs _ _ _ ((s.noOwnO q).noOwn r).tmps _; rw [hsq]; exact VAs.map _ hsim.tm h4, hsim.df⟩
  have := hsim'.put o.dst (x := .own r) (v := v) (by unfold VA; exact ⟨by simp [Env.setτ], hv1⟩)
  rw [hd] at this ⊢
  refine hn _ _ _ this fun hq => ?_
  subst hq
  exact ⟨hg.os, hg.tape, hg.output, hg.size, fun k hk => hg.block k hk (by simp [rowBlock])⟩

/-- Element i of cells that lie one behind the other. -/
def segD (agg : Bool) (sz : Nat) (ds : List D) (i : Nat) : D := if agg then .agg ((ds.drop (i * sz)).take sz) else ds.getD (i * sz) default
theorem segD_VC {N : Nat → Prop} {agg : Bool} {sz n : Nat} {ds : List D} {vs : List Value} (h : VCs w N ds vs) (hl : ds.length = n * sz) (ha : agg = true ∨ sz = 1) (i : Nat) (hi : i < n) :
    VC w N (segD agg sz ds i) ((vs.drop (i * sz)).take sz) := by
  unfold segD
  cases agg with
  | true => simp only [if_true]; unfold VC; exact (h.drop _).take _
  | false =>
    simp only [Bool.false_eq_true, if_false]
    obtain rfl : sz = 1 := by simpa using ha
    have hlt : i * 1 < ds.length := by omega
    obtain ⟨v, h1, h2, h3⟩ := h.get (i * 1) ds[i * 1] (List.getElem?_eq_getElem hlt)
    have e1 : ds.getD (i * 1) default = ds[i * 1] := by rw [List.getD_eq_getElem?_getD, List.getElem?_eq_getElem hlt]; rfl
    have e2 : (vs.drop (i * 1)).take 1 = [v] := by
      obtain ⟨hlt2, h4⟩ := List.getElem?_eq_some_iff.1 h1
      rw [List.drop_eq_getElem_cons hlt2, h4]; rfl
    rw [e1, e2]; exact h3

def stepBuildSlice (P : Program) (o : Oper) (t : TypeId) (len : Nat) (parts : Array (Nat × Operand)) (s : St) : Option St :=
  match o.dst, P.underlying t, partsD s parts.toList with
  | some r, some (.slice e), some ds =>
    match P.info? e, isAggT P e with
    | some i, some agg =>
      match i.zero.bind rawCells with
      | some z =>
        match fillD (fun j => some (j * i.size, i.size)) ((List.range (len * i.size)).map fun j => z.getD (j % z.length) default) ds with
        | some cells => if r < s.rows.length ∧ (agg = true ∨ i.size = 1) ∧ cells.length = len * i.size ∧ len * i.size ≤ 16777216 ∧ z.length = i.size ∧ 0 < i.size ∧ 0 < len then some (s.newRow none r ⟨e, i.size, len, segD agg i.size cells⟩) else none
        | none => none
      | none => none
    | _, _ => none
  | _, _, _ => none
theorem stepBuildSlice_ok {o : Oper} {t : TypeId} {len : Nat} {parts : Array (Nat × Operand)} (ho : o.op = .buildSlice t len parts) (h : stepBuildSlice P o t len parts s = some s') : StepOK P true o s s' := by
  unfold stepBuildSlice at h
  split at h
  · rename_i r e ds hd hu hds
    split at h
    · rename_i i agg hi ha
      split at h
      · rename_i z hz
        split at h
        · rename_i cells hf
          split at h
          · rename_i hc
            cases h
            obtain ⟨c1, c2, c3, c4, c5, c6, c7⟩ := hc
            constructor
            intro B w0 N0 E a w next Q hsim hn
            obtain ⟨zv, hzv, hz2⟩ := Option.bind_eq_some_iff.1 hz
            have hzc := rawCells_VCs (w := w) (N := Stable B N0 E s w) hz2
            have hzl := hzc.length
            have hzl' : zv.cells.size = i.size := by simpa [c5] using hzl
            obtain ⟨h1, h2⟩ := partsD_ok hsim _ _ hds
            have hzero : VCs w (Stable B N0 E s w) ((List.range (len * i.size)).map fun j => z.getD (j % z.length) default) ((Array.range (len * i.size)).map fun j => zv.cells[j % zv.cells.size]!).toList := by
              refine VCs.of_get (by simp) fun j x v hx hv => ?_
              simp only [List.getElem?_map, Array.toList_map, Array.toList_range] at hx hv
              have hmod : j % zv.cells.size < zv.cells.size := Nat.mod_lt _ (by omega)
              obtain ⟨p, hp, rfl⟩ := Option.map_eq_some_iff.1 hx
              obtain ⟨p', hp', rfl⟩ := Option.map_eq_some_iff.1 hv
              obtain ⟨_, hp1⟩ := List.getElem?_eq_some_iff.1 hp
              obtain ⟨_, hp2⟩ := List.getElem?_eq_some_iff.1 hp'
              rw [List.getElem_range] at hp1 hp2
              subst hp1; subst hp2
              have e0 : z.length = zv.cells.size := by omega
              rw [e0]
              have hlt : j % zv.cells.size < z.length := by omega
              obtain ⟨u, g1, g2, g3⟩ := hzc.get (j % zv.cells.size) z[j % zv.cells.size] (List.getElem?_eq_getElem hlt)
              rw [List.getD_eq_getElem?_getD, List.getElem?_eq_getElem hlt]
              have : zv.cells[j % zv.cells.size]! = u := by
                rw [Array.getElem?_toList] at g1
                simp [Array.getElem!_eq_getD, Array.getD_eq_getD_getElem?, g1]
              rw [this]; exact ⟨g2, g3⟩
            obtain ⟨rs, h3, h4⟩ := fillD_run (w := w) _ ds (parts.toList.map fun (i, x) => (i, a.eval x)) _ _ cells hzero (by simp [h1]) h2 hf
            have hrl : rs.size = len * i.size := by have := h4.length; simpa [c3] using this
            have hl63 : len ≤ maxLen := by
              have : len ≤ len * i.size := Nat.le_mul_of_pos_right _ c6
              unfold maxLen; omega
            refine newRow_ok (v := .slice (some ⟨w.heap.size, 0, none⟩) len len) (w' := w.alloc (.cells rs e)) (vs := rs.toList) hd c1 (by simp) hsim rfl (World.grownBy_alloc w _ _) (World.ownsRow_lit w rs len hsim.fit.size hl63 hrl) ?_ (fun j hj => segD_VC h4 c3 c2 j hj) ?_ (fun E' a' w' hs' hb => hn E' a' w' hs' fun _ => hb rfl)
            · intro b hb
              simp only [Value.ownBlock, Option.some.injEq] at hb
              exact .inl (by omega)
            · have hsz : ¬ len * i.size > 2 ^ 24 := by omega
              have hne : ¬ (len * i.size = 0) := Nat.mul_ne_zero (by omega) (by omega)
              have hps : (parts.map fun (i, x) => (i, a.eval x)).toList = parts.toList.map fun (i, x) => (i, a.eval x) := by simp
              simp only [execOp, ho, Instr.buildSlice, Sem.run_bind, run_underlying hu, Result.andThen_ok, sizeOf, typeInfo, program, hi, Sem.run_pure, hsz, if_false, hne, zeroValue, hzv, hps, h3, Go.newRow, Go.newObj, Sem.run]
              simp [World.alloc_eq]
          · cases h
        · cases h
      · cases h
    · cases h
  · cases h
end Go.Abs
