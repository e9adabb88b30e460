/-
  Part of the engine: abstract states of a call (values as trees, things of the call's own), and that each operation of the model does to the world what it does to them. No condition.
-/
import Derived.Test.YtmgfgcoeflanmaaDoorEng5
import Derived.ChangeKeysEq
namespace Go.Eng
open Go Go.RowKit
variable {P : Program} {gl : Nat → Option (List D)} {C : Cx} {E E' : Env} {s s' : St} {a : Act} {w w' : World}

/-! ### two values of a plain type -/
def eqc : Value → Value → Bool
  | .int _ a, .int _ b => a == b
  | .bool a, .bool b => a == b
  | .string a, .string b => a == b
  | _, _ => false
def eqcs : List Value → List Value → Bool
  | [], [] => true
  | [u], [v] => eqc u v
  | u :: us, v :: vs => eqc u v && eqcs us vs
  | _, _ => false
theorem eqcs_cons (u v : Value) (us vs : List Value) : eqcs (u :: us) (v :: vs) = (eqc u v && eqcs us vs) := by
  cases us with
  | nil => cases vs with
    | nil => simp [eqcs]
    | cons y ys => simp [eqcs]
  | cons x xs => simp [eqcs]
theorem eqcs_append : ∀ {a b c d : List Value}, a.length = b.length → eqcs (a ++ c) (b ++ d) = (eqcs a b && eqcs c d)
  | [], [], c, d, _ => by simp [eqcs]
  | x :: a, y :: b, c, d, h => by
    simp only [List.cons_append, eqcs_cons, eqcs_append (a := a) (b := b) (by simpa using h), Bool.and_assoc]
  | [], _ :: _, _, _, h => by simp at h
  | _ :: _, [], _, _, h => by simp at h
/-- The value of a type's cells. -/
def valOf (P : Program) (t : TypeId) (us : List Value) : Value :=
  match P.underlying t with
  | some (.struct _) | some (.array _ _) => .agg us.toArray
  | _ => us.headD undef
theorem shp_len {d : Nat} {t : TypeId} {us : List Value} (h : shp P d t us = true) : us.length = P.cellsOf t ∨ us.length = 1 := by
  cases d with
  | zero => simp [shp] at h
  | succ d =>
    unfold shp at h
    split at h <;> simp_all
theorem shp_info {d : Nat} {t : TypeId} {us : List Value} (h : shp P d t us = true) : ∃ i, P.info? t = some i := by
  cases d with
  | zero => simp [shp] at h
  | succ d =>
    unfold shp at h
    cases hu : P.underlying t with
    | none => simp [hu] at h
    | some kd => exact info_of_underlying hu
theorem part_run {d : Nat} {t : TypeId} {us : List Value} {off : Nat} (h : shp P d t ((us.drop off).take (P.cellsOf t)) = true) (w : World) : (part t us.toArray off).run P w = .ok (valOf P t ((us.drop off).take (P.cellsOf t))) w := by
  obtain ⟨i, hi⟩ := shp_info h
  have hc : P.cellsOf t = i.size := by simp [Program.cellsOf, hi]
  cases d with
  | zero => simp [shp] at h
  | succ d =>
    unfold shp at h
    have one : ∀ v, (us.drop off).take (P.cellsOf t) = [v] → us[off]? = some v := fun v hv => by
      have h1 : ((us.drop off).take (P.cellsOf t))[0]? = some v := by rw [hv]; rfl
      rw [List.getElem?_take] at h1
      split at h1
      · rw [List.getElem?_drop] at h1; simpa using h1
      · cases h1
    have ext : us.toArray.extract off (off + i.size) = ((us.drop off).take (P.cellsOf t)).toArray := by
      rw [hc]
      apply Array.ext'
      rw [Array.toList_extract]
      simp [List.extract]
    split at h
    · rename_i b hu he
      simp [part, isAgg, run_underlying hu, one _ he, valOf, hu, he]
    · rename_i q q' n hu he
      simp [part, isAgg, run_underlying hu, one _ he, valOf, hu, he]
    · rename_i b hu he
      simp [part, isAgg, run_underlying hu, one _ he, valOf, hu, he]
    · rename_i n e hu
      simp [part, isAgg, run_underlying hu, sizeOf, typeInfo, program, hi, Sem.run, valOf, hu]
      simpa using ext
    · rename_i fs hu
      simp [part, isAgg, run_underlying hu, sizeOf, typeInfo, program, hi, Sem.run, valOf, hu]
      simpa using ext
    · cases h
theorem eqFields_cells {d D : Nat} (IH : ∀ {t : TypeId} {us vs : List Value}, shp P d t us = true → shp P d t vs = true → ∀ w : World, (Op.equalIn (D + d) t (valOf P t us) (valOf P t vs)).run P w = .ok (eqcs us vs) w)
    {us vs : List Value} : ∀ (fs : List Field) (off n : Nat), us.length = n → vs.length = n → laidIn P fs off n = true →
    (∀ f ∈ fs, f.name ≠ "_" ∧ shp P d f.type ((us.drop f.offset).take (P.cellsOf f.type)) = true ∧ shp P d f.type ((vs.drop f.offset).take (P.cellsOf f.type)) = true) → ∀ w : World,
    (Op.eqFields (D + d) us.toArray vs.toArray fs).run P w = .ok (eqcs (us.drop off) (vs.drop off)) w
  | [], off, n, h1, h2, hl, _, w => by
    simp only [laidIn, beq_iff_eq] at hl
    subst hl
    rw [List.drop_eq_nil_of_le (by omega), List.drop_eq_nil_of_le (by omega)]
    simp [Op.eqFields, eqcs]
  | f :: fs, off, n, h1, h2, hl, hall, w => by
    simp only [laidIn, Bool.and_eq_true, beq_iff_eq] at hl
    obtain ⟨rfl, hl⟩ := hl
    obtain ⟨hn, hu, hv⟩ := hall f (by simp)
    have ih := eqFields_cells IH fs _ n h1 h2 hl (fun g hg => hall g (by simp [hg]))
    have hd : ∀ l : List Value, l.drop f.offset = (l.drop f.offset).take (P.cellsOf f.type) ++ l.drop (f.offset + P.cellsOf f.type) := fun l => by
      rw [← List.drop_drop, List.take_append_drop]
    rw [Op.eqFields]
    have key : eqcs (us.drop f.offset) (vs.drop f.offset) = (eqcs ((us.drop f.offset).take (P.cellsOf f.type)) ((vs.drop f.offset).take (P.cellsOf f.type)) && eqcs (us.drop (f.offset + P.cellsOf f.type)) (vs.drop (f.offset + P.cellsOf f.type))) := by
      rw [← eqcs_append (by rw [List.length_take, List.length_take, List.length_drop, List.length_drop, h1, h2]), ← hd us, ← hd vs]
    rw [key]
    simp only [if_pos hn, Sem.run_bind, part_run hu, part_run hv, IH hu hv, Result.andThen_ok]
    cases eqcs ((us.drop f.offset).take (P.cellsOf f.type)) ((vs.drop f.offset).take (P.cellsOf f.type))
    · simp
    · simpa using ih w
theorem eqItems_cells {d D : Nat} (IH : ∀ {t : TypeId} {us vs : List Value}, shp P d t us = true → shp P d t vs = true → ∀ w : World, (Op.equalIn (D + d) t (valOf P t us) (valOf P t vs)).run P w = .ok (eqcs us vs) w)
    {e : TypeId} {us vs : List Value} : ∀ (m i n : Nat), i + m = n → us.length = n * P.cellsOf e → vs.length = n * P.cellsOf e →
    (∀ j, j < n → shp P d e ((us.drop (j * P.cellsOf e)).take (P.cellsOf e)) = true ∧ shp P d e ((vs.drop (j * P.cellsOf e)).take (P.cellsOf e)) = true) → ∀ w : World,
    (Op.eqItems (D + d) e (P.cellsOf e) us.toArray vs.toArray (List.range' i m)).run P w = .ok (eqcs (us.drop (i * P.cellsOf e)) (vs.drop (i * P.cellsOf e))) w
  | 0, i, n, hi, h1, h2, _, w => by
    obtain rfl : i = n := by omega
    rw [List.drop_eq_nil_of_le (by omega), List.drop_eq_nil_of_le (by omega)]
    simp [Op.eqItems, eqcs]
  | m + 1, i, n, hi, h1, h2, hall, w => by
    obtain ⟨hu, hv⟩ := hall i (by omega)
    have ih := eqItems_cells IH m (i + 1) n (by omega) h1 h2 hall
    have hd : ∀ l : List Value, l.drop (i * P.cellsOf e) = (l.drop (i * P.cellsOf e)).take (P.cellsOf e) ++ l.drop ((i + 1) * P.cellsOf e) := fun l => by
      rw [Nat.add_mul, Nat.one_mul, ← List.drop_drop, List.take_append_drop]
    rw [List.range'_succ, Op.eqItems]
    have key : eqcs (us.drop (i * P.cellsOf e)) (vs.drop (i * P.cellsOf e)) = (eqcs ((us.drop (i * P.cellsOf e)).take (P.cellsOf e)) ((vs.drop (i * P.cellsOf e)).take (P.cellsOf e)) && eqcs (us.drop ((i + 1) * P.cellsOf e)) (vs.drop ((i + 1) * P.cellsOf e))) := by
      rw [← eqcs_append (by rw [List.length_take, List.length_take, List.length_drop, List.length_drop, h1, h2]), ← hd us, ← hd vs]
    rw [key]
    simp only [Sem.run_bind, part_run hu, part_run hv, IH hu hv, Result.andThen_ok]
    cases eqcs ((us.drop (i * P.cellsOf e)).take (P.cellsOf e)) ((vs.drop (i * P.cellsOf e)).take (P.cellsOf e))
    · simp
    · simpa using ih w
theorem equal_cells (D : Nat) : ∀ {d : Nat} {t : TypeId} {us vs : List Value}, shp P d t us = true → shp P d t vs = true → ∀ w : World, (Op.equalIn (D + d) t (valOf P t us) (valOf P t vs)).run P w = .ok (eqcs us vs) w
  | 0, t, us, vs, h, _, w => by simp [shp] at h
  | d + 1, t, us, vs, h1, h2, w => by
    have e0 : D + (d + 1) = (D + d) + 1 := rfl
    rw [e0]
    unfold shp at h1 h2
    cases hu : P.underlying t with
    | none => simp [hu] at h1
    | some kd =>
      simp only [hu] at h1 h2
      cases kd <;> (try simp only [Bool.false_eq_true] at h1)
      case bool =>
        have hval : ∀ l, valOf P t l = l.headD undef := fun l => by simp [valOf, hu]
        rcases us with _ | ⟨u, _ | _⟩ <;> (try simp at h1)
        rcases vs with _ | ⟨v, _ | _⟩ <;> (try simp at h2)
        cases u <;> simp at h1
        cases v <;> simp at h2
        rw [hval, hval]
        exact run_equalIn_bool' w _ t _ _ hu
      case int q =>
        have hval : ∀ l, valOf P t l = l.headD undef := fun l => by simp [valOf, hu]
        rcases us with _ | ⟨u, _ | _⟩ <;> (try simp at h1)
        rcases vs with _ | ⟨v, _ | _⟩ <;> (try simp at h2)
        cases u <;> simp at h1
        cases v <;> simp at h2
        subst h1; subst h2
        rw [hval, hval]
        exact run_equalIn_int w _ t _ _ _ _ hu
      case string =>
        have hval : ∀ l, valOf P t l = l.headD undef := fun l => by simp [valOf, hu]
        rcases us with _ | ⟨u, _ | _⟩ <;> (try simp at h1)
        rcases vs with _ | ⟨v, _ | _⟩ <;> (try simp at h2)
        cases u <;> simp at h1
        cases v <;> simp at h2
        rw [hval, hval]
        show _ = Result.ok (_ == _) w
        rw [beq_toListBytes]
        exact run_equalIn_string w _ t _ _ hu
      case array n e =>
        simp only [Bool.and_eq_true, beq_iff_eq, List.all_eq_true, List.mem_range] at h1 h2
        obtain ⟨i, hi⟩ := Option.isSome_iff_exists.1 h1.1.2
        have hval : ∀ l, valOf P t l = .agg l.toArray := fun l => by simp [valOf, hu]
        rw [hval, hval, run_equalIn_array w (D + d) _ _ hu hi, List.range_eq_range']
        have := eqItems_cells (D := D) (fun h h' w => equal_cells D h h' w) (e := e) (us := us) (vs := vs) n 0 n (by omega) (by rw [h1.1.1.1, ← h1.1.1.2]) (by rw [h2.1.1.1, ← h2.1.1.2]) (fun j hj => ⟨h1.2 j hj, h2.2 j hj⟩) w
        simpa using this
      case struct fs =>
        simp only [Bool.and_eq_true, beq_iff_eq, List.all_eq_true, bne_iff_ne, ne_eq, Bool.not_eq_true'] at h1 h2
        have hf : P.fieldsOf t = fs := by simp [Program.fieldsOf, hu]
        have hval : ∀ l, valOf P t l = .agg l.toArray := fun l => by simp [valOf, hu]
        rw [hval, hval, run_equalIn_struct (P := P) w (D + d) t _ _ (by rw [hf]; exact hu) h1.1.2, hf]
        have := eqFields_cells (D := D) (fun h h' w => equal_cells D h h' w) (us := us) (vs := vs) fs.toList 0 (P.cellsOf t) h1.1.1.1 h2.1.1.1 h1.1.1.2 (fun f hf' => ⟨(h1.2 f hf').1, (h1.2 f hf').2, (h2.2 f hf').2⟩) w
        simpa using this
theorem shapeV_val {d : Nat} {t : TypeId} {v : Value} (h : shapeV P d t v = true) : v = valOf P t v.cells.toList ∧ shp P d t v.cells.toList = true := by
  unfold shapeV at h
  simp only [Bool.and_eq_true] at h
  refine ⟨?_, h.2⟩
  have h1 := h.1
  unfold valOf
  cases hu : P.underlying t with
  | none =>
    cases d with
    | zero => simp [shp] at h
    | succ d => simp [shp, hu] at h
  | some kd =>
    rw [hu] at h1
    cases kd <;> cases v <;> simp_all [Value.cells]
theorem equal_shape {d : Nat} {t : TypeId} {u v : Value} (hd : d ≤ 10000) (h1 : shapeV P d t u = true) (h2 : shapeV P d t v = true) (w : World) : (Op.equal t u v).run P w = .ok (eqcs u.cells.toList v.cells.toList) w := by
  obtain ⟨e1, h3⟩ := shapeV_val h1
  obtain ⟨e2, h4⟩ := shapeV_val h2
  have := equal_cells (10000 - d) h3 h4 w
  rw [← e1, ← e2] at this
  have e : 10000 - d + d = Op.maxDepth := by unfold Op.maxDepth; omega
  rw [e] at this
  exact this

/-- The raw values of cells. -/
def rawv : List D → Option (List Value)
  | [] => some []
  | .raw v :: r => (rawv r).map (v :: ·)
  | _ => none
theorem rawv_eq {N : Nat → Prop} : ∀ {xs : List D} {us vs : List Value}, rawv xs = some us → VCs w N xs vs → vs = us
  | [], us, vs, h, k => by simp only [rawv, Option.some.injEq] at h; subst h; unfold VCs at k; exact k
  | x :: xs, us, vs, h, k => by
    cases x <;> simp only [rawv, reduceCtorEq] at h
    rename_i v
    obtain ⟨us', h1, rfl⟩ := Option.map_eq_some_iff.1 h
    unfold VCs at k
    obtain ⟨u, vs', rfl, _, h3, h4⟩ := k
    unfold VC at h3
    obtain ⟨h3, _⟩ := h3
    simp only [List.cons.injEq, and_true] at h3
    rw [h3, rawv_eq h1 h4]
/-- Two structs, or arrays, of plain parts. -/
def binAgg (P : Program) (op : BinOp) (t : TypeId) (xs ys : List D) : Option Bool :=
  match P.eqGuardType P.depth t, rawv xs, rawv ys with
  | false, some us, some vs =>
    if shapeV P 8 t (.agg us.toArray) && shapeV P 8 t (.agg vs.toArray) then
      match op with
      | .eql => some (eqcs us vs)
      | .neq => some !(eqcs us vs)
      | _ => none
    else none
  | _, _, _ => none
theorem binAgg_run {N : Nat → Prop} {op : BinOp} {t : TypeId} {xs ys : List D} {us vs : Array Value} {b : Bool} (h : binAgg P op t xs ys = some b) (hx : VCs w N xs us.toList) (hy : VCs w N ys vs.toList) (p q : Operand) (w' : World) :
    (eqGuard op t p q (.agg us) (.agg vs)).run P w' = .ok () w' ∧ (binOp op t (.agg us) (.agg vs)).run P w' = .ok (.bool b) w' := by
  unfold binAgg at h
  split at h
  · rename_i us' vs' hg hu hv
    have e1 := rawv_eq hu hx
    have e2 := rawv_eq hv hy
    split at h
    · rename_i hs
      simp only [Bool.and_eq_true] at hs
      have e3 : us'.toArray = us := by rw [← e1]
      have e4 : vs'.toArray = vs := by rw [← e2]
      have he : (Op.equal t (.agg us) (.agg vs)).run P w' = .ok (eqcs us' vs') w' := by
        have := equal_shape (by omega) hs.1 hs.2 w'
        rw [e3, e4] at this
        simpa [Value.cells, e1, e2] using this
      refine ⟨run_eqGuard_agg w' op t p q us vs hg, ?_⟩
      split at h
      · cases h; simp [binOp, he]
      · cases h; simp [binOp, he]
      · cases h
    · cases h
  · cases h
end Go.Eng
