/-
  Part of the engine: abstract states of a call, and that the operations do what is told of them. No condition.
-/
import Derived.Test.YtbppcjkpkelbfaaDoorEng5
import Derived.ChangeKeysEq
namespace Go.Eng
open Go Go.RowKit
variable {P : Program} {gl : Nat → Option (List D)} {C : Cx} {E E' : Env} {s s' : St} {a : Act} {w w' : World}
def eqc : Value → Value → Bool
 | .int _ a, .int _ b => a == b
 | .bool a, .bool b => a == b
 | .string a, .string b => a == b
 | _, _ => false
def eqcs : List Value → List Value → Bool
 | [], [] => true
 | [u], [v] => eqc u v
 | u :: us, v :: vs => eqc u v && eqcs us vs
 | _, _ => false
theorem eqcs_cons (u v : Value) (us vs : List Value) : eqcs (u :: us) (v :: vs) = (eqc u v && eqcs us vs) := by
 cases us with
 | nil => cases vs with
  | nil => simp [eqcs]
  | cons y ys => simp [eqcs]
 | cons x xs => simp [eqcs]
theorem eqcs_append : ∀ {a b c d : List Value}, a.length = b.length → eqcs (a ++ c) (b ++ d) = (eqcs a b && eqcs c d)
 | [], [], c, d, _ => by simp [eqcs]
 | x :: a, y :: b, c, d, h => by
  simp only [List.cons_append, eqcs_cons, eqcs_append (a := a) (b := b) (by simpa using h), Bool.and_assoc]
 | [], _ :: _, _, _, h => by simp at h
 | _ :: _, [], _, _, h => by simp at h
def valOf (P : Program) (t : TypeId) (us : List Value) : Value :=
 match P.underlying t with
 | some (.struct _) | some (.array _ _) => .agg us.toArray
 | _ => us.headD undef
theorem shp_info {d : Nat} {t : TypeId} {us : List Value} (h : shp P d t us = true) : ∃ i, P.info? t = some i := by
 cases d with
 | zero => simp [shp] at h
 | succ d =>
  unfold shp at h
  cases hu : P.underlying t with
  | none => simp [hu] at h
  | some kd => exact info_of_underlying hu
theorem part_run {d : Nat} {t : TypeId} {us : List Value} {off : Nat} (h : shp P d t ((us.drop off).take (P.cellsOf t)) = true) (w : World) : (part t us.toArray off).run P w = .ok (valOf P t ((us.drop off).take (P.cellsOf t))) w := by
 obtain ⟨i, hi⟩ := shp_info h
 have hc : P.cellsOf t = i.size := by simp [Program.cellsOf, hi]
 cases d with
 | zero => simp [shp] at h
 | succ d =>
  unfold shp at h
  have one : ∀ v, (us.drop off).take (P.cellsOf t) = [v] → us[off]? = some v := fun v hv => by
   have h1 : ((us.drop off).take (P.cellsOf t))[0]? = some v := by rw [hv]; rfl
   rw [List.getElem?_take] at h1
   split at h1
   · rw [List.getElem?_drop] at h1; simpa using h1
   · cases h1
  have ext : us.toArray.extract off (off + i.size) = ((us.drop off).take (P.cellsOf t)).toArray := by
   rw [hc]
   apply Array.ext'
   rw [Array.toList_extract]
   simp [List.extract]
  split at h
  ·
   rename_i b hu he
   simp [part, isAgg, run_underlying hu, one _ he, valOf, hu, he]
  ·
   rename_i q q' n hu he
   simp [part, isAgg, run_underlying hu, one _ he, valOf, hu, he]
  ·
   rename_i b hu he
   simp [part, isAgg, run_underlying hu, one _ he, valOf, hu, he]
  ·
   rename_i n e hu
   simp [part, isAgg, run_underlying hu, sizeOf, typeInfo, program, hi, Sem.run, valOf, hu]
   simpa using ext
  ·
   rename_i fs hu
   simp [part, isAgg, run_underlying hu, sizeOf, typeInfo, program, hi, Sem.run, valOf, hu]
   simpa using ext
  · cases h
theorem eqFields_cells {d D : Nat} (IH : ∀ {t : TypeId} {us vs : List Value}, shp P d t us = true → shp P d t vs = true → ∀ w : World, (Op.equalIn (D + d) t (valOf P t us) (valOf P t vs)).run P w = .ok (eqcs us vs) w)
  {us vs : List Value} : ∀ (fs : List Field) (off n : Nat), us.length = n → vs.length = n → laidIn P fs off n = true →
  (∀ f ∈ fs, f.name ≠ "_" ∧ shp P d f.type ((us.drop f.offset).take (P.cellsOf f.type)) = true ∧ shp P d f.type ((vs.drop f.offset).take (P.cellsOf f.type)) = true) → ∀ w : World,
  (Op.eqFields (D + d) us.toArray vs.toArray fs).run P w = .ok (eqcs (us.drop off) (vs.drop off)) w
 | [], off, n, h1, h2, hl, _, w => by
  simp only [laidIn, beq_iff_eq] at hl
  subst hl
  rw [List.drop_eq_nil_of_le (by omega), List.drop_eq_nil_of_le (by omega)]
  simp [Op.eqFields, eqcs]
 | f :: fs, off, n, h1, h2, hl, hall, w => by
  simp only [laidIn, Bool.and_eq_true, beq_iff_eq] at hl
  obtain ⟨rfl, hl⟩ := hl
  obtain ⟨hn, hu, hv⟩ := hall f (by simp)
  have ih := eqFields_cells IH fs _ n h1 h2 hl (fun g hg => hall g (by simp [hg]))
  have hd : ∀ l : List Value, l.drop f.offset = (l.drop f.offset).take (P.cellsOf f.type) ++ l.drop (f.offset + P.cellsOf f.type) := fun l => by
   rw [← List.drop_drop, List.take_append_drop]
  rw [Op.eqFields]
  have key : eqcs (us.drop f.offset) (vs.drop f.offset) = (eqcs ((us.drop f.offset).take (P.cellsOf f.type)) ((vs.drop f.offset).take (P.cellsOf f.type)) && eqcs (us.drop (f.offset + P.cellsOf f.type)) (vs.drop (f.offset + P.cellsOf f.type))) := by
   rw [← eqcs_append (by rw [List.length_take, List.length_take, List.length_drop, List.length_drop, h1, h2]), ← hd us, ← hd vs]
  rw [key]
  simp only [if_pos hn, Sem.run_bind, part_run hu, part_run hv, IH hu hv, Result.andThen_ok]
  cases eqcs ((us.drop f.offset).take (P.cellsOf f.type)) ((vs.drop f.offset).take (P.cellsOf f.type))
  · simp
  · simpa using ih w
theorem eqItems_cells {d D : Nat} (IH : ∀ {t : TypeId} {us vs : List Value}, shp P d t us = true → shp P d t vs = true → ∀ w : World, (Op.equalIn (D + d) t (valOf P t us) (valOf P t vs)).run P w = .ok (eqcs us vs) w)
  {e : TypeId} {us vs : List Value} : ∀ (m i n : Nat), i + m = n → us.length = n * P.cellsOf e → vs.length = n * P.cellsOf e →
  (∀ j, j < n → shp P d e ((us.drop (j * P.cellsOf e)).take (P.cellsOf e)) = true ∧ shp P d e ((vs.drop (j * P.cellsOf e)).take (P.cellsOf e)) = true) → ∀ w : World,
  (Op.eqItems (D + d) e (P.cellsOf e) us.toArray vs.toArray (List.range' i m)).run P w = .ok (eqcs (us.drop (i * P.cellsOf e)) (vs.drop (i * P.cellsOf e))) w
 | 0, i, n, hi, h1, h2, _, w => by
  obtain rfl : i = n := by omega
  rw [List.drop_eq_nil_of_le (by omega), List.drop_eq_nil_of_le (by omega)]
  simp [Op.eqItems, eqcs]
 | m + 1, i, n, hi, h1, h2, hall, w => by
  obtain ⟨hu, hv⟩ := hall i (by omega)
  have ih := eqItems_cells IH m (i + 1) n (by omega) h1 h2 hall
  have hd : ∀ l : List Value, l.drop (i * P.cellsOf e) = (l.drop (i * P.cellsOf e)).take (P.cellsOf e) ++ l.drop ((i + 1) * P.cellsOf e) := fun l => by
   rw [Nat.add_mul, Nat.one_mul, ← List.drop_drop, List.take_append_drop]
  rw [List.range'_succ, Op.eqItems]
  have key : eqcs (us.drop (i * P.cellsOf e)) (vs.drop (i * P.cellsOf e)) = (eqcs ((us.drop (i * P.cellsOf e)).take (P.cellsOf e)) ((vs.drop (i * P.cellsOf e)).take (P.cellsOf e)) && eqcs (us.drop ((i + 1) * P.cellsOf e)) (vs.drop ((i + 1) * P.cellsOf e))) := by
   rw [← eqcs_append (by rw [List.length_take, List.length_take, List.length_drop, List.length_drop, h1, h2]), ← hd us, ← hd vs]
  rw [key]
  simp only [Sem.run_bind, part_run hu, part_run hv, IH hu hv, Result.andThen_ok]
  cases eqcs ((us.drop (i * P.cellsOf e)).take (P.cellsOf e)) ((vs.drop (i * P.cellsOf e)).take (P.cellsOf e))
  · simp
  · simpa using ih w
theorem equal_cells (D : Nat) : ∀ {d : Nat} {t : TypeId} {us vs : List Value}, shp P d t us = true → shp P d t vs = true → ∀ w : World, (Op.equalIn (D + d) t (valOf P t us) (valOf P t vs)).run P w = .ok (eqcs us vs) w
 | 0, t, us, vs, h, _, w => by simp [shp] at h
 | d + 1, t, us, vs, h1, h2, w => by
  have e0 : D + (d + 1) = (D + d) + 1 := rfl
  rw [e0]
  unfold shp at h1 h2
  cases hu : P.underlying t with
  | none => simp [hu] at h1
  | some kd =>
   simp only [hu] at h1 h2
   cases kd <;> (try simp only [Bool.false_eq_true] at h1)
   case bool =>
    have hval : ∀ l, valOf P t l = l.headD undef := fun l => by simp [valOf, hu]
    rcases us with _ | ⟨u, _ | _⟩ <;> (try simp at h1)
    rcases vs with _ | ⟨v, _ | _⟩ <;> (try simp at h2)
    cases u <;> simp at h1
    cases v <;> simp at h2
    rw [hval, hval]
    exact run_equalIn_bool' w _ t _ _ hu
   case int q =>
    have hval : ∀ l, valOf P t l = l.headD undef := fun l => by simp [valOf, hu]
    rcases us with _ | ⟨u, _ | _⟩ <;> (try simp at h1)
    rcases vs with _ | ⟨v, _ | _⟩ <;> (try simp at h2)
    cases u <;> simp at h1
    cases v <;> simp at h2
    subst h1; subst h2
    rw [hval, hval]
    exact run_equalIn_int w _ t _ _ _ _ hu
   case string =>
    have hval : ∀ l, valOf P t l = l.headD undef := fun l => by simp [valOf, hu]
    rcases us with _ | ⟨u, _ | _⟩ <;> (try simp at h1)
    rcases vs with _ | ⟨v, _ | _⟩ <;> (try simp at h2)
    cases u <;> simp at h1
    cases v <;> simp at h2
    rw [hval, hval]
    show _ = Result.ok (_ == _) w
    rw [beq_toListBytes]
    exact run_equalIn_string w _ t _ _ hu
   case array n e =>
    simp only [Bool.and_eq_true, beq_iff_eq, List.all_eq_true, List.mem_range] at h1 h2
    obtain ⟨i, hi⟩ := Option.isSome_iff_exists.1 h1.1.2
    have hval : ∀ l, valOf P t l = .agg l.toArray := fun l => by simp [valOf, hu]
    rw [hval, hval, run_equalIn_array w (D + d) _ _ hu hi, List.range_eq_range']
    have := eqItems_cells (D := D) (fun h h' w => equal_cells D h h' w) (e := e) (us := us) (vs := vs) n 0 n (by omega) (by rw [h1.1.1.1, ← h1.1.1.2]) (by rw [h2.1.1.1, ← h2.1.1.2]) (fun j hj => ⟨h1.2 j hj, h2.2 j hj⟩) w
    simpa using this
   case struct fs =>
    simp only [Bool.and_eq_true, beq_iff_eq, List.all_eq_true, bne_iff_ne, ne_eq, Bool.not_eq_true'] at h1 h2
    have hf : P.fieldsOf t = fs := by simp [Program.fieldsOf, hu]
    have hval : ∀ l, valOf P t l = .agg l.toArray := fun l => by simp [valOf, hu]
    rw [hval, hval, run_equalIn_struct (P := P) w (D + d) t _ _ (by rw [hf]; exact hu) h1.1.2, hf]
    have := eqFields_cells (D := D) (fun h h' w => equal_cells D h h' w) (us := us) (vs := vs) fs.toList 0 (P.cellsOf t) h1.1.1.1 h2.1.1.1 h1.1.1.2 (fun f hf' => ⟨(h1.2 f hf').1, (h1.2 f hf').2, (h2.2 f hf').2⟩) w
    simpa using this
theorem shapeV_val {d : Nat} {t : TypeId} {v : Value} (h : shapeV P d t v = true) : v = valOf P t v.cells.toList ∧ shp P d t v.cells.toList = true := by
 unfold shapeV at h
 simp only [Bool.and_eq_true] at h
 refine ⟨?_, h.2⟩
 have h1 := h.1
 unfold valOf
 cases hu : P.underlying t with
 | none =>
  cases d with
  | zero => simp [shp] at h
  | succ d => simp [shp, hu] at h
 | some kd =>
  rw [hu] at h1
  cases kd <;> cases v <;> simp_all [Value.cells]
theorem equal_shape {d : Nat} {t : TypeId} {u v : Value} (hd : d ≤ 10000) (h1 : shapeV P d t u = true) (h2 : shapeV P d t v = true) (w : World) : (Op.equal t u v).run P w = .ok (eqcs u.cells.toList v.cells.toList) w := by
 obtain ⟨e1, h3⟩ := shapeV_val h1
 obtain ⟨e2, h4⟩ := shapeV_val h2
 have := equal_cells (10000 - d) h3 h4 w
 rw [← e1, ← e2] at this
 have e : 10000 - d + d = Op.maxDepth := by unfold Op.maxDepth; omega
 rw [e] at this
 exact this
def rawv : List D → Option (List Value)
 | [] => some []
 | .raw v :: r => (rawv r).map (v :: ·)
 | _ => none
theorem rawv_eq {N : Nat → Prop} : ∀ {xs : List D} {us vs : List Value}, rawv xs = some us → VCs w N xs vs → vs = us
 | [], us, vs, h, k => by simp only [rawv, Option.some.injEq] at h; subst h; unfold VCs at k; exact k
 | x :: xs, us, vs, h, k => by
  cases x <;> simp only [rawv, reduceCtorEq] at h
  rename_i v
  obtain ⟨us', h1, rfl⟩ := Option.map_eq_some_iff.1 h
  unfold VCs at k
  obtain ⟨u, vs', rfl, _, h3, h4⟩ := k
  unfold VC at h3
  obtain ⟨h3, _⟩ := h3
  simp only [List.cons.injEq, and_true] at h3
  rw [h3, rawv_eq h1 h4]
def binAgg (P : Program) (op : BinOp) (t : TypeId) (xs ys : List D) : Option Bool :=
 match P.eqGuardType P.depth t, rawv xs, rawv ys with
 | false, some us, some vs =>
  if shapeV P 8 t (.agg us.toArray) && shapeV P 8 t (.agg vs.toArray) then
   match op with
   | .eql => some (eqcs us vs)
   | .neq => some !(eqcs us vs)
   | _ => none
  else none
 | _, _, _ => none
theorem binAgg_run {N : Nat → Prop} {op : BinOp} {t : TypeId} {xs ys : List D} {us vs : Array Value} {b : Bool} (h : binAgg P op t xs ys = some b) (hx : VCs w N xs us.toList) (hy : VCs w N ys vs.toList) (p q : Operand) (w' : World) :
  (eqGuard op t p q (.agg us) (.agg vs)).run P w' = .ok () w' ∧ (binOp op t (.agg us) (.agg vs)).run P w' = .ok (.bool b) w' := by
 unfold binAgg at h
 split at h
 ·
  rename_i us' vs' hg hu hv
  have e1 := rawv_eq hu hx
  have e2 := rawv_eq hv hy
  split at h
  ·
   rename_i hs
   simp only [Bool.and_eq_true] at hs
   have e3 : us'.toArray = us := by rw [← e1]
   have e4 : vs'.toArray = vs := by rw [← e2]
   have he : (Op.equal t (.agg us) (.agg vs)).run P w' = .ok (eqcs us' vs') w' := by
    have := equal_shape (by omega) hs.1 hs.2 w'
    rw [e3, e4] at this
    simpa [Value.cells, e1, e2] using this
   refine ⟨run_eqGuard_agg w' op t p q us vs hg, ?_⟩
   split at h
   · cases h; simp [binOp, he]
   · cases h; simp [binOp, he]
   · cases h
  · cases h
 · cases h
end Go.Eng

namespace Go.Eng
open Go Go.RowKit
variable {P : Program} {gl : Nat → Option (List D)} {C : Cx} {E E' : Env} {s s' : St} {a : Act} {w w' : World}
def splice {α : Type} (xs : List α) (off : Nat) (ys : List α) : List α := xs.take off ++ ys ++ xs.drop (off + ys.length)
theorem VAs.splice {N : Nat → Prop} {xs ys : List AV} {vs us : List Value} (h : VAs E w N xs vs) (k : VAs E w N ys us) (off : Nat) : VAs E w N (splice xs off ys) (splice vs off us) := by
 unfold Eng.splice
 rw [k.length]
 exact ((h.take off).append k).append (h.drop _)
theorem VCs.splice {N : Nat → Prop} {xs ys : List D} {vs us : List Value} (h : VCs w N xs vs) (k : VCs w N ys us) (off : Nat) : VCs w N (splice xs off ys) (splice vs off us) := by
 unfold Eng.splice
 rw [k.length]
 exact ((h.take off).append k).append (h.drop _)
theorem splice_len {α : Type} (xs ys : List α) (off : Nat) (h : off + ys.length ≤ xs.length) : (splice xs off ys).length = xs.length := by simp [splice]; omega
theorem splice_self {α : Type} (xs : List α) (p l : Nat) (h : p + l ≤ xs.length) : splice xs p ((xs.drop p).take l) = xs := by
 unfold splice
 have e : ((xs.drop p).take l).length = l := by simp; omega
 rw [e, List.append_assoc, ← List.drop_drop, List.take_append_drop, List.take_append_drop]
theorem splice_get {α : Type} (xs ys : List α) (off j : Nat) (h : off + ys.length ≤ xs.length) : (splice xs off ys)[j]? = if off ≤ j ∧ j < off + ys.length then ys[j - off]? else xs[j]? := by
 unfold splice
 rw [List.append_assoc, List.getElem?_append]
 have e1 : (xs.take off).length = off := by simp; omega
 rw [e1]
 by_cases h1 : j < off
 · rw [if_pos h1, if_neg (by omega), List.getElem?_take, if_pos h1]
 ·
  rw [if_neg h1, List.getElem?_append]
  by_cases h2 : j - off < ys.length
  · rw [if_pos h2, if_pos (by omega)]
  · rw [if_neg h2, if_neg (by omega), List.getElem?_drop]; congr 1; omega
def mrg1 (b : Bool) : D → D → D
 | .raw (.int k x), .raw (.int k' y) => if k = k' then .raw (.int k (if b then x else y)) else if b then .raw (.int k x) else .raw (.int k' y)
 | .raw (.bool x), .raw (.bool y) => .raw (.bool (if b then x else y))
 | .raw (.string x), .raw (.string y) => .raw (.string (if b then x else y))
 | x, y => if b then x else y
def mrgs (b : Bool) : List D → List D → List D
 | x :: xs, y :: ys => mrg1 b x y :: mrgs b xs ys
 | _, _ => []
def mrg (b : Bool) : D → D → D
 | .agg xs, .agg ys => if xs.length == ys.length then .agg (mrgs b xs ys) else if b then .agg xs else .agg ys
 | x, y => mrg1 b x y
theorem mrg1_eq (b : Bool) (x y : D) : mrg1 b x y = if b then x else y := by
 unfold mrg1
 split
 ·
  split
  · rename_i e; subst e; cases b <;> rfl
  · rfl
 · cases b <;> rfl
 · cases b <;> rfl
 · rfl
theorem mrgs_eq (b : Bool) : ∀ (xs ys : List D), xs.length = ys.length → mrgs b xs ys = if b then xs else ys
 | [], [], _ => by cases b <;> rfl
 | x :: xs, y :: ys, h => by
  simp only [mrgs, mrg1_eq, mrgs_eq b xs ys (by simpa using h)]
  cases b <;> rfl
 | [], _ :: _, h => by simp at h
 | _ :: _, [], h => by simp at h
theorem mrg_eq (b : Bool) (x y : D) : mrg b x y = if b then x else y := by
 unfold mrg
 split
 ·
  split
  ·
   rename_i h
   rw [mrgs_eq b _ _ (by simpa using h)]
   cases b <;> rfl
  · rfl
 · exact mrg1_eq b _ _
theorem toD_VD {N : Nat → Prop} {x : AV} {d : D} {v : Value} (h : x.toD = some d) (hx : VA E w N x v) : VD w N d v := by
 cases x <;> simp only [AV.toD, reduceCtorEq, Option.some.injEq] at h
 case d y =>
  split at h
  · cases h; unfold VA at hx; exact hx
  · cases h
 case known b => subst h; unfold VA at hx; rw [hx]; exact VD_raw rfl
def mrgAVs (b : Bool) : List AV → List AV → Option (List AV)
 | [], [] => some []
 | x :: xs, y :: ys => match x.toD, y.toD, mrgAVs b xs ys with
  | some d, some d', some ms => some (.d (mrg b d d') :: ms)
  | _, _, _ => none
 | _, _ => none
theorem mrgAVs_ok {N : Nat → Prop} (b : Bool) : ∀ {xs ys ms : List AV} {us vs : List Value}, mrgAVs b xs ys = some ms → VAs E w N xs us → VAs E w N ys vs → VAs E w N ms (if b then us else vs) ∧ us.length = vs.length
 | [], [], ms, us, vs, h, hx, hy => by
  simp only [mrgAVs, Option.some.injEq] at h; subst h
  unfold VAs at hx hy; subst hx; subst hy
  refine ⟨?_, rfl⟩
  unfold VAs; cases b <;> rfl
 | x :: xs, y :: ys, ms, us, vs, h, hx, hy => by
  simp only [mrgAVs] at h
  split at h
  ·
   rename_i d d' ms' h1 h2 h3
   cases h
   unfold VAs at hx hy
   obtain ⟨u, us', rfl, hu, hx⟩ := hx
   obtain ⟨v, vs', rfl, hv, hy⟩ := hy
   obtain ⟨h4, h5⟩ := mrgAVs_ok b h3 hx hy
   refine ⟨?_, by simp [h5]⟩
   unfold VAs
   refine ⟨if b then u else v, if b then us' else vs', by cases b <;> rfl, ?_, h4⟩
   unfold VA
   rw [mrg_eq]
   cases b
   · exact toD_VD h2 hv
   · exact toD_VD h1 hu
  · cases h
 | [], _ :: _, _, _, _, h, _, _ => by simp [mrgAVs] at h
 | _ :: _, [], _, _, _, h, _, _ => by simp [mrgAVs] at h
def storeSel (cells : List AV) (off i sz o2 : Nat) (news : List AV) : Nat → Option (List AV)
 | 0 => some cells
 | m + 1 => match storeSel cells off i sz o2 news m with
  | some cs => (mrgAVs (Nat.beq i m) news ((cs.drop (off + m * sz + o2)).take news.length)).map fun ms => splice cs (off + m * sz + o2) ms
  | none => none
theorem storeSel_ok {N : Nat → Prop} {cells news : List AV} {vs us : List Value} {off i sz n o2 : Nat} (hc : VAs E w N cells vs) (hn : VAs E w N news us) (h1 : off + n * sz ≤ cells.length) (h2 : o2 + news.length ≤ sz) : ∀ {m : Nat} {cs : List AV}, m ≤ n →
  storeSel cells off i sz o2 news m = some cs → VAs E w N cs (if i < m then splice vs (off + i * sz + o2) us else vs)
 | 0, cs, _, h => by simp only [storeSel, Option.some.injEq] at h; subst h; simpa using hc
 | m + 1, cs, hm, h => by
  simp only [storeSel] at h
  split at h
  ·
   rename_i cs' h3
   obtain ⟨ms, h4, rfl⟩ := Option.map_eq_some_iff.1 h
   have ih := storeSel_ok hc hn h1 h2 (by omega) h3
   have hl := hc.length
   have hnl := hn.length
   have hp : off + m * sz + o2 + us.length ≤ vs.length := by
    have : (m + 1) * sz ≤ n * sz := Nat.mul_le_mul_right _ hm
    rw [Nat.add_mul] at this; omega
   by_cases e : i = m
   ·
    subst e
    rw [if_neg (by omega)] at ih
    rw [if_pos (by omega)]
    obtain ⟨h5, _⟩ := mrgAVs_ok _ h4 hn ((ih.drop _).take _)
    have e1 : Nat.beq i i = true := by simp
    rw [e1, if_pos rfl] at h5
    exact ih.splice h5 _
   ·
    have e1 : Nat.beq i m = false := by cases hb : Nat.beq i m with | false => rfl | true => exact absurd (Nat.eq_of_beq_eq_true hb) e
    have e2 : (i < m + 1) ↔ (i < m) := by omega
    generalize hz : (if i < m then splice vs (off + i * sz + o2) us else vs) = z at ih
    have ez : (if i < m + 1 then splice vs (off + i * sz + o2) us else vs) = z := by simp only [e2]; exact hz
    rw [ez]
    have zl : z.length = vs.length := by
     rw [← hz]; split
     ·
      apply splice_len
      have : (i + 1) * sz ≤ n * sz := Nat.mul_le_mul_right _ (by omega)
      rw [Nat.add_mul] at this; omega
     · rfl
    obtain ⟨h5, _⟩ := mrgAVs_ok _ h4 hn ((ih.drop _).take _)
    rw [e1] at h5
    simp only [Bool.false_eq_true, if_false] at h5
    have h6 := ih.splice h5 (off + m * sz + o2)
    rw [splice_self _ _ _ (by omega)] at h6
    exact h6
  · cases h
theorem put_none (a : Act) (v : Value) : a.put none v = a := rfl
theorem storeVar_run {t : TypeId} {i : TypeInfo} (hi : P.info? t = some i) {g off : Nat} {T : TypeId} {vs : List Value} {v : Value} (hsz : i.size = v.cells.toList.length) (hl : off + v.cells.toList.length ≤ vs.length)
  (h1 : ∀ u ∈ v.cells.toList, u.oneCell' = true) (hg : w.heap[g]? = some (.cells vs.toArray T (0, 0))) :
  (storeVar t ⟨g, off, none⟩ v).run P w = .ok () (w.setRow g (splice vs off v.cells.toList).toArray) := by
 have h2 := run_storeCells_at (P := P) g off T v.cells.toList 0 vs.toArray w hg (by simpa using hl) h1
 simp only [Nat.add_zero] at h2
 have hs : v.cells.size = i.size := by rw [hsz]; simp
 simp [storeVar, sizeOf, typeInfo, program, hi, hs, Sem.run, h2, splice]
def elPut (x : D) (off : Nat) (ds : List D) : Option D :=
 match x with
 | .agg xs => if off + ds.length ≤ xs.length then some (.agg (splice xs off ds)) else none
 | _ => match off, ds with
  | 0, [d] => if d.one then some d else none
  | _, _ => none
def stepStore (P : Program) (t : TypeId) (ad x : AV) (s : St) : Option (St × List Prop) :=
 match x.boxed, P.info? t with
 | some cs, some inf =>
  if inf.size = cs.length then
   match ad with
   | .ref k off => match s.th k with
    | some (.obj T cells) => if off + cs.length ≤ cells.length then some (s.setTh k (.obj T (splice cells off cs)), []) else none
    | _ => none
   | .refI k off i sz n o2 => match s.th k with
    | some (.obj T cells) => if off + n * sz ≤ cells.length ∧ o2 + cs.length ≤ sz then (storeSel cells off i sz o2 cs n).map fun r => (s.setTh k (.obj T r), [i < n]) else none
    | _ => none
   | .el k i sz off => match s.th k, toDs cs with
    | some (.row T sz' n el), some ds => if sz' = sz then (elPut (el i) off ds).map fun d => (s.setTh k (.row T sz n fun j => mrg (Nat.beq j i) d (el j)), [i < n]) else none
    | _, _ => none
   | _ => none
  else none
 | _, _ => none
theorem elPut_ok {N : Nat → Prop} {x d : D} {off : Nat} {ds : List D} {vs us : List Value} (h : elPut x off ds = some d) (hx : VC w N x vs) (hd : VCs w N ds us) : VC w N d (splice vs off us) ∧ off + us.length ≤ vs.length := by
 unfold elPut at h
 split at h
 ·
  rename_i xs
  split at h
  ·
   rename_i hl
   cases h
   unfold VC at hx ⊢
   exact ⟨hx.splice hd off, by rw [hx.length, hd.length]; exact hl⟩
  · cases h
 ·
  rename_i hna
  split at h
  ·
   split at h
   ·
    rename_i h1
    cases h
    unfold VCs at hd
    obtain ⟨u, vs', rfl, h2, h3, h4⟩ := hd
    unfold VCs at h4
    subst h4
    have hlen : vs.length = 1 := by
     cases x with
     | agg xs => exact absurd rfl (hna xs)
     | raw v => unfold VC at hx; rw [hx.1]; rfl
     | list sz n el => unfold VC at hx; obtain ⟨v, h5, _⟩ := hx; rw [h5]; rfl
    obtain ⟨v, rfl⟩ : ∃ v, vs = [v] := by
     match vs, hlen with
     | [v], _ => exact ⟨v, rfl⟩
    exact ⟨by simpa [Eng.splice] using h3, by simp⟩
   · cases h
  · cases h
theorem seg_splice {sz n i off : Nat} {vs us : List Value} (hl : vs.length = n * sz) (hi : i < n) (ho : off + us.length ≤ sz) (j : Nat) (_ : j < n) :
  ((splice vs (i * sz + off) us).drop (j * sz)).take sz = if j = i then splice ((vs.drop (i * sz)).take sz) off us else (vs.drop (j * sz)).take sz := by
 have hb : (i + 1) * sz ≤ n * sz := Nat.mul_le_mul_right _ hi
 rw [Nat.add_mul] at hb
 have hsp : i * sz + off + us.length ≤ vs.length := by omega
 apply List.ext_getElem?
 intro q
 rw [List.getElem?_take]
 by_cases hq : q < sz
 ·
  rw [if_pos hq, List.getElem?_drop, splice_get _ _ _ _ hsp]
  by_cases e : j = i
  ·
   subst e
   rw [if_pos rfl, splice_get _ _ _ _ (by simp; omega)]
   by_cases h1 : off ≤ q ∧ q < off + us.length
   · rw [if_pos (by omega), if_pos h1]; congr 1; omega
   · rw [if_neg (by omega), if_neg h1, List.getElem?_take, if_pos hq, List.getElem?_drop]
  ·
   rw [if_neg e, List.getElem?_take, if_pos hq, List.getElem?_drop, if_neg]
   rcases Nat.lt_or_gt_of_ne e with h1 | h1
   ·
    have : (j + 1) * sz ≤ i * sz := Nat.mul_le_mul_right _ h1
    rw [Nat.add_mul] at this; omega
   ·
    have : (i + 1) * sz ≤ j * sz := Nat.mul_le_mul_right _ h1
    rw [Nat.add_mul] at this; omega
 ·
  rw [if_neg hq]
  split
  ·
   rw [List.getElem?_eq_none]
   rw [splice_len _ _ _ (by simp; omega)]
   simp; omega
  · rw [List.getElem?_take, if_neg hq]
theorem stepStore_ok {o : Oper} {t : TypeId} {p x : Operand} {cs : List Prop} (ho : o.op = .store t p x) (hd : o.dst = none) (h : stepStore P t (s.ev p) (s.ev x) s = some (s', cs)) (hcs : Conds cs) : StepOK P gl (s.ev p).keys o s s' := by
 unfold stepStore at h
 split at h
 ·
  rename_i cells inf hb hinf
  split at h
  ·
   rename_i hsz
   constructor
   intro C E a w next Q hP hG hsim hn
   obtain ⟨hv1, hv2⟩ := boxed_VAs (hsim.ev x) hb
   have hvl := hv1.length
   have hpv := hsim.ev p
   have fin : ∀ (k : Nat) (u t' : Th) (g off : Nat) (T : TypeId) (vs : List Value), s.th k = some u → a.eval p = .pointer (some ⟨g, off, none⟩) → blk (E k) = some g → w.heap[g]? = some (.cells vs.toArray T (0, 0)) → off + (a.eval x).cells.toList.length ≤ vs.length →
     (s.ev p).keys = [k] → s' = s.setTh k t' → (∀ {N' : Nat → Prop} {w' : World}, (∀ b, Stable C E s w b → N' b) → (∀ a u, Stable C E s w a.block → w.cell? a = some u → w'.cell? a = some u) → w'.heap[g]? = some (.cells (splice vs off (a.eval x).cells.toList).toArray T (0, 0)) → ThOK C.P E w' N' t' (E k)) →
     Oper.wp P o a w next Q := fun k u t' g off T vs hk hp hg hh hl hkey hs' hok => by
    subst hs'
    have hr := storeVar_run (P := P) (w := w) hinf (v := a.eval x) (off := off) (by rw [hvl]; exact hsz) hl hv2 hh
    refine wp_skip' (w' := w.setRow g (splice vs off (a.eval x).cells.toList).toArray) (by simp [execOp, ho, Instr.storeAt, Instr.sureAddr, hp, hr]) ?_
    rw [hd, put_none]
    obtain ⟨f1, f2, f3⟩ := hsim.fit.setTh (w' := w.setRow g (splice vs off (a.eval x).cells.toList).toArray) k u hk t' rfl rfl rfl (by simp) (fun b _ hne => setRow_other w g b _ (fun e => hne (by rw [hg, e])))
     (fun hS hC => hok hS hC (setRow_heap w _ _ _ _ _ hh))
    exact hn _ _ _ ⟨f1, VAs.mono f2 f3 hsim.tm, hsim.df⟩ (by rw [hkey]; exact setTh_kp hsim.fit k u hk t' rfl rfl rfl (by simp) (fun b _ hne => setRow_other w g b _ (fun e => hne (by rw [hg, e]))))
   cases hpe : s.ev p <;> rw [hpe] at h hpv <;> simp only [reduceCtorEq] at h
   case ref k off =>
    split at h
    ·
     rename_i T cs' hk
     split at h
     ·
      rename_i hl
      simp only [Option.some.injEq, Prod.mk.injEq] at h
      obtain ⟨rfl, rfl⟩ := h
      obtain ⟨b, vs, h1, h2, h3, _⟩ := obj_of hsim.fit hk
      unfold VA at hpv
      obtain ⟨b', h4, h5⟩ := hpv
      rw [h1] at h4; cases h4
      exact fin k _ _ b off T vs hk h5 (by rw [h1]; rfl) h2 (by rw [hvl, h3.length]; exact hl) (by rw [hpe]; rfl) rfl fun hS hC hw' => ⟨b, _, h1, hw', (VAs.mono hS hC h3).splice (VAs.mono hS hC hv1) off⟩
     · cases h
    · cases h
   case refI k off i sz n o2 =>
    split at h
    ·
     rename_i T cs' hk
     split at h
     ·
      rename_i hl
      obtain ⟨r, hr, h⟩ := Option.map_eq_some_iff.1 h
      simp only [Prod.mk.injEq] at h
      obtain ⟨rfl, rfl⟩ := h
      have hin : i < n := hcs.1
      obtain ⟨b, vs, h1, h2, h3, _⟩ := obj_of hsim.fit hk
      unfold VA at hpv
      obtain ⟨b', h4, h5⟩ := hpv
      rw [h1] at h4; cases h4
      have hlen : off + i * sz + o2 + (a.eval x).cells.toList.length ≤ vs.length := by
       have : (i + 1) * sz ≤ n * sz := Nat.mul_le_mul_right _ hin
       rw [Nat.add_mul] at this
       rw [hvl, h3.length]; omega
      refine fin k _ _ b (off + i * sz + o2) T vs hk h5 (by rw [h1]; rfl) h2 hlen (by rw [hpe]; rfl) rfl fun hS hC hw' => ⟨b, _, h1, hw', ?_⟩
      have := storeSel_ok (VAs.mono hS hC h3) (VAs.mono hS hC hv1) hl.1 hl.2 (Nat.le_refl _) hr
      rw [if_pos hin] at this
      exact this
     · cases h
    · cases h
   case el k i sz off =>
    split at h
    ·
     rename_i T sz' n el ds hk hds
     split at h
     ·
      rename_i hsz'
      subst hsz'
      obtain ⟨d, hdd, h⟩ := Option.map_eq_some_iff.1 h
      simp only [Prod.mk.injEq] at h
      obtain ⟨rfl, rfl⟩ := h
      have hin : i < n := hcs.1
      obtain ⟨vs, h3, h4⟩ := row_of hsim.fit hk
      unfold VA at hpv
      obtain ⟨g, m, cap, h1, h2⟩ := hpv
      have hdv := toDs_VCs hds hv1
      obtain ⟨h6, h7⟩ := elPut_ok hdd (h4 i hin) hdv
      rcases h3.2 with ⟨h5, _⟩ | ⟨g', cap', cur, h5, hg, hnc, hcm, hcs', htk⟩
      · rw [h5] at h1; cases h1
      ·
       rw [h5] at h1; cases h1
       have hmul : n * sz' ≤ cap * sz' := Nat.mul_le_mul_right _ hnc
       have hi2 : (i + 1) * sz' ≤ n * sz' := Nat.mul_le_mul_right _ hin
       rw [Nat.add_mul] at hi2
       have hlen2 : off + (a.eval x).cells.toList.length ≤ sz' := by
        have := h7
        rw [List.length_take] at this; omega
       have hcl : cur.toList.length = cur.size := Array.length_toList
       have hg' : w.heap[g]? = some (.cells cur.toList.toArray T (0, 0)) := by simpa using hg
       refine fin k _ _ g (i * sz' + off) T cur.toList hk h2 (by rw [h5]; rfl) hg' (by omega) (by rw [hpe]; rfl) rfl fun {N' w'} hS hC hw' => ?_
       have hvs : vs.length = n * sz' := h3.1
       refine ⟨splice vs (i * sz' + off) (a.eval x).cells.toList, ⟨by rw [splice_len _ _ _ (by omega)]; exact hvs, .inr ⟨g, cap, (splice cur.toList (i * sz' + off) (a.eval x).cells.toList).toArray, h5, hw', hnc, hcm, by simp only [List.size_toArray]; rw [splice_len _ _ _ (by omega)]; omega, ?_⟩⟩, fun j hj => ?_⟩
       ·
        have hln : (cur.toList.take (n * sz')).length = n * sz' := by rw [List.length_take]; omega
        rw [← htk]
        apply List.ext_getElem?
        intro q
        rw [List.getElem?_take]
        by_cases hq : q < n * sz'
        · rw [if_pos hq, splice_get _ _ _ _ (by omega), splice_get _ _ _ _ (by omega), List.getElem?_take, if_pos hq]
        ·
         rw [if_neg hq, List.getElem?_eq_none]
         rw [splice_len _ _ _ (by omega)]; omega
       ·
        rw [seg_splice hvs hin hlen2 j hj]
        show VC w' N' (mrg (Nat.beq j i) d (el j)) _
        rw [mrg_eq]
        by_cases e : j = i
        ·
         subst e
         have e1 : Nat.beq j j = true := by simp
         rw [if_pos rfl, e1, if_pos rfl]
         exact VC.imp hS hC _ _ h6
        ·
         have e1 : Nat.beq j i = false := by cases hb : Nat.beq j i with | false => rfl | true => exact absurd (Nat.eq_of_beq_eq_true hb) e
         rw [if_neg e, e1, if_neg (by simp)]
         exact VC.imp hS hC _ _ (h4 j hj)
     · cases h
    · cases h
  · cases h
 · cases h
end Go.Eng
