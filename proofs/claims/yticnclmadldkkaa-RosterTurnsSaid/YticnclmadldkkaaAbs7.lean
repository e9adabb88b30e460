/-
  Part of the engine: abstract states of a call (values as trees, objects and rows of the call's own), and that each operation of the model does to the world what it does to them. No condition.
-/
import Derived.Test.YticnclmadldkkaaAbs6
import Derived.Laws.StructEq
namespace Go.Abs
open Go Go.RowKit
variable {P : Program} {B : Nat} {w0 : World} {N0 : Nat → Prop} {E E' : Env} {s s' : St} {a : Act} {w w' : World}

/-! ### stores -/
def splice {α : Type} (xs : List α) (off : Nat) (ys : List α) : List α := xs.take off ++ ys ++ xs.drop (off + ys.length)
theorem VAs.append {N : Nat → Prop} : ∀ {xs ys : List AV} {vs us : List Value}, VAs E w N xs vs → VAs E w N ys us → VAs E w N (xs ++ ys) (vs ++ us)
  | [], ys, vs, us, h, k => by unfold VAs at h; subst h; exact k
  | x :: xs, ys, vs, us, h, k => by
    unfold VAs at h
    obtain ⟨v, vs', rfl, h1, h⟩ := h
    simp only [List.cons_append]
    unfold VAs
    exact ⟨v, vs' ++ us, rfl, h1, VAs.append h k⟩
theorem VAs.splice {N : Nat → Prop} {xs ys : List AV} {vs us : List Value} (h : VAs E w N xs vs) (k : VAs E w N ys us) (off : Nat) : VAs E w N (splice xs off ys) (splice vs off us) := by
  unfold Abs.splice
  rw [k.length]
  exact ((h.take off).append k).append (h.drop _)

def stepStore (P : Program) (t : TypeId) (ad x : AV) (s : St) : Option St :=
  match ad, x.boxed with
  | .ref k off, some cs =>
    match s.obj k, P.info? t with
    | some ob, some i => if i.size = cs.length ∧ off + cs.length ≤ ob.cells.length then some { s with objs := s.objs.set k (some ⟨ob.T, splice ob.cells off cs⟩) } else none
    | _, _ => none
  | _, _ => none
theorem put_none (a : Act) (v : Value) : a.put none v = a := rfl
theorem storeVar_run {t : TypeId} {i : TypeInfo} (hi : P.info? t = some i) {g off : Nat} {T : TypeId} {vs : List Value} {v : Value} (hsz : i.size = v.cells.toList.length) (hl : off + v.cells.toList.length ≤ vs.length)
    (h1 : ∀ u ∈ v.cells.toList, u.oneCell' = true) (hg : w.heap[g]? = some (.cells vs.toArray T (0, 0))) :
    (storeVar t ⟨g, off, none⟩ v).run P w = .ok () (w.setRow g (splice vs off v.cells.toList).toArray) := by
  have h2 := run_storeCells_at (P := P) g off T v.cells.toList 0 vs.toArray w hg (by simpa using hl) h1
  simp only [Nat.add_zero] at h2
  have hs : v.cells.size = i.size := by rw [hsz]; simp
  simp [storeVar, sizeOf, typeInfo, program, hi, hs, Sem.run, h2, splice]
theorem stepStore_ok {o : Oper} {t : TypeId} {p x : Operand} (ho : o.op = .store t p x) (hd : o.dst = none) (h : stepStore P t (s.ev p) (s.ev x) s = some s') : StepOK P false o s s' := by
  unfold stepStore at h
  split at h
  · rename_i k off cs hp hb
    split at h
    · rename_i ob i hob hi
      split at h
      · rename_i hc
        cases h
        constructor
        intro B w0 N0 E a w next Q hsim hn
        have hpv := hsim.ev p
        rw [hp] at hpv
        unfold VA at hpv
        obtain ⟨hv1, hv2⟩ := boxed_VAs (hsim.ev x) hb
        obtain ⟨hB, vs, h2, h3⟩ := hsim.fit.obj k ob hob
        have hl := hv1.length
        have hl3 := h3.length
        have hr := storeVar_run (P := P) (w := w) hi (v := a.eval x) (off := off) (by rw [hl]; exact hc.1) (by omega) hv2 h2
        have hg : E.σ k < w.heap.size := (Array.getElem?_eq_some_iff.1 h2).1
        refine wp_skip' (w' := w.setRow (E.σ k) (splice vs off (a.eval x).cells.toList).toArray) (by simp [execOp, ho, Instr.storeAt, Instr.sureAddr, hpv, hr]) ?_
        rw [hd, put_none]
        obtain ⟨f1, f2, f3⟩ := hsim.fit.setObj (w' := w.setRow (E.σ k) (splice vs off (a.eval x).cells.toList).toArray) k ob hob (splice ob.cells off cs) (splice vs off (a.eval x).cells.toList) (h3.splice hv1 off)
          ⟨rfl, rfl, rfl, by simp, fun b hb => setRow_other w _ b _ (by omega)⟩ (by simp) (fun b hb => setRow_other w _ b _ hb) (setRow_heap w _ _ _ _ _ h2)
        exact hn _ _ _ ⟨f1, VAs.imp f2 f3 _ _ (fun _ => .inl rfl) (fun _ => .inl rfl) hsim.tm, hsim.df⟩ (fun h => by cases h)
      · cases h
    · cases h
  · cases h

/-! ### small ones -/
def stepExtract (x : AV) (i : Nat) : Option AV :=
  match x with
  | .tup xs => xs[i]?.map .d
  | _ => none
theorem stepExtract_ok {o : Oper} {x : Operand} {i : Nat} {y : AV} (ho : o.op = .extract x i) (h : stepExtract (s.ev x) i = some y) : LightOK P false o y s := by
  constructor
  intro B w0 N0 E a w hsim
  have hx := hsim.ev x
  unfold stepExtract at h
  split at h
  · rename_i xs hxe
    rw [hxe] at hx
    obtain ⟨z, hz, rfl⟩ := Option.map_eq_some_iff.1 h
    unfold VA at hx
    obtain ⟨vs, h1, h2, h3⟩ := hx
    have hlt : i < xs.length := (List.getElem?_eq_some_iff.1 hz).1
    have hv : vs[i]? = some (vs[i]'(by omega)) := List.getElem?_eq_getElem (by omega)
    refine ⟨vs[i]'(by omega), fun w' _ => ?_, by unfold VA; exact h3 i z _ hz hv⟩
    simp [execOp, ho, Instr.extract, h1, hv]
  · cases h

theorem VAs_map_ev (hsim : Sim B w0 N0 E s a w) : ∀ (xs : List Operand), VAs E w (Stable B N0 E s w) (xs.map s.ev) (xs.map a.eval)
  | [] => by simp only [List.map_nil]; unfold VAs; rfl
  | x :: xs => by
    simp only [List.map_cons]
    unfold VAs
    exact ⟨_, _, rfl, hsim.ev x, VAs_map_ev hsim xs⟩
theorem stepMakeFunc_ok {o : Oper} {f : Fn} {p q : Array Operand} (ho : o.op = .makeFunc f p q) : LightOK P false o (.fn f (p.toList.map s.ev) (q.toList.map s.ev)) s := by
  constructor
  intro B w0 N0 E a w hsim
  have hm : ∀ z : Array Operand, z.map a.eval = (z.toList.map a.eval).toArray := fun z => by rw [← Array.toList_map, Array.toArray_toList]
  refine ⟨.func f (p.map a.eval) (q.map a.eval), fun w' _ => by simp [execOp, ho, Instr.makeFunc], ?_⟩
  unfold VA
  exact ⟨p.toList.map a.eval, q.toList.map a.eval, by rw [hm p, hm q], VAs_map_ev hsim _, VAs_map_ev hsim _⟩

/-- Two values of a plain type, equal or not. -/
def eqV (P : Program) (t : TypeId) (u v : Value) : Option Bool :=
  match P.underlying t, u, v with
  | some (.int _), .int k a, .int k' b => if k = k' then some (a == b) else none
  | some .bool, .bool a, .bool b => some (a == b)
  | some .string, .string a, .string b => some (a == b)
  | _, _, _ => none
theorem eqV_run {t : TypeId} {u v : Value} {b : Bool} (h : eqV P t u v = some b) (d : Nat) : (Op.equalIn (d + 1) t u v).run P w = .ok b w := by
  unfold eqV at h
  split at h
  · rename_i hu
    split at h
    · rename_i e; cases h; subst e; exact run_equalIn_int w d t _ _ _ _ hu
    · cases h
  · rename_i hu; cases h; exact run_equalIn_bool' w d t _ _ hu
  · rename_i hu; cases h; rw [beq_toListBytes]; exact run_equalIn_string w d t _ _ hu
  · cases h
theorem eqV_part {t : TypeId} {u v : Value} {b : Bool} (h : eqV P t u v = some b) {xs : Array Value} {off : Nat} {z : Value} (hx : xs[off]? = some z) : (part t xs off).run P w = .ok z w := by
  unfold eqV at h
  split at h
  all_goals first | (rename_i hu; simp [part, isAgg, run_underlying hu, hx]; done) | cases h
def eqFlds (P : Program) (xs ys : List D) : List Field → Option Bool
  | [] => some true
  | f :: fs =>
    if f.name == "_" then none else
    match xs[f.offset]?, ys[f.offset]?, eqFlds P xs ys fs with
    | some (.raw u), some (.raw v), some r => (eqV P f.type u v).map fun b => b && r
    | _, _, _ => none
theorem VCs_get {N : Nat → Prop} : ∀ {xs : List D} {vs : List Value} {i : Nat} {u : Value}, VCs w N xs vs → xs[i]? = some (.raw u) → vs[i]? = some u
  | [], _, i, u, _, hi => by simp at hi
  | x :: xs, vs, i, u, h, hi => by
    unfold VCs at h
    obtain ⟨v, vs', rfl, _, h3, h4⟩ := h
    cases i with
    | zero =>
      simp only [List.getElem?_cons_zero, Option.some.injEq] at hi ⊢
      subst hi
      unfold VC at h3
      simpa using h3.1
    | succ i => simpa using VCs_get h4 (by simpa using hi)
theorem eqFlds_run {N : Nat → Prop} {xs ys : List D} {us vs : Array Value} (hx : VCs w N xs us.toList) (hy : VCs w N ys vs.toList) (w' : World) (d : Nat) : ∀ {fs : List Field} {b : Bool}, eqFlds P xs ys fs = some b → (Op.eqFields (d + 1) us vs fs).run P w' = .ok b w'
  | [], b, h => by simp only [eqFlds, Option.some.injEq] at h; subst h; simp [Op.eqFields]
  | f :: fs, b, h => by
    unfold eqFlds at h
    split at h
    · cases h
    · rename_i hn
      have hn' : f.name ≠ "_" := by simpa using hn
      split at h
      · rename_i u v r h1 h2 h3
        obtain ⟨b0, hb, rfl⟩ := Option.map_eq_some_iff.1 h
        have hu := VCs_get hx h1
        have hv := VCs_get hy h2
        rw [Array.getElem?_toList] at hu hv
        have ih := eqFlds_run hx hy w' d h3
        rw [Op.eqFields]
        simp only [if_pos hn', Sem.run_bind, eqV_part hb hu, eqV_part hb hv, eqV_run hb d, Result.andThen_ok]
        cases b0
        · simp
        · simpa using ih
      · cases h
/-- Two structs of plain parts. -/
def binAgg (P : Program) (op : BinOp) (t : TypeId) (xs ys : List D) : Option Bool :=
  match P.underlying t, P.stoodInHeld t, P.eqGuardType P.depth t with
  | some (.struct fs), false, false =>
    match op, eqFlds P xs ys fs.toList with
    | .eql, some b => some b
    | .neq, some b => some !b
    | _, _ => none
  | _, _, _ => none
theorem binAgg_run {N : Nat → Prop} {op : BinOp} {t : TypeId} {xs ys : List D} {us vs : Array Value} {b : Bool} (h : binAgg P op t xs ys = some b) (hx : VCs w N xs us.toList) (hy : VCs w N ys vs.toList) (p q : Operand) (w' : World) :
    (eqGuard op t p q (.agg us) (.agg vs)).run P w' = .ok () w' ∧ (binOp op t (.agg us) (.agg vs)).run P w' = .ok (.bool b) w' := by
  unfold binAgg at h
  split at h
  · rename_i fs hu hp hg
    have hf : P.fieldsOf t = fs := by simp [Program.fieldsOf, hu]
    have he : ∀ {b : Bool}, eqFlds P xs ys fs.toList = some b → (Op.equalIn 10000 t (.agg us) (.agg vs)).run P w' = .ok b w' := fun hb => by
      show (Op.equalIn (9999 + 1) t _ _).run P w' = _
      rw [run_equalIn_struct (P := P) w' 9999 t us vs (by rw [hf]; exact hu) hp, hf]
      exact eqFlds_run hx hy w' 9998 hb
    refine ⟨run_eqGuard_agg w' op t p q us vs hg, ?_⟩
    split at h
    · rename_i b' hb; cases h; rw [run_eql_struct, he hb]; rfl
    · rename_i b' hb; cases h; rw [run_neq_struct, he hb]; rfl
    · cases h
  · cases h

/-- Two operands: numbers, texts, bools; a pointer of the call's own against nil. -/
def stepBin (P : Program) (op : BinOp) (t : TypeId) (x y : AV) : Option (AV × List Prop) :=
  match x, y with
  | .d (.raw u), .d (.raw v) => (binRaw P op t u v).map fun r => (.d (.raw r.1), r.2)
  | .d (.agg xs), .d (.agg ys) => (binAgg P op t xs ys).map fun b => (.d (.raw (.bool b)), [])
  | .ref _ _, .d (.raw (.pointer none)) =>
    match P.underlying t, op with
    | some (.pointer _), .eql => some (.d (.raw (.bool false)), [])
    | some (.pointer _), .neq => some (.d (.raw (.bool true)), [])
    | _, _ => none
  | _, _ => none
theorem binInt_one {op : BinOp} {k : IntKind} {x y : Int} {v : Value} {cs : List Prop} (h : binInt op k x y = some (v, cs)) : v.oneCell' = true := by
  unfold binInt at h; cases op <;> simp only [Option.some.injEq, Prod.mk.injEq, reduceCtorEq] at h <;> obtain ⟨rfl, _⟩ := h <;> rfl
theorem binRaw_run {op : BinOp} {t : TypeId} {u v r : Value} {cs : List Prop} (h : binRaw P op t u v = some (r, cs)) (hc : Conds cs) (p q : Operand) :
    (eqGuard op t p q u v).run P w = .ok () w ∧ (binOp op t u v).run P w = .ok r w ∧ r.oneCell' = true := by
  unfold binRaw at h
  split at h
  · rename_i k x k' y
    have hg : (eqGuard op t p q (.int k x) (.int k' y)).run P w = .ok () w := by cases op <;> simp [eqGuard]
    have hsh : ∀ op, shiftInt op k x y = some (r, cs) → (binOp op t (.int k x) (.int k' y)).run P w = .ok r w ∧ r.oneCell' = true := fun op h => ⟨shiftInt_run t h hc, by
      unfold shiftInt at h; cases op <;> simp only [Option.some.injEq, Prod.mk.injEq, reduceCtorEq] at h <;> obtain ⟨rfl, _⟩ := h <;> rfl⟩
    have hin : ∀ op, (if k = k' then binInt op k x y else none) = some (r, cs) → (binOp op t (.int k x) (.int k' y)).run P w = .ok r w ∧ r.oneCell' = true := fun op h' => by
      by_cases e : k = k'
      · rw [if_pos e] at h'; subst e; exact ⟨binInt_run t h' hc, binInt_one h'⟩
      · rw [if_neg e] at h'; cases h'
    have : (binOp op t (.int k x) (.int k' y)).run P w = .ok r w ∧ r.oneCell' = true := by
      cases op <;> first | exact hsh _ h | exact hin _ h
    exact ⟨hg, this⟩
  · rename_i x y
    have hg : (eqGuard op t p q (.string x) (.string y)).run P w = .ok () w := by cases op <;> simp [eqGuard]
    refine ⟨hg, binStr_run t h hc, ?_⟩
    · unfold binStr at h; cases op <;> simp only [Option.some.injEq, Prod.mk.injEq, reduceCtorEq] at h <;> obtain ⟨rfl, _⟩ := h <;> rfl
  · rename_i hn1 hn2
    split at h
    · obtain ⟨b, hb, h⟩ := Option.map_eq_some_iff.1 h
      simp only [Prod.mk.injEq] at h
      obtain ⟨rfl, rfl⟩ := h
      have hg := eqRaw_guard (P := P) (w := w) hb .eql t p q
      have he := eqRaw_run (P := P) (w := w) hb
      have hbin : (binOp .eql t u v) = (do pure (.bool (← Op.equal t u v))) := by
        unfold eqRaw at hb
        split at hb <;> first | rfl | simp at hb
      exact ⟨hg, by simp [hbin, he], rfl⟩
    · obtain ⟨b, hb, h⟩ := Option.map_eq_some_iff.1 h
      simp only [Prod.mk.injEq] at h
      obtain ⟨rfl, rfl⟩ := h
      have hg := eqRaw_guard (P := P) (w := w) hb .neq t p q
      have he := eqRaw_run (P := P) (w := w) hb
      have hbin : (binOp .neq t u v) = (do pure (.bool (!(← Op.equal t u v)))) := by
        unfold eqRaw at hb
        split at hb <;> first | rfl | simp at hb
      exact ⟨hg, by simp [hbin, he], rfl⟩
    · cases h
theorem stepBin_ok {o : Oper} {op : BinOp} {t ty : TypeId} {x y : Operand} {z : AV} {cs : List Prop} (ho : o.op = .binOp op t x y ty) (h : stepBin P op t (s.evd x) (s.evd y) = some (z, cs)) (hc : Conds cs) : LightOK P false o z s := by
  constructor
  intro B w0 N0 E a w hsim
  have hx := hsim.evd x
  have hy := hsim.evd y
  unfold stepBin at h
  split at h
  · rename_i u v hu hv
    rw [hu] at hx; rw [hv] at hy
    unfold VA at hx hy
    have hx := (VD_raw_inv hx).1
    have hy := (VD_raw_inv hy).1
    obtain ⟨⟨r, cs'⟩, hr, h⟩ := Option.map_eq_some_iff.1 h
    simp only [Prod.mk.injEq] at h
    obtain ⟨rfl, rfl⟩ := h
    obtain ⟨_, _, h3⟩ := binRaw_run (P := P) (w := w) hr hc x y
    refine ⟨r, fun w' _ => ?_, by unfold VA; exact VD_raw h3⟩
    obtain ⟨h1, h2, _⟩ := binRaw_run (P := P) (w := w') hr hc x y
    simp [execOp, ho, hx, hy, h1, h2]
  · rename_i xs ys hu hv
    rw [hu] at hx; rw [hv] at hy
    unfold VA at hx hy
    obtain ⟨b, hb, h⟩ := Option.map_eq_some_iff.1 h
    simp only [Prod.mk.injEq] at h
    obtain ⟨rfl, rfl⟩ := h
    obtain ⟨us, hx1, hx2⟩ := hx
    obtain ⟨vs, hy1, hy2⟩ := hy
    unfold VC at hx2 hy2
    refine ⟨.bool b, fun w' _ => ?_, by unfold VA; exact VD_raw rfl⟩
    obtain ⟨h1, h2⟩ := binAgg_run hb (us := us.toArray) (vs := vs.toArray) (by simpa using hx2) (by simpa using hy2) x y w'
    simp [execOp, ho, hx1, hy1, h1, h2]
  · rename_i k off hu hv
    rw [hu] at hx; rw [hv] at hy
    unfold VA at hx hy
    have hy := (VD_raw_inv hy).1
    split at h
    · rename_i e hp
      simp only [Option.some.injEq, Prod.mk.injEq] at h
      obtain ⟨rfl, rfl⟩ := h
      refine ⟨.bool false, fun w' _ => ?_, by unfold VA; exact VD_raw rfl⟩
      have he : (Op.equal t (.pointer (some ⟨E.σ k, off, none⟩)) (.pointer none)).run P w' = .ok false w' := by
        show Sem.run P (Op.equalIn (9999 + 1) t _ _) w' = _
        rw [Op.equalIn]; simp [run_underlying hp]
      simp [execOp, ho, hx, hy, eqGuard, binOp, he]
    · rename_i e hp
      simp only [Option.some.injEq, Prod.mk.injEq] at h
      obtain ⟨rfl, rfl⟩ := h
      refine ⟨.bool true, fun w' _ => ?_, by unfold VA; exact VD_raw rfl⟩
      have he : (Op.equal t (.pointer (some ⟨E.σ k, off, none⟩)) (.pointer none)).run P w' = .ok false w' := by
        show Sem.run P (Op.equalIn (9999 + 1) t _ _) w' = _
        rw [Op.equalIn]; simp [run_underlying hp]
      simp [execOp, ho, hx, hy, eqGuard, binOp, he]
    · cases h
  · cases h

def stepUn (op : UnOp) (x : AV) : Option AV :=
  match op, x with
  | .not, .d (.raw (.bool b)) => some (.d (.raw (.bool !b)))
  | .neg, .d (.raw (.int k n)) => some (.d (.raw (.int k (k.wrap (0 - n)))))
  | _, _ => none
theorem stepUn_ok {o : Oper} {op : UnOp} {t : TypeId} {x : Operand} {z : AV} (ho : o.op = .unOp op t x) (h : stepUn op (s.evd x) = some z) : LightOK P false o z s := by
  constructor
  intro B w0 N0 E a w hsim
  have hx := hsim.evd x
  unfold stepUn at h
  split at h
  · rename_i b he
    rw [he] at hx; unfold VA at hx
    have hx := (VD_raw_inv hx).1
    cases h
    exact ⟨.bool !b, fun w' _ => by simp [execOp, ho, hx, Op.unary], by unfold VA; exact VD_raw rfl⟩
  · rename_i k n he
    rw [he] at hx; unfold VA at hx
    have hx := (VD_raw_inv hx).1
    cases h
    exact ⟨.int k (k.wrap (0 - n)), fun w' _ => by simp [execOp, ho, hx, Op.unary, Op.intArith], by unfold VA; exact VD_raw rfl⟩
  · cases h

def stepConvert (P : Program) (src dst : TypeId) (x : AV) : Option AV :=
  match P.underlying src, P.underlying dst, x with
  | some (.int _), some (.int k), .d (.raw (.int _ n)) => some (.d (.raw (.int k (k.wrap n))))
  | some .string, some .string, .d (.raw (.string b)) => some (.d (.raw (.string b)))
  | _, _, _ => none
theorem stepConvert_ok {o : Oper} {src dst : TypeId} {x : Operand} {z : AV} (ho : o.op = .convert src dst x) (h : stepConvert P src dst (s.ev x) = some z) : LightOK P false o z s := by
  constructor
  intro B w0 N0 E a w hsim
  have hx := hsim.ev x
  unfold stepConvert at h
  split at h
  · rename_i k0 k k1 n h1 h2 he
    rw [he] at hx; unfold VA at hx
    have hx := (VD_raw_inv hx).1
    cases h
    refine ⟨.int k (k.wrap n), fun w' _ => ?_, by unfold VA; exact VD_raw rfl⟩
    simp [execOp, ho, hx, convert, run_underlying h1, run_underlying h2, Conv.intToInt]
  · rename_i b h1 h2 he
    rw [he] at hx; unfold VA at hx
    have hx := (VD_raw_inv hx).1
    cases h
    refine ⟨.string b, fun w' _ => ?_, by unfold VA; exact VD_raw rfl⟩
    simp [execOp, ho, hx, convert, run_underlying h1, run_underlying h2]
  · cases h

/-! ### build -/
def fillD (place : Nat → Option (Nat × Nat)) (cells : List D) : List (Nat × D) → Option (List D)
  | [] => some cells
  | (i, x) :: rest =>
    match place i with
    | none => none
    | some (off, size) => if x.cells.length = size ∧ off + x.cells.length ≤ cells.length then fillD place (splice cells off x.cells) rest else none
theorem VCs.splice {N : Nat → Prop} {xs ys : List D} {vs us : List Value} (h : VCs w N xs vs) (k : VCs w N ys us) (off : Nat) : VCs w N (splice xs off ys) (splice vs off us) := by
  unfold Abs.splice
  rw [k.length]
  exact ((h.take off).append k).append (h.drop _)
theorem fold_splice (off : Nat) : ∀ (vs : List Value) (i : Nat) (cs : Array Value), off + i + vs.length ≤ cs.size →
    ((vs.zipIdx i).foldl (fun cs (x : Value × Nat) => cs.setIfInBounds (off + x.2) x.1) cs).toList = splice cs.toList (off + i) vs
  | [], i, cs, _ => by simp [splice]
  | v :: vs, i, cs, h => by
    simp only [List.length_cons] at h
    rw [List.zipIdx_cons, List.foldl_cons, fold_splice off vs (i + 1) _ (by simp; omega)]
    simp only [Array.toList_setIfInBounds, splice, List.length_cons]
    have hl : cs.toList.length = cs.size := Array.length_toList
    apply List.ext_getElem?
    intro j
    simp only [List.getElem?_append, List.length_take, List.length_set, List.length_append, List.length_cons, List.getElem?_take, List.getElem?_set, List.getElem?_drop, hl]
    rcases Nat.lt_trichotomy j (off + i) with hj | hj | hj
    · rw [if_pos (by omega), if_pos (by omega), if_pos (by omega), if_neg (by omega), if_pos (by omega), if_pos (by omega), if_pos (by omega)]
    · subst hj
      rw [if_pos (by omega), if_pos (by omega), if_pos (by omega), if_pos (by omega), if_pos (by omega), if_pos (by omega), if_neg (by omega)]
      have : off + i - min (off + i) cs.size = 0 := by omega
      rw [this]; rfl
    · by_cases h2 : j < off + i + 1 + vs.length
      · rw [if_pos (by omega), if_neg (by omega), if_pos (by omega), if_neg (by omega)]
        have e1 : j - min (off + i) cs.size = (j - min (off + (i + 1)) cs.size) + 1 := by omega
        rw [e1]; rfl
      · rw [if_neg (by omega), if_neg (by omega), if_neg (by omega)]
        congr 1; omega
theorem fillD_run {N : Nat → Prop} (place : Nat → Option (Nat × Nat)) : ∀ (parts : List (Nat × D)) (vparts : List (Nat × Value)) (cells : List D) (cs : Array Value) (r : List D),
    VCs w N cells cs.toList → vparts.length = parts.length → (∀ (j : Nat) i x k v, parts[j]? = some (i, x) → vparts[j]? = some (k, v) → k = i ∧ VD w N x v) → fillD place cells parts = some r →
    ∃ rs, Instr.fill place cs vparts = some rs ∧ VCs w N r rs.toList
  | [], [], cells, cs, r, h, _, _, hf => by simp only [fillD, Option.some.injEq] at hf; subst hf; exact ⟨cs, rfl, h⟩
  | [], _ :: _, _, _, _, _, hl, _, _ => by simp at hl
  | _ :: _, [], _, _, _, _, hl, _, _ => by simp at hl
  | (i, x) :: parts, (k, v) :: vparts, cells, cs, r, h, hl, hp, hf => by
    obtain ⟨rfl, hv⟩ := hp 0 i x k v rfl rfl
    simp only [fillD] at hf
    cases hpl : place k with
    | none => simp [hpl] at hf
    | some q =>
      obtain ⟨off, size⟩ := q
      simp only [hpl] at hf
      split at hf
      · rename_i hc
        have hcv := hv.cells
        have hlen := hcv.length
        have hlc := h.length
        have h1 := fold_splice off v.cells.toList 0 cs (by simp only [Array.length_toList] at hlc hlen ⊢; omega)
        have h2 : VCs w N (splice cells off x.cells) ((v.cells.zipIdx.foldl (fun cs (x : Value × Nat) => cs.setIfInBounds (off + x.2) x.1) cs).toList) := by
          have e : v.cells.zipIdx.foldl (fun cs (x : Value × Nat) => cs.setIfInBounds (off + x.2) x.1) cs = (v.cells.toList.zipIdx 0).foldl (fun cs (x : Value × Nat) => cs.setIfInBounds (off + x.2) x.1) cs := by
            rw [← Array.foldl_toList]; simp
          rw [e, h1]
          exact h.splice hcv off
        obtain ⟨rs, h3, h4⟩ := fillD_run place parts vparts _ _ r h2 (by simpa using hl) (fun j i' x' k' v' hj hj' => hp (j + 1) i' x' k' v' (by simpa using hj) (by simpa using hj')) hf
        refine ⟨rs, ?_, h4⟩
        simp only [Instr.fill, hpl]
        rw [if_neg]
        · exact h3
        · simp only [Array.length_toList] at hlc hlen
          simp only [ne_eq, Bool.or_eq_true, decide_eq_true_eq, not_or, Decidable.not_not, Nat.not_lt, gt_iff_lt]
          omega
      · cases hf
end Go.Abs
