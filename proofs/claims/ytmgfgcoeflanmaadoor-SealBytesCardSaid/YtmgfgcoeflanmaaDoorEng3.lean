/-
  Part of the engine: abstract states of a call (values as trees, things of the call's own), and that each operation of the model does to the world what it does to them. No condition.
-/
import Derived.Test.YtmgfgcoeflanmaaDoorEng2
import Derived.Laws.Tables
import Derived.Laws.Entries
import Derived.Laws.Cells
import Derived.Laws.Strings
import Derived.Laws.CopyRow
import Derived.Laws.Cover1
import Derived.Laws.NewBlocks
import Derived.Laws.StructEq
namespace Go.Eng
open Go Go.RowKit
variable {P : Program} {C : Cx} {E E' : Env} {s s' : St} {a : Act} {w w' : World}

/-- A constant as a datum. -/
def ofValue : Value → AV
  | .agg vs => if vs.toList.all (·.oneCell') then .d (.agg (vs.toList.map .raw)) else .dead
  | .bool b => .known b
  | .func f a b => if a.size = 0 then if b.size = 0 then .fn f [] [] else .dead else .dead
  | v => if v.oneCell' then .d (.raw v) else .dead
def St.ev (s : St) : Operand → AV
  | .tmp t => s.tmps.getD t .dead
  | .const v => ofValue v
  | .global g => .d (.raw (.pointer (some ⟨g, 0, none⟩)))
  | .func f => .fn (.func f) [] []

theorem VCs_raw {N : Nat → Prop} : ∀ (vs : List Value), vs.all (·.oneCell') = true → VCs w N (vs.map .raw) vs
  | [], _ => by unfold VCs; rfl
  | v :: vs, h => by
    simp only [List.all_cons, Bool.and_eq_true] at h
    simp only [List.map_cons]
    unfold VCs
    exact ⟨v, vs, rfl, h.1, by unfold VC; exact ⟨rfl, h.1⟩, VCs_raw vs h.2⟩
theorem VD_raw {N : Nat → Prop} {v : Value} (h : v.oneCell' = true) : VD w N (.raw v) v := by
  show VC w N (.raw v) [v]
  unfold VC; exact ⟨rfl, h⟩
theorem VD_raw_inv {N : Nat → Prop} {u v : Value} (h : VD w N (.raw u) v) : v = u ∧ u.oneCell' = true := by
  have h' : VC w N (.raw u) [v] := h
  unfold VC at h'
  exact ⟨by simpa using h'.1, h'.2⟩

theorem ofValue_VA {N : Nat → Prop} (v : Value) : VA E w N (ofValue v) v := by
  unfold ofValue
  split
  · split
    · rename_i vs h
      unfold VA
      exact ⟨vs.toList, by simp, by unfold VC; exact VCs_raw _ h⟩
    · unfold VA; trivial
  · unfold VA; rfl
  · split
    · split
      · rename_i f a b h1 h2
        unfold VA
        refine ⟨[], [], ?_, by unfold VAs; rfl, by unfold VAs; rfl⟩
        rw [Array.eq_empty_of_size_eq_zero h1, Array.eq_empty_of_size_eq_zero h2]
      · unfold VA; trivial
    · unfold VA; trivial
  · split
    · rename_i h
      unfold VA; exact VD_raw h
    · unfold VA; trivial

theorem Sim.ev (h : Sim C E s a w) (x : Operand) : VA E w (Stable C E s w) (s.ev x) (a.eval x) := by
  cases x with
  | tmp t =>
    show VA E w _ (s.tmps.getD t .dead) (a.tmps.getD t undef)
    rw [List.getD_eq_getElem?_getD]
    cases ht : s.tmps[t]? with
    | none => simp only [Option.getD_none]; unfold VA; trivial
    | some x =>
      obtain ⟨v, h1, h2⟩ := h.tm.get t x ht
      have : a.tmps.getD t undef = v := by
        rw [Array.getElem?_toList] at h1
        simp [Array.getD_eq_getD_getElem?, h1]
      rw [this]; exact h2
  | const v => exact ofValue_VA v
  | global g => unfold St.ev VA; exact VD_raw rfl
  | func f =>
    unfold St.ev VA
    exact ⟨[], [], rfl, by unfold VAs; rfl, by unfold VAs; rfl⟩

/-- A known bool as a datum. -/
def AV.dat : AV → AV
  | .known b => .d (.raw (.bool b))
  | x => x
theorem AV.dat_VA {N : Nat → Prop} {x : AV} {v : Value} (h : VA E w N x v) : VA E w N x.dat v := by
  cases x with
  | known b => unfold VA at h; unfold AV.dat VA; subst h; exact VD_raw rfl
  | _ => exact h
def St.evd (s : St) (x : Operand) : AV := (s.ev x).dat
theorem Sim.evd (h : Sim C E s a w) (x : Operand) : VA E w (Stable C E s w) (s.evd x) (a.eval x) := AV.dat_VA (h.ev x)

/-- What an operation comes to: the state behind it, what is to be shown, the decisions that are left, whether all that was there is as it was. -/
abbrev Res := Option (St × List Prop × List Bool × List Nat)

/-- All of them. -/
def Conds : List Prop → Prop
  | [] => True
  | p :: ps => p ∧ Conds ps
theorem Conds.append {ps qs : List Prop} (h : Conds (ps ++ qs)) : Conds ps ∧ Conds qs := by
  induction ps with
  | nil => exact ⟨trivial, h⟩
  | cons p ps ih => exact ⟨⟨h.1, (ih h.2).1⟩, (ih h.2).2⟩

/-- The meaning of a step: from a related state the operation leads to a related state. -/
structure StepOK (P : Program) (gl : Nat → Option (List D)) (wr : List Nat) (o : Oper) (s s' : St) : Prop where
  out : ∀ {C : Cx} {E : Env} {a : Act} {w : World} (next : Act → World → Prop) (Q : Exit → Act → World → Prop), C.P = P → C.gl = gl → Sim C E s a w →
    (∀ E' a' w', Sim C E' s' a' w' → Kp wr C E s w E' s' w' → next a' w') → Oper.wp P o a w next Q

theorem wp_value {o : Oper} {v : Value} {next : Act → World → Prop} {Q : Exit → Act → World → Prop} (h : (execOp a.eval o).run P w = .ok (.value v) w') (hn : next (a.put o.dst v) w') : Oper.wp P o a w next Q := by
  unfold Oper.wp; rw [h]; exact hn
theorem wp_skip' {o : Oper} {next : Act → World → Prop} {Q : Exit → Act → World → Prop} (h : (execOp a.eval o).run P w = .ok .skip w') (hn : next (a.put o.dst undef) w') : Oper.wp P o a w next Q := by
  unfold Oper.wp; rw [h]; exact hn

/-! ### values alone -/
def binInt (op : BinOp) (k : IntKind) (a b : Int) : Option (Value × List Prop) :=
  match op with
  | .add => some (.int k (k.wrap (a + b)), [])
  | .sub => some (.int k (k.wrap (a - b)), [])
  | .mul => some (.int k (k.wrap (a * b)), [])
  | .quo => some (.int k (k.wrap (a.tdiv b)), [b ≠ 0])
  | .rem => some (.int k (a.tmod b), [b ≠ 0])
  | .and => some (.int k (k.wrap ((BitVec.ofInt k.bits a &&& BitVec.ofInt k.bits b).toNat)), [])
  | .or => some (.int k (k.wrap ((BitVec.ofInt k.bits a ||| BitVec.ofInt k.bits b).toNat)), [])
  | .xor => some (.int k (k.wrap ((BitVec.ofInt k.bits a ^^^ BitVec.ofInt k.bits b).toNat)), [])
  | .andNot => some (.int k (k.wrap ((BitVec.ofInt k.bits a &&& ~~~ BitVec.ofInt k.bits b).toNat)), [])
  | .eql => some (.bool (a == b), [])
  | .neq => some (.bool (a != b), [])
  | .lss => some (.bool (decide (a < b)), [])
  | .leq => some (.bool (decide (a ≤ b)), [])
  | .gtr => some (.bool (decide (a > b)), [])
  | .geq => some (.bool (decide (a ≥ b)), [])
  | _ => none
def shiftInt (op : BinOp) (k : IntKind) (a b : Int) : Option (Value × List Prop) :=
  match op with
  | .shl => some (.int k (k.wrap (a * 2 ^ min b.toNat k.bits)), [0 ≤ b])
  | .shr => some (.int k (a.fdiv (2 ^ min b.toNat k.bits)), [0 ≤ b])
  | _ => none
def binStr (op : BinOp) (x y : ByteArray) : Option (Value × List Prop) :=
  match op with
  | .add => some (.string (x ++ y), [x.size + y.size ≤ 9223372036854775807])
  | .eql => some (.bool (x.toList == y.toList), [])
  | .neq => some (.bool !(x.toList == y.toList), [])
  | .lss => some (.bool (Op.bytesLess x.toList y.toList), [])
  | .leq => some (.bool (Op.bytesLess x.toList y.toList || x.toList == y.toList), [])
  | .gtr => some (.bool !(Op.bytesLess x.toList y.toList || x.toList == y.toList), [])
  | .geq => some (.bool !(Op.bytesLess x.toList y.toList), [])
  | _ => none
/-- '==' and '!=' of bools and with nil, by the type's shape. -/
def eqRaw (d : Option TypeDesc) (x y : Value) : Option Bool :=
  match d, x, y with
  | some .bool, .bool a, .bool b => some (a == b)
  | some (.pointer _), .pointer none, .pointer none => some true
  | some (.slice _), .slice none _ _, .slice none _ _ => some true
  | some (.map _ _), .map none, .map none => some true
  | some (.interface _), .nilIface, .iface _ _ => some false
  | some (.interface _), .iface _ _, .nilIface => some false
  | _, _, _ => none
def binRaw (P : Program) (op : BinOp) (t : TypeId) (x y : Value) : Option (Value × List Prop) :=
  match x, y with
  | .int k a, .int k' b =>
    match op with
    | .shl | .shr => shiftInt op k a b
    | _ => if k = k' then binInt op k a b else none
  | .string a, .string b => binStr op a b
  | _, _ =>
    match op with
    | .eql => (eqRaw (P.underlying t) x y).map fun b => (.bool b, [])
    | .neq => (eqRaw (P.underlying t) x y).map fun b => (.bool !b, [])
    | _ => none

theorem binInt_run {op : BinOp} {k : IntKind} {x y : Int} {v : Value} {cs : List Prop} (t : TypeId) (h : binInt op k x y = some (v, cs)) (hc : Conds cs) :
    (binOp op t (.int k x) (.int k y)).run P w = .ok v w := by
  unfold binInt at h
  cases op <;> simp only [Option.some.injEq, Prod.mk.injEq, reduceCtorEq] at h <;> obtain ⟨rfl, rfl⟩ := h <;> simp [binOp, Op.intArith, Op.intBits, Op.intCmp, Op.intDiv]
  all_goals (have hy : y ≠ 0 := hc.1; simp [hy])
theorem shiftInt_run {op : BinOp} {k k' : IntKind} {x y : Int} {v : Value} {cs : List Prop} (t : TypeId) (h : shiftInt op k x y = some (v, cs)) (hc : Conds cs) :
    (binOp op t (.int k x) (.int k' y)).run P w = .ok v w := by
  unfold shiftInt at h
  cases op <;> simp only [Option.some.injEq, Prod.mk.injEq, reduceCtorEq] at h <;> obtain ⟨rfl, rfl⟩ := h <;> (have hy : ¬ y < 0 := by have := hc.1; omega) <;> simp [binOp, Op.shift, hy]
theorem binStr_run {op : BinOp} {x y : ByteArray} {v : Value} {cs : List Prop} (t : TypeId) (h : binStr op x y = some (v, cs)) (hc : Conds cs) :
    (binOp op t (.string x) (.string y)).run P w = .ok v w := by
  unfold binStr at h
  cases op <;> simp only [Option.some.injEq, Prod.mk.injEq, reduceCtorEq] at h <;> obtain ⟨rfl, rfl⟩ := h <;> simp [binOp, Op.stringOp]
  have h1 : x.size + y.size ≤ 9223372036854775807 := hc.1
  omega
theorem eqRaw_run {t : TypeId} {x y : Value} {b : Bool} (h : eqRaw (P.underlying t) x y = some b) : (Op.equal t x y).run P w = .ok b w := by
  unfold eqRaw at h
  split at h <;> rename_i hd <;> simp only [Option.some.injEq, reduceCtorEq] at h <;> subst h <;> (show Sem.run P (Op.equalIn (9999 + 1) t _ _) w = _) <;> rw [Op.equalIn] <;> simp [run_underlying hd]
theorem eqRaw_guard {d : Option TypeDesc} {x y : Value} {b : Bool} (h : eqRaw d x y = some b) (op : BinOp) (t : TypeId) (p q : Operand) : (eqGuard op t p q x y).run P w = .ok () w := by
  unfold eqRaw at h
  split at h <;> simp only [Option.some.injEq, reduceCtorEq] at h <;> cases op <;> simp [eqGuard]
theorem cells_one {v : Value} (h : v.oneCell' = true) : v.cells.toList = [v] := by
  cases v <;> first | rfl | (simp [Value.oneCell'] at h)
theorem VC_one {N : Nat → Prop} {x : D} {v : Value} (h1 : x.one = true) (h : VC w N x [v]) : v.oneCell' = true := by
  cases x with
  | raw u => unfold VC at h; obtain ⟨h2, h3⟩ := h; simp only [List.cons.injEq, and_true] at h2; rw [h2]; exact h3
  | list sz n el =>
    unfold VC at h
    obtain ⟨u, h2, h3⟩ := h
    simp only [List.cons.injEq, and_true] at h2
    rw [h2]
    rcases h3 with ⟨_, h4⟩ | ⟨ad, cap, cs, h4, _⟩ <;> rw [h4] <;> rfl
  | agg xs => simp [D.one] at h1

theorem VCs.length {N : Nat → Prop} : ∀ {xs : List D} {vs : List Value}, VCs w N xs vs → vs.length = xs.length
  | [], vs, h => by unfold VCs at h; subst h; rfl
  | x :: xs, vs, h => by
    unfold VCs at h
    obtain ⟨v, vs', rfl, _, _, h⟩ := h
    simp [VCs.length h]
theorem VCs.get {N : Nat → Prop} : ∀ {xs : List D} {vs : List Value}, VCs w N xs vs → ∀ (i : Nat) (x : D), xs[i]? = some x → ∃ v, vs[i]? = some v ∧ x.one = true ∧ VC w N x [v]
  | [], vs, h, i, x, hx => by simp at hx
  | y :: xs, vs, h, i, x, hx => by
    unfold VCs at h
    obtain ⟨v, vs', rfl, h1, h2, h⟩ := h
    cases i with
    | zero => simp at hx; subst hx; exact ⟨v, rfl, h1, h2⟩
    | succ i => simpa using VCs.get h i x (by simpa using hx)
theorem VCs.of_get {N : Nat → Prop} : ∀ {xs : List D} {vs : List Value}, vs.length = xs.length → (∀ (i : Nat) (x : D) (v : Value), xs[i]? = some x → vs[i]? = some v → x.one = true ∧ VC w N x [v]) → VCs w N xs vs
  | [], vs, h, _ => by unfold VCs; exact List.eq_nil_of_length_eq_zero (by simpa using h)
  | x :: xs, [], h, _ => by simp at h
  | x :: xs, v :: vs, h, hg => by
    unfold VCs
    obtain ⟨h1, h2⟩ := hg 0 x v rfl rfl
    exact ⟨v, vs, rfl, h1, h2, VCs.of_get (by simpa using h) fun i y u hy hu => hg (i + 1) y u (by simpa using hy) (by simpa using hu)⟩
theorem VCs.ones {N : Nat → Prop} {xs : List D} {vs : List Value} (h : VCs w N xs vs) : ∀ v ∈ vs, v.oneCell' = true := by
  intro v hv
  obtain ⟨i, hi, rfl⟩ := List.mem_iff_getElem.1 hv
  have hl := h.length
  obtain ⟨u, h1, h2, h3⟩ := h.get i xs[i] (List.getElem?_eq_getElem (by omega))
  rw [List.getElem?_eq_getElem hi] at h1
  cases h1
  exact VC_one h2 h3
theorem VCs.append {N : Nat → Prop} : ∀ {xs ys : List D} {vs us : List Value}, VCs w N xs vs → VCs w N ys us → VCs w N (xs ++ ys) (vs ++ us)
  | [], ys, vs, us, h, k => by unfold VCs at h; subst h; exact k
  | x :: xs, ys, vs, us, h, k => by
    unfold VCs at h
    obtain ⟨v, vs', rfl, h1, h2, h⟩ := h
    simp only [List.cons_append]
    unfold VCs
    exact ⟨v, vs' ++ us, rfl, h1, h2, VCs.append h k⟩
theorem VCs.take {N : Nat → Prop} {xs : List D} {vs : List Value} (h : VCs w N xs vs) (n : Nat) : VCs w N (xs.take n) (vs.take n) :=
  VCs.of_get (by simp [h.length]) fun i x v hx hv => by
    rw [List.getElem?_take] at hx hv
    split at hx
    · rename_i hlt
      rw [if_pos hlt] at hv
      obtain ⟨u, h1, h2, h3⟩ := h.get i x hx
      rw [h1] at hv; cases hv; exact ⟨h2, h3⟩
    · cases hx
theorem VCs.drop {N : Nat → Prop} {xs : List D} {vs : List Value} (h : VCs w N xs vs) (n : Nat) : VCs w N (xs.drop n) (vs.drop n) :=
  VCs.of_get (by simp [h.length]) fun i x v hx hv => by
    rw [List.getElem?_drop] at hx hv
    obtain ⟨u, h1, h2, h3⟩ := h.get _ x hx
    rw [h1] at hv; cases hv; exact ⟨h2, h3⟩
/-- The cells of a datum. -/
theorem VC.cells {N : Nat → Prop} {x : D} {vs : List Value} (h : VC w N x vs) : VCs w N x.cells vs := by
  cases x with
  | agg xs => unfold VC at h; exact h
  | raw u =>
    show VCs w N [.raw u] vs
    have h' := h
    unfold VC at h'
    obtain ⟨rfl, h1⟩ := h'
    unfold VCs
    exact ⟨u, [], rfl, h1, h, by unfold VCs; rfl⟩
  | list sz n el =>
    show VCs w N [.list sz n el] vs
    have h' := h
    unfold VC at h'
    obtain ⟨v, rfl, _⟩ := h'
    unfold VCs
    exact ⟨v, [], rfl, rfl, h, by unfold VCs; rfl⟩
theorem VD.cells {N : Nat → Prop} {x : D} {v : Value} (h : VD w N x v) : VCs w N x.cells v.cells.toList := by
  cases x with
  | agg xs =>
    obtain ⟨vs, rfl, h⟩ := h
    exact VC.cells h
  | raw u =>
    have h' : VC w N (.raw u) [v] := h
    rw [cells_one (VC_one (x := .raw u) (by have := h'; unfold VC at this; exact this.2) h')]
    exact VC.cells h'
  | list sz n el =>
    have h' : VC w N (.list sz n el) [v] := h
    rw [cells_one (VC_one rfl h')]
    exact VC.cells h'

/-- The cells of a value, where it is boxed or stored. -/
def AV.boxed : AV → Option (List AV)
  | .d x => some (x.cells.map .d)
  | .ref k o => some [.ref k o]
  | .refI k o i z n o2 => some [.refI k o i z n o2]
  | .own r => some [.own r]
  | .sub k lo n sz cap => some [.sub k lo n sz cap]
  | .osl k o z n c => some [.osl k o z n c]
  | .mp k => some [.mp k]
  | .fn f a b => some [.fn f a b]
  | .cptr cs => some [.cptr cs]
  | .el r i z o => some [.el r i z o]
  | .known b => some [.known b]
  | .agg xs => some xs
  | .tup _ => none
  | .dead => none

theorem VAs_of_VCs {N : Nat → Prop} : ∀ {xs : List D} {vs : List Value}, VCs w N xs vs → VAs E w N (xs.map .d) vs
  | [], vs, h => by unfold VCs at h; subst h; unfold VAs; rfl
  | x :: xs, vs, h => by
    unfold VCs at h
    obtain ⟨v, vs', rfl, h1, h2, h⟩ := h
    simp only [List.map_cons]
    unfold VAs
    refine ⟨v, vs', rfl, ?_, VAs_of_VCs h⟩
    unfold VA
    cases x with
    | agg xs => simp [D.one] at h1
    | raw u => exact h2
    | list sz n el => exact h2
theorem VAs_single {N : Nat → Prop} {x : AV} {v : Value} (h : VA E w N x v) (h1 : v.oneCell' = true) : VAs E w N [x] v.cells.toList ∧ ∀ u ∈ v.cells.toList, u.oneCell' = true := by
  rw [cells_one h1]
  refine ⟨?_, by simpa using h1⟩
  unfold VAs
  exact ⟨v, [], rfl, h, by unfold VAs; rfl⟩
/-- What is one cell. -/
def AV.one : AV → Bool
  | .d x => x.one
  | .ref .. | .refI .. | .own _ | .sub .. | .osl .. | .mp _ | .fn .. | .cptr _ | .el .. | .known _ => true
  | _ => false
theorem VA.oneCell {N : Nat → Prop} {x : AV} {v : Value} (h1 : x.one = true) (h : VA E w N x v) : v.oneCell' = true := by
  cases x <;> simp only [AV.one, reduceCtorEq, Bool.false_eq_true] at h1 <;> unfold VA at h
  case d x =>
    have h' : VC w N x [v] := by
      cases x with
      | agg xs => simp [D.one] at h1
      | raw u => exact h
      | list sz n el => exact h
    exact VC_one h1 h'
  case ref => obtain ⟨b, _, rfl⟩ := h; rfl
  case refI => obtain ⟨b, _, rfl⟩ := h; rfl
  case own => obtain ⟨_, A, n, c, rfl⟩ := h; rfl
  case sub =>
    rcases h with ⟨_, _, rfl, _⟩ | ⟨_, _, _, _, _, _, _, rfl, _⟩ <;> rfl
  case osl => obtain ⟨b, _, rfl⟩ := h; rfl
  case mp => obtain ⟨_, A, rfl⟩ := h; rfl
  case fn => obtain ⟨_, _, rfl, _⟩ := h; rfl
  case cptr => obtain ⟨_, _, rfl, _⟩ := h; rfl
  case el => obtain ⟨_, _, _, _, rfl⟩ := h; rfl
  case known => subst h; rfl
theorem boxed_VAs {N : Nat → Prop} {x : AV} {v : Value} {cs : List AV} (h : VA E w N x v) (hb : x.boxed = some cs) : VAs E w N cs v.cells.toList ∧ ∀ u ∈ v.cells.toList, u.oneCell' = true := by
  cases x <;> simp only [AV.boxed, Option.some.injEq, reduceCtorEq] at hb <;> subst hb
  case d x =>
    unfold VA at h
    exact ⟨VAs_of_VCs (VD.cells h), (VD.cells h).ones⟩
  case agg xs =>
    unfold VA at h
    obtain ⟨vs, rfl, h1, h2⟩ := h
    exact ⟨h1, h2⟩
  all_goals exact VAs_single h (VA.oneCell rfl h)

/-! ### several at once as data -/
def AV.toD : AV → Option D
  | .d x => if x.one then some x else none
  | .known b => some (.raw (.bool b))
  | _ => none
def toDs : List AV → Option (List D)
  | [] => some []
  | x :: xs => match x.toD, toDs xs with
    | some d, some ds => some (d :: ds)
    | _, _ => none
theorem toDs_VCs {N : Nat → Prop} : ∀ {cs : List AV} {xs : List D} {vs : List Value}, toDs cs = some xs → VAs E w N cs vs → VCs w N xs vs
  | [], xs, vs, h, k => by
    simp only [toDs, Option.some.injEq] at h; subst h
    unfold VAs at k; subst k; unfold VCs; rfl
  | c :: cs, xs, vs, h, k => by
    simp only [toDs] at h
    split at h
    · rename_i x xs' hx hxs
      cases h
      unfold VAs at k
      obtain ⟨v, vs', rfl, hv, k⟩ := k
      cases c <;> simp only [AV.toD, reduceCtorEq] at hx
      case d y =>
        split at hx
        · rename_i h1
          cases hx
          unfold VA at hv
          unfold VCs
          refine ⟨v, vs', rfl, h1, ?_, toDs_VCs hxs k⟩
          cases x with
          | agg xs => simp [D.one] at h1
          | raw u => exact hv
          | list sz n el => exact hv
        · cases hx
      case known b =>
        cases hx
        unfold VA at hv
        unfold VCs
        exact ⟨v, vs', rfl, rfl, by subst hv; exact (VD_raw (w := w) (N := N) (v := .bool b) rfl), toDs_VCs hxs k⟩
    · cases h
theorem VAs.ones {N : Nat → Prop} {xs : List AV} {vs : List Value} (h : VAs E w N xs vs) (h1 : xs.all AV.one = true) : ∀ u ∈ vs, u.oneCell' = true := by
  intro u hu
  obtain ⟨i, hi, rfl⟩ := List.mem_iff_getElem.1 hu
  have hl := h.length
  obtain ⟨v, h2, h3⟩ := h.get i xs[i] (List.getElem?_eq_getElem (by omega))
  rw [List.getElem?_eq_getElem hi] at h2
  cases h2
  exact VA.oneCell (List.all_eq_true.1 h1 _ (List.getElem_mem _)) h3
/-- Cells as one value of a struct. -/
def aggOf (cs : List AV) : Option AV := match toDs cs with
  | some ds => some (.d (.agg ds))
  | none => if cs.all AV.one then some (.agg cs) else none
theorem aggOf_VA {N : Nat → Prop} {cs : List AV} {vs : List Value} {x : AV} (h : aggOf cs = some x) (k : VAs E w N cs vs) : VA E w N x (.agg vs.toArray) := by
  unfold aggOf at h
  split at h
  · rename_i ds hds
    cases h
    unfold VA
    exact ⟨vs, rfl, by unfold VC; exact toDs_VCs hds k⟩
  · split at h
    · rename_i h1
      cases h
      unfold VA
      exact ⟨vs, rfl, k, k.ones h1⟩
    · cases h
end Go.Eng
