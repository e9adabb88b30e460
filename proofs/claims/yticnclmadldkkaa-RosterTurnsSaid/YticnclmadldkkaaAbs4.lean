/-
  Part of the engine: abstract states of a call (values as trees, objects and rows of the call's own), and that each operation of the model does to the world what it does to them. No condition.
-/
import Derived.Test.YticnclmadldkkaaAbs3
import Derived.Laws.Tables
import Derived.Laws.Entries
import Derived.Laws.Cells
import Derived.Laws.Strings
import Derived.Laws.CopyRow
import Derived.Laws.Cover1
import Derived.Laws.NewBlocks
namespace Go.Abs
open Go Go.RowKit
variable {P : Program} {B : Nat} {w0 : World} {N0 : Nat → Prop} {E E' : Env} {s s' : St} {a : Act} {w w' : World}

/-- A constant as a datum. -/
def ofValue : Value → AV
  | .agg vs => if vs.toList.all (·.oneCell') then .d (.agg (vs.toList.map .raw)) else .dead
  | .bool b => .known b
  | .func f a b => if a.size = 0 then if b.size = 0 then .fn f [] [] else .dead else .dead
  | v => if v.oneCell' then .d (.raw v) else .dead
def St.ev (s : St) : Operand → AV
  | .tmp t => s.tmps.getD t .dead
  | .const v => ofValue v
  | .global g => .d (.raw (.pointer (some ⟨g, 0, none⟩)))
  | .func f => .fn (.func f) [] []

theorem VCs_raw {N : Nat → Prop} : ∀ (vs : List Value), vs.all (·.oneCell') = true → VCs w N (vs.map .raw) vs
  | [], _ => by unfold VCs; rfl
  | v :: vs, h => by
    simp only [List.all_cons, Bool.and_eq_true] at h
    simp only [List.map_cons]
    unfold VCs
    exact ⟨v, vs, rfl, h.1, by unfold VC; exact ⟨rfl, h.1⟩, VCs_raw vs h.2⟩
theorem VD_raw {N : Nat → Prop} {v : Value} (h : v.oneCell' = true) : VD w N (.raw v) v := by
  show VC w N (.raw v) [v]
  unfold VC; exact ⟨rfl, h⟩
theorem VD_raw_inv {N : Nat → Prop} {u v : Value} (h : VD w N (.raw u) v) : v = u ∧ u.oneCell' = true := by
  have h' : VC w N (.raw u) [v] := h
  unfold VC at h'
  exact ⟨by simpa using h'.1, h'.2⟩

theorem ofValue_VA {N : Nat → Prop} (v : Value) : VA E w N (ofValue v) v := by
  unfold ofValue
  split
  · split
    · rename_i vs h
      unfold VA
      exact ⟨vs.toList, by simp, by unfold VC; exact VCs_raw _ h⟩
    · unfold VA; trivial
  · unfold VA; rfl
  · split
    · split
      · rename_i f a b h1 h2
        unfold VA
        refine ⟨[], [], ?_, by unfold VAs; rfl, by unfold VAs; rfl⟩
        rw [Array.eq_empty_of_size_eq_zero h1, Array.eq_empty_of_size_eq_zero h2]
      · unfold VA; trivial
    · unfold VA; trivial
  · split
    · rename_i h
      unfold VA; exact VD_raw h
    · unfold VA; trivial

theorem Sim.ev (h : Sim B w0 N0 E s a w) (x : Operand) : VA E w (Stable B N0 E s w) (s.ev x) (a.eval x) := by
  cases x with
  | tmp t =>
    show VA E w _ (s.tmps.getD t .dead) (a.tmps.getD t undef)
    rw [List.getD_eq_getElem?_getD]
    cases ht : s.tmps[t]? with
    | none => simp only [Option.getD_none]; unfold VA; trivial
    | some x =>
      obtain ⟨v, h1, h2⟩ := h.tm.get t x ht
      have : a.tmps.getD t undef = v := by
        rw [Array.getElem?_toList] at h1
        simp [Array.getD_eq_getD_getElem?, h1]
      rw [this]; exact h2
  | const v => exact ofValue_VA v
  | global g => unfold St.ev VA; exact VD_raw rfl
  | func f =>
    unfold St.ev VA
    exact ⟨[], [], rfl, by unfold VAs; rfl, by unfold VAs; rfl⟩

/-- A known bool as a datum. -/
def AV.dat : AV → AV
  | .known b => .d (.raw (.bool b))
  | x => x
theorem AV.dat_VA {N : Nat → Prop} {x : AV} {v : Value} (h : VA E w N x v) : VA E w N x.dat v := by
  cases x with
  | known b => unfold VA at h; unfold AV.dat VA; subst h; exact VD_raw rfl
  | _ => exact h
def St.evd (s : St) (x : Operand) : AV := (s.ev x).dat
theorem Sim.evd (h : Sim B w0 N0 E s a w) (x : Operand) : VA E w (Stable B N0 E s w) (s.evd x) (a.eval x) := AV.dat_VA (h.ev x)

def St.put (s : St) (dst : Option Tmp) (x : AV) : St := { s with tmps := match dst with | some d => s.tmps.set d x | none => s.tmps }

/-- What an operation comes to: the state behind it, what is to be shown, the decisions that are left. -/
abbrev Res := Option (St × List Prop × List Bool)

/-- All of them. -/
def Conds : List Prop → Prop
  | [] => True
  | p :: ps => p ∧ Conds ps
theorem Conds.append {ps qs : List Prop} (h : Conds (ps ++ qs)) : Conds ps ∧ Conds qs := by
  induction ps with
  | nil => exact ⟨trivial, h⟩
  | cons p ps ih => exact ⟨⟨h.1, (ih h.2).1⟩, (ih h.2).2⟩

/-- The meaning of a step: from a related state the operation leads to a related state. -/
structure StepOK (P : Program) (fr : Bool) (o : Oper) (s s' : St) : Prop where
  out : ∀ {B : Nat} {w0 : World} {N0 : Nat → Prop} {E : Env} {a : Act} {w : World} (next : Act → World → Prop) (Q : Exit → Act → World → Prop), Sim B w0 N0 E s a w →
    (∀ E' a' w', Sim B w0 N0 E' s' a' w' → (fr = true → Below w.heap.size w w') → next a' w') → Oper.wp P o a w next Q

theorem wp_value {o : Oper} {v : Value} {next : Act → World → Prop} {Q : Exit → Act → World → Prop} (h : (execOp a.eval o).run P w = .ok (.value v) w') (hn : next (a.put o.dst v) w') : Oper.wp P o a w next Q := by
  unfold Oper.wp; rw [h]; exact hn
theorem wp_skip' {o : Oper} {next : Act → World → Prop} {Q : Exit → Act → World → Prop} (h : (execOp a.eval o).run P w = .ok .skip w') (hn : next (a.put o.dst undef) w') : Oper.wp P o a w next Q := by
  unfold Oper.wp; rw [h]; exact hn

/-! ### values alone -/
def binInt (op : BinOp) (k : IntKind) (a b : Int) : Option (Value × List Prop) :=
  match op with
  | .add => some (.int k (k.wrap (a + b)), [])
  | .sub => some (.int k (k.wrap (a - b)), [])
  | .mul => some (.int k (k.wrap (a * b)), [])
  | .quo => some (.int k (k.wrap (a.tdiv b)), [b ≠ 0])
  | .rem => some (.int k (a.tmod b), [b ≠ 0])
  | .and => some (.int k (k.wrap ((BitVec.ofInt k.bits a &&& BitVec.ofInt k.bits b).toNat)), [])
  | .or => some (.int k (k.wrap ((BitVec.ofInt k.bits a ||| BitVec.ofInt k.bits b).toNat)), [])
  | .xor => some (.int k (k.wrap ((BitVec.ofInt k.bits a ^^^ BitVec.ofInt k.bits b).toNat)), [])
  | .andNot => some (.int k (k.wrap ((BitVec.ofInt k.bits a &&& ~~~ BitVec.ofInt k.bits b).toNat)), [])
  | .eql => some (.bool (a == b), [])
  | .neq => some (.bool (a != b), [])
  | .lss => some (.bool (decide (a < b)), [])
  | .leq => some (.bool (decide (a ≤ b)), [])
  | .gtr => some (.bool (decide (a > b)), [])
  | .geq => some (.bool (decide (a ≥ b)), [])
  | _ => none
def shiftInt (op : BinOp) (k : IntKind) (a b : Int) : Option (Value × List Prop) :=
  match op with
  | .shl => some (.int k (k.wrap (a * 2 ^ min b.toNat k.bits)), [0 ≤ b])
  | .shr => some (.int k (a.fdiv (2 ^ min b.toNat k.bits)), [0 ≤ b])
  | _ => none
def binStr (op : BinOp) (x y : ByteArray) : Option (Value × List Prop) :=
  match op with
  | .add => some (.string (x ++ y), [x.size + y.size ≤ 9223372036854775807])
  | .eql => some (.bool (x.toList == y.toList), [])
  | .neq => some (.bool !(x.toList == y.toList), [])
  | .lss => some (.bool (Op.bytesLess x.toList y.toList), [])
  | .leq => some (.bool (Op.bytesLess x.toList y.toList || x.toList == y.toList), [])
  | .gtr => some (.bool !(Op.bytesLess x.toList y.toList || x.toList == y.toList), [])
  | .geq => some (.bool !(Op.bytesLess x.toList y.toList), [])
  | _ => none
/-- '==' and '!=' of bools and with nil, by the type's shape. -/
def eqRaw (d : Option TypeDesc) (x y : Value) : Option Bool :=
  match d, x, y with
  | some .bool, .bool a, .bool b => some (a == b)
  | some (.pointer _), .pointer none, .pointer none => some true
  | some (.slice _), .slice none _ _, .slice none _ _ => some true
  | some (.map _ _), .map none, .map none => some true
  | some (.interface _), .nilIface, .iface _ _ => some false
  | some (.interface _), .iface _ _, .nilIface => some false
  | _, _, _ => none
def binRaw (P : Program) (op : BinOp) (t : TypeId) (x y : Value) : Option (Value × List Prop) :=
  match x, y with
  | .int k a, .int k' b =>
    match op with
    | .shl | .shr => shiftInt op k a b
    | _ => if k = k' then binInt op k a b else none
  | .string a, .string b => binStr op a b
  | _, _ =>
    match op with
    | .eql => (eqRaw (P.underlying t) x y).map fun b => (.bool b, [])
    | .neq => (eqRaw (P.underlying t) x y).map fun b => (.bool !b, [])
    | _ => none

theorem binInt_run {op : BinOp} {k : IntKind} {x y : Int} {v : Value} {cs : List Prop} (t : TypeId) (h : binInt op k x y = some (v, cs)) (hc : Conds cs) :
    (binOp op t (.int k x) (.int k y)).run P w = .ok v w := by
  unfold binInt at h
  cases op <;> simp only [Option.some.injEq, Prod.mk.injEq, reduceCtorEq] at h <;> obtain ⟨rfl, rfl⟩ := h <;> simp [binOp, Op.intArith, Op.intBits, Op.intCmp, Op.intDiv]
  all_goals (have hy : y ≠ 0 := hc.1; simp [hy])
theorem shiftInt_run {op : BinOp} {k k' : IntKind} {x y : Int} {v : Value} {cs : List Prop} (t : TypeId) (h : shiftInt op k x y = some (v, cs)) (hc : Conds cs) :
    (binOp op t (.int k x) (.int k' y)).run P w = .ok v w := by
  unfold shiftInt at h
  cases op <;> simp only [Option.some.injEq, Prod.mk.injEq, reduceCtorEq] at h <;> obtain ⟨rfl, rfl⟩ := h <;> (have hy : ¬ y < 0 := by have := hc.1; omega) <;> simp [binOp, Op.shift, hy]
theorem binStr_run {op : BinOp} {x y : ByteArray} {v : Value} {cs : List Prop} (t : TypeId) (h : binStr op x y = some (v, cs)) (hc : Conds cs) :
    (binOp op t (.string x) (.string y)).run P w = .ok v w := by
  unfold binStr at h
  cases op <;> simp only [Option.some.injEq, Prod.mk.injEq, reduceCtorEq] at h <;> obtain ⟨rfl, rfl⟩ := h <;> simp [binOp, Op.stringOp]
  have h1 : x.size + y.size ≤ 9223372036854775807 := hc.1
  omega
theorem eqRaw_run {t : TypeId} {x y : Value} {b : Bool} (h : eqRaw (P.underlying t) x y = some b) : (Op.equal t x y).run P w = .ok b w := by
  unfold eqRaw at h
  split at h <;> rename_i hd <;> simp only [Option.some.injEq, reduceCtorEq] at h <;> subst h <;> (show Sem.run P (Op.equalIn (9999 + 1) t _ _) w = _) <;> rw [Op.equalIn] <;> simp [run_underlying hd]
theorem eqRaw_guard {d : Option TypeDesc} {x y : Value} {b : Bool} (h : eqRaw d x y = some b) (op : BinOp) (t : TypeId) (p q : Operand) : (eqGuard op t p q x y).run P w = .ok () w := by
  unfold eqRaw at h
  split at h <;> simp only [Option.some.injEq, reduceCtorEq] at h <;> cases op <;> simp [eqGuard]
end Go.Abs
