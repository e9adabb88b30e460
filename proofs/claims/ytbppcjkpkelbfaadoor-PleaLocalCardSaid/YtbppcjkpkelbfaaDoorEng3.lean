/-
  Part of the engine: abstract states of a call, and that the operations do what is told of them. No condition.
-/
import Derived.Test.YtbppcjkpkelbfaaDoorEng2
import Derived.Laws.Tables
import Derived.Laws.Entries
import Derived.Laws.Cells
import Derived.Laws.Strings
import Derived.Laws.CopyRow
import Derived.Laws.Cover1
import Derived.Laws.NewBlocks
import Derived.Laws.StructEq
namespace Go.Eng
open Go Go.RowKit
variable {P : Program} {C : Cx} {E E' : Env} {s s' : St} {a : Act} {w w' : World}
def ofValue : Value → AV
 | .agg vs => if vs.toList.all (·.oneCell') then .d (.agg (vs.toList.map .raw)) else .dead
 | .bool b => .known b
 | .func f a b => if a.size = 0 then if b.size = 0 then .fn f [] [] else .dead else .dead
 | v => if v.oneCell' then .d (.raw v) else .dead
def St.ev (s : St) : Operand → AV
 | .tmp t => s.tmps.getD t .dead
 | .const v => ofValue v
 | .global g => .d (.raw (.pointer (some ⟨g, 0, none⟩)))
 | .func f => .fn (.func f) [] []
theorem VCs_raw {N : Nat → Prop} : ∀ (vs : List Value), vs.all (·.oneCell') = true → VCs w N (vs.map .raw) vs
 | [], _ => by unfold VCs; rfl
 | v :: vs, h => by
  simp only [List.all_cons, Bool.and_eq_true] at h
  simp only [List.map_cons]
  unfold VCs
  exact ⟨v, vs, rfl, h.1, by unfold VC; exact ⟨rfl, h.1⟩, VCs_raw vs h.2⟩
theorem VD_raw {N : Nat → Prop} {v : Value} (h : v.oneCell' = true) : VD w N (.raw v) v := by
 show VC w N (.raw v) [v]
 unfold VC; exact ⟨rfl, h⟩
theorem VD_raw_inv {N : Nat → Prop} {u v : Value} (h : VD w N (.raw u) v) : v = u ∧ u.oneCell' = true := by
 have h' : VC w N (.raw u) [v] := h
 unfold VC at h'
 exact ⟨by simpa using h'.1, h'.2⟩
theorem ofValue_VA {N : Nat → Prop} (v : Value) : VA E w N (ofValue v) v := by
 unfold ofValue
 split
 ·
  split
  ·
   rename_i vs h
   unfold VA
   exact ⟨vs.toList, by simp, by unfold VC; exact VCs_raw _ h⟩
  · unfold VA; trivial
 · unfold VA; rfl
 ·
  split
  ·
   split
   ·
    rename_i f a b h1 h2
    unfold VA
    refine ⟨[], [], ?_, by unfold VAs; rfl, by unfold VAs; rfl⟩
    rw [Array.eq_empty_of_size_eq_zero h1, Array.eq_empty_of_size_eq_zero h2]
   · unfold VA; trivial
  · unfold VA; trivial
 ·
  split
  ·
   rename_i h
   unfold VA; exact VD_raw h
  · unfold VA; trivial
theorem Sim.ev (h : Sim C E s a w) (x : Operand) : VA E w (Stable C E s w) (s.ev x) (a.eval x) := by
 cases x with
 | tmp t =>
  show VA E w _ (s.tmps.getD t .dead) (a.tmps.getD t undef)
  rw [List.getD_eq_getElem?_getD]
  cases ht : s.tmps[t]? with
  | none => simp only [Option.getD_none]; unfold VA; trivial
  | some x =>
   obtain ⟨v, h1, h2⟩ := h.tm.get t x ht
   have : a.tmps.getD t undef = v := by
    rw [Array.getElem?_toList] at h1
    simp [Array.getD_eq_getD_getElem?, h1]
   rw [this]; exact h2
 | const v => exact ofValue_VA v
 | global g => unfold St.ev VA; exact VD_raw rfl
 | func f =>
  unfold St.ev VA
  exact ⟨[], [], rfl, by unfold VAs; rfl, by unfold VAs; rfl⟩
def AV.dat : AV → AV
 | .known b => .d (.raw (.bool b))
 | x => x
theorem AV.dat_VA {N : Nat → Prop} {x : AV} {v : Value} (h : VA E w N x v) : VA E w N x.dat v := by
 cases x with
 | known b => unfold VA at h; unfold AV.dat VA; subst h; exact VD_raw rfl
 | _ => exact h
def St.evd (s : St) (x : Operand) : AV := (s.ev x).dat
theorem Sim.evd (h : Sim C E s a w) (x : Operand) : VA E w (Stable C E s w) (s.evd x) (a.eval x) := AV.dat_VA (h.ev x)
abbrev Res := Option (St × List Prop × List Bool × List Nat)
def Conds : List Prop → Prop
 | [] => True
 | p :: ps => p ∧ Conds ps
theorem Conds.append {ps qs : List Prop} (h : Conds (ps ++ qs)) : Conds ps ∧ Conds qs := by
 induction ps with
 | nil => exact ⟨trivial, h⟩
 | cons p ps ih => exact ⟨⟨h.1, (ih h.2).1⟩, (ih h.2).2⟩
structure StepOK (P : Program) (gl : Nat → Option (List D)) (wr : List Nat) (o : Oper) (s s' : St) : Prop where
 out : ∀ {C : Cx} {E : Env} {a : Act} {w : World} (next : Act → World → Prop) (Q : Exit → Act → World → Prop), C.P = P → C.gl = gl → Sim C E s a w →
  (∀ E' a' w', Sim C E' s' a' w' → Kp wr C E s w E' s' w' → next a' w') → Oper.wp P o a w next Q
theorem wp_value {o : Oper} {v : Value} {next : Act → World → Prop} {Q : Exit → Act → World → Prop} (h : (execOp a.eval o).run P w = .ok (.value v) w') (hn : next (a.put o.dst v) w') : Oper.wp P o a w next Q := by
 unfold Oper.wp; rw [h]; exact hn
theorem wp_skip' {o : Oper} {next : Act → World → Prop} {Q : Exit → Act → World → Prop} (h : (execOp a.eval o).run P w = .ok .skip w') (hn : next (a.put o.dst undef) w') : Oper.wp P o a w next Q := by
 unfold Oper.wp; rw [h]; exact hn
def binInt (op : BinOp) (k : IntKind) (a b : Int) : Option (Value × List Prop) :=
 match op with
 | .add => some (.int k (k.wrap (a + b)), [])
 | .sub => some (.int k (k.wrap (a - b)), [])
 | .mul => some (.int k (k.wrap (a * b)), [])
 | .quo => some (.int k (k.wrap (a.tdiv b)), [b ≠ 0])
 | .rem => some (.int k (a.tmod b), [b ≠ 0])
 | .and => some (.int k (k.wrap ((BitVec.ofInt k.bits a &&& BitVec.ofInt k.bits b).toNat)), [])
 | .or => some (.int k (k.wrap ((BitVec.ofInt k.bits a ||| BitVec.ofInt k.bits b).toNat)), [])
 | .xor => some (.int k (k.wrap ((BitVec.ofInt k.bits a ^^^ BitVec.ofInt k.bits b).toNat)), [])
 | .andNot => some (.int k (k.wrap ((BitVec.ofInt k.bits a &&& ~~~ BitVec.ofInt k.bits b).toNat)), [])
 | .eql => some (.bool (a == b), [])
 | .neq => some (.bool (a != b), [])
 | .lss => some (.bool (decide (a < b)), [])
 | .leq => some (.bool (decide (a ≤ b)), [])
 | .gtr => some (.bool (decide (a > b)), [])
 | .geq => some (.bool (decide (a ≥ b)), [])
 | _ => none
def shiftInt (op : BinOp) (k : IntKind) (a b : Int) : Option (Value × List Prop) :=
 match op with
 | .shl => some (.int k (k.wrap (a * 2 ^ min b.toNat k.bits)), [0 ≤ b])
 | .shr => some (.int k (a.fdiv (2 ^ min b.toNat k.bits)), [0 ≤ b])
 | _ => none
def binStr (op : BinOp) (x y : ByteArray) : Option (Value × List Prop) :=
 match op with
 | .add => some (.string (x ++ y), [x.size + y.size ≤ 9223372036854775807])
 | .eql => some (.bool (x.toList == y.toList), [])
 | .neq => some (.bool !(x.toList == y.toList), [])
 | .lss => some (.bool (Op.bytesLess x.toList y.toList), [])
 | .leq => some (.bool (Op.bytesLess x.toList y.toList || x.toList == y.toList), [])
 | .gtr => some (.bool !(Op.bytesLess x.toList y.toList || x.toList == y.toList), [])
 | .geq => some (.bool !(Op.bytesLess x.toList y.toList), [])
 | _ => none
def eqRaw (d : Option TypeDesc) (x y : Value) : Option Bool :=
 match d, x, y with
 | some .bool, .bool a, .bool b => some (a == b)
 | some (.pointer _), .pointer none, .pointer none => some true
 | some (.slice _), .slice none _ _, .slice none _ _ => some true
 | some (.map _ _), .map none, .map none => some true
 | some (.interface _), .nilIface, .iface _ _ => some false
 | some (.interface _), .iface _ _, .nilIface => some false
 | _, _, _ => none
def binRaw (P : Program) (op : BinOp) (t : TypeId) (x y : Value) : Option (Value × List Prop) :=
 match x, y with
 | .int k a, .int k' b =>
  match op with
  | .shl | .shr => shiftInt op k a b
  | _ => if k = k' then binInt op k a b else none
 | .string a, .string b => binStr op a b
 | _, _ =>
  match op with
  | .eql => (eqRaw (P.underlying t) x y).map fun b => (.bool b, [])
  | .neq => (eqRaw (P.underlying t) x y).map fun b => (.bool !b, [])
  | _ => none
theorem binInt_run {op : BinOp} {k : IntKind} {x y : Int} {v : Value} {cs : List Prop} (t : TypeId) (h : binInt op k x y = some (v, cs)) (hc : Conds cs) :
  (binOp op t (.int k x) (.int k y)).run P w = .ok v w := by
 unfold binInt at h
 cases op <;> simp only [Option.some.injEq, Prod.mk.injEq, reduceCtorEq] at h <;> obtain ⟨rfl, rfl⟩ := h <;> simp [binOp, Op.intArith, Op.intBits, Op.intCmp, Op.intDiv]
 all_goals (have hy : y ≠ 0 := hc.1; simp [hy])
theorem shiftInt_run {op : BinOp} {k k' : IntKind} {x y : Int} {v : Value} {cs : List Prop} (t : TypeId) (h : shiftInt op k x y = some (v, cs)) (hc : Conds cs) :
  (binOp op t (.int k x) (.int k' y)).run P w = .ok v w := by
 unfold shiftInt at h
 cases op <;> simp only [Option.some.injEq, Prod.mk.injEq, reduceCtorEq] at h <;> obtain ⟨rfl, rfl⟩ := h <;> (have hy : ¬ y < 0 := by have := hc.1; omega) <;> simp [binOp, Op.shift, hy]
theorem binStr_run {op : BinOp} {x y : ByteArray} {v : Value} {cs : List Prop} (t : TypeId) (h : binStr op x y = some (v, cs)) (hc : Conds cs) :
  (binOp op t (.string x) (.string y)).run P w = .ok v w := by
 unfold binStr at h
 cases op <;> simp only [Option.some.injEq, Prod.mk.injEq, reduceCtorEq] at h <;> obtain ⟨rfl, rfl⟩ := h <;> simp [binOp, Op.stringOp]
 have h1 : x.size + y.size ≤ 9223372036854775807 := hc.1
 omega
theorem eqRaw_run {t : TypeId} {x y : Value} {b : Bool} (h : eqRaw (P.underlying t) x y = some b) : (Op.equal t x y).run P w = .ok b w := by
 unfold eqRaw at h
 split at h <;> rename_i hd <;> simp only [Option.some.injEq, reduceCtorEq] at h <;> subst h <;> (show Sem.run P (Op.equalIn (9999 + 1) t _ _) w = _) <;> rw [Op.equalIn] <;> simp [run_underlying hd]
theorem eqRaw_guard {d : Option TypeDesc} {x y : Value} {b : Bool} (h : eqRaw d x y = some b) (op : BinOp) (t : TypeId) (p q : Operand) : (eqGuard op t p q x y).run P w = .ok () w := by
 unfold eqRaw at h
 split at h <;> simp only [Option.some.injEq, reduceCtorEq] at h <;> cases op <;> simp [eqGuard]
theorem cells_one {v : Value} (h : v.oneCell' = true) : v.cells.toList = [v] := by
 cases v <;> first | rfl | (simp [Value.oneCell'] at h)
theorem VC_one {N : Nat → Prop} {x : D} {v : Value} (h1 : x.one = true) (h : VC w N x [v]) : v.oneCell' = true := by
 cases x with
 | raw u => unfold VC at h; obtain ⟨h2, h3⟩ := h; simp only [List.cons.injEq, and_true] at h2; rw [h2]; exact h3
 | list sz n el =>
  unfold VC at h
  obtain ⟨u, h2, h3⟩ := h
  simp only [List.cons.injEq, and_true] at h2
  rw [h2]
  rcases h3 with ⟨_, h4⟩ | ⟨ad, cap, cs, h4, _⟩ <;> rw [h4] <;> rfl
 | agg xs => simp [D.one] at h1
theorem VCs.length {N : Nat → Prop} : ∀ {xs : List D} {vs : List Value}, VCs w N xs vs → vs.length = xs.length
 | [], vs, h => by unfold VCs at h; subst h; rfl
 | x :: xs, vs, h => by
  unfold VCs at h
  obtain ⟨v, vs', rfl, _, _, h⟩ := h
  simp [VCs.length h]
theorem VCs.get {N : Nat → Prop} : ∀ {xs : List D} {vs : List Value}, VCs w N xs vs → ∀ (i : Nat) (x : D), xs[i]? = some x → ∃ v, vs[i]? = some v ∧ x.one = true ∧ VC w N x [v]
 | [], vs, h, i, x, hx => by simp at hx
 | y :: xs, vs, h, i, x, hx => by
  unfold VCs at h
  obtain ⟨v, vs', rfl, h1, h2, h⟩ := h
  cases i with
  | zero => simp at hx; subst hx; exact ⟨v, rfl, h1, h2⟩
  | succ i => simpa using VCs.get h i x (by simpa using hx)
theorem VCs.of_get {N : Nat → Prop} : ∀ {xs : List D} {vs : List Value}, vs.length = xs.length → (∀ (i : Nat) (x : D) (v : Value), xs[i]? = some x → vs[i]? = some v → x.one = true ∧ VC w N x [v]) → VCs w N xs vs
 | [], vs, h, _ => by unfold VCs; exact List.eq_nil_of_length_eq_zero (by simpa using h)
 | x :: xs, [], h, _ => by simp at h
 | x :: xs, v :: vs, h, hg => by
  unfold VCs
  obtain ⟨h1, h2⟩ := hg 0 x v rfl rfl
  exact ⟨v, vs, rfl, h1, h2, VCs.of_get (by simpa using h) fun i y u hy hu => hg (i + 1) y u (by simpa using hy) (by simpa using hu)⟩
theorem VCs.ones {N : Nat → Prop} {xs : List D} {vs : List Value} (h : VCs w N xs vs) : ∀ v ∈ vs, v.oneCell' = true := by
 intro v hv
 obtain ⟨i, hi, rfl⟩ := List.mem_iff_getElem.1 hv
 have hl := h.length
 obtain ⟨u, h1, h2, h3⟩ := h.get i xs[i] (List.getElem?_eq_getElem (by omega))
 rw [List.getElem?_eq_getElem hi] at h1
 cases h1
 exact VC_one h2 h3
theorem VCs.append {N : Nat → Prop} : ∀ {xs ys : List D} {vs us : List Value}, VCs w N xs vs → VCs w N ys us → VCs w N (xs ++ ys) (vs ++ us)
 | [], ys, vs, us, h, k => by unfold VCs at h; subst h; exact k
 | x :: xs, ys, vs, us, h, k => by
  unfold VCs at h
  obtain ⟨v, vs', rfl, h1, h2, h⟩ := h
  simp only [List.cons_append]
  unfold VCs
  exact ⟨v, vs' ++ us, rfl, h1, h2, VCs.append h k⟩
theorem VCs.take {N : Nat → Prop} {xs : List D} {vs : List Value} (h : VCs w N xs vs) (n : Nat) : VCs w N (xs.take n) (vs.take n) :=
 VCs.of_get (by simp [h.length]) fun i x v hx hv => by
  rw [List.getElem?_take] at hx hv
  split at hx
  ·
   rename_i hlt
   rw [if_pos hlt] at hv
   obtain ⟨u, h1, h2, h3⟩ := h.get i x hx
   rw [h1] at hv; cases hv; exact ⟨h2, h3⟩
  · cases hx
theorem VCs.drop {N : Nat → Prop} {xs : List D} {vs : List Value} (h : VCs w N xs vs) (n : Nat) : VCs w N (xs.drop n) (vs.drop n) :=
 VCs.of_get (by simp [h.length]) fun i x v hx hv => by
  rw [List.getElem?_drop] at hx hv
  obtain ⟨u, h1, h2, h3⟩ := h.get _ x hx
  rw [h1] at hv; cases hv; exact ⟨h2, h3⟩
theorem VC.cells {N : Nat → Prop} {x : D} {vs : List Value} (h : VC w N x vs) : VCs w N x.cells vs := by
 cases x with
 | agg xs => unfold VC at h; exact h
 | raw u =>
  show VCs w N [.raw u] vs
  have h' := h
  unfold VC at h'
  obtain ⟨rfl, h1⟩ := h'
  unfold VCs
  exact ⟨u, [], rfl, h1, h, by unfold VCs; rfl⟩
 | list sz n el =>
  show VCs w N [.list sz n el] vs
  have h' := h
  unfold VC at h'
  obtain ⟨v, rfl, _⟩ := h'
  unfold VCs
  exact ⟨v, [], rfl, rfl, h, by unfold VCs; rfl⟩
theorem VD.cells {N : Nat → Prop} {x : D} {v : Value} (h : VD w N x v) : VCs w N x.cells v.cells.toList := by
 cases x with
 | agg xs =>
  obtain ⟨vs, rfl, h⟩ := h
  exact VC.cells h
 | raw u =>
  have h' : VC w N (.raw u) [v] := h
  rw [cells_one (VC_one (x := .raw u) (by have := h'; unfold VC at this; exact this.2) h')]
  exact VC.cells h'
 | list sz n el =>
  have h' : VC w N (.list sz n el) [v] := h
  rw [cells_one (VC_one rfl h')]
  exact VC.cells h'
def AV.boxed : AV → Option (List AV)
 | .d x => some (x.cells.map .d)
 | .ref k o => some [.ref k o]
 | .refI k o i z n o2 => some [.refI k o i z n o2]
 | .own r => some [.own r]
 | .sub k lo n sz cap => some [.sub k lo n sz cap]
 | .osl k o z n c => some [.osl k o z n c]
 | .mp k => some [.mp k]
 | .fn f a b => some [.fn f a b]
 | .cptr cs => some [.cptr cs]
 | .el r i z o => some [.el r i z o]
 | .known b => some [.known b]
 | .agg xs => some xs
 | .tup _ => none
 | .dead => none
theorem VAs_of_VCs {N : Nat → Prop} : ∀ {xs : List D} {vs : List Value}, VCs w N xs vs → VAs E w N (xs.map .d) vs
 | [], vs, h => by unfold VCs at h; subst h; unfold VAs; rfl
 | x :: xs, vs, h => by
  unfold VCs at h
  obtain ⟨v, vs', rfl, h1, h2, h⟩ := h
  simp only [List.map_cons]
  unfold VAs
  refine ⟨v, vs', rfl, ?_, VAs_of_VCs h⟩
  unfold VA
  cases x with
  | agg xs => simp [D.one] at h1
  | raw u => exact h2
  | list sz n el => exact h2
theorem VAs_single {N : Nat → Prop} {x : AV} {v : Value} (h : VA E w N x v) (h1 : v.oneCell' = true) : VAs E w N [x] v.cells.toList ∧ ∀ u ∈ v.cells.toList, u.oneCell' = true := by
 rw [cells_one h1]
 refine ⟨?_, by simpa using h1⟩
 unfold VAs
 exact ⟨v, [], rfl, h, by unfold VAs; rfl⟩
def AV.one : AV → Bool
 | .d x => x.one
 | .ref .. | .refI .. | .own _ | .sub .. | .osl .. | .mp _ | .fn .. | .cptr _ | .el .. | .known _ => true
 | _ => false
theorem VA.oneCell {N : Nat → Prop} {x : AV} {v : Value} (h1 : x.one = true) (h : VA E w N x v) : v.oneCell' = true := by
 cases x <;> simp only [AV.one, reduceCtorEq, Bool.false_eq_true] at h1 <;> unfold VA at h
 case d x =>
  have h' : VC w N x [v] := by
   cases x with
   | agg xs => simp [D.one] at h1
   | raw u => exact h
   | list sz n el => exact h
  exact VC_one h1 h'
 case ref => obtain ⟨b, _, rfl⟩ := h; rfl
 case refI => obtain ⟨b, _, rfl⟩ := h; rfl
 case own => obtain ⟨_, A, n, c, rfl⟩ := h; rfl
 case sub =>
  rcases h with ⟨_, _, rfl, _⟩ | ⟨_, _, _, _, _, _, _, rfl, _⟩ <;> rfl
 case osl => obtain ⟨b, _, rfl⟩ := h; rfl
 case mp => obtain ⟨_, A, rfl⟩ := h; rfl
 case fn => obtain ⟨_, _, rfl, _⟩ := h; rfl
 case cptr => obtain ⟨_, _, rfl, _⟩ := h; rfl
 case el => obtain ⟨_, _, _, _, rfl⟩ := h; rfl
 case known => subst h; rfl
theorem boxed_VAs {N : Nat → Prop} {x : AV} {v : Value} {cs : List AV} (h : VA E w N x v) (hb : x.boxed = some cs) : VAs E w N cs v.cells.toList ∧ ∀ u ∈ v.cells.toList, u.oneCell' = true := by
 cases x <;> simp only [AV.boxed, Option.some.injEq, reduceCtorEq] at hb <;> subst hb
 case d x =>
  unfold VA at h
  exact ⟨VAs_of_VCs (VD.cells h), (VD.cells h).ones⟩
 case agg xs =>
  unfold VA at h
  obtain ⟨vs, rfl, h1, h2⟩ := h
  exact ⟨h1, h2⟩
 all_goals exact VAs_single h (VA.oneCell rfl h)
def AV.toD : AV → Option D
 | .d x => if x.one then some x else none
 | .known b => some (.raw (.bool b))
 | _ => none
def toDs : List AV → Option (List D)
 | [] => some []
 | x :: xs => match x.toD, toDs xs with
  | some d, some ds => some (d :: ds)
  | _, _ => none
theorem toDs_VCs {N : Nat → Prop} : ∀ {cs : List AV} {xs : List D} {vs : List Value}, toDs cs = some xs → VAs E w N cs vs → VCs w N xs vs
 | [], xs, vs, h, k => by
  simp only [toDs, Option.some.injEq] at h; subst h
  unfold VAs at k; subst k; unfold VCs; rfl
 | c :: cs, xs, vs, h, k => by
  simp only [toDs] at h
  split at h
  ·
   rename_i x xs' hx hxs
   cases h
   unfold VAs at k
   obtain ⟨v, vs', rfl, hv, k⟩ := k
   cases c <;> simp only [AV.toD, reduceCtorEq] at hx
   case d y =>
    split at hx
    ·
     rename_i h1
     cases hx
     unfold VA at hv
     unfold VCs
     refine ⟨v, vs', rfl, h1, ?_, toDs_VCs hxs k⟩
     cases x with
     | agg xs => simp [D.one] at h1
     | raw u => exact hv
     | list sz n el => exact hv
    · cases hx
   case known b =>
    cases hx
    unfold VA at hv
    unfold VCs
    exact ⟨v, vs', rfl, rfl, by subst hv; exact (VD_raw (w := w) (N := N) (v := .bool b) rfl), toDs_VCs hxs k⟩
  · cases h
theorem VAs.ones {N : Nat → Prop} {xs : List AV} {vs : List Value} (h : VAs E w N xs vs) (h1 : xs.all AV.one = true) : ∀ u ∈ vs, u.oneCell' = true := by
 intro u hu
 obtain ⟨i, hi, rfl⟩ := List.mem_iff_getElem.1 hu
 have hl := h.length
 obtain ⟨v, h2, h3⟩ := h.get i xs[i] (List.getElem?_eq_getElem (by omega))
 rw [List.getElem?_eq_getElem hi] at h2
 cases h2
 exact VA.oneCell (List.all_eq_true.1 h1 _ (List.getElem_mem _)) h3
def aggOf (cs : List AV) : Option AV := match toDs cs with
 | some ds => some (.d (.agg ds))
 | none => if cs.all AV.one then some (.agg cs) else none
theorem aggOf_VA {N : Nat → Prop} {cs : List AV} {vs : List Value} {x : AV} (h : aggOf cs = some x) (k : VAs E w N cs vs) : VA E w N x (.agg vs.toArray) := by
 unfold aggOf at h
 split at h
 ·
  rename_i ds hds
  cases h
  unfold VA
  exact ⟨vs, rfl, by unfold VC; exact toDs_VCs hds k⟩
 ·
  split at h
  ·
   rename_i h1
   cases h
   unfold VA
   exact ⟨vs, rfl, k, k.ones h1⟩
  · cases h
end Go.Eng

namespace Go.Eng
open Go Go.RowKit
variable {P : Program} {gl : Nat → Option (List D)} {C : Cx} {E E' : Env} {s s' : St} {a : Act} {w w' : World}
theorem Sim.newTh_tm (h : Sim C E s a w) {k : Nat} {q : Option Nat} {t : Th} {v : Value} (hV : ∀ x u, VA E w (Stable C E s w) x u → VA (E.set k v) w' (Stable C (E.set k v) (s.newTh q k t) w') (x.forget (eqk k)) u) :
 VAs (E.set k v) w' (Stable C (E.set k v) (s.newTh q k t) w') (s.newTh q k t).tmps a.tmps.toList := VAs.map _ h.tm hV
theorem fresh_base (s : St) : s.base ≤ s.fresh := Nat.le_max_left _ _
def St.newObj (s : St) (dst : Option Tmp) (T : TypeId) (cells : List AV) : St :=
 let k := s.fresh
 (s.newTh none k (.obj T (cells.map (AV.forget (eqk k))))).put dst (.ref k 0)
theorem newObj_ok {o : Oper} {T : TypeId} {cells : List AV} {x : Value}
  (hsim : Sim C E s a w) (hc : VAs E w (Stable C E s w) cells x.cells.toList)
  (hrun : (execOp a.eval o).run P w = .ok (.value (.pointer (some ⟨w.heap.size, 0, none⟩))) (w.alloc (.cells x.cells T)))
  {next : Act → World → Prop} {Q : Exit → Act → World → Prop} (hn : ∀ E' a' w', Sim C E' (s.newObj o.dst T cells) a' w' → Kp [] C E s w E' (s.newObj o.dst T cells) w' → next a' w') : Oper.wp P o a w next Q := by
 refine wp_value hrun ?_
 have hbel : Below w.heap.size w (w.alloc (.cells x.cells T)) := (Below.refl _ _).alloc (Nat.le_refl _) _
 obtain ⟨h1, h2, h3, h4⟩ := hsim.fit.newTh (w' := w.alloc (.cells x.cells T)) none s.fresh (fresh_base s) (.obj T (cells.map (AV.forget (eqk s.fresh)))) (.pointer (some ⟨w.heap.size, 0, none⟩))
  rfl rfl rfl hbel.size (fun b hb _ => hbel.block b hb) (fun b hb => .inl (Nat.le_of_eq (by simpa [blk] using hb)))
  (fun {E' N'} hS hC hE hk => ⟨w.heap.size, x.cells.toList, rfl, by rw [heap_alloc_new], VAs.map _ hc fun y u hy => VA.forget (F := eqk s.fresh) hS hC (fun i hi => hE i (by simpa [eqk] using hi)) hy⟩)
 have hsim' : Sim C (E.set s.fresh (.pointer (some ⟨w.heap.size, 0, none⟩))) (s.newTh none s.fresh (.obj T (cells.map (AV.forget (eqk s.fresh))))) a (w.alloc (.cells x.cells T)) :=
  ⟨h1, hsim.newTh_tm h4, hsim.df⟩
 have hkp : Kp [] C E s w (E.set s.fresh (.pointer (some ⟨w.heap.size, 0, none⟩))) (s.newTh none s.fresh (.obj T (cells.map (AV.forget (eqk s.fresh))))) (w.alloc (.cells x.cells T)) :=
  newTh_kp hsim.fit none _ _ rfl rfl rfl hbel.size (fun b hb _ => hbel.block b hb) (fun b hb => .inl (Nat.le_of_eq (by simpa [blk] using hb)))
 exact hn _ _ _ (hsim'.put' o.dst (x := .ref s.fresh 0) (v := .pointer (some ⟨w.heap.size, 0, none⟩)) (by unfold VA; exact ⟨_, by simp [Env.set], rfl⟩)) (Kp.trans hkp (Kp.refl [] rfl))
def stepBox (o : Oper) (T : TypeId) (x : AV) (s : St) : Option St := x.boxed.map fun cells => s.newObj o.dst T cells
theorem stepBox_ok {o : Oper} {T : TypeId} {x : Operand} (ho : o.op = .box T x) (h : stepBox o T (s.ev x) s = some s') : StepOK P gl [] o s s' := by
 unfold stepBox at h
 obtain ⟨cells, hb, rfl⟩ := Option.map_eq_some_iff.1 h
 constructor
 intro C E a w next Q _ _ hsim hn
 have hv := boxed_VAs (hsim.ev x) hb
 refine newObj_ok hsim hv.1 (x := a.eval x) ?_ hn
 simp [execOp, ho, Instr.box, newVar, newRow, newObj, Sem.run]
def stepAlloc (P : Program) (o : Oper) (T : TypeId) (s : St) : Option St :=
 match (P.info? T).bind (·.zero) with
 | some z => (ofValue z).boxed.map fun cells => s.newObj o.dst T cells
 | _ => none
theorem stepAlloc_ok {o : Oper} {T : TypeId} (ho : o.op = .alloc T) (h : stepAlloc P o T s = some s') : StepOK P gl [] o s s' := by
 unfold stepAlloc at h
 split at h
 ·
  rename_i z hz
  obtain ⟨cells, hb, rfl⟩ := Option.map_eq_some_iff.1 h
  constructor
  intro C E a w next Q _ _ hsim hn
  have hv := boxed_VAs (ofValue_VA (E := E) (w := w) (N := Stable C E s w) z) hb
  obtain ⟨i, hi, hz'⟩ := Option.bind_eq_some_iff.1 hz
  refine newObj_ok hsim hv.1 (x := z) ?_ hn
  simp [execOp, ho, Instr.alloc, zeroValue, typeInfo, program, hi, hz', newVar, newRow, newObj, Sem.run]
 · cases h
def isAggT (P : Program) (t : TypeId) : Option Bool :=
 (P.underlying t).map fun d => match d with | .struct _ => true | .array _ _ => true | _ => false
def loadCellsAV (P : Program) (t : TypeId) (cells : List AV) (off : Nat) : Option AV :=
 match isAggT P t, P.info? t with
 | some true, some i => if off + i.size ≤ cells.length then aggOf ((cells.drop off).take i.size) else none
 | some false, some _ => cells[off]?
 | _, _ => none
theorem addr_add_add (ad : Addr) (h : ad.spot = none) (m n : Nat) : (ad.add m).add n = ad.add (m + n) := by
 rcases ad with ⟨b, o, sp⟩
 simp only at h
 subst h
 unfold Addr.add
 split <;> split <;> split <;> simp_all <;> omega
theorem addr_mk_add (b o n : Nat) : (⟨b, o, none⟩ : Addr).add n = ⟨b, o + n, none⟩ := by
 unfold Addr.add; split <;> simp_all
theorem loadVar_agg {t : TypeId} {i : TypeInfo} {ad : Addr} {us : List Value} (hu : isAggT P t = some true) (hi : P.info? t = some i) (hl : us.length = i.size) (w : World)
  (hm : ∀ (j : Nat) (u : Value), us[j]? = some u → w.cell? (ad.add j) = some u) : (loadVar t ad).run P w = .ok (.agg us.toArray) w := by
 have hr := run_loadCells_list (P := P) (w := w) ad us hm
 rw [hl] at hr
 unfold isAggT at hu
 obtain ⟨d, hd, hd'⟩ := Option.map_eq_some_iff.1 hu
 cases d <;> simp at hd' <;> simp [loadVar, isAgg, run_underlying hd, sizeOf, typeInfo, program, hi, hr, Sem.run]
theorem loadVar_one {t : TypeId} {ad : Addr} {u : Value} (hu : isAggT P t = some false) (w : World) (hm : w.cell? ad = some u) : (loadVar t ad).run P w = .ok u w := by
 unfold isAggT at hu
 obtain ⟨d, hd, hd'⟩ := Option.map_eq_some_iff.1 hu
 cases d <;> simp at hd' <;> simp [loadVar, isAgg, run_underlying hd, load, Sem.run, hm]
theorem loadAV_run {t : TypeId} {cells : List AV} {vs : List Value} {off : Nat} {x : AV} {N : Nat → Prop} {ad : Addr} (h : loadCellsAV P t cells off = some x) (hc : VAs E w N cells vs)
  : ∃ v, (∀ w', (∀ (j : Nat) (u : Value), vs[off + j]? = some u → w'.cell? (ad.add j) = some u) → (loadVar t ad).run P w' = .ok v w') ∧ VA E w N x v := by
 unfold loadCellsAV at h
 split at h
 ·
  rename_i i hu hi
  split at h
  ·
   rename_i hl
   have hlen : ((vs.drop off).take i.size).length = i.size := by simp [hc.length]; omega
   refine ⟨.agg ((vs.drop off).take i.size).toArray, fun w' hm => loadVar_agg hu hi hlen w' fun j v hv => ?_, aggOf_VA h ((hc.drop off).take i.size)⟩
   rw [List.getElem?_take] at hv
   split at hv
   · rw [List.getElem?_drop] at hv; exact hm j v hv
   · cases hv
  · cases h
 ·
  rename_i i hu hi
  obtain ⟨v, hv1, hv2⟩ := hc.get off x h
  refine ⟨v, fun w' hm => loadVar_one hu w' ?_, hv2⟩
  have hcell := hm 0 v (by simpa using hv1)
  have hadd : ad.add 0 = ad := by simp [Addr.add]
  rw [hadd] at hcell; exact hcell
 · cases h
def unI : D → Int
 | .raw (.int _ n) => n
 | _ => 0
def unB : D → Bool
 | .raw (.bool b) => b
 | _ => false
def unS : D → ByteArray
 | .raw (.string s) => s
 | _ => .empty
def isI (k : IntKind) : D → Bool
 | .raw (.int k' _) => k == k'
 | _ => false
def isB : D → Bool
 | .raw (.bool _) => true
 | _ => false
def isS : D → Bool
 | .raw (.string _) => true
 | _ => false
def sel1 (i : Nat) (ds : List D) : Option D :=
 match ds with
 | .raw (.int k _) :: _ => if ds.all (isI k) then some (.raw (.int k ((ds.map unI).getD i 0))) else none
 | .raw (.bool _) :: _ => if ds.all isB then some (.raw (.bool ((ds.map unB).getD i false))) else none
 | .raw (.string _) :: _ => if ds.all isS then some (.raw (.string ((ds.map unS).getD i .empty))) else none
 | _ => none
theorem sel1_eq {i : Nat} {ds : List D} {d : D} (h : sel1 i ds = some d) (hi : i < ds.length) : ds[i]? = some d := by
 unfold sel1 at h
 rw [List.getElem?_eq_getElem hi]
 have key : ∀ {α : Type} (f : D → α) (z : α), (ds.map f).getD i z = f ds[i] := fun f z => by
  rw [List.getD_eq_getElem?_getD, List.getElem?_map, List.getElem?_eq_getElem hi]; rfl
 split at h
 ·
  rename_i k n r
  split at h
  ·
   rename_i hall
   cases h
   rw [key unI 0]
   have := List.all_eq_true.1 hall _ (List.getElem_mem hi)
   generalize (D.raw (.int k n) :: r)[i] = x at this
   cases x <;> simp only [isI, Bool.false_eq_true] at this
   rename_i v
   cases v <;> simp only [Bool.false_eq_true] at this
   have e := eq_of_beq this
   subst e; rfl
  · cases h
 ·
  rename_i n r
  split at h
  ·
   rename_i hall
   cases h
   rw [key unB false]
   have := List.all_eq_true.1 hall _ (List.getElem_mem hi)
   generalize (D.raw (.bool n) :: r)[i] = x at this
   cases x <;> simp only [isB, Bool.false_eq_true] at this
   rename_i v
   cases v <;> simp only [Bool.false_eq_true] at this
   rfl
  · cases h
 ·
  rename_i n r
  split at h
  ·
   rename_i hall
   cases h
   rw [key unS .empty]
   have := List.all_eq_true.1 hall _ (List.getElem_mem hi)
   generalize (D.raw (.string n) :: r)[i] = x at this
   cases x <;> simp only [isS, Bool.false_eq_true] at this
   rename_i v
   cases v <;> simp only [Bool.false_eq_true] at this
   rfl
  · cases h
 · cases h
def column (cells : List D) (off sz n c : Nat) : List D := (List.range n).map fun j => cells.getD (off + j * sz + c) default
def selCells (cells : List D) (off i sz n o2 : Nat) : Nat → Option (List D)
 | 0 => some []
 | z + 1 => match selCells cells off i sz n o2 z, sel1 i (column cells off sz n (o2 + z)) with
  | some ds, some d => some (ds ++ [d])
  | _, _ => none
theorem selCells_eq {cells : List D} {off i sz n o2 : Nat} (hi : i < n) (hn : ∀ j, j < n → ∀ c, c < sz → off + j * sz + c < cells.length) : ∀ {z : Nat} {ds : List D}, o2 + z ≤ sz → selCells cells off i sz n o2 z = some ds →
  ds.length = z ∧ ∀ c, c < z → cells[off + i * sz + o2 + c]? = ds[c]?
 | 0, ds, _, h => by simp only [selCells, Option.some.injEq] at h; subst h; exact ⟨rfl, fun c hc => absurd hc (by omega)⟩
 | z + 1, ds, hz, h => by
  simp only [selCells] at h
  split at h
  ·
   rename_i ds' d h1 h2
   cases h
   obtain ⟨h3, h4⟩ := selCells_eq hi hn (by omega) h1
   have h5 := sel1_eq h2 (by simp [column, hi])
   refine ⟨by simp [h3], fun c hc => ?_⟩
   by_cases e : c < z
   · rw [h4 c e, List.getElem?_append_left (by omega)]
   ·
    have e : c = z := by omega
    subst e
    rw [List.getElem?_append_right (by omega), h3]
    simp only [Nat.sub_self, List.getElem?_cons_zero]
    rw [← h5]
    unfold column
    rw [List.getElem?_map, List.getElem?_range hi]
    simp only [Option.map_some]
    have := hn i hi (o2 + c) (by omega)
    rw [List.getD_eq_getElem?_getD, List.getElem?_eq_getElem (by omega), List.getElem?_eq_getElem this]
    simp [Nat.add_assoc]
  · cases h
def loadSel (P : Program) (t : TypeId) (cells : List D) (off i sz n o2 : Nat) : Option D :=
 if off + n * sz ≤ cells.length then
  match isAggT P t, P.info? t with
  | some true, some inf => if o2 + inf.size ≤ sz then (selCells cells off i sz n o2 inf.size).map .agg else none
  | some false, some _ => if o2 + 1 ≤ sz then match selCells cells off i sz n o2 1 with | some [d] => if d.one then some d else none | _ => none else none
  | _, _ => none
 else none
theorem mul_bd {j n sz c : Nat} (hj : j < n) (hc : c < sz) : j * sz + c < n * sz := by
 have : (j + 1) * sz ≤ n * sz := Nat.mul_le_mul_right _ hj
 rw [Nat.add_mul] at this; omega
end Go.Eng
