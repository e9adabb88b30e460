/-
  Part of the engine: abstract states of a call (values as trees, objects and rows of the call's own), and that each operation of the model does to the world what it does to them. No condition.
-/
import Derived.Test.YticnclmadldkkaaAbs5
namespace Go.Abs
open Go Go.RowKit
variable {P : Program} {B : Nat} {w0 : World} {N0 : Nat → Prop} {E E' : Env} {s s' : St} {a : Act} {w w' : World}

theorem Sim.put' (h : Sim B w0 N0 E s a w) (dst : Option Tmp) {x : AV} {v : Value} (hv : VA E w (Stable B N0 E s w) x v) : Sim B w0 N0 E (s.put dst x) (a.put dst v) w := h.put dst hv

/-- What was there is as it was. -/
def SameB (w w' : World) : Prop := ∀ b, b < w.heap.size → w'.heap[b]? = w.heap[b]?
/-- A step that leaves the world as it is, and whose value is the same in other worlds: in all of them; or (ld) in those where what was there is as it was. -/
structure LightOK (P : Program) (ld : Bool) (o : Oper) (y : AV) (s : St) : Prop where
  out : ∀ {B : Nat} {w0 : World} {N0 : Nat → Prop} {E : Env} {a : Act} {w : World}, Sim B w0 N0 E s a w →
    ∃ v, (∀ w', (ld = true → SameB w w') → (execOp a.eval o).run P w' = .ok (.value v) w') ∧ VA E w (Stable B N0 E s w) y v
theorem LightOK.step {ld : Bool} {o : Oper} {y : AV} (h : LightOK P ld o y s) : StepOK P true o s (s.put o.dst y) := by
  constructor
  intro B w0 N0 E a w next Q hsim hn
  obtain ⟨v, h1, h2⟩ := h.out hsim
  exact wp_value (h1 w fun _ b _ => rfl) (hn _ _ _ (hsim.put' o.dst h2) fun _ => Below.refl _ _)
theorem heap_cell {g : Nat} {vs : List Value} {T : TypeId} (h : w.heap[g]? = some (.cells vs.toArray T (0, 0))) (i : Nat) : w.cell? ⟨g, i, none⟩ = vs[i]? := by
  rw [cell_of_row w g i vs.toArray T (0, 0) h]; simp

def stepLoad (P : Program) (t : TypeId) (x : AV) (s : St) : Option AV :=
  match x with
  | .ref k off => match s.obj k with
    | some ob => loadCellsAV P t ob.cells off
    | none => none
  | .cptr cs => loadCellsAV P t (cs.map .d) 0
  | .el r i sz off => match s.row r with
    | some R => if R.sz = sz then loadCellsAV P t (((R.el i).cells).map .d) off else none
    | none => none
  | _ => none
/-- What must be shown of a load from a row. -/
def loadConds (x : AV) (s : St) : List Prop :=
  match x with
  | .el r i _ _ => match s.row r with
    | some R => [i < R.n]
    | none => []
  | _ => []

theorem stepLoad_ok {o : Oper} {t : TypeId} {x : Operand} {y : AV} (ho : o.op = .load t x) (h : stepLoad P t (s.ev x) s = some y) (hcs : Conds (loadConds (s.ev x) s)) : LightOK P true o y s := by
  constructor
  intro B w0 N0 E a w hsim
  have hx := hsim.ev x
  have key : ∃ ad v, a.eval x = .pointer (some ad) ∧ (∀ w', SameB w w' → (loadVar t ad).run P w' = .ok v w') ∧ VA E w (Stable B N0 E s w) y v := by
    cases hxe : s.ev x <;> rw [hxe] at h hx <;> simp only [stepLoad, reduceCtorEq] at h
    case ref k off =>
      split at h
      · rename_i ob hob
        obtain ⟨_, vs, h2, h3⟩ := hsim.fit.obj k ob hob
        unfold VA at hx
        obtain ⟨v, h4, h5⟩ := loadAV_run (P := P) (w := w) (ad := ⟨E.σ k, off, none⟩) h h3
        refine ⟨_, v, hx, fun w' hs => h4 w' fun j u hu => ?_, h5⟩
        have h2' : w'.heap[E.σ k]? = some (.cells vs.toArray ob.T (0, 0)) := (hs _ (Array.getElem?_eq_some_iff.1 h2).1).trans h2
        rw [addr_mk_add, heap_cell h2']; exact hu
      · cases h
    case cptr cs =>
      unfold VA at hx
      obtain ⟨ad, vs, h1, h2, h3, h4, h5⟩ := hx
      obtain ⟨v, h6, h7⟩ := loadAV_run (P := P) (w := w) (ad := ad) (E := E) h (VAs_of_VCs h4)
      refine ⟨ad, v, h1, fun w' hs => h6 w' fun j u hu => ?_, h7⟩
      have hc := h5 j u (by simpa using hu)
      rw [World.cell?_of_block (w := w) (by rw [addr_add_block]; exact hs _ h3.1)]
      exact hc
    case el r i sz off =>
      rw [hxe] at hcs
      simp only [loadConds] at hcs
      split at h
      · rename_i R hR
        rw [hR] at hcs
        have hin : i < R.n := hcs.1
        split at h
        · rename_i hsz
          subst hsz
          unfold VA at hx
          obtain ⟨g, n, cap, h1, h2⟩ := hx
          obtain ⟨vs, h3, h4⟩ := hsim.fit.row r R hR
          have h5 := (h4 i hin).cells
          have h6 := h3.cells (g := g) (by rw [h1]; rfl)
          have hg : g < w.heap.size := (h3.lt g (by rw [h1]; rfl)).2
          obtain ⟨v, h7, h8⟩ := loadAV_run (P := P) (w := w) (ad := ⟨g, i * R.sz + off, none⟩) (E := E) h (VAs_of_VCs h5)
          refine ⟨_, v, h2, fun w' hs => h7 w' fun j u hu => ?_, h8⟩
          have := h6 (i * R.sz + (off + j)) u (by
            rw [List.getElem?_take] at hu
            split at hu
            · rw [List.getElem?_drop] at hu; exact hu
            · cases hu)
          rw [addr_mk_add] at this ⊢
          rw [World.cell?_of_block (w := w) (hs _ hg), ← this]
          congr 2; omega
        · cases h
      · cases h
  obtain ⟨ad, v, h1, h2, h3⟩ := key
  exact ⟨v, fun w' hs => by simp [execOp, ho, Instr.loadAt, Instr.sureAddr, h1, h2 w' (hs rfl)], h3⟩

/-! ### addresses -/
def stepFieldAddr (P : Program) (st : TypeId) (f : Nat) (x : AV) : Option AV :=
  match P.underlying st with
  | some (.struct fields) =>
    match fields[f]? with
    | some fd =>
      match P.info? fd.type with
      | some i => if i.size = 0 then none else match x with
        | .ref k off => some (.ref k (off + fd.offset))
        | .cptr cs => some (.cptr (cs.drop fd.offset))
        | .el r i sz off => some (.el r i sz (off + fd.offset))
        | _ => none
      | none => none
    | none => none
  | _ => none
theorem stepFieldAddr_ok {o : Oper} {st : TypeId} {f : Nat} {x : Operand} {y : AV} (ho : o.op = .fieldAddr st x f) (h : stepFieldAddr P st f (s.ev x) = some y) : LightOK P false o y s := by
  constructor
  intro B w0 N0 E a w hsim
  have hx := hsim.ev x
  unfold stepFieldAddr at h
  split at h
  · rename_i fields hu
    split at h
    · rename_i fd hfd
      split at h
      · rename_i i hi
        split at h
        · cases h
        · rename_i hne
          have hplace : ∀ (ad : Addr) (w : World), (fieldPlace ad fd).run P w = .ok (ad.add fd.offset) w := fun ad w => by
            simp [fieldPlace, sizeOf, typeInfo, program, hi, hne, Sem.run]
          have hrun : ∀ ad : Addr, a.eval x = .pointer (some ad) → ∀ w', (false = true → SameB w w') → (execOp a.eval o).run P w' = .ok (.value (.pointer (some (ad.add fd.offset)))) w' := fun ad had w' _ => by
            simp [execOp, ho, Instr.fieldAt, run_underlying hu, hfd, Instr.sureAddr, had, hplace]
          cases hxe : s.ev x <;> rw [hxe] at h hx <;> simp only [Option.some.injEq, reduceCtorEq] at h <;> subst h
          case ref k off =>
            unfold VA at hx
            refine ⟨_, hrun _ hx, ?_⟩
            unfold VA; rw [addr_mk_add]
          case cptr cs =>
            unfold VA at hx
            obtain ⟨ad, vs, h1, h2, h3, h4, h5⟩ := hx
            refine ⟨_, hrun _ h1, ?_⟩
            unfold VA
            refine ⟨_, vs.drop fd.offset, rfl, ?_, by rw [addr_add_block]; exact h3, h4.drop _, fun j u hu => ?_⟩
            · unfold Addr.add; split <;> simp [h2]
            · rw [addr_add_add _ h2]
              rw [List.getElem?_drop] at hu
              exact h5 _ u hu
          case el r i sz off =>
            unfold VA at hx
            obtain ⟨g, n, cap, h1, h2⟩ := hx
            refine ⟨_, hrun _ h2, ?_⟩
            unfold VA
            exact ⟨g, n, cap, h1, by rw [addr_mk_add, Nat.add_assoc]⟩
      · cases h
    · cases h
  · cases h

def stepIndexAddr (P : Program) (t : TypeId) (x ix : AV) (s : St) : Option (AV × List Prop) :=
  match ix with
  | .d (.raw (.int _ i)) =>
    match P.underlying t with
    | some (.slice e) =>
      match P.info? e with
      | some inf =>
        match x with
        | .d (.list sz n el) => if sz = inf.size then some (.cptr (el i.toNat).cells, [0 ≤ i ∧ i < n]) else none
        | .own r => match s.row r with
          | some R => if R.sz = inf.size then some (.el r i.toNat R.sz 0, [0 ≤ i ∧ i < R.n]) else none
          | none => none
        | _ => none
      | none => none
    | some (.array n e) =>
      match P.info? e with
      | some inf =>
        match x with
        | .ref k off => some (.ref k (off + i.toNat * inf.size), [0 ≤ i ∧ i < n])
        | .cptr cs => some (.cptr (cs.drop (i.toNat * inf.size)), [0 ≤ i ∧ i < n])
        | _ => none
      | none => none
    | _ => none
  | _ => none
theorem stepIndexAddr_ok {o : Oper} {t : TypeId} {x ix : Operand} {y : AV} {cs : List Prop} (ho : o.op = .indexAddr t x ix) (h : stepIndexAddr P t (s.ev x) (s.ev ix) s = some (y, cs)) (hcs : Conds cs) : LightOK P false o y s := by
  constructor
  intro B w0 N0 E a w hsim
  have hx := hsim.ev x
  have hi := hsim.ev ix
  unfold stepIndexAddr at h
  split at h
  · rename_i kind i hie
    rw [hie] at hi
    unfold VA at hi
    have hi := (VD_raw_inv hi).1
    split at h
    · rename_i e hu
      split at h
      · rename_i inf hinf
        cases hxe : s.ev x <;> rw [hxe] at h hx <;> (try simp only [reduceCtorEq] at h)
        case d y' =>
          cases y' <;> (try simp only [reduceCtorEq] at h)
          rename_i sz n el
          split at h
          · rename_i hsz
            simp only [Option.some.injEq, Prod.mk.injEq] at h
            obtain ⟨rfl, rfl⟩ := h
            have hb : 0 ≤ i ∧ i < n := hcs.1
            unfold VA at hx
            have hx' : VC w (Stable B N0 E s w) (.list sz n el) [a.eval x] := hx
            unfold VC at hx'
            obtain ⟨v, hv, hx'⟩ := hx'
            simp only [List.cons.injEq, and_true] at hv
            rcases hx' with ⟨h0, _⟩ | ⟨ad, cap, vs, h1, h2, h3, h4, h5, h6, h7, h8⟩
            · omega
            · have hlt : i.toNat < n := by omega
              refine ⟨.pointer (some (ad.add (i.toNat * inf.size))), ?_, ?_⟩
              · intro w' _; simp [execOp, ho, Instr.indexAt, run_underlying hu, hv, h1, hi, asIntOf, sizeOf, typeInfo, program, hinf, hb, Sem.run]
              · unfold VA
                refine ⟨_, (vs.drop (i.toNat * sz)).take sz, rfl, by unfold Addr.add; split <;> simp [h4], by rw [addr_add_block]; exact h5, (h8 _ hlt).cells, fun j u hu => ?_⟩
                rw [addr_add_add _ h4]
                rw [List.getElem?_take] at hu
                split at hu
                · rw [List.getElem?_drop] at hu
                  rw [← hsz]
                  exact h7 _ u hu
                · cases hu
          · cases h
        case own r =>
          split at h
          · rename_i R hR
            split at h
            · rename_i hsz
              simp only [Option.some.injEq, Prod.mk.injEq] at h
              obtain ⟨rfl, rfl⟩ := h
              have hb : 0 ≤ i ∧ i < R.n := hcs.1
              unfold VA at hx
              obtain ⟨vs, h3, h4⟩ := hsim.fit.row r R hR
              rcases h3.2 with ⟨_, h0⟩ | ⟨g, cap, cur, hv, _⟩
              · omega
              · have hxe' : a.eval x = .slice (some ⟨g, 0, none⟩) R.n cap := hx.1.trans hv
                refine ⟨.pointer (some ⟨g, i.toNat * R.sz + 0, none⟩), ?_, ?_⟩
                · intro w' _; simp [execOp, ho, Instr.indexAt, run_underlying hu, hxe', hi, asIntOf, sizeOf, typeInfo, program, hinf, hb, Sem.run, addr_mk_add, hsz]
                · unfold VA
                  exact ⟨g, R.n, cap, hv, rfl⟩
            · cases h
          · cases h
      · cases h
    · rename_i n e hu
      split at h
      · rename_i inf hinf
        cases hxe : s.ev x <;> rw [hxe] at h hx <;> (try cases h)
        case ref.refl k off =>
          have hb : 0 ≤ i ∧ i < n := hcs.1
          unfold VA at hx
          refine ⟨.pointer (some ⟨E.σ k, off + i.toNat * inf.size, none⟩), ?_, by unfold VA; rfl⟩
          intro w' _; simp [execOp, ho, Instr.indexAt, run_underlying hu, hx, hi, Instr.sureAddr, asIntOf, sizeOf, typeInfo, program, hinf, hb, Sem.run, addr_mk_add]
        case cptr.refl cs' =>
          have hb : 0 ≤ i ∧ i < n := hcs.1
          unfold VA at hx
          obtain ⟨ad, vs, h1, h2, h3, h4, h5⟩ := hx
          refine ⟨.pointer (some (ad.add (i.toNat * inf.size))), ?_, ?_⟩
          · intro w' _; simp [execOp, ho, Instr.indexAt, run_underlying hu, h1, hi, Instr.sureAddr, asIntOf, sizeOf, typeInfo, program, hinf, hb, Sem.run]
          · unfold VA
            refine ⟨_, vs.drop (i.toNat * inf.size), rfl, by unfold Addr.add; split <;> simp [h2], by rw [addr_add_block]; exact h3, h4.drop _, fun j u hu => ?_⟩
            rw [addr_add_add _ h2]
            rw [List.getElem?_drop] at hu
            exact h5 _ u hu
      · cases h
    · cases h
  · cases h
end Go.Abs
