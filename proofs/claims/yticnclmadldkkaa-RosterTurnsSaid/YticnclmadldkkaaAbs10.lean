/-
  Part of the engine: abstract states of a call (values as trees, objects and rows of the call's own), and that each operation of the model does to the world what it does to them. No condition.
-/
import Derived.Test.YticnclmadldkkaaAbs9
namespace Go.Abs
open Go Go.RowKit
variable {P : Program} {B : Nat} {w0 : World} {N0 : Nat → Prop} {E E' : Env} {s s' : St} {a : Act} {w w' : World}

/-! ### calls -/
inductive Ret where
  | void
  | one (x : D)
  | tup (xs : List D)
def VRet (w : World) (N : Nat → Prop) : Ret → Value → Prop
  | .void, v => v = .tuple #[]
  | .one x, v => VD w N x v
  | .tup xs, v => ∃ vs : List Value, v = .tuple vs.toArray ∧ vs.length = xs.length ∧ ∀ (i : Nat) (x : D) (u : Value), xs[i]? = some x → vs[i]? = some u → VD w N x u
def Ret.av : Ret → AV
  | .void => .dead
  | .one x => .d x
  | .tup xs => .tup xs
def D.flat : D → Bool
  | .raw _ => true
  | .list .. => false
  | .agg xs => xs.all fun x => match x with | .raw _ => true | _ => false
def Ret.flat : Ret → Bool
  | .void => true
  | .one x => x.flat
  | .tup xs => xs.all D.flat
def VTs (w : World) (N : Nat → Prop) (xs : List D) (vs : List Value) : Prop :=
  vs.length = xs.length ∧ ∀ (i : Nat) (x : D) (v : Value), xs[i]? = some x → vs[i]? = some v → VD w N x v
/-- THE CONTRACT: called with whatever values read as args, function g returns a value that reads as r, in new memory or in the arguments' own; nothing that was there has changed. -/
def PureSpec (P : Program) (g : FuncId) (args : List D) (r : Ret) : Prop :=
  ∀ (w : World) (N : Nat → Prop) (vs : List Value), (∀ b, N b → b < w.heap.size) → VTs w N args vs →
    Calls P g vs.toArray w fun e w' => ∃ v, e = .returned v ∧ VRet w' (fun b => N b ∨ (w.heap.size ≤ b ∧ b < w'.heap.size)) r v ∧ Below w.heap.size w w'
/-- What is known of callees. -/
abbrev Orc := Nat → List D → Option (Ret × List Prop)
def OrcOK (P : Program) (orc : Orc) : Prop := ∀ g args r cs, orc g args = some (r, cs) → Conds cs → PureSpec P g args r

theorem VCs_flat {N N' : Nat → Prop} : ∀ {xs : List D} {vs : List Value}, (xs.all fun x => match x with | .raw _ => true | _ => false) = true → VCs w N xs vs → VCs w' N' xs vs
  | [], _, _, h => h
  | x :: xs, vs, hf, h => by
    simp only [List.all_cons, Bool.and_eq_true] at hf
    unfold VCs at h ⊢
    obtain ⟨v, vs', h1, h2, h3, h4⟩ := h
    refine ⟨v, vs', h1, h2, ?_, VCs_flat hf.2 h4⟩
    cases x with
    | raw u => unfold VC at h3 ⊢; exact h3
    | list sz n el => simp at hf
    | agg ys => simp at hf
theorem VD_flat {N N' : Nat → Prop} {x : D} {v : Value} (hf : x.flat = true) (h : VD w N x v) : VD w' N' x v := by
  cases x with
  | raw u => have h' : VC w N (.raw u) [v] := h; show VC w' N' (.raw u) [v]; unfold VC at h' ⊢; exact h'
  | list sz n el => simp [D.flat] at hf
  | agg xs =>
    obtain ⟨vs, h1, h2⟩ := h
    refine ⟨vs, h1, ?_⟩
    unfold VC at h2 ⊢
    exact VCs_flat hf h2
theorem VRet_flat {N N' : Nat → Prop} {r : Ret} {v : Value} (hf : r.flat = true) (h : VRet w N r v) : VRet w' N' r v := by
  cases r with
  | void => exact h
  | one x => exact VD_flat hf h
  | tup xs =>
    obtain ⟨vs, h1, h2, h3⟩ := h
    refine ⟨vs, h1, h2, fun i x u hx hu => VD_flat ?_ (h3 i x u hx hu)⟩
    simp only [Ret.flat, List.all_eq_true] at hf
    exact hf x (List.mem_of_getElem? hx)
theorem VRet.av {N : Nat → Prop} {r : Ret} {v : Value} (h : VRet w N r v) : VA E w N r.av v := by
  cases r with
  | void => unfold Ret.av VA; trivial
  | one x => unfold Ret.av VA; exact h
  | tup xs => unfold Ret.av VA; exact h
theorem VRet.imp {N N' : Nat → Prop} {r : Ret} {v : Value} (hN : ∀ b, N b → N' b) (h : VRet w N r v) : VRet w N' r v := by
  cases r with
  | void => exact h
  | one x => exact VD.imp hN (fun _ _ _ h => h) h
  | tup xs =>
    obtain ⟨vs, h1, h2, h3⟩ := h
    exact ⟨vs, h1, h2, fun i x u hx hu => VD.imp hN (fun _ _ _ h => h) (h3 i x u hx hu)⟩

/-- A function value: whose, and what it brings along. -/
def AV.asFn : AV → Option (FuncId × List AV × List AV)
  | .fn (.func g) p q => some (g, p, q)
  | .d (.raw (.func (.func g) p q)) => if (p.toList ++ q.toList).all (·.oneCell') then some (g, p.toList.map fun v => .d (.raw v), q.toList.map fun v => .d (.raw v)) else none
  | _ => none
theorem asFn_ok {N : Nat → Prop} {x : AV} {v : Value} {g : FuncId} {p q : List AV} (hx : VA E w N x v) (h : x.asFn = some (g, p, q)) : ∃ ps qs : List Value, v = .func (.func g) ps.toArray qs.toArray ∧ VAs E w N p ps ∧ VAs E w N q qs := by
  unfold AV.asFn at h
  split at h
  · cases h
    unfold VA at hx
    exact hx
  · rename_i g' p' q'
    split at h
    · rename_i hone
      cases h
      unfold VA at hx
      have hv := (VD_raw_inv hx).1
      rw [List.all_append, Bool.and_eq_true] at hone
      have aux : ∀ vs : List Value, vs.all (·.oneCell') = true → VAs E w N (vs.map fun v => .d (.raw v)) vs := fun vs hall => by
        have := VAs_of_VCs (E := E) (VCs_raw (w := w) (N := N) vs hall)
        rw [List.map_map] at this; exact this
      exact ⟨p'.toList, q'.toList, by simpa using hv, aux _ hone.1, aux _ hone.2⟩
    · cases h
  · cases h

def AV.isPure : AV → Bool
  | .own _ => false
  | _ => true
theorem argD_ok (hsim : Sim B w0 N0 E s a w) {x : AV} {v : Value} {d : D} (hx : VA E w (Stable B N0 E s w) x v) (h : s.argD x = some d) : VD w (fun b => b < w.heap.size) d v ∧ (x.isPure = true → VD w (Stable B N0 E s w) d v) := by
  have hN : ∀ b, Stable B N0 E s w b → b < w.heap.size := fun b hb => hb.1
  cases x <;> simp only [St.argD, reduceCtorEq] at h
  case d y =>
    cases h
    unfold VA at hx
    exact ⟨VD.imp hN (fun _ _ _ h => h) hx, fun _ => hx⟩
  case known b =>
    cases h
    unfold VA at hx
    rw [hx]
    exact ⟨VD_raw rfl, fun _ => VD_raw rfl⟩
  case own r =>
    obtain ⟨R, hR, rfl⟩ := Option.map_eq_some_iff.1 h
    unfold VA at hx
    obtain ⟨vs, h1, h2⟩ := hsim.fit.row r R hR
    refine ⟨?_, fun h => by simp [AV.isPure] at h⟩
    rw [hx.1]
    exact own_VD h1 (fun b hb => (h1.lt b hb).2) fun i hi => VC.imp hN (fun _ _ _ h => h) _ _ (h2 i hi)
  case fn f p q =>
    split at h
    · rename_i hall
      cases h
      unfold VA at hx
      obtain ⟨ps, qs, rfl, h1, h2⟩ := hx
      rw [List.all_append, Bool.and_eq_true] at hall
      have aux : ∀ (xs : List AV) (vs : List Value), xs.all AV.isRaw = true → VAs E w (Stable B N0 E s w) xs vs → xs.map AV.rawOf = vs := by
        intro xs
        induction xs with
        | nil => intro vs _ h; unfold VAs at h; subst h; rfl
        | cons x xs ih =>
          intro vs hall h
          simp only [List.all_cons, Bool.and_eq_true] at hall
          unfold VAs at h
          obtain ⟨v, vs', rfl, hv, h⟩ := h
          simp only [List.map_cons, ih vs' hall.2 h]
          congr 1
          cases x with
          | d y =>
            cases y with
            | raw u => unfold VA at hv; exact (VD_raw_inv hv).1.symm
            | list sz n el => simp [AV.isRaw] at hall
            | agg ys => simp [AV.isRaw] at hall
          | known b => unfold VA at hv; exact hv.symm
          | _ => simp [AV.isRaw] at hall
      rw [aux p ps hall.1 h1, aux q qs hall.2 h2]
      exact ⟨VD_raw rfl, fun _ => VD_raw rfl⟩
    · cases h
theorem args_ok (hsim : Sim B w0 N0 E s a w) : ∀ {xs : List AV} {vs : List Value} {ds : List D}, VAs E w (Stable B N0 E s w) xs vs → xs.mapM s.argD = some ds →
    VTs w (fun b => b < w.heap.size) ds vs ∧ (xs.all AV.isPure = true → VTs w (Stable B N0 E s w) ds vs)
  | [], vs, ds, h, hd => by
    simp at hd; subst hd
    unfold VAs at h; subst h
    exact ⟨⟨rfl, fun i x v hx => by simp at hx⟩, fun _ => ⟨rfl, fun i x v hx => by simp at hx⟩⟩
  | x :: xs, vs, ds, h, hd => by
    rw [List.mapM_cons] at hd
    simp only [Option.bind_eq_bind, Option.bind_eq_some_iff, Option.pure_def, Option.some.injEq] at hd
    obtain ⟨d, hd1, ds', hds, rfl⟩ := hd
    unfold VAs at h
    obtain ⟨v, vs', rfl, hv, h⟩ := h
    obtain ⟨h1, h2⟩ := argD_ok hsim hv hd1
    obtain ⟨h3, h4⟩ := args_ok hsim h hds
    refine ⟨⟨by simp [h3.1], fun i y u hy hu => ?_⟩, fun hall => ?_⟩
    · cases i with
      | zero => simp at hy hu; subst hy; subst hu; exact h1
      | succ i => exact h3.2 i y u (by simpa using hy) (by simpa using hu)
    · simp only [List.all_cons, Bool.and_eq_true] at hall
      refine ⟨by simp [h3.1], fun i y u hy hu => ?_⟩
      cases i with
      | zero => simp at hy hu; subst hy; subst hu; exact h2 hall.1
      | succ i => exact (h4 hall.2).2 i y u (by simpa using hy) (by simpa using hu)

/-- Rows that are handed over for good. -/
def St.freezeAll (s : St) : List Operand → St
  | [] => s
  | x :: xs => match s.ev x with
    | .own r => match s.row r with
      | some R => (s.freeze r R).freezeAll xs
      | none => s.freezeAll xs
    | _ => s.freezeAll xs
theorem Sim.freezeAll : ∀ (xs : List Operand) {s : St}, Sim B w0 N0 E s a w → Sim B w0 N0 E (s.freezeAll xs) a w
  | [], _, h => h
  | x :: xs, s, h => by
    unfold St.freezeAll
    split
    · split
      · rename_i R hR; exact Sim.freezeAll xs (h.freeze _ R hR)
      · exact Sim.freezeAll xs h
    · exact Sim.freezeAll xs h

def callable (P : Program) (g : FuncId) : Bool := ((P.funcs[g]?).map fun fn => fn.name != "runtime.NumGoroutine" && fn.body.isSome).getD false
def stepCallAt (P : Program) (orc : Orc) (o : Oper) (f : Operand) (args : List Operand) (s : St) (needPure : Bool) : Option (St × List Prop) :=
  match (s.ev f).asFn with
  | some (g, p, q) =>
    if callable P g then
      if needPure = true → (p ++ args.map s.ev ++ q).all AV.isPure = true then
        match (p ++ args.map s.ev ++ q).mapM s.argD with
        | some ds => match orc g ds with
          | some (r, cs) => if needPure = true ∨ r.flat = true then some (s.put o.dst r.av, cs) else none
          | none => none
        | none => none
      else none
    else none
  | none => none
def stepCall (P : Program) (orc : Orc) (o : Oper) (f : Operand) (args : List Operand) (s : St) : Option (St × List Prop) :=
  match stepCallAt P orc o f args s false with
  | some r => some r
  | none => stepCallAt P orc o f args (s.freezeAll args) true

theorem stepCallAt_ok {orc : Orc} (horc : OrcOK P orc) {o : Oper} {f : Operand} {args : Array Operand} {ty : Array TypeId} {np : Bool} {cs : List Prop} (ho : o.op = .call { callee := .value f, args := args, argTypes := ty })
    (h : stepCallAt P orc o f args.toList s np = some (s', cs)) (hcs : Conds cs) : StepOK P true o s s' := by
  unfold stepCallAt at h
  split at h
  · rename_i g p q hf
    split at h
    · rename_i hcall
      split at h
      · rename_i hnp
        split at h
        · rename_i ds hds
          split at h
          · rename_i r cs' horcg
            split at h
            · rename_i hflat
              simp only [Option.some.injEq, Prod.mk.injEq] at h
              obtain ⟨rfl, rfl⟩ := h
              constructor
              intro B w0 N0 E a w next Q hsim hn
              obtain ⟨ps, qs, hfv, hp, hq⟩ := asFn_ok (hsim.ev f) hf
              have hargs := (hp.append (VAs_map_ev hsim args.toList)).append hq
              obtain ⟨hA, hB⟩ := args_ok hsim hargs hds
              have hspec := horc g ds r cs' horcg hcs
              have hrun : (execOp a.eval o).run P w = .ok (.enter g (ps ++ args.toList.map a.eval ++ qs).toArray) w := by
                unfold callable at hcall
                cases hfn : P.funcs[g]? with
                | none => simp [hfn] at hcall
                | some fn =>
                  simp only [hfn, Option.map_some, Option.getD_some, Bool.and_eq_true, bne_iff_ne, ne_eq] at hcall
                  have hb : ¬ fn.body = none := by cases hb : fn.body <;> simp_all
                  simp [execOp, ho, resolve, Deferred.ofValue, hfv, invoke, callFunc, program, Sem.run, hfn, map_toList_toArray]
                  rw [if_neg hcall.1, if_neg hb]
              unfold Oper.wp
              rw [hrun]
              show Calls P g _ w _
              have fin : ∀ (N : Nat → Prop), (∀ b, N b → b < w.heap.size) → VTs w N ds (ps ++ args.toList.map a.eval ++ qs) → (r.flat = true ∨ ∀ b, N b → Stable B N0 E s w b) → Calls P g (ps ++ args.toList.map a.eval ++ qs).toArray w fun
                  | .returned v, w'' => next (a.put o.dst v) w''
                  | .panicked chain, w'' => Q (.panic chain) a w''
                  | .outgrown, _ => LetsOut Q := fun N hN hV hor => by
                refine (hspec w N _ hN hV).mono ?_
                rintro e w' ⟨v, rfl, hv, hb⟩
                have hs' := hsim.ext hb
                refine hn _ _ _ (hs'.put' o.dst (VRet.av ?_)) fun _ => hb
                rcases hor with hfl | hst
                · exact VRet_flat hfl hv
                · refine VRet.imp (fun b hb' => ?_) hv
                  rcases hb' with h1 | ⟨h1, h2⟩
                  · exact (hsim.fit.ext hb).2.1 b (hst b h1)
                  · exact ⟨h2, .inr (Nat.le_trans hsim.fit.size h1), fun hm => absurd (hsim.fit.mut_old hm).1 (by omega)⟩
              cases np with
              | true => exact fin (Stable B N0 E s w) (fun b hb => hb.1) (hB (hnp rfl)) (.inr fun _ h => h)
              | false => exact fin (fun b => b < w.heap.size) (fun _ h => h) hA (.inl (by simpa using hflat))
            · cases h
          · cases h
        · cases h
      · cases h
    · cases h
  · cases h
theorem stepCall_ok {orc : Orc} (horc : OrcOK P orc) {o : Oper} {f : Operand} {args : Array Operand} {ty : Array TypeId} {cs : List Prop} (ho : o.op = .call { callee := .value f, args := args, argTypes := ty })
    (h : stepCall P orc o f args.toList s = some (s', cs)) (hcs : Conds cs) : StepOK P true o s s' := by
  unfold stepCall at h
  split at h
  · rename_i r hr
    cases h
    exact stepCallAt_ok horc ho hr hcs
  · constructor
    intro B w0 N0 E a w next Q hsim hn
    exact (stepCallAt_ok horc ho h hcs).out next Q (hsim.freezeAll _) hn

/-! ### one operation -/
/-- Does it leave what was there as it is? -/
def freshOp (o : Oper) : Bool :=
  match o.op with
  | .store .. => false
  | .call { callee := .builtin .append, .. } => false
  | _ => true
def step (P : Program) (orc : Orc) (o : Oper) (s : St) (dec : List Bool) : Res :=
  match o.op with
  | .move x => some (s.put o.dst (s.ev x), [], dec)
  | .assign x => some (s.put o.dst (s.ev x), [], dec)
  | .pick c x y =>
    match s.ev c, dec with
    | .d (.raw (.bool b)), δ :: dec => some (s.put o.dst (if δ then s.ev x else s.ev y), [b = δ], dec)
    | .known b, dec => some (s.put o.dst (if b then s.ev x else s.ev y), [], dec)
    | _, _ => none
  | .box T x => (stepBox o T (s.ev x) s).map fun s' => (s', [], dec)
  | .alloc T => (stepAlloc P o T s).map fun s' => (s', [], dec)
  | .load t x => (stepLoad P t (s.ev x) s).map fun y => (s.put o.dst y, loadConds (s.ev x) s, dec)
  | .store t p x => if o.dst.isNone then (stepStore P t (s.ev p) (s.ev x) s).map fun s' => (s', [], dec) else none
  | .fieldAddr st x f => (stepFieldAddr P st f (s.ev x)).map fun y => (s.put o.dst y, [], dec)
  | .indexAddr t x i => (stepIndexAddr P t (s.ev x) (s.ev i) s).map fun r => (s.put o.dst r.1, r.2, dec)
  | .extract x i => (stepExtract (s.ev x) i).map fun y => (s.put o.dst y, [], dec)
  | .makeFunc f p q => some (s.put o.dst (.fn f (p.toList.map s.ev) (q.toList.map s.ev)), [], dec)
  | .binOp op t x y _ => (stepBin P op t (s.evd x) (s.evd y)).map fun r => (s.put o.dst r.1, r.2, dec)
  | .unOp op _ x => (stepUn op (s.evd x)).map fun y => (s.put o.dst y, [], dec)
  | .convert src dst x => (stepConvert P src dst (s.ev x)).map fun y => (s.put o.dst y, [], dec)
  | .build t parts => (stepBuild P t parts s).map fun y => (s.put o.dst y, [], dec)
  | .buildSlice t len parts => (stepBuildSlice P o t len parts s).map fun s' => (s', [], dec)
  | .call { callee := .value f, args, .. } => (stepCall P orc o f args.toList s).map fun r => (r.1, r.2, dec)
  | .call { callee := .builtin .len, args, argTypes } =>
    match args.toList, argTypes[0]? with
    | [x], some t => (stepLen P t (s.ev x) s).map fun y => (s.put o.dst y, [], dec)
    | _, _ => none
  | .call { callee := .builtin .append, args, argTypes } =>
    match args.toList, argTypes.toList with
    | [x, y], [t, t'] => if t = t' then (stepAppend P o t (s.ev x) (s.ev y) s).map fun r => (r.1, r.2, dec) else none
    | _, _ => none
  | _ => none

theorem light_mv {o : Oper} {x : Operand} (ho : ∀ ρ : Operand → Value, execOp ρ o = pure (.value (ρ x))) : LightOK P false o (s.ev x) s := by
  constructor
  intro B w0 N0 E a w hsim
  exact ⟨a.eval x, fun w' _ => by rw [ho]; rfl, hsim.ev x⟩
theorem light_pick {o : Oper} {c x y : Operand} {δ b : Bool} (ho : ∀ ρ : Operand → Value, execOp ρ o = (fun t => Next.value (if t then ρ x else ρ y)) <$> asBool (ρ c)) (hc : s.ev c = .known δ ∨ (s.ev c = .d (.raw (.bool b)) ∧ b = δ)) : LightOK P false o (if δ then s.ev x else s.ev y) s := by
  constructor
  intro B w0 N0 E a w hsim
  have hv : a.eval c = .bool δ := by
    have hv := hsim.ev c
    rcases hc with hc | ⟨hc, rfl⟩
    · rw [hc] at hv; unfold VA at hv; exact hv
    · rw [hc] at hv; unfold VA at hv; exact (VD_raw_inv hv).1
  refine ⟨if δ then a.eval x else a.eval y, fun w' _ => by rw [ho, hv]; simp [asBool], ?_⟩
  cases δ
  · exact hsim.ev y
  · exact hsim.ev x
theorem step_ok {orc : Orc} (horc : OrcOK P orc) {o : Oper} {dec dec' : List Bool} {cs : List Prop} (h : step P orc o s dec = some (s', cs, dec')) (hcs : Conds cs) : StepOK P (freshOp o) o s s' := by
  unfold step at h
  split at h
  case h_1 x ho =>
    have hfo : freshOp o = true := by simp [freshOp, ho]
    rw [hfo]
    simp only [Option.some.injEq, Prod.mk.injEq] at h; obtain ⟨rfl, _, _⟩ := h
    exact (light_mv (fun _ => by simp [execOp, ho]) : LightOK P false o (s.ev x) s).step
  case h_2 x ho =>
    have hfo : freshOp o = true := by simp [freshOp, ho]
    rw [hfo]
    simp only [Option.some.injEq, Prod.mk.injEq] at h; obtain ⟨rfl, _, _⟩ := h
    exact (light_mv (fun _ => by simp [execOp, ho]) : LightOK P false o (s.ev x) s).step
  case h_3 c x y ho =>
    have hfo : freshOp o = true := by simp [freshOp, ho]
    rw [hfo]
    split at h
    · rename_i b δ dec2 hc
      simp only [Option.some.injEq, Prod.mk.injEq] at h; obtain ⟨rfl, rfl, _⟩ := h
      exact (light_pick (fun _ => by simp [execOp, ho]) (.inr ⟨hc, hcs.1⟩) : LightOK P false o (if δ then s.ev x else s.ev y) s).step
    · rename_i b hc
      simp only [Option.some.injEq, Prod.mk.injEq] at h; obtain ⟨rfl, rfl, _⟩ := h
      exact (light_pick (b := true) (fun _ => by simp [execOp, ho]) (.inl hc) : LightOK P false o (if b then s.ev x else s.ev y) s).step
    · cases h
  case h_4 T x ho =>
    have hfo : freshOp o = true := by simp [freshOp, ho]
    rw [hfo]
    obtain ⟨s2, h2, h⟩ := Option.map_eq_some_iff.1 h
    simp only [Prod.mk.injEq] at h; obtain ⟨rfl, _, _⟩ := h
    exact stepBox_ok ho h2
  case h_5 T ho =>
    have hfo : freshOp o = true := by simp [freshOp, ho]
    rw [hfo]
    obtain ⟨s2, h2, h⟩ := Option.map_eq_some_iff.1 h
    simp only [Prod.mk.injEq] at h; obtain ⟨rfl, _, _⟩ := h
    exact stepAlloc_ok ho h2
  case h_6 t x ho =>
    have hfo : freshOp o = true := by simp [freshOp, ho]
    rw [hfo]
    obtain ⟨s2, h2, h⟩ := Option.map_eq_some_iff.1 h
    simp only [Prod.mk.injEq] at h; obtain ⟨rfl, rfl, _⟩ := h
    exact (stepLoad_ok ho h2 hcs).step
  case h_7 t p x ho =>
    have hfo : freshOp o = false := by simp [freshOp, ho]
    rw [hfo]
    split at h
    · rename_i hd
      obtain ⟨s2, h2, h⟩ := Option.map_eq_some_iff.1 h
      simp only [Prod.mk.injEq] at h; obtain ⟨rfl, _, _⟩ := h
      exact stepStore_ok ho (by simpa using hd) h2
    · cases h
  case h_8 st x f ho =>
    have hfo : freshOp o = true := by simp [freshOp, ho]
    rw [hfo]
    obtain ⟨s2, h2, h⟩ := Option.map_eq_some_iff.1 h
    simp only [Prod.mk.injEq] at h; obtain ⟨rfl, _, _⟩ := h
    exact (stepFieldAddr_ok ho h2).step
  case h_9 t x i ho =>
    have hfo : freshOp o = true := by simp [freshOp, ho]
    rw [hfo]
    obtain ⟨⟨s2, c2⟩, h2, h⟩ := Option.map_eq_some_iff.1 h
    simp only [Prod.mk.injEq] at h; obtain ⟨rfl, rfl, _⟩ := h
    exact (stepIndexAddr_ok ho h2 hcs).step
  case h_10 x i ho =>
    have hfo : freshOp o = true := by simp [freshOp, ho]
    rw [hfo]
    obtain ⟨s2, h2, h⟩ := Option.map_eq_some_iff.1 h
    simp only [Prod.mk.injEq] at h; obtain ⟨rfl, _, _⟩ := h
    exact (stepExtract_ok ho h2).step
  case h_11 f p q ho =>
    have hfo : freshOp o = true := by simp [freshOp, ho]
    rw [hfo]
    simp only [Option.some.injEq, Prod.mk.injEq] at h; obtain ⟨rfl, _, _⟩ := h
    exact (stepMakeFunc_ok ho).step
  case h_12 op t x y ty ho =>
    have hfo : freshOp o = true := by simp [freshOp, ho]
    rw [hfo]
    obtain ⟨⟨s2, c2⟩, h2, h⟩ := Option.map_eq_some_iff.1 h
    simp only [Prod.mk.injEq] at h; obtain ⟨rfl, rfl, _⟩ := h
    exact (stepBin_ok ho h2 hcs).step
  case h_13 op t x ho =>
    have hfo : freshOp o = true := by simp [freshOp, ho]
    rw [hfo]
    obtain ⟨s2, h2, h⟩ := Option.map_eq_some_iff.1 h
    simp only [Prod.mk.injEq] at h; obtain ⟨rfl, _, _⟩ := h
    exact (stepUn_ok ho h2).step
  case h_14 src dst x ho =>
    have hfo : freshOp o = true := by simp [freshOp, ho]
    rw [hfo]
    obtain ⟨s2, h2, h⟩ := Option.map_eq_some_iff.1 h
    simp only [Prod.mk.injEq] at h; obtain ⟨rfl, _, _⟩ := h
    exact (stepConvert_ok ho h2).step
  case h_15 t parts ho =>
    have hfo : freshOp o = true := by simp [freshOp, ho]
    rw [hfo]
    obtain ⟨s2, h2, h⟩ := Option.map_eq_some_iff.1 h
    simp only [Prod.mk.injEq] at h; obtain ⟨rfl, _, _⟩ := h
    exact (stepBuild_ok ho h2).step
  case h_16 t len parts ho =>
    have hfo : freshOp o = true := by simp [freshOp, ho]
    rw [hfo]
    obtain ⟨s2, h2, h⟩ := Option.map_eq_some_iff.1 h
    simp only [Prod.mk.injEq] at h; obtain ⟨rfl, _, _⟩ := h
    exact stepBuildSlice_ok ho h2
  case h_17 f args ty ho =>
    have hfo : freshOp o = true := by simp [freshOp, ho]
    rw [hfo]
    obtain ⟨⟨s2, c2⟩, h2, h⟩ := Option.map_eq_some_iff.1 h
    simp only [Prod.mk.injEq] at h; obtain ⟨rfl, rfl, _⟩ := h
    exact stepCall_ok horc ho h2 hcs
  case h_18 args ty ho =>
    have hfo : freshOp o = true := by simp [freshOp, ho]
    rw [hfo]
    split at h
    · rename_i x t hargs ht
      obtain ⟨s2, h2, h⟩ := Option.map_eq_some_iff.1 h
      simp only [Prod.mk.injEq] at h; obtain ⟨rfl, _, _⟩ := h
      have : args = #[x] := by rw [← Array.toArray_toList (xs := args), hargs]
      subst this
      exact (stepLen_ok ho ht h2).step
    · cases h
  case h_19 args ty ho =>
    have hfo : freshOp o = false := by simp [freshOp, ho]
    rw [hfo]
    split at h
    · rename_i x y t t' hargs hty
      split at h
      · rename_i e
        subst e
        obtain ⟨⟨s2, c2⟩, h2, h⟩ := Option.map_eq_some_iff.1 h
        simp only [Prod.mk.injEq] at h; obtain ⟨rfl, rfl, _⟩ := h
        have h3 : args = #[x, y] := by rw [← Array.toArray_toList (xs := args), hargs]
        have h4 : ty = #[t, t] := by rw [← Array.toArray_toList (xs := ty), hty]
        subst h3; subst h4
        constructor
        intro B w0 N0 E a w next Q hsim hn
        exact (stepAppend_ok ho h2 hcs).out next Q hsim hn
      · cases h
    · cases h
  case h_20 => cases h

/-! ### operations that may be taken first -/
def lightKind (o : Oper) : Option Bool :=
  match o.op with
  | .move _ | .assign _ | .pick .. | .fieldAddr .. | .indexAddr .. | .extract .. | .makeFunc .. | .binOp .. | .unOp .. | .convert .. | .build .. => some false
  | .load .. => some true
  | .call { callee := .builtin .len, .. } => some false
  | _ => none
theorem step_light {orc : Orc} {o : Oper} {dec dec' : List Bool} {cs : List Prop} {ld : Bool} (h : step P orc o s dec = some (s', cs, dec')) (hcs : Conds cs) (hl : lightKind o = some ld) :
    ∃ y, s' = s.put o.dst y ∧ LightOK P ld o y s := by
  unfold step at h
  unfold lightKind at hl
  split at h
  case h_1 x ho =>
    simp only [ho, Option.some.injEq] at hl; subst hl
    simp only [Option.some.injEq, Prod.mk.injEq] at h; obtain ⟨rfl, _, _⟩ := h
    exact ⟨_, rfl, light_mv (fun _ => by simp [execOp, ho])⟩
  case h_2 x ho =>
    simp only [ho, Option.some.injEq] at hl; subst hl
    simp only [Option.some.injEq, Prod.mk.injEq] at h; obtain ⟨rfl, _, _⟩ := h
    exact ⟨_, rfl, light_mv (fun _ => by simp [execOp, ho])⟩
  case h_3 c x y ho =>
    simp only [ho, Option.some.injEq] at hl; subst hl
    split at h
    · rename_i b δ dec2 hc
      simp only [Option.some.injEq, Prod.mk.injEq] at h; obtain ⟨rfl, rfl, _⟩ := h
      exact ⟨_, rfl, light_pick (fun _ => by simp [execOp, ho]) (.inr ⟨hc, hcs.1⟩)⟩
    · rename_i b hc
      simp only [Option.some.injEq, Prod.mk.injEq] at h; obtain ⟨rfl, rfl, _⟩ := h
      exact ⟨_, rfl, light_pick (b := true) (fun _ => by simp [execOp, ho]) (.inl hc)⟩
    · cases h
  case h_6 t x ho =>
    simp only [ho, Option.some.injEq] at hl; subst hl
    obtain ⟨s2, h2, h⟩ := Option.map_eq_some_iff.1 h
    simp only [Prod.mk.injEq] at h; obtain ⟨rfl, rfl, _⟩ := h
    exact ⟨_, rfl, stepLoad_ok ho h2 hcs⟩
  case h_8 st x f ho =>
    simp only [ho, Option.some.injEq] at hl; subst hl
    obtain ⟨s2, h2, h⟩ := Option.map_eq_some_iff.1 h
    simp only [Prod.mk.injEq] at h; obtain ⟨rfl, _, _⟩ := h
    exact ⟨_, rfl, stepFieldAddr_ok ho h2⟩
  case h_9 t x i ho =>
    simp only [ho, Option.some.injEq] at hl; subst hl
    obtain ⟨⟨s2, c2⟩, h2, h⟩ := Option.map_eq_some_iff.1 h
    simp only [Prod.mk.injEq] at h; obtain ⟨rfl, rfl, _⟩ := h
    exact ⟨_, rfl, stepIndexAddr_ok ho h2 hcs⟩
  case h_10 x i ho =>
    simp only [ho, Option.some.injEq] at hl; subst hl
    obtain ⟨s2, h2, h⟩ := Option.map_eq_some_iff.1 h
    simp only [Prod.mk.injEq] at h; obtain ⟨rfl, _, _⟩ := h
    exact ⟨_, rfl, stepExtract_ok ho h2⟩
  case h_11 f p q ho =>
    simp only [ho, Option.some.injEq] at hl; subst hl
    simp only [Option.some.injEq, Prod.mk.injEq] at h; obtain ⟨rfl, _, _⟩ := h
    exact ⟨_, rfl, stepMakeFunc_ok ho⟩
  case h_12 op t x y ty ho =>
    simp only [ho, Option.some.injEq] at hl; subst hl
    obtain ⟨⟨s2, c2⟩, h2, h⟩ := Option.map_eq_some_iff.1 h
    simp only [Prod.mk.injEq] at h; obtain ⟨rfl, rfl, _⟩ := h
    exact ⟨_, rfl, stepBin_ok ho h2 hcs⟩
  case h_13 op t x ho =>
    simp only [ho, Option.some.injEq] at hl; subst hl
    obtain ⟨s2, h2, h⟩ := Option.map_eq_some_iff.1 h
    simp only [Prod.mk.injEq] at h; obtain ⟨rfl, _, _⟩ := h
    exact ⟨_, rfl, stepUn_ok ho h2⟩
  case h_14 src dst x ho =>
    simp only [ho, Option.some.injEq] at hl; subst hl
    obtain ⟨s2, h2, h⟩ := Option.map_eq_some_iff.1 h
    simp only [Prod.mk.injEq] at h; obtain ⟨rfl, _, _⟩ := h
    exact ⟨_, rfl, stepConvert_ok ho h2⟩
  case h_15 t parts ho =>
    simp only [ho, Option.some.injEq] at hl; subst hl
    obtain ⟨s2, h2, h⟩ := Option.map_eq_some_iff.1 h
    simp only [Prod.mk.injEq] at h; obtain ⟨rfl, _, _⟩ := h
    exact ⟨_, rfl, stepBuild_ok ho h2⟩
  case h_18 args ty ho =>
    simp only [ho, Option.some.injEq] at hl; subst hl
    split at h
    · rename_i x t hargs ht
      obtain ⟨s2, h2, h⟩ := Option.map_eq_some_iff.1 h
      simp only [Prod.mk.injEq] at h; obtain ⟨rfl, _, _⟩ := h
      have : args = #[x] := by rw [← Array.toArray_toList (xs := args), hargs]
      subst this
      exact ⟨_, rfl, stepLen_ok ho ht h2⟩
    · cases h
  case h_20 => cases h
  all_goals (rename_i ho; simp [ho] at hl)
end Go.Abs
