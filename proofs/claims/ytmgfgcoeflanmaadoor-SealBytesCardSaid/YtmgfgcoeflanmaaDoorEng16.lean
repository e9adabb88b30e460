/-
  Part of the engine: abstract states of a call (values as trees, things of the call's own), and that each operation of the model does to the world what it does to them. No condition.
-/
import Derived.Test.YtmgfgcoeflanmaaDoorEng15
namespace Go.Eng
open Go Go.RowKit Go.Lib
variable {P : Program} {gl : Nat → Option (List D)} {C : Cx} {E E' : Env} {s s' : St} {a : Act} {w w' : World}

def stepMakeInterface (P : Program) (t : TypeId) (x : AV) : Option AV :=
  match P.underlying t, x with
  | some (.interface _), _ => none
  | some _, .d (.raw v) => some (.d (.raw (.iface t v)))
  | _, _ => none
theorem stepMakeInterface_ok {o : Oper} {t : TypeId} {x : Operand} {y : AV} (ho : o.op = .makeInterface t x) (h : stepMakeInterface P t (s.ev x) = some y) : LightOK P gl [] o y s := by
  constructor
  intro C E a w hP hG hsim
  have hx := hsim.ev x
  unfold stepMakeInterface at h
  split at h
  · cases h
  · rename_i d v hne hu hxe
    rw [hxe] at hx
    unfold VA at hx
    cases h
    refine ⟨.iface t v, fun w' _ => ?_, by unfold VA; exact VD_raw rfl⟩
    have hv := (VD_raw_inv hx).1
    cases d <;> first | (simp [execOp, ho, Instr.makeInterface, run_underlying hu, hv]; done) | exact absurd rfl (hne _)
  · cases h

/-! ### one operation -/
/-- The index of which it must be told whether it is a numeral. -/
def idxOf (P : Program) (orc : Orc) (o : Oper) (s : St) : Option Int :=
  match o.op with
  | .indexAddr t x ix => match P.underlying t, evg orc.gl (s.ev x), s.ev ix with
    | some (.array _ _), .ref _ _, .d (.raw (.int _ i)) => some i
    | some (.slice _), .osl _ _ _ _ _, .d (.raw (.int _ i)) => some i
    | _, _, _ => none
  | .index t _ ix => match P.underlying t, s.ev ix with
    | some (.array _ _), .d (.raw (.int _ i)) => some i
    | _, _ => none
  | _ => none
/-- (that decision) -/
def conOf (P : Program) (orc : Orc) (o : Oper) (s : St) (dec : List Bool) : Option (Bool × List Bool) :=
  match idxOf P orc o s with
  | none => some (true, dec)
  | some _ => match dec with
    | c :: dec => some (c, dec)
    | [] => none
def step (P : Program) (orc : Orc) (o : Oper) (s : St) (dec : List Bool) : Res :=
  match o.op with
  | .move x => some (s.put o.dst (s.ev x), [], dec, [])
  | .assign x => some (s.put o.dst (s.ev x), [], dec, [])
  | .pick c x y =>
    match s.ev c, dec with
    | .d (.raw (.bool b)), δ :: dec => some (s.put o.dst (if δ then s.ev x else s.ev y), [b = δ], dec, [])
    | .known b, dec => some (s.put o.dst (if b then s.ev x else s.ev y), [], dec, [])
    | _, _ => none
  | .box T x => (stepBox o T (s.ev x) s).map fun s' => (s', [], dec, [])
  | .alloc T => (stepAlloc P o T s).map fun s' => (s', [], dec, [])
  | .load t x => (stepLoad P t (evg orc.gl (s.ev x)) s).map fun y => (s.put o.dst y, loadConds (evg orc.gl (s.ev x)) s, dec, [])
  | .store t p x => if o.dst.isNone then (stepStore P t (s.ev p) (s.ev x) s).map fun r => (r.1, r.2, dec, (s.ev p).keys) else none
  | .fieldAddr st x f => (stepFieldAddr P st f (evg orc.gl (s.ev x))).map fun y => (s.put o.dst y, [], dec, [])
  | .indexAddr t x i => match conOf P orc o s dec with
    | some (c, dec) => (stepIndexAddr P c t (evg orc.gl (s.ev x)) (s.ev i) s).map fun r => (s.put o.dst r.1, r.2, dec, [])
    | none => none
  | .index t x i => match conOf P orc o s dec with
    | some (c, dec) => (stepIndex P c t (s.ev x) (s.ev i)).map fun r => (s.put o.dst r.1, r.2, dec, [])
    | none => none
  | .field t x f => (stepField P t (s.ev x) f).map fun y => (s.put o.dst y, [], dec, [])
  | .nilCheck x => if isPtr (s.ev x) then some (s.put o.dst (s.ev x), [], dec, []) else none
  | .extract x i => (stepExtract (s.ev x) i).map fun y => (s.put o.dst y, [], dec, [])
  | .makeFunc f p q => some (s.put o.dst (.fn f (p.toList.map s.ev) (q.toList.map s.ev)), [], dec, [])
  | .makeInterface t x => (stepMakeInterface P t (s.ev x)).map fun y => (s.put o.dst y, [], dec, [])
  | .binOp op t x y _ => (stepBin P op t (s.evd x) (s.evd y)).map fun r => (s.put o.dst r.1, r.2, dec, [])
  | .unOp op _ x => (stepUn op (s.evd x)).map fun y => (s.put o.dst y, [], dec, [])
  | .convert src dst x => match stepConvert P src dst (s.ev x) s with
    | some r => some (s.put o.dst r.1, r.2, dec, [])
    | none => (stepBytes P o src dst (s.ev x) s).map fun r => (r.1, r.2, dec, [])
  | .slice t x lo hi mx => (stepSlice P t (s.ev x) (lo.map s.ev) (hi.map s.ev) (mx.map s.ev) s).map fun r => (s.put o.dst r.1, r.2, dec, [])
  | .sliceToArrayPointer t x => (stepArrayAt P t (s.ev x)).map fun r => (s.put o.dst r.1, r.2, dec, [])
  | .build t parts => (stepBuild P t parts s).map fun y => (s.put o.dst y, [], dec, [])
  | .buildSlice t len parts => match stepBuildSlice P o t len parts s with
    | some s' => some (s', [], dec, [])
    | none => (stepBuildSlice P o t len parts (s.dropTh (fun k => (rowKeys s.heap (parts.toList.map fun p => s.ev p.2)).any (· == k)) (thaw s fun k => (rowKeys s.heap (parts.toList.map fun p => s.ev p.2)).any (· == k)))).map fun s' => (s', [], dec, [])
  | .makeSlice t l c => (stepMakeSlice P o t (s.ev l) (s.ev c) s).map fun r => (r.1, r.2, dec, [])
  | .call { callee := .value f, args, .. } => (stepCall P orc o f args.toList s).map fun r => (r.1, r.2.1, dec, r.2.2)
  | .call { callee := .builtin .len, args, argTypes } =>
    match args.toList, argTypes[0]? with
    | [x], some t => (stepLen P t (s.ev x) s).map fun y => (s.put o.dst y, [], dec, [])
    | _, _ => none
  | .call { callee := .builtin .append, args, argTypes } =>
    match args.toList, argTypes.toList with
    | [x, y], [t, t'] => (stepAppend P o t t' (s.ev x) (s.ev y) s).map fun r => (r.1, r.2, dec, (s.ev x).keys)
    | _, _ => none
  | .call { callee := .builtin .copy, args, argTypes } =>
    match args.toList, argTypes.toList with
    | [x, y], [t, _] => (stepCopy P o t (s.ev x) (s.ev y) s).map fun r => (r, [], dec, (s.ev x).keys)
    | _, _ => none
  | .call { callee := .builtin .max, args, .. } => (stepMinMax true (args.toList.map s.ev)).map fun y => (s.put o.dst y, [], dec, [])
  | .call { callee := .builtin .min, args, .. } => (stepMinMax false (args.toList.map s.ev)).map fun y => (s.put o.dst y, [], dec, [])
  | _ => none

theorem light_mv {o : Oper} {x : Operand} (ho : ∀ ρ : Operand → Value, execOp ρ o = pure (.value (ρ x))) : LightOK P gl [] o (s.ev x) s := by
  constructor
  intro C E a w _ _ hsim
  exact ⟨a.eval x, fun w' _ => by rw [ho]; rfl, hsim.ev x⟩
theorem light_pick {o : Oper} {c x y : Operand} {δ b : Bool} (ho : ∀ ρ : Operand → Value, execOp ρ o = (fun t => Next.value (if t then ρ x else ρ y)) <$> asBool (ρ c)) (hc : s.ev c = .known δ ∨ (s.ev c = .d (.raw (.bool b)) ∧ b = δ)) : LightOK P gl [] o (if δ then s.ev x else s.ev y) s := by
  constructor
  intro C E a w _ _ hsim
  have hv : a.eval c = .bool δ := by
    have hv := hsim.ev c
    rcases hc with hc | ⟨hc, rfl⟩
    · rw [hc] at hv; unfold VA at hv; exact hv
    · rw [hc] at hv; unfold VA at hv; exact (VD_raw_inv hv).1
  refine ⟨if δ then a.eval x else a.eval y, fun w' _ => by rw [ho, hv]; simp [asBool], ?_⟩
  cases δ
  · exact hsim.ev y
  · exact hsim.ev x
/-- The operations that only compute. -/
def lightKind (P : Program) (orc : Orc) (o : Oper) (s : St) : Option (List Nat) :=
  match o.op with
  | .move _ | .assign _ | .pick .. | .fieldAddr .. | .indexAddr .. | .index .. | .field .. | .nilCheck _ | .extract .. | .makeFunc .. | .makeInterface .. | .binOp .. | .unOp .. | .build .. | .slice .. | .sliceToArrayPointer .. => some []
  | .load _ x => some (evg orc.gl (s.ev x)).keys
  | .convert src dst x => if (stepConvert P src dst (s.ev x) s).isSome then some (s.ev x).keys else none
  | .call { callee := .builtin .len, args, .. } => match args.toList with
    | [x] => some (s.ev x).keys
    | _ => none
  | .call { callee := .builtin .max, .. } => some []
  | .call { callee := .builtin .min, .. } => some []
  | _ => none
theorem conOf_idx {orc : Orc} {o : Oper} {dec dec' : List Bool} {c : Bool} (_ : conOf P orc o s dec = some (c, dec')) : True := trivial
theorem step_light {orc : Orc} {o : Oper} {dec dec' : List Bool} {cs : List Prop} {ld fr : List Nat} (h : step P orc o s dec = some (s', cs, dec', fr)) (hcs : Conds cs) (hl : lightKind P orc o s = some ld) :
    ∃ y, s' = s.put o.dst y ∧ LightOK P orc.gl ld o y s ∧ fr = [] := by
  unfold step at h
  unfold lightKind at hl
  split at h
  case h_1 x ho =>
    simp only [ho, Option.some.injEq] at hl; subst hl
    simp only [Option.some.injEq, Prod.mk.injEq] at h; obtain ⟨rfl, _, _, rfl⟩ := h
    exact ⟨_, rfl, light_mv (fun _ => by simp [execOp, ho]), rfl⟩
  case h_2 x ho =>
    simp only [ho, Option.some.injEq] at hl; subst hl
    simp only [Option.some.injEq, Prod.mk.injEq] at h; obtain ⟨rfl, _, _, rfl⟩ := h
    exact ⟨_, rfl, light_mv (fun _ => by simp [execOp, ho]), rfl⟩
  case h_3 c x y ho =>
    simp only [ho, Option.some.injEq] at hl; subst hl
    split at h
    · rename_i b δ dec2 hc
      simp only [Option.some.injEq, Prod.mk.injEq] at h; obtain ⟨rfl, rfl, _, rfl⟩ := h
      exact ⟨_, rfl, light_pick (fun _ => by simp [execOp, ho]) (.inr ⟨hc, hcs.1⟩), rfl⟩
    · rename_i b hc
      simp only [Option.some.injEq, Prod.mk.injEq] at h; obtain ⟨rfl, rfl, _, rfl⟩ := h
      exact ⟨_, rfl, light_pick (b := true) (fun _ => by simp [execOp, ho]) (.inl hc), rfl⟩
    · cases h
  case h_6 t x ho =>
    simp only [ho, Option.some.injEq] at hl; subst hl
    obtain ⟨s2, h2, h⟩ := Option.map_eq_some_iff.1 h
    simp only [Prod.mk.injEq] at h; obtain ⟨rfl, rfl, _, rfl⟩ := h
    exact ⟨_, rfl, stepLoad_ok ho h2 hcs, rfl⟩
  case h_8 st x f ho =>
    simp only [ho, Option.some.injEq] at hl; subst hl
    obtain ⟨s2, h2, h⟩ := Option.map_eq_some_iff.1 h
    simp only [Prod.mk.injEq] at h; obtain ⟨rfl, rfl, _, rfl⟩ := h
    exact ⟨_, rfl, stepFieldAddr_ok ho h2, rfl⟩
  case h_9 t x i ho =>
    simp only [ho, Option.some.injEq] at hl; subst hl
    split at h
    · obtain ⟨⟨s2, c2⟩, h2, h⟩ := Option.map_eq_some_iff.1 h
      simp only [Prod.mk.injEq] at h; obtain ⟨rfl, rfl, _, rfl⟩ := h
      exact ⟨_, rfl, stepIndexAddr_ok ho h2 hcs, rfl⟩
    · cases h
  case h_10 t x i ho =>
    simp only [ho, Option.some.injEq] at hl; subst hl
    split at h
    · obtain ⟨⟨s2, c2⟩, h2, h⟩ := Option.map_eq_some_iff.1 h
      simp only [Prod.mk.injEq] at h; obtain ⟨rfl, rfl, _, rfl⟩ := h
      exact ⟨_, rfl, stepIndex_ok ho h2 hcs, rfl⟩
    · cases h
  case h_11 t x f ho =>
    simp only [ho, Option.some.injEq] at hl; subst hl
    obtain ⟨s2, h2, h⟩ := Option.map_eq_some_iff.1 h
    simp only [Prod.mk.injEq] at h; obtain ⟨rfl, rfl, _, rfl⟩ := h
    exact ⟨_, rfl, stepField_ok ho h2, rfl⟩
  case h_12 x ho =>
    simp only [ho, Option.some.injEq] at hl; subst hl
    split at h
    · rename_i hp
      simp only [Option.some.injEq, Prod.mk.injEq] at h; obtain ⟨rfl, _, _, rfl⟩ := h
      exact ⟨_, rfl, stepNilCheck_ok ho hp, rfl⟩
    · cases h
  case h_13 x i ho =>
    simp only [ho, Option.some.injEq] at hl; subst hl
    obtain ⟨s2, h2, h⟩ := Option.map_eq_some_iff.1 h
    simp only [Prod.mk.injEq] at h; obtain ⟨rfl, rfl, _, rfl⟩ := h
    exact ⟨_, rfl, stepExtract_ok ho h2, rfl⟩
  case h_14 f p q ho =>
    simp only [ho, Option.some.injEq] at hl; subst hl
    simp only [Option.some.injEq, Prod.mk.injEq] at h; obtain ⟨rfl, _, _, rfl⟩ := h
    exact ⟨_, rfl, stepMakeFunc_ok ho, rfl⟩
  case h_15 t x ho =>
    simp only [ho, Option.some.injEq] at hl; subst hl
    obtain ⟨s2, h2, h⟩ := Option.map_eq_some_iff.1 h
    simp only [Prod.mk.injEq] at h; obtain ⟨rfl, rfl, _, rfl⟩ := h
    exact ⟨_, rfl, stepMakeInterface_ok ho h2, rfl⟩
  case h_16 op t x y ty ho =>
    simp only [ho, Option.some.injEq] at hl; subst hl
    obtain ⟨⟨s2, c2⟩, h2, h⟩ := Option.map_eq_some_iff.1 h
    simp only [Prod.mk.injEq] at h; obtain ⟨rfl, rfl, _, rfl⟩ := h
    exact ⟨_, rfl, stepBin_ok ho h2 hcs, rfl⟩
  case h_17 op t x ho =>
    simp only [ho, Option.some.injEq] at hl; subst hl
    obtain ⟨s2, h2, h⟩ := Option.map_eq_some_iff.1 h
    simp only [Prod.mk.injEq] at h; obtain ⟨rfl, _, _, rfl⟩ := h
    exact ⟨_, rfl, stepUn_ok ho h2, rfl⟩
  case h_18 src dst x ho =>
    simp only [ho] at hl
    split at h
    · rename_i r hr
      simp only [hr, Option.isSome_some, if_true, Option.some.injEq] at hl; subst hl
      simp only [Option.some.injEq, Prod.mk.injEq] at h; obtain ⟨rfl, rfl, _, rfl⟩ := h
      exact ⟨_, rfl, stepConvert_ok ho hr hcs, rfl⟩
    · rename_i hr
      simp [hr] at hl
  case h_19 t x lo hi mx ho =>
    simp only [ho, Option.some.injEq] at hl; subst hl
    obtain ⟨⟨s2, c2⟩, h2, h⟩ := Option.map_eq_some_iff.1 h
    simp only [Prod.mk.injEq] at h; obtain ⟨rfl, rfl, _, rfl⟩ := h
    exact ⟨_, rfl, stepSlice_ok ho h2 hcs, rfl⟩
  case h_20 t x ho =>
    simp only [ho, Option.some.injEq] at hl; subst hl
    obtain ⟨⟨s2, c2⟩, h2, h⟩ := Option.map_eq_some_iff.1 h
    simp only [Prod.mk.injEq] at h; obtain ⟨rfl, rfl, _, rfl⟩ := h
    exact ⟨_, rfl, stepArrayAt_ok ho h2 hcs, rfl⟩
  case h_21 t parts ho =>
    simp only [ho, Option.some.injEq] at hl; subst hl
    obtain ⟨s2, h2, h⟩ := Option.map_eq_some_iff.1 h
    simp only [Prod.mk.injEq] at h; obtain ⟨rfl, _, _, rfl⟩ := h
    exact ⟨_, rfl, stepBuild_ok ho h2, rfl⟩
  case h_25 args ty ho =>
    simp only [ho] at hl
    split at h
    · rename_i x t hargs ht
      rw [hargs] at hl
      simp only [Option.some.injEq] at hl; subst hl
      obtain ⟨s2, h2, h⟩ := Option.map_eq_some_iff.1 h
      simp only [Prod.mk.injEq] at h; obtain ⟨rfl, _, _, rfl⟩ := h
      have : args = #[x] := by rw [← Array.toArray_toList (xs := args), hargs]
      subst this
      exact ⟨_, rfl, stepLen_ok ho ht h2, rfl⟩
    · cases h
  case h_28 args ty ho =>
    simp only [ho, Option.some.injEq] at hl; subst hl
    obtain ⟨s2, h2, h⟩ := Option.map_eq_some_iff.1 h
    simp only [Prod.mk.injEq] at h; obtain ⟨rfl, _, _, rfl⟩ := h
    exact ⟨_, rfl, stepMax_ok ho h2, rfl⟩
  case h_29 args ty ho =>
    simp only [ho, Option.some.injEq] at hl; subst hl
    obtain ⟨s2, h2, h⟩ := Option.map_eq_some_iff.1 h
    simp only [Prod.mk.injEq] at h; obtain ⟨rfl, _, _, rfl⟩ := h
    exact ⟨_, rfl, stepMin_ok ho h2, rfl⟩
  case h_30 => cases h
  all_goals (rename_i ho; simp [ho] at hl)
theorem step_ok {orc : Orc} (horc : OrcOK P orc) {o : Oper} {dec dec' : List Bool} {cs : List Prop} {fr : List Nat} (h : step P orc o s dec = some (s', cs, dec', fr)) (hcs : Conds cs) : StepOK P orc.gl fr o s s' := by
  cases hl : lightKind P orc o s with
  | some ld =>
    obtain ⟨y, rfl, h1, rfl⟩ := step_light h hcs hl
    exact h1.step
  | none =>
    unfold step at h
    unfold lightKind at hl
    split at h
    case h_4 T x ho =>
      obtain ⟨s2, h2, h⟩ := Option.map_eq_some_iff.1 h
      simp only [Prod.mk.injEq] at h; obtain ⟨rfl, _, _, rfl⟩ := h
      exact stepBox_ok ho h2
    case h_5 T ho =>
      obtain ⟨s2, h2, h⟩ := Option.map_eq_some_iff.1 h
      simp only [Prod.mk.injEq] at h; obtain ⟨rfl, _, _, rfl⟩ := h
      exact stepAlloc_ok ho h2
    case h_7 t p x ho =>
      split at h
      · rename_i hd
        obtain ⟨⟨s2, c2⟩, h2, h⟩ := Option.map_eq_some_iff.1 h
        simp only [Prod.mk.injEq] at h; obtain ⟨rfl, rfl, _, rfl⟩ := h
        exact stepStore_ok ho (by simpa using hd) h2 hcs
      · cases h
    case h_18 src dst x ho =>
      split at h
      · rename_i r hr
        simp [ho, hr] at hl
      · obtain ⟨⟨s2, c2⟩, h2, h⟩ := Option.map_eq_some_iff.1 h
        simp only [Prod.mk.injEq] at h; obtain ⟨rfl, rfl, _, rfl⟩ := h
        exact stepBytes_ok ho h2 hcs
    case h_22 t len parts ho =>
      split at h
      · rename_i s2 h2
        simp only [Option.some.injEq, Prod.mk.injEq] at h; obtain ⟨rfl, _, _, rfl⟩ := h
        exact stepBuildSlice_ok ho h2
      · obtain ⟨s2, h2, h⟩ := Option.map_eq_some_iff.1 h
        simp only [Prod.mk.injEq] at h; obtain ⟨rfl, _, _, rfl⟩ := h
        constructor
        intro C E a w next Q hP hG hsim hn
        exact (stepBuildSlice_ok ho h2).out next Q hP hG (hsim.freeze _) fun E' a' w' hs hkp => hn E' a' w' hs (by
          have := Kp.trans (dropTh_kp hsim.fit (fun k => (rowKeys s.heap (parts.toList.map fun p => s.ev p.2)).any (· == k)) (thaw s fun k => (rowKeys s.heap (parts.toList.map fun p => s.ev p.2)).any (· == k)) []) hkp
          rwa [List.nil_append] at this)
    case h_23 t l c ho =>
      obtain ⟨⟨s2, c2⟩, h2, h⟩ := Option.map_eq_some_iff.1 h
      simp only [Prod.mk.injEq] at h; obtain ⟨rfl, rfl, _, rfl⟩ := h
      exact stepMakeSlice_ok ho h2 hcs
    case h_24 f args ty ho =>
      obtain ⟨⟨s2, c2, fr2⟩, h2, h⟩ := Option.map_eq_some_iff.1 h
      simp only [Prod.mk.injEq] at h; obtain ⟨rfl, rfl, _, rfl⟩ := h
      exact stepCall_ok horc ho h2 hcs
    case h_25 args ty ho =>
      split at h
      · rename_i x t hargs ht
        simp [ho, hargs] at hl
      · cases h
    case h_26 args ty ho =>
      split at h
      · rename_i x y t t' hargs hty
        obtain ⟨⟨s2, c2⟩, h2, h⟩ := Option.map_eq_some_iff.1 h
        simp only [Prod.mk.injEq] at h; obtain ⟨rfl, rfl, _, rfl⟩ := h
        have h3 : args = #[x, y] := by rw [← Array.toArray_toList (xs := args), hargs]
        have h4 : ty = #[t, t'] := by rw [← Array.toArray_toList (xs := ty), hty]
        subst h3; subst h4
        exact stepAppend_ok ho h2 hcs
      · cases h
    case h_27 args ty ho =>
      split at h
      · rename_i x y t t' hargs hty
        obtain ⟨s2, h2, h⟩ := Option.map_eq_some_iff.1 h
        simp only [Prod.mk.injEq] at h; obtain ⟨rfl, _, _, rfl⟩ := h
        have h3 : args = #[x, y] := by rw [← Array.toArray_toList (xs := args), hargs]
        have h4 : ty = #[t, t'] := by rw [← Array.toArray_toList (xs := ty), hty]
        subst h3; subst h4
        exact stepCopy_ok ho h2
      · cases h
    case h_30 => cases h
    all_goals (rename_i ho; simp [ho] at hl)
end Go.Eng
