/-
  Part of the engine: abstract states of a call, and that the operations do what is told of them. No condition.
-/
import Derived.Test.YtbppcjkpkelbfaaDoorEngM
namespace Go.Eng
open Go Go.RowKit Go.Lib
variable {P : Program} {gl : Nat → Option (List D)} {C : Cx} {E E' : Env} {s s' : St} {a : Act} {w w' : World}
def stepMakeInterface (P : Program) (t : TypeId) (x : AV) : Option AV :=
 match P.underlying t, x with
 | some (.interface _), _ => none
 | some _, .d (.raw v) => some (.d (.raw (.iface t v)))
 | _, _ => none
theorem stepMakeInterface_ok {o : Oper} {t : TypeId} {x : Operand} {y : AV} (ho : o.op = .makeInterface t x) (h : stepMakeInterface P t (s.ev x) = some y) : LightOK P gl [] o y s := by
 constructor
 intro C E a w hP hG hsim
 have hx := hsim.ev x
 unfold stepMakeInterface at h
 split at h
 · cases h
 ·
  rename_i d v hne hu hxe
  rw [hxe] at hx
  unfold VA at hx
  cases h
  refine ⟨.iface t v, fun w' _ => ?_, by unfold VA; exact VD_raw rfl⟩
  have hv := (VD_raw_inv hx).1
  cases d <;> first | (simp [execOp, ho, Instr.makeInterface, run_underlying hu, hv]; done) | exact absurd rfl (hne _)
 · cases h
def idxOf (P : Program) (orc : Orc) (o : Oper) (s : St) : Option Int :=
 match o.op with
 | .indexAddr t x ix => match P.underlying t, evg orc.gl (s.ev x), s.ev ix with
  | some (.array _ _), .ref _ _, .d (.raw (.int _ i)) => some i
  | some (.slice _), .osl _ _ _ _ _, .d (.raw (.int _ i)) => some i
  | _, _, _ => none
 | .index t _ ix => match P.underlying t, s.ev ix with
  | some (.array _ _), .d (.raw (.int _ i)) => some i
  | _, _ => none
 | _ => none
def conOf (P : Program) (orc : Orc) (o : Oper) (s : St) (dec : List Bool) : Option (Bool × List Bool) :=
 match idxOf P orc o s with
 | none => some (true, dec)
 | some _ => match dec with
  | c :: dec => some (c, dec)
  | [] => none
def step (P : Program) (orc : Orc) (o : Oper) (s : St) (dec : List Bool) : Res :=
 match o.op with
 | .move x => some (s.put o.dst (s.ev x), [], dec, [])
 | .assign x => some (s.put o.dst (s.ev x), [], dec, [])
 | .pick c x y =>
  match s.ev c, dec with
  | .d (.raw (.bool b)), δ :: dec => some (s.put o.dst (if δ then s.ev x else s.ev y), [b = δ], dec, [])
  | .known b, dec => some (s.put o.dst (if b then s.ev x else s.ev y), [], dec, [])
  | _, _ => none
 | .box T x => (stepBox o T (s.ev x) s).map fun s' => (s', [], dec, [])
 | .alloc T => (stepAlloc P o T s).map fun s' => (s', [], dec, [])
 | .load t x => (stepLoad P t (evg orc.gl (s.ev x)) s).map fun y => (s.put o.dst y, loadConds (evg orc.gl (s.ev x)) s, dec, [])
 | .store t p x => if o.dst.isNone then (stepStore P t (s.ev p) (s.ev x) s).map fun r => (r.1, r.2, dec, (s.ev p).keys) else none
 | .fieldAddr st x f => (stepFieldAddr P st f (evg orc.gl (s.ev x))).map fun y => (s.put o.dst y, [], dec, [])
 | .indexAddr t x i => match conOf P orc o s dec with
  | some (c, dec) => (stepIndexAddr P c t (evg orc.gl (s.ev x)) (s.ev i) s).map fun r => (s.put o.dst r.1, r.2, dec, [])
  | none => none
 | .index t x i => match conOf P orc o s dec with
  | some (c, dec) => (stepIndex P c t (s.ev x) (s.ev i)).map fun r => (s.put o.dst r.1, r.2, dec, [])
  | none => none
 | .field t x f => (stepField P t (s.ev x) f).map fun y => (s.put o.dst y, [], dec, [])
 | .nilCheck x => if isPtr (s.ev x) then some (s.put o.dst (s.ev x), [], dec, []) else none
 | .extract x i => (stepExtract (s.ev x) i).map fun y => (s.put o.dst y, [], dec, [])
 | .makeFunc f p q => some (s.put o.dst (.fn f (p.toList.map s.ev) (q.toList.map s.ev)), [], dec, [])
 | .makeInterface t x => (stepMakeInterface P t (s.ev x)).map fun y => (s.put o.dst y, [], dec, [])
 | .binOp op t x y _ => (stepBin P op t (s.evd x) (s.evd y)).map fun r => (s.put o.dst r.1, r.2, dec, [])
 | .unOp op _ x => (stepUn op (s.evd x)).map fun y => (s.put o.dst y, [], dec, [])
 | .convert src dst x => match stepConvert P src dst (s.ev x) s with
  | some r => some (s.put o.dst r.1, r.2, dec, [])
  | none => (stepBytes P o src dst (s.ev x) s).map fun r => (r.1, r.2, dec, [])
 | .slice t x lo hi mx => (stepSlice P t (s.ev x) (lo.map s.ev) (hi.map s.ev) (mx.map s.ev) s).map fun r => (s.put o.dst r.1, r.2, dec, [])
 | .sliceToArrayPointer t x => (stepArrayAt P t (s.ev x)).map fun r => (s.put o.dst r.1, r.2, dec, [])
 | .build t parts => (stepBuild P t parts s).map fun y => (s.put o.dst y, [], dec, [])
 | .buildSlice t len parts => match stepBuildSlice P o t len parts s with
  | some s' => some (s', [], dec, [])
  | none => (stepBuildSlice P o t len parts (s.dropTh (fun k => (rowKeys s.heap (parts.toList.map fun p => s.ev p.2)).any (· == k)) (thaw s fun k => (rowKeys s.heap (parts.toList.map fun p => s.ev p.2)).any (· == k)))).map fun s' => (s', [], dec, [])
 | .makeSlice t l c => (stepMakeSlice P o t (s.ev l) (s.ev c) s).map fun r => (r.1, r.2, dec, [])
 | .call { callee := .value f, args, .. } => (stepCall P orc o f args.toList s).map fun r => (r.1, r.2.1, dec, r.2.2)
 | .call { callee := .builtin .len, args, argTypes } =>
  match args.toList, argTypes[0]? with
  | [x], some t => (stepLen P t (s.ev x) s).map fun y => (s.put o.dst y, [], dec, [])
  | _, _ => none
 | .call { callee := .builtin .append, args, argTypes } =>
  match args.toList, argTypes.toList with
  | [x, y], [t, t'] => (stepAppend P o t t' (s.ev x) (s.ev y) s).map fun r => (r.1, r.2, dec, (s.ev x).keys)
  | _, _ => none
 | .call { callee := .builtin .copy, args, argTypes } =>
  match args.toList, argTypes.toList with
  | [x, y], [t, _] => (stepCopy P o t (s.ev x) (s.ev y) s).map fun r => (r, [], dec, (s.ev x).keys)
  | _, _ => none
 | .call { callee := .builtin .max, args, .. } => (stepMinMax true (args.toList.map s.ev)).map fun y => (s.put o.dst y, [], dec, [])
 | .call { callee := .builtin .min, args, .. } => (stepMinMax false (args.toList.map s.ev)).map fun y => (s.put o.dst y, [], dec, [])
 | .lookup t m k ok => match dec with
  | δ :: dec => (stepLookup P t (s.ev m) (s.ev k) ok δ s).map fun r => (s.put o.dst r.1, r.2, dec, [])
  | [] => none
 | .mapUpdate t m k x => if o.dst.isNone then (stepMapUpdate P t (s.ev m) (s.ev k) (s.ev x) s).map fun r => (r, [], dec, (s.ev m).keys) else none
 | .insert t m k x => if o.dst.isNone then (stepMapUpdate P t (s.ev m) (s.ev k) (s.ev x) s).map fun r => (r, [], dec, (s.ev m).keys) else none
 | .makeMap t none => (stepMakeMap P o t s).map fun r => (r, [], dec, [])
 | .call { callee := .builtin .clear, args, argTypes } =>
  match args.toList, argTypes[0]? with
  | [x], some t => (stepClear P o t (s.ev x) s).map fun r => (r, [], dec, (s.ev x).keys)
  | _, _ => none
 | _ => none
theorem light_mv {o : Oper} {x : Operand} (ho : ∀ ρ : Operand → Value, execOp ρ o = pure (.value (ρ x))) : LightOK P gl [] o (s.ev x) s := by
 constructor
 intro C E a w _ _ hsim
 exact ⟨a.eval x, fun w' _ => by rw [ho]; rfl, hsim.ev x⟩
theorem light_pick {o : Oper} {c x y : Operand} {δ b : Bool} (ho : ∀ ρ : Operand → Value, execOp ρ o = (fun t => Next.value (if t then ρ x else ρ y)) <$> asBool (ρ c)) (hc : s.ev c = .known δ ∨ (s.ev c = .d (.raw (.bool b)) ∧ b = δ)) : LightOK P gl [] o (if δ then s.ev x else s.ev y) s := by
 constructor
 intro C E a w _ _ hsim
 have hv : a.eval c = .bool δ := by
  have hv := hsim.ev c
  rcases hc with hc | ⟨hc, rfl⟩
  · rw [hc] at hv; unfold VA at hv; exact hv
  · rw [hc] at hv; unfold VA at hv; exact (VD_raw_inv hv).1
 refine ⟨if δ then a.eval x else a.eval y, fun w' _ => by rw [ho, hv]; simp [asBool], ?_⟩
 cases δ
 · exact hsim.ev y
 · exact hsim.ev x
def lightKind (P : Program) (orc : Orc) (o : Oper) (s : St) : Option (List Nat) :=
 match o.op with
 | .move _ | .assign _ | .pick .. | .fieldAddr .. | .indexAddr .. | .index .. | .field .. | .nilCheck _ | .extract .. | .makeFunc .. | .makeInterface .. | .binOp .. | .unOp .. | .build .. | .slice .. | .sliceToArrayPointer .. => some []
 | .load _ x => some (evg orc.gl (s.ev x)).keys
 | .convert src dst x => if (stepConvert P src dst (s.ev x) s).isSome then some (s.ev x).keys else none
 | .call { callee := .builtin .len, args, .. } => match args.toList with
  | [x] => some (s.ev x).keys
  | _ => none
 | .lookup _ m _ _ => some (s.ev m).keys
 | .call { callee := .builtin .max, .. } => some []
 | .call { callee := .builtin .min, .. } => some []
 | _ => none
theorem step_light {orc : Orc} {o : Oper} {dec dec' : List Bool} {cs : List Prop} {ld fr : List Nat} (h : step P orc o s dec = some (s', cs, dec', fr)) (hcs : Conds cs) (hl : lightKind P orc o s = some ld) :
  ∃ y, s' = s.put o.dst y ∧ LightOK P orc.gl ld o y s ∧ fr = [] := by
 unfold step at h
 unfold lightKind at hl
 split at h
 case h_1 x ho =>
  simp only [ho, Option.some.injEq] at hl; subst hl
  simp only [Option.some.injEq, Prod.mk.injEq] at h; obtain ⟨rfl, _, _, rfl⟩ := h
  exact ⟨_, rfl, light_mv (fun _ => by simp [execOp, ho]), rfl⟩
 case h_2 x ho =>
  simp only [ho, Option.some.injEq] at hl; subst hl
  simp only [Option.some.injEq, Prod.mk.injEq] at h; obtain ⟨rfl, _, _, rfl⟩ := h
  exact ⟨_, rfl, light_mv (fun _ => by simp [execOp, ho]), rfl⟩
 case h_3 c x y ho =>
  simp only [ho, Option.some.injEq] at hl; subst hl
  split at h
  ·
   rename_i b δ dec2 hc
   simp only [Option.some.injEq, Prod.mk.injEq] at h; obtain ⟨rfl, rfl, _, rfl⟩ := h
   exact ⟨_, rfl, light_pick (fun _ => by simp [execOp, ho]) (.inr ⟨hc, hcs.1⟩), rfl⟩
  ·
   rename_i b hc
   simp only [Option.some.injEq, Prod.mk.injEq] at h; obtain ⟨rfl, rfl, _, rfl⟩ := h
   exact ⟨_, rfl, light_pick (b := true) (fun _ => by simp [execOp, ho]) (.inl hc), rfl⟩
  · cases h
 case h_6 t x ho =>
  simp only [ho, Option.some.injEq] at hl; subst hl
  obtain ⟨s2, h2, h⟩ := Option.map_eq_some_iff.1 h
  simp only [Prod.mk.injEq] at h; obtain ⟨rfl, rfl, _, rfl⟩ := h
  exact ⟨_, rfl, stepLoad_ok ho h2 hcs, rfl⟩
 case h_8 st x f ho =>
  simp only [ho, Option.some.injEq] at hl; subst hl
  obtain ⟨s2, h2, h⟩ := Option.map_eq_some_iff.1 h
  simp only [Prod.mk.injEq] at h; obtain ⟨rfl, rfl, _, rfl⟩ := h
  exact ⟨_, rfl, stepFieldAddr_ok ho h2, rfl⟩
 case h_9 t x i ho =>
  simp only [ho, Option.some.injEq] at hl; subst hl
  split at h
  ·
   obtain ⟨⟨s2, c2⟩, h2, h⟩ := Option.map_eq_some_iff.1 h
   simp only [Prod.mk.injEq] at h; obtain ⟨rfl, rfl, _, rfl⟩ := h
   exact ⟨_, rfl, stepIndexAddr_ok ho h2 hcs, rfl⟩
  · cases h
 case h_10 t x i ho =>
  simp only [ho, Option.some.injEq] at hl; subst hl
  split at h
  ·
   obtain ⟨⟨s2, c2⟩, h2, h⟩ := Option.map_eq_some_iff.1 h
   simp only [Prod.mk.injEq] at h; obtain ⟨rfl, rfl, _, rfl⟩ := h
   exact ⟨_, rfl, stepIndex_ok ho h2 hcs, rfl⟩
  · cases h
 case h_11 t x f ho =>
  simp only [ho, Option.some.injEq] at hl; subst hl
  obtain ⟨s2, h2, h⟩ := Option.map_eq_some_iff.1 h
  simp only [Prod.mk.injEq] at h; obtain ⟨rfl, rfl, _, rfl⟩ := h
  exact ⟨_, rfl, stepField_ok ho h2, rfl⟩
 case h_12 x ho =>
  simp only [ho, Option.some.injEq] at hl; subst hl
  split at h
  ·
   rename_i hp
   simp only [Option.some.injEq, Prod.mk.injEq] at h; obtain ⟨rfl, _, _, rfl⟩ := h
   exact ⟨_, rfl, stepNilCheck_ok ho hp, rfl⟩
  · cases h
 case h_13 x i ho =>
  simp only [ho, Option.some.injEq] at hl; subst hl
  obtain ⟨s2, h2, h⟩ := Option.map_eq_some_iff.1 h
  simp only [Prod.mk.injEq] at h; obtain ⟨rfl, rfl, _, rfl⟩ := h
  exact ⟨_, rfl, stepExtract_ok ho h2, rfl⟩
 case h_14 f p q ho =>
  simp only [ho, Option.some.injEq] at hl; subst hl
  simp only [Option.some.injEq, Prod.mk.injEq] at h; obtain ⟨rfl, _, _, rfl⟩ := h
  exact ⟨_, rfl, stepMakeFunc_ok ho, rfl⟩
 case h_15 t x ho =>
  simp only [ho, Option.some.injEq] at hl; subst hl
  obtain ⟨s2, h2, h⟩ := Option.map_eq_some_iff.1 h
  simp only [Prod.mk.injEq] at h; obtain ⟨rfl, rfl, _, rfl⟩ := h
  exact ⟨_, rfl, stepMakeInterface_ok ho h2, rfl⟩
 case h_16 op t x y ty ho =>
  simp only [ho, Option.some.injEq] at hl; subst hl
  obtain ⟨⟨s2, c2⟩, h2, h⟩ := Option.map_eq_some_iff.1 h
  simp only [Prod.mk.injEq] at h; obtain ⟨rfl, rfl, _, rfl⟩ := h
  exact ⟨_, rfl, stepBin_ok ho h2 hcs, rfl⟩
 case h_17 op t x ho =>
  simp only [ho, Option.some.injEq] at hl; subst hl
  obtain ⟨s2, h2, h⟩ := Option.map_eq_some_iff.1 h
  simp only [Prod.mk.injEq] at h; obtain ⟨rfl, _, _, rfl⟩ := h
  exact ⟨_, rfl, stepUn_ok ho h2, rfl⟩
 case h_18 src dst x ho =>
  simp only [ho] at hl
  split at h
  ·
   rename_i r hr
   simp only [hr, Option.isSome_some, if_true, Option.some.injEq] at hl; subst hl
   simp only [Option.some.injEq, Prod.mk.injEq] at h; obtain ⟨rfl, rfl, _, rfl⟩ := h
   exact ⟨_, rfl, stepConvert_ok ho hr hcs, rfl⟩
  ·
   rename_i hr
   simp [hr] at hl
 case h_19 t x lo hi mx ho =>
  simp only [ho, Option.some.injEq] at hl; subst hl
  obtain ⟨⟨s2, c2⟩, h2, h⟩ := Option.map_eq_some_iff.1 h
  simp only [Prod.mk.injEq] at h; obtain ⟨rfl, rfl, _, rfl⟩ := h
  exact ⟨_, rfl, stepSlice_ok ho h2 hcs, rfl⟩
 case h_20 t x ho =>
  simp only [ho, Option.some.injEq] at hl; subst hl
  obtain ⟨⟨s2, c2⟩, h2, h⟩ := Option.map_eq_some_iff.1 h
  simp only [Prod.mk.injEq] at h; obtain ⟨rfl, rfl, _, rfl⟩ := h
  exact ⟨_, rfl, stepArrayAt_ok ho h2 hcs, rfl⟩
 case h_21 t parts ho =>
  simp only [ho, Option.some.injEq] at hl; subst hl
  obtain ⟨s2, h2, h⟩ := Option.map_eq_some_iff.1 h
  simp only [Prod.mk.injEq] at h; obtain ⟨rfl, _, _, rfl⟩ := h
  exact ⟨_, rfl, stepBuild_ok ho h2, rfl⟩
 case h_25 args ty ho =>
  simp only [ho] at hl
  split at h
  ·
   rename_i x t hargs ht
   rw [hargs] at hl
   simp only [Option.some.injEq] at hl; subst hl
   obtain ⟨s2, h2, h⟩ := Option.map_eq_some_iff.1 h
   simp only [Prod.mk.injEq] at h; obtain ⟨rfl, _, _, rfl⟩ := h
   have : args = #[x] := by rw [← Array.toArray_toList (xs := args), hargs]
   subst this
   exact ⟨_, rfl, stepLen_ok ho ht h2, rfl⟩
  · cases h
 case h_28 args ty ho =>
  simp only [ho, Option.some.injEq] at hl; subst hl
  obtain ⟨s2, h2, h⟩ := Option.map_eq_some_iff.1 h
  simp only [Prod.mk.injEq] at h; obtain ⟨rfl, _, _, rfl⟩ := h
  exact ⟨_, rfl, stepMax_ok ho h2, rfl⟩
 case h_29 args ty ho =>
  simp only [ho, Option.some.injEq] at hl; subst hl
  obtain ⟨s2, h2, h⟩ := Option.map_eq_some_iff.1 h
  simp only [Prod.mk.injEq] at h; obtain ⟨rfl, _, _, rfl⟩ := h
  exact ⟨_, rfl, stepMin_ok ho h2, rfl⟩
 case h_30 t m k ok ho =>
  simp only [ho, Option.some.injEq] at hl; subst hl
  split at h
  ·
   obtain ⟨⟨s2, c2⟩, h2, h⟩ := Option.map_eq_some_iff.1 h
   simp only [Prod.mk.injEq] at h; obtain ⟨rfl, rfl, _, rfl⟩ := h
   exact ⟨_, rfl, stepLookup_ok ho h2 hcs, rfl⟩
  · cases h
 case h_35 => cases h
 all_goals (rename_i ho; simp [ho] at hl)
theorem step_ok {orc : Orc} (horc : OrcOK P orc) {o : Oper} {dec dec' : List Bool} {cs : List Prop} {fr : List Nat} (h : step P orc o s dec = some (s', cs, dec', fr)) (hcs : Conds cs) : StepOK P orc.gl fr o s s' := by
 cases hl : lightKind P orc o s with
 | some ld =>
  obtain ⟨y, rfl, h1, rfl⟩ := step_light h hcs hl
  exact h1.step
 | none =>
  unfold step at h
  unfold lightKind at hl
  split at h
  case h_4 T x ho =>
   obtain ⟨s2, h2, h⟩ := Option.map_eq_some_iff.1 h
   simp only [Prod.mk.injEq] at h; obtain ⟨rfl, _, _, rfl⟩ := h
   exact stepBox_ok ho h2
  case h_5 T ho =>
   obtain ⟨s2, h2, h⟩ := Option.map_eq_some_iff.1 h
   simp only [Prod.mk.injEq] at h; obtain ⟨rfl, _, _, rfl⟩ := h
   exact stepAlloc_ok ho h2
  case h_7 t p x ho =>
   split at h
   ·
    rename_i hd
    obtain ⟨⟨s2, c2⟩, h2, h⟩ := Option.map_eq_some_iff.1 h
    simp only [Prod.mk.injEq] at h; obtain ⟨rfl, rfl, _, rfl⟩ := h
    exact stepStore_ok ho (by simpa using hd) h2 hcs
   · cases h
  case h_18 src dst x ho =>
   split at h
   ·
    rename_i r hr
    simp [ho, hr] at hl
   ·
    obtain ⟨⟨s2, c2⟩, h2, h⟩ := Option.map_eq_some_iff.1 h
    simp only [Prod.mk.injEq] at h; obtain ⟨rfl, rfl, _, rfl⟩ := h
    exact stepBytes_ok ho h2 hcs
  case h_22 t len parts ho =>
   split at h
   ·
    rename_i s2 h2
    simp only [Option.some.injEq, Prod.mk.injEq] at h; obtain ⟨rfl, _, _, rfl⟩ := h
    exact stepBuildSlice_ok ho h2
   ·
    obtain ⟨s2, h2, h⟩ := Option.map_eq_some_iff.1 h
    simp only [Prod.mk.injEq] at h; obtain ⟨rfl, _, _, rfl⟩ := h
    constructor
    intro C E a w next Q hP hG hsim hn
    exact (stepBuildSlice_ok ho h2).out next Q hP hG (hsim.freeze _) fun E' a' w' hs hkp => hn E' a' w' hs (by
     have := Kp.trans (dropTh_kp hsim.fit (fun k => (rowKeys s.heap (parts.toList.map fun p => s.ev p.2)).any (· == k)) (thaw s fun k => (rowKeys s.heap (parts.toList.map fun p => s.ev p.2)).any (· == k)) []) hkp
     rwa [List.nil_append] at this)
  case h_23 t l c ho =>
   obtain ⟨⟨s2, c2⟩, h2, h⟩ := Option.map_eq_some_iff.1 h
   simp only [Prod.mk.injEq] at h; obtain ⟨rfl, rfl, _, rfl⟩ := h
   exact stepMakeSlice_ok ho h2 hcs
  case h_24 f args ty ho =>
   obtain ⟨⟨s2, c2, fr2⟩, h2, h⟩ := Option.map_eq_some_iff.1 h
   simp only [Prod.mk.injEq] at h; obtain ⟨rfl, rfl, _, rfl⟩ := h
   exact stepCall_ok horc ho h2 hcs
  case h_25 args ty ho =>
   split at h
   ·
    rename_i x t hargs ht
    simp [ho, hargs] at hl
   · cases h
  case h_26 args ty ho =>
   split at h
   ·
    rename_i x y t t' hargs hty
    obtain ⟨⟨s2, c2⟩, h2, h⟩ := Option.map_eq_some_iff.1 h
    simp only [Prod.mk.injEq] at h; obtain ⟨rfl, rfl, _, rfl⟩ := h
    have h3 : args = #[x, y] := by rw [← Array.toArray_toList (xs := args), hargs]
    have h4 : ty = #[t, t'] := by rw [← Array.toArray_toList (xs := ty), hty]
    subst h3; subst h4
    exact stepAppend_ok ho h2 hcs
   · cases h
  case h_27 args ty ho =>
   split at h
   ·
    rename_i x y t t' hargs hty
    obtain ⟨s2, h2, h⟩ := Option.map_eq_some_iff.1 h
    simp only [Prod.mk.injEq] at h; obtain ⟨rfl, _, _, rfl⟩ := h
    have h3 : args = #[x, y] := by rw [← Array.toArray_toList (xs := args), hargs]
    have h4 : ty = #[t, t'] := by rw [← Array.toArray_toList (xs := ty), hty]
    subst h3; subst h4
    exact stepCopy_ok ho h2
   · cases h
  case h_31 t m k x ho =>
   split at h
   ·
    rename_i hd
    obtain ⟨s2, h2, h⟩ := Option.map_eq_some_iff.1 h
    simp only [Prod.mk.injEq] at h; obtain ⟨rfl, rfl, _, rfl⟩ := h
    exact stepMapUpdate_ok (.inl ho) (by simpa using hd) h2
   · cases h
  case h_32 t m k x ho =>
   split at h
   ·
    rename_i hd
    obtain ⟨s2, h2, h⟩ := Option.map_eq_some_iff.1 h
    simp only [Prod.mk.injEq] at h; obtain ⟨rfl, rfl, _, rfl⟩ := h
    exact stepMapUpdate_ok (.inr ho) (by simpa using hd) h2
   · cases h
  case h_33 t ho =>
   obtain ⟨s2, h2, h⟩ := Option.map_eq_some_iff.1 h
   simp only [Prod.mk.injEq] at h; obtain ⟨rfl, rfl, _, rfl⟩ := h
   exact stepMakeMap_ok ho h2
  case h_34 args ty ho =>
   split at h
   ·
    rename_i x t hargs ht
    obtain ⟨s2, h2, h⟩ := Option.map_eq_some_iff.1 h
    simp only [Prod.mk.injEq] at h; obtain ⟨rfl, rfl, _, rfl⟩ := h
    have h3 : args = #[x] := by rw [← Array.toArray_toList (xs := args), hargs]
    subst h3
    exact stepClear_ok ho ht h2
   · cases h
  case h_35 => cases h
  all_goals (rename_i ho; simp [ho] at hl)
end Go.Eng

namespace Go.Eng
open Go Go.RowKit Go.Lib
def forceV {β : Type} (v : Value) (k : Value → β) : β :=
 match v with
 | .int a b => k (.int a b)
 | .bool b => k (.bool b)
 | .string s => k (.string s)
 | .pointer p => k (.pointer p)
 | v => k v
theorem forceV_eq {β : Type} (v : Value) (k : Value → β) : forceV v k = k v := by cases v <;> rfl
mutual
def forceD {β : Type} : D → (D → β) → β
 | .raw v, k => forceV v fun v => k (.raw v)
 | .list sz n el, k => k (.list sz n el)
 | .agg cs, k => forceDs cs fun cs => k (.agg cs)
def forceDs {β : Type} : List D → (List D → β) → β
 | [], k => k []
 | x :: xs, k => forceD x fun x => forceDs xs fun xs => k (x :: xs)
end
mutual
theorem forceD_eq {β : Type} : ∀ (x : D) (k : D → β), forceD x k = k x
 | .raw v, k => by simp only [forceD, forceV_eq]
 | .list sz n el, k => by simp only [forceD]
 | .agg cs, k => by simp only [forceD, forceDs_eq cs]
theorem forceDs_eq {β : Type} : ∀ (xs : List D) (k : List D → β), forceDs xs k = k xs
 | [], k => by simp only [forceDs]
 | x :: xs, k => by simp only [forceDs, forceD_eq x, forceDs_eq xs]
end
mutual
def forceA {β : Type} : AV → (AV → β) → β
 | .d x, k => forceD x fun x => k (.d x)
 | .ref a b, k => k (.ref a b)
 | .own a, k => k (.own a)
 | .known b, k => k (.known b)
 | .dead, k => k .dead
 | .fn f a b, k => forceAs a fun a => forceAs b fun b => k (.fn f a b)
 | .tup xs, k => forceAs xs fun xs => k (.tup xs)
 | .agg xs, k => forceAs xs fun xs => k (.agg xs)
 | .refI a b c d e f, k => k (.refI a b c d e f)
 | .sub a b c d e, k => k (.sub a b c d e)
 | .osl a b c d e, k => k (.osl a b c d e)
 | .mp a, k => k (.mp a)
 | .cptr cs, k => forceDs cs fun cs => k (.cptr cs)
 | .el a b c d, k => k (.el a b c d)
def forceAs {β : Type} : List AV → (List AV → β) → β
 | [], k => k []
 | x :: xs, k => forceA x fun x => forceAs xs fun xs => k (x :: xs)
end
mutual
theorem forceA_eq {β : Type} : ∀ (x : AV) (k : AV → β), forceA x k = k x
 | .d x, k => by simp only [forceA, forceD_eq]
 | .ref a b, k => by simp only [forceA]
 | .own a, k => by simp only [forceA]
 | .known b, k => by simp only [forceA]
 | .dead, k => by simp only [forceA]
 | .fn f a b, k => by simp only [forceA, forceAs_eq a, forceAs_eq b]
 | .tup xs, k => by simp only [forceA, forceAs_eq xs]
 | .agg xs, k => by simp only [forceA, forceAs_eq xs]
 | .refI a b c d e f, k => by simp only [forceA]
 | .sub a b c d e, k => by simp only [forceA]
 | .osl a b c d e, k => by simp only [forceA]
 | .mp a, k => by simp only [forceA]
 | .cptr cs, k => by simp only [forceA, forceDs_eq]
 | .el a b c d, k => by simp only [forceA]
theorem forceAs_eq {β : Type} : ∀ (xs : List AV) (k : List AV → β), forceAs xs k = k xs
 | [], k => by simp only [forceAs]
 | x :: xs, k => by simp only [forceAs, forceA_eq x, forceAs_eq xs]
end
def forceT {β : Type} (t : Th) (k : Th → β) : β :=
 match t with
 | .obj T cs => forceAs cs fun cs => k (.obj T cs)
 | .row T sz n el => k (.row T sz n el)
 | .mp M => k (.mp M)
theorem forceT_eq {β : Type} (t : Th) (k : Th → β) : forceT t k = k t := by cases t <;> simp [forceT, forceAs_eq]
def forceH {β : Type} : List (Nat × Th) → (List (Nat × Th) → β) → β
 | [], k => k []
 | (j, t) :: r, k => forceT t fun t => forceH r fun r => k ((j, t) :: r)
theorem forceH_eq {β : Type} : ∀ (H : List (Nat × Th)) (k : List (Nat × Th) → β), forceH H k = k H
 | [], k => rfl
 | (j, t) :: r, k => by simp only [forceH, forceT_eq, forceH_eq r]
def forceS {β : Type} (s : St) (k : St → β) : β :=
 match s with
 | ⟨b, ts, H⟩ => forceAs ts fun ts => forceH H fun H => k ⟨b, ts, H⟩
theorem forceS_eq {β : Type} (s : St) (k : St → β) : forceS s k = k s := by cases s; simp [forceS, forceAs_eq, forceH_eq]
def frcV {β : Type} (v : Value) (k : Value → β) : β :=
 match v with
 | .int a b => k (.int a b)
 | .bool b => k (.bool b)
 | .string s => k (.string s)
 | .pointer p => k (.pointer p)
 | v => k v
theorem frcV_eq {β : Type} (v : Value) (k : Value → β) : frcV v k = k v := by cases v <;> rfl
mutual
def frcD {β : Type} : D → (D → β) → β
 | .raw v, k => frcV v fun v => k (.raw v)
 | .list sz n el, k => k (.list sz n el)
 | .agg cs, k => frcDs cs fun cs => k (.agg cs)
def frcDs {β : Type} : List D → (List D → β) → β
 | [], k => k []
 | x :: xs, k => frcD x fun x => frcDs xs fun xs => k (x :: xs)
end
mutual
theorem frcD_eq {β : Type} : ∀ (x : D) (k : D → β), frcD x k = k x
 | .raw v, k => by simp only [frcD, frcV_eq]
 | .list sz n el, k => by simp only [frcD]
 | .agg cs, k => by simp only [frcD, frcDs_eq cs]
theorem frcDs_eq {β : Type} : ∀ (xs : List D) (k : List D → β), frcDs xs k = k xs
 | [], k => by simp only [frcDs]
 | x :: xs, k => by simp only [frcDs, frcD_eq x, frcDs_eq xs]
end
mutual
def frcA {β : Type} : AV → (AV → β) → β
 | .d x, k => frcD x fun x => k (.d x)
 | .ref a b, k => k (.ref a b)
 | .own a, k => k (.own a)
 | .known b, k => k (.known b)
 | .dead, k => k .dead
 | .fn f a b, k => frcAs a fun a => frcAs b fun b => k (.fn f a b)
 | .tup xs, k => frcAs xs fun xs => k (.tup xs)
 | .agg xs, k => frcAs xs fun xs => k (.agg xs)
 | .refI a b c d e f, k => k (.refI a b c d e f)
 | .sub a b c d e, k => k (.sub a b c d e)
 | .osl a b c d e, k => k (.osl a b c d e)
 | .mp a, k => k (.mp a)
 | .cptr cs, k => frcDs cs fun cs => k (.cptr cs)
 | .el a b c d, k => k (.el a b c d)
def frcAs {β : Type} : List AV → (List AV → β) → β
 | [], k => k []
 | x :: xs, k => frcA x fun x => frcAs xs fun xs => k (x :: xs)
end
mutual
theorem frcA_eq {β : Type} : ∀ (x : AV) (k : AV → β), frcA x k = k x
 | .d x, k => by simp only [frcA, frcD_eq]
 | .ref a b, k => by simp only [frcA]
 | .own a, k => by simp only [frcA]
 | .known b, k => by simp only [frcA]
 | .dead, k => by simp only [frcA]
 | .fn f a b, k => by simp only [frcA, frcAs_eq a, frcAs_eq b]
 | .tup xs, k => by simp only [frcA, frcAs_eq xs]
 | .agg xs, k => by simp only [frcA, frcAs_eq xs]
 | .refI a b c d e f, k => by simp only [frcA]
 | .sub a b c d e, k => by simp only [frcA]
 | .osl a b c d e, k => by simp only [frcA]
 | .mp a, k => by simp only [frcA]
 | .cptr cs, k => by simp only [frcA, frcDs_eq]
 | .el a b c d, k => by simp only [frcA]
theorem frcAs_eq {β : Type} : ∀ (xs : List AV) (k : List AV → β), frcAs xs k = k xs
 | [], k => by simp only [frcAs]
 | x :: xs, k => by simp only [frcAs, frcA_eq x, frcAs_eq xs]
end
def frcT {β : Type} (t : Th) (k : Th → β) : β :=
 match t with
 | .obj T cs => frcAs cs fun cs => k (.obj T cs)
 | .row T sz n el => k (.row T sz n el)
 | .mp M => k (.mp M)
theorem frcT_eq {β : Type} (t : Th) (k : Th → β) : frcT t k = k t := by cases t <;> simp [frcT, frcAs_eq]
def frcH {β : Type} : List (Nat × Th) → (List (Nat × Th) → β) → β
 | [], k => k []
 | (j, t) :: r, k => frcT t fun t => frcH r fun r => k ((j, t) :: r)
theorem frcH_eq {β : Type} : ∀ (H : List (Nat × Th)) (k : List (Nat × Th) → β), frcH H k = k H
 | [], k => rfl
 | (j, t) :: r, k => by simp only [frcH, frcT_eq, frcH_eq r]
def frcS {β : Type} (s : St) (k : St → β) : β :=
 match s with
 | ⟨b, ts, H⟩ => frcAs ts fun ts => frcH H fun H => k ⟨b, ts, H⟩
theorem frcS_eq {β : Type} (s : St) (k : St → β) : frcS s k = k s := by cases s; simp [frcS, frcAs_eq, frcH_eq]
end Go.Eng
