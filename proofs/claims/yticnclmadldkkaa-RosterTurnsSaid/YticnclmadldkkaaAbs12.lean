/-
  Part of the engine: abstract states of a call (values as trees, objects and rows of the call's own), and that each operation of the model does to the world what it does to them. No condition.
-/
import Derived.Test.YticnclmadldkkaaAbs11
import Derived.Tactics
namespace Go.Abs
open Go Go.RowKit
variable {P : Program} {B : Nat} {w0 : World} {N0 : Nat → Prop} {E E' : Env} {s s' : St} {a : Act} {w w' : World}

/-! ### what is forgotten -/
/-- Slots, objects, rows that are in the lists stay; of the others nothing is known any more. -/
def keepT (ts : List Nat) : Nat → List AV → List AV
  | _, [] => []
  | i, x :: xs => (if ts.contains i then x else .dead) :: keepT ts (i + 1) xs
def keepO {α : Type} (ks : List Nat) : Nat → List (Option α) → List (Option α)
  | _, [] => []
  | i, x :: xs => (if ks.contains i then x else none) :: keepO ks (i + 1) xs
def St.keep (s : St) (ts os rs : List Nat) : St := { tmps := keepT ts 0 s.tmps, objs := keepO os 0 s.objs, rows := keepO rs 0 s.rows }

/-- s' says no more than s. -/
structure St.Weak (s s' : St) : Prop where
  len : s'.tmps.length = s.tmps.length
  tmp : ∀ (i : Nat) (x : AV), s'.tmps[i]? = some x → x = .dead ∨ s.tmps[i]? = some x
  obj : ∀ k o, s'.obj k = some o → s.obj k = some o
  row : ∀ r R, s'.row r = some R → s.row r = some R

theorem Sim.weak (h : Sim B w0 N0 E s a w) (hw : s.Weak s') : Sim B w0 N0 E s' a w := by
  have hM : ∀ b, Mut E s' b → w.heap.size ≤ b ∨ Mut E s b := by
    rintro b (⟨k, o, ho, he⟩ | ⟨r, R, hR, hb⟩)
    · exact .inr (.inl ⟨k, o, hw.obj k o ho, he⟩)
    · exact .inr (.inr ⟨r, R, hw.row r R hR, hb⟩)
  have hS : ∀ b, Stable B N0 E s w b → Stable B N0 E s' w b := Stable.step (Nat.le_refl _) hM
  have hC : ∀ a v, Stable B N0 E s w a.block → w.cell? a = some v → w.cell? a = some v := fun _ _ _ h => h
  refine ⟨⟨h.fit.low, h.fit.below, h.fit.size, fun k o ho => ?_, fun r R hR => ?_, ?_, ?_, ?_⟩, ?_, h.df⟩
  · obtain ⟨h1, vs, h2, h3⟩ := h.fit.obj k o (hw.obj k o ho)
    exact ⟨h1, vs, h2, VAs.imp hS hC _ _ (fun _ => .inl rfl) (fun _ => .inl rfl) h3⟩
  · obtain ⟨vs, h1, h2⟩ := h.fit.row r R (hw.row r R hR)
    exact ⟨vs, h1, fun i hi => VC.imp hS hC _ _ (h2 i hi)⟩
  · exact fun k k' o o' h1 h2 => h.fit.oo k k' o o' (hw.obj _ _ h1) (hw.obj _ _ h2)
  · exact fun r r' R R' h1 h2 => h.fit.rr r r' R R' (hw.row _ _ h1) (hw.row _ _ h2)
  · exact fun r R k o h1 h2 => h.fit.ro r R k o (hw.row _ _ h1) (hw.obj _ _ h2)
  · refine VAs.of_get (by rw [hw.len]; exact h.tm.length) fun i x v hx hv => ?_
    rcases hw.tmp i x hx with rfl | h1
    · unfold VA; trivial
    · obtain ⟨u, h2, h3⟩ := h.tm.get i x h1
      rw [h2] at hv; cases hv
      exact VA.imp hS hC _ _ (fun _ => .inl rfl) (fun _ => .inl rfl) h3

theorem keepT_get (ts : List Nat) : ∀ (xs : List AV) (n i : Nat) (x : AV), (keepT ts n xs)[i]? = some x → x = .dead ∨ xs[i]? = some x
  | [], n, i, x, h => by simp [keepT] at h
  | y :: ys, n, 0, x, h => by
    simp only [keepT, List.getElem?_cons_zero, Option.some.injEq] at h ⊢
    split at h
    · exact .inr h
    · exact .inl h.symm
  | y :: ys, n, i + 1, x, h => by
    simp only [keepT, List.getElem?_cons_succ] at h ⊢
    exact keepT_get ts ys (n + 1) i x h
theorem keepT_len (ts : List Nat) : ∀ (xs : List AV) (n : Nat), (keepT ts n xs).length = xs.length
  | [], n => rfl
  | y :: ys, n => by simp [keepT, keepT_len ts ys]
theorem keepO_get {α : Type} (ks : List Nat) : ∀ (xs : List (Option α)) (n i : Nat) (x : α), (keepO ks n xs).getD i none = some x → xs.getD i none = some x
  | [], n, i, x, h => by simp [keepO] at h
  | y :: ys, n, 0, x, h => by
    simp only [keepO, List.getD_cons_zero] at h ⊢
    split at h
    · exact h
    · cases h
  | y :: ys, n, i + 1, x, h => by
    simp only [keepO, List.getD_cons_succ] at h ⊢
    exact keepO_get ks ys (n + 1) i x h
theorem St.keep_weak (s : St) (ts os rs : List Nat) : s.Weak (s.keep ts os rs) :=
  ⟨keepT_len _ _ _, fun i x h => keepT_get ts _ 0 i x h, fun k o h => keepO_get os _ 0 k o h, fun r R h => keepO_get rs _ 0 r R h⟩

def Out.keep (ts os rs : List Nat) : Out → Out
  | .head k s => .head k (s.keep ts os rs)
  | .ret s => .ret (s.keep ts os rs)
  | x => x
theorem OutOK.keep {f : FuncId} {R : Ending → World → Prop} {ts os rs : List Nat} {o : Out} (h : OutOK P f R B w0 N0 (o.keep ts os rs)) : OutOK P f R B w0 N0 o := by
  cases o with
  | head k s => exact fun E a w hs => h E a w (hs.weak (St.keep_weak s ts os rs))
  | ret s => exact fun E a w hs => h E a w (hs.weak (St.keep_weak s ts os rs))
  | ask b => exact h
  | bad k i => exact h

/-- A path: what it comes to, and what holds on it. -/
def path (P : Program) (orc : Orc) (n : Nat) (k : List Item) (s : St) (dec : List Bool) (ts os rs : List Nat) : Out × List Prop :=
  let r := run P orc n k s dec
  (r.1.keep ts os rs, r.2)
theorem path_ok {orc : Orc} (horc : OrcOK P orc) {f : FuncId} {R : Ending → World → Prop} {n : Nat} {k : List Item} {s : St} {dec : List Bool} {ts os rs : List Nat} {out : Out} {cs : List Prop}
    (h : path P orc n k s dec ts os rs = (out, cs)) (hcs : Conds cs) (hout : OutOK P f R B w0 N0 out) (hsim : Sim B w0 N0 E s a w) : Goes P f k R a w := by
  have h1 : (run P orc n k s dec).1.keep ts os rs = out := congrArg Prod.fst h
  have h2 : (run P orc n k s dec).2 = cs := congrArg Prod.snd h
  exact run_ok' horc n k s dec _ rfl (by rw [h2]; exact hcs) (OutOK.keep (by rw [h1]; exact hout)) hsim

/-! ### the results -/
def retOne (P : Program) (s : St) : ResultVar → Option D
  | .tmp t => s.argD (s.tmps.getD t .dead)
  | .cell p t => match s.tmps.getD p .dead with
    | .ref k off => match stepLoad P t (.ref k off) s with
      | some y => s.argD y
      | none => none
    | _ => none
def retOf : List D → Ret
  | [] => .void
  | [x] => .one x
  | xs => .tup xs
def retD (P : Program) (rs : List ResultVar) (s : St) : Option Ret := (rs.mapM (retOne P s)).map retOf

theorem argD_ret (hsim : Sim B w0 N0 E s a w) {x : AV} {v : Value} {d : D} (hx : VA E w (Stable B N0 E s w) x v) (h : s.argD x = some d) : VD w (fun b => (N0 b ∨ B ≤ b) ∧ b < w.heap.size) d v := by
  cases x with
  | own r =>
    simp only [St.argD] at h
    obtain ⟨R, hR, rfl⟩ := Option.map_eq_some_iff.1 h
    unfold VA at hx
    obtain ⟨vs, h1, h2⟩ := hsim.fit.row r R hR
    rw [hx.1]
    exact own_VD h1 (fun b hb => ⟨.inr (h1.lt b hb).1, (h1.lt b hb).2⟩) fun i hi => VC.imp (fun b hb => ⟨hb.2.1, hb.1⟩) (fun _ _ _ h => h) _ _ (h2 i hi)
  | _ => exact VD.imp (fun b hb => ⟨hb.2.1, hb.1⟩) (fun _ _ _ h => h) ((argD_ok hsim hx h).2 rfl)
theorem loadVar_ref (hsim : Sim B w0 N0 E s a w) {t : TypeId} {k off : Nat} {y : AV} (h : stepLoad P t (.ref k off) s = some y) : ∃ v, (loadVar t ⟨E.σ k, off, none⟩).run P w = .ok v w ∧ VA E w (Stable B N0 E s w) y v := by
  simp only [stepLoad] at h
  split at h
  · rename_i ob hob
    obtain ⟨_, vs, h2, h3⟩ := hsim.fit.obj k ob hob
    obtain ⟨v, h4, h5⟩ := loadAV_run (P := P) (w := w) (ad := ⟨E.σ k, off, none⟩) h h3
    exact ⟨v, h4 w (fun j u hu => by rw [addr_mk_add, heap_cell h2]; exact hu), h5⟩
  · cases h
def retSem (tmps : Array Value) : ResultVar → Sem Value
  | .tmp t => pure (tmps.getD t undef)
  | .cell a t => do loadVar t (← asAddr (tmps.getD a undef))
theorem ret_list (hsim : Sim B w0 N0 E s a w) : ∀ (rs : List ResultVar) (ds : List D), rs.mapM (retOne P s) = some ds →
    ∃ vs : List Value, (rs.mapM (retSem a.tmps)).run P w = .ok vs w ∧ vs.length = ds.length ∧ ∀ (i : Nat) (x : D) (v : Value), ds[i]? = some x → vs[i]? = some v → VD w (fun b => (N0 b ∨ B ≤ b) ∧ b < w.heap.size) x v
  | [], ds, h => by
    simp at h; subst h
    exact ⟨[], by simp, rfl, fun i x v hx => by simp at hx⟩
  | r :: rs, ds, h => by
    rw [List.mapM_cons] at h
    simp only [Option.bind_eq_bind, Option.bind_eq_some_iff, Option.pure_def, Option.some.injEq] at h
    obtain ⟨d, hd, ds', hds, rfl⟩ := h
    obtain ⟨vs, h1, h2, h3⟩ := ret_list hsim rs ds' hds
    have key : ∃ v, (retSem a.tmps r).run P w = .ok v w ∧ VD w (fun b => (N0 b ∨ B ≤ b) ∧ b < w.heap.size) d v := by
      cases r with
      | tmp t => exact ⟨a.tmps.getD t undef, rfl, argD_ret hsim (hsim.ev (.tmp t)) hd⟩
      | cell p t =>
        have hp := hsim.ev (.tmp p)
        simp only [retOne] at hd
        have e : s.ev (.tmp p) = s.tmps.getD p .dead := rfl
        split at hd
        · rename_i k off hk
          split at hd
          · rename_i y hy
            rw [e, hk] at hp
            unfold VA at hp
            obtain ⟨v, h4, h5⟩ := loadVar_ref (P := P) hsim hy
            refine ⟨v, ?_, argD_ret hsim h5 hd⟩
            have hp' : a.tmps.getD p undef = .pointer (some ⟨E.σ k, off, none⟩) := hp
            simp only [retSem, hp', asAddr]
            simpa using h4
          · cases hd
        · cases hd
    obtain ⟨v, h4, h5⟩ := key
    refine ⟨v :: vs, by rw [List.mapM_cons]; simp [h4, h1], by simp [h2], fun i x u hx hu => ?_⟩
    cases i with
    | zero => simp at hx hu; subst hx; subst hu; exact h5
    | succ i => exact h3 i x u (by simpa using hx) (by simpa using hu)
theorem ret_run (hsim : Sim B w0 N0 E s a w) {fn : Func} {r : Ret} (h : retD P fn.results.toList s = some r) :
    ∃ v, (results fn a.tmps).run P w = .ok v w ∧ VRet w (fun b => (N0 b ∨ B ≤ b) ∧ b < w.heap.size) r v := by
  unfold retD at h
  obtain ⟨ds, hds, rfl⟩ := Option.map_eq_some_iff.1 h
  obtain ⟨vs, h1, h2, h3⟩ := ret_list (P := P) hsim _ _ hds
  have hres : (results fn a.tmps).run P w = .ok (if h : vs.toArray.size = 1 then vs.toArray[0] else .tuple vs.toArray) w := by
    have e : fn.results.mapM (retSem a.tmps) = List.toArray <$> fn.results.toList.mapM (retSem a.tmps) := Array.mapM_eq_mapM_toList ..
    have e2 : results fn a.tmps = (do let vs ← fn.results.mapM (retSem a.tmps); pure (if h : vs.size = 1 then vs[0] else .tuple vs)) := by
      unfold results
      congr 1
    rw [e2, e]
    simp [h1]
  refine ⟨_, hres, ?_⟩
  match ds, vs, h2, h3 with
  | [], [], _, _ => simp [retOf, VRet]
  | [x], [v], _, h3 => simp only [retOf, VRet]; exact h3 0 x v rfl rfl
  | x :: y :: ds, u :: v :: vs, h2, h3 =>
    simp only [retOf, VRet]
    exact ⟨u :: v :: vs, by simp, h2, h3⟩

/-! ### a function's contract -/
def initSt (n : Nat) (args : List D) : St :=
  { tmps := args.map .d ++ List.replicate (n - args.length) .dead, objs := List.replicate n none, rows := List.replicate n none }
theorem getD_replicate_none {α : Type} (n k : Nat) : (List.replicate n (none : Option α)).getD k none = none := by
  rw [List.getD_eq_getElem?_getD, List.getElem?_replicate]; split <;> rfl
/-- What a contract asks of the ending. -/
def RPure (w0 : World) (N0 : Nat → Prop) (r : Ret) (e : Ending) (w' : World) : Prop :=
  ∃ v, e = .returned v ∧ VRet w' (fun b => N0 b ∨ (w0.heap.size ≤ b ∧ b < w'.heap.size)) r v ∧ Below w0.heap.size w0 w'

theorem initSim {n : Nat} {args : List D} {vs : List Value} (hN : ∀ b, N0 b → b < w.heap.size) (hv : VTs w N0 args vs) :
    Sim w.heap.size w N0 ⟨fun _ => 0, fun _ => undef⟩ (initSt n args) { tmps := vs.toArray ++ Array.replicate (n - vs.length) undef, defers := [] } w := by
  have ho : ∀ k, (initSt n args).obj k = none := fun k => getD_replicate_none n k
  have hr : ∀ k, (initSt n args).row k = none := fun k => getD_replicate_none n k
  have hM : ∀ b, ¬ Mut ⟨fun _ => 0, fun _ => undef⟩ (initSt n args) b := by
    rintro b (⟨k, o, h, _⟩ | ⟨k, o, h, _⟩)
    · rw [ho] at h; cases h
    · rw [hr] at h; cases h
  refine ⟨⟨hN, Below.refl _ _, Nat.le_refl _, fun k o h => ?_, fun k o h => ?_, fun k k' o o' h => ?_, fun k k' o o' h => ?_, fun r R k o h => ?_⟩, ?_, rfl⟩
  · rw [ho] at h; cases h
  · rw [hr] at h; cases h
  · rw [ho] at h; cases h
  · rw [hr] at h; cases h
  · rw [hr] at h; cases h
  have e : ({ tmps := vs.toArray ++ Array.replicate (n - vs.length) undef, defers := [] } : Act).tmps.toList = vs ++ List.replicate (n - args.length) undef := by simp [hv.1]
  rw [e]
  unfold initSt
  refine VAs.append (VAs.of_get (by simp [hv.1]) fun i x v hx hu => ?_) (VAs.of_get (by simp) fun i x v hx hu => ?_)
  · rw [List.getElem?_map, Option.map_eq_some_iff] at hx
    obtain ⟨d, hd, rfl⟩ := hx
    unfold VA
    exact VD.imp (fun b hb => ⟨hN b hb, .inl hb, hM b⟩) (fun _ _ _ h => h) (hv.2 i d v hd hu)
  · rw [List.getElem?_replicate] at hx
    split at hx
    · cases hx; unfold VA; trivial
    · cases hx

/-- THE CONTRACT OF A FUNCTION, from its first state on. -/
theorem pure_of {g : FuncId} {fn : Func} {c : Code} {args : List D} {r : Ret} (hf : P.funcs[g]? = some fn) (hb : fn.body = some c)
    (h : ∀ {w : World} {N : Nat → Prop} {E : Env} {a : Act}, Sim w.heap.size w N E (initSt fn.ntmps args) a w → Goes P g [.code c] (RPure w N r) a w) : PureSpec P g args r := by
  intro w N vs hN hv cs
  have hs := initSim (n := fn.ntmps) hN hv
  let b : Frame := { (default : Frame) with fn := g, kind := .normal }
  obtain ⟨e, w', fr, h1, h2, h3, h4⟩ := h hs b cs rfl rfl
  refine ⟨e, w', fr, h1, ?_, h3, h4⟩
  have henter : Frame.enter P g vs.toArray .normal = b.at { tmps := vs.toArray ++ Array.replicate (fn.ntmps - vs.length) undef, defers := [] } [.code c] := by
    simp [Frame.enter, Frame.at, hf, hb, b]
  rw [henter]
  exact h2

/-- Where a path ends in the return. -/
theorem ret_ok {g : FuncId} {fn : Func} {r : Ret} {w0 : World} (hf : P.funcs[g]? = some fn) (h : retD P fn.results.toList s = some r) : OutOK P g (RPure w0 N0 r) w0.heap.size w0 N0 (.ret s) := by
  intro E a w hsim
  obtain ⟨v, h1, h2⟩ := ret_run hsim h
  exact ⟨fn, v, hf, h1, v, rfl, VRet.imp (fun b hb => hb.1.imp id fun h => ⟨h, hb.2⟩) h2, hsim.fit.below⟩
end Go.Abs
