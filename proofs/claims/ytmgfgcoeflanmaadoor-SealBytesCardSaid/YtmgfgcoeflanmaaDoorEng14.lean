/-
  Part of the engine: abstract states of a call (values as trees, things of the call's own), and that each operation of the model does to the world what it does to them. No condition.
-/
import Derived.Test.YtmgfgcoeflanmaaDoorEng13
import Derived.Calls
import Derived.OrdersHeld
namespace Go.Eng
open Go Go.RowKit Go.Lib
variable {P : Program} {gl : Nat → Option (List D)} {C : Cx} {E E' : Env} {s s' : St} {a : Act} {w w' : World}

/-! ### rows as data -/
theorem row_list {N : Nat → Prop} {T sz n : Nat} {el : Nat → D} {v : Value} {vs : List Value} (h : OwnsR w T sz v n vs) (hN : ∀ b, blk v = some b → N b)
    (hel : ∀ i, i < n → VC w N (el i) ((vs.drop (i * sz)).take sz)) : VD w N (.list sz n el) v := by
  show VC w N (.list sz n el) [v]
  unfold VC
  refine ⟨v, rfl, ?_⟩
  rcases h.2 with ⟨h1, h2⟩ | ⟨g, cap, cur, hv, hg, hnc, hcm, hcs, htk⟩
  · exact .inl ⟨h2, h1⟩
  · obtain ⟨_, _, hc⟩ := h.cells hv
    exact .inr ⟨⟨g, 0, none⟩, cap, vs, hv, hnc, hcm, rfl, hN g (by rw [hv]; rfl), h.1, fun j u hu => by rw [addr_mk_add, Nat.zero_add]; exact hc j u hu, hel⟩
theorem sub_list {N N' : Nat → Prop} {T sz n m lo : Nat} {oc : Option Nat} {el : Nat → D} {k : Nat} {v : Value} {vs : List Value} (h : OwnsR w T sz (E k) m vs) (hN : ∀ b, blk (E k) = some b → N b)
    (hel : ∀ i, i < m → VC w N (el i) ((vs.drop (i * sz)).take sz)) (hx : VA E w N' (.sub k lo n sz oc) v) : VD w N (.list sz n fun i => el (lo + i)) v := by
  unfold VA at hx
  show VC w N _ [v]
  unfold VC
  refine ⟨v, rfl, ?_⟩
  rcases hx with ⟨h3, h4, h5, _⟩ | ⟨g, m', c, o, cp', h3, h4, h5, h6, h7, h8, h9, h10⟩
  · exact .inl ⟨h3, h5⟩
  · obtain ⟨hm, hg, h11⟩ := h.cells h3
    subst hm
    have hcap : c ≤ maxLen := by
      rcases h.2 with ⟨h12, _⟩ | ⟨_, _, _, h12, _, _, h13, _⟩
      · rw [h12] at h3; cases h3
      · rw [h12] at h3; cases h3; exact h13
    have hlen := h.1
    have e1 : (lo + n) * sz ≤ m' * sz := Nat.mul_le_mul_right _ h4
    rw [Nat.add_mul] at e1
    refine .inr ⟨⟨g, o, none⟩, cp', (vs.drop (lo * sz)).take (n * sz), h5, h7, by omega, rfl, hN g (by rw [h3]; rfl), by rw [List.length_take, List.length_drop]; omega, fun j u hu => ?_, fun i hi => ?_⟩
    · rw [List.getElem?_take] at hu
      split at hu
      · rename_i hj
        rw [List.getElem?_drop] at hu
        have hn0 : 0 < n := by
          rcases Nat.eq_zero_or_pos n with e | e
          · subst e; simp at hj
          · exact e
        rw [addr_mk_add, h6 (by omega)]
        exact h11 _ u hu
      · cases hu
    · have := hel (lo + i) (by omega)
      have e3 : (((vs.drop (lo * sz)).take (n * sz)).drop (i * sz)).take sz = (vs.drop ((lo + i) * sz)).take sz := by
        apply List.ext_getElem?
        intro q
        rw [List.getElem?_take, List.getElem?_take]
        by_cases hq : q < sz
        · rw [if_pos hq, if_pos hq, List.getElem?_drop, List.getElem?_take, if_pos (by have := mul_bd hi hq; omega), List.getElem?_drop, List.getElem?_drop]
          congr 1; rw [Nat.add_mul]; omega
        · rw [if_neg hq, if_neg hq]
      rw [e3]; exact this
/-- A row of the keys in G, as data. -/
def thaw1 (s : St) (G : Nat → Bool) (x : AV) : AV :=
  match x with
  | .own k => if G k then match s.th k with
    | some (.row _ sz n el) => .d (.list sz n el)
    | _ => x
    else x
  | .sub k lo n sz _ => if G k then match s.th k with
    | some (.row _ sz' _ el) => if sz' == sz then .d (.list sz n fun i => el (lo + i)) else x
    | _ => x
    else x
  | .osl k off sz n cp => if G k then match s.th k with
    | some (.obj _ cs) => match toDs ((cs.drop off).take (n * sz)) with
      | some ds => if ds.length == n * sz && Nat.ble n cp && Nat.ble cp 9223372036854775807 then .d (.list sz n (segD (!(sz == 1)) sz ds)) else x
      | none => x
    | _ => x
    else x
  | x => x
def rawAVs : List AV → Option (List Value)
  | [] => some []
  | .d (.raw v) :: r => (rawAVs r).map (v :: ·)
  | .known b :: r => (rawAVs r).map (.bool b :: ·)
  | _ => none
def thaw (s : St) (G : Nat → Bool) (x : AV) : AV :=
  match x with
  | .agg xs => let ys := xs.map (thaw1 s G); match toDs ys with
    | some ds => .d (.agg ds)
    | none => .agg ys
  | .fn f p q => match rawAVs p, rawAVs q with
    | some ps, some qs => .d (.raw (.func f ps.toArray qs.toArray))
    | _, _ => .fn f (p.map (thaw1 s G)) (q.map (thaw1 s G))
  | .known b => .d (.raw (.bool b))
  | x => thaw1 s G x
theorem rawAVs_ok {N : Nat → Prop} : ∀ {xs : List AV} {us vs : List Value}, rawAVs xs = some us → VAs E w N xs vs → vs = us
  | [], us, vs, h, k => by simp only [rawAVs, Option.some.injEq] at h; subst h; unfold VAs at k; exact k
  | x :: xs, us, vs, h, k => by
    unfold VAs at k
    obtain ⟨v, vs', rfl, hv, k⟩ := k
    cases x <;> (try simp only [rawAVs, reduceCtorEq] at h)
    case d y =>
      cases y <;> (try simp only [rawAVs, reduceCtorEq] at h)
      obtain ⟨us', h1, rfl⟩ := Option.map_eq_some_iff.1 h
      unfold VA at hv
      rw [(VD_raw_inv hv).1, rawAVs_ok h1 k]
    case known b =>
      obtain ⟨us', h1, rfl⟩ := Option.map_eq_some_iff.1 h
      unfold VA at hv
      subst hv
      rw [rawAVs_ok h1 k]
/-- (thaw) Where the blocks of G's things are data. -/
theorem thaw1_VA (hf : Fit C E s w) {N' : Nat → Prop} {G : Nat → Bool} (hS : ∀ b, Stable C E s w b → N' b) (hN : ∀ k t, G k = true → s.th k = some t → ∀ b, blk (E k) = some b → N' b)
    {x : AV} {v : Value} (hx : VA E w (Stable C E s w) x v) : VA E w N' (thaw1 s G x) v := by
  have keep : VA E w N' x v := VA.mono hS (fun _ _ _ h => h) hx
  unfold thaw1
  split
  · rename_i k
    split
    · rename_i hG
      split
      · rename_i T sz n el hk
        obtain ⟨vs, h1, h2⟩ := row_of hf hk
        unfold VA at hx ⊢
        rw [hx.1]
        exact row_list h1 (hN k _ hG hk) fun i hi => VC.imp hS (fun _ _ _ h => h) _ _ (h2 i hi)
      · exact keep
    · exact keep
  · rename_i k lo n sz oc
    split
    · rename_i hG
      split
      · rename_i T sz' n' el hk
        split
        · rename_i e
          have e : sz' = sz := by simpa using e
          subst e
          obtain ⟨vs, h1, h2⟩ := row_of hf hk
          have := sub_list h1 (hN k _ hG hk) (fun i hi => VC.imp hS (fun _ _ _ h => h) _ _ (h2 i hi)) hx
          unfold VA
          exact this
        · exact keep
      · exact keep
    · exact keep
  · rename_i k off sz n cp
    split
    · rename_i hG
      split
      · rename_i T cs hk
        split
        · rename_i ds hds
          split
          · rename_i hc
            simp only [Bool.and_eq_true, beq_iff_eq, Nat.ble_eq] at hc
            obtain ⟨b, vs, h1, h2, h3, hb⟩ := obj_of hf hk
            unfold VA at hx ⊢
            obtain ⟨b', h4, h5⟩ := hx
            rw [h1] at h4; cases h4
            have hv := toDs_VCs hds ((h3.drop off).take (n * sz))
            have hv' : VCs w N' ds ((vs.drop off).take (n * sz)) := VCs.imp hS (fun _ _ _ h => h) _ _ hv
            show VC w N' _ [v]
            unfold VC
            refine ⟨v, rfl, ?_⟩
            · refine .inr ⟨⟨b, off, none⟩, cp, (vs.drop off).take (n * sz), h5, hc.1.2, hc.2, rfl, hN k _ hG hk b (by rw [h1]; rfl), by rw [hv.length, hc.1.1], fun j u hu => ?_, fun i hi => segD_VC hv' hc.1.1 (by cases hs1 : (sz == 1) with | true => exact .inr (by simpa using hs1) | false => exact .inl rfl) i hi⟩
              rw [List.getElem?_take] at hu
              split at hu
              · rw [List.getElem?_drop] at hu
                rw [addr_mk_add, heap_cell h2]; exact hu
              · cases hu
          · exact keep
        · exact keep
      · exact keep
    · exact keep
  · exact keep
theorem thaw_VA (hf : Fit C E s w) {N' : Nat → Prop} {G : Nat → Bool} (hS : ∀ b, Stable C E s w b → N' b) (hN : ∀ k t, G k = true → s.th k = some t → ∀ b, blk (E k) = some b → N' b)
    {x : AV} {v : Value} (hx : VA E w (Stable C E s w) x v) : VA E w N' (thaw s G x) v := by
  have h1 : ∀ x v, VA E w (Stable C E s w) x v → VA E w N' (thaw1 s G x) v := fun x v hx => thaw1_VA hf hS hN hx
  unfold thaw
  split
  · rename_i xs
    unfold VA at hx
    obtain ⟨vs, h2, h3, h4⟩ := hx
    have h5 := VAs.map (thaw1 s G) h3 h1
    simp only
    split
    · rename_i ds hds
      unfold VA
      exact ⟨vs, h2, by unfold VC; exact toDs_VCs hds h5⟩
    · unfold VA
      exact ⟨vs, h2, h5, h4⟩
  · rename_i f p q
    unfold VA at hx
    obtain ⟨ps, qs, h2, h3, h4⟩ := hx
    split
    · rename_i ps' qs' hp hq
      unfold VA
      rw [h2, rawAVs_ok hp h3, rawAVs_ok hq h4]
      exact VD_raw rfl
    · unfold VA
      exact ⟨ps, qs, h2, VAs.map _ h3 h1, VAs.map _ h4 h1⟩
  · unfold VA at hx ⊢
    rw [hx]; exact VD_raw rfl
  · exact h1 x v hx
theorem Sim.freeze (h : Sim C E s a w) (G : Nat → Bool) : Sim C E (s.dropTh G (thaw s G)) a w := by
  have st : Step C E E s (s.dropTh G (thaw s G)) w w G _ (thaw s G) := Step.drop' G _
  have hV : ∀ x v, VA E w (Stable C E s w) x v → VA E w (Stable C E (s.dropTh G (thaw s G)) w) (thaw s G x) v := fun x v hx =>
    thaw_VA h.fit st.stable (fun k t hG hk b hb => h.fit.dropped G _ hk hG hb) hx
  exact ⟨h.fit.dropTh G _ fun _ => hV, VAs.map _ h.tm hV, h.df⟩

/-! ### contracts -/
/-- A call's own context: it owns what is handed to it. -/
def cx (P : Program) (gl : Nat → Option (List D)) (w : World) (N : Nat → Prop) (E : Env) (H : List (Nat × Th)) : Cx :=
  { P := P, B := w.heap.size, w0 := w, N0 := N, O := fun b => ∃ k t, look H k = some t ∧ blk (E k) = some b, m0 := H.length, E0 := E, gl := gl }
/-- THE CONTRACT: called with args (things 0, 1, .. of H are handed over), function g returns ret; H' is there behind the call: what bears an old name lies where it lay. Nothing else that was there has changed. -/
def Spec (P : Program) (gl : Nat → Option (List D)) (g : FuncId) (args : List AV) (H : List (Nat × Th)) (ret : AV) (H' : List (Nat × Th)) : Prop :=
  ∀ (w : World) (N : Nat → Prop) (E : Env) (vs : List Value), Fit (cx P gl w N E H) E ⟨H.length, [], H⟩ w → VAs E w (Stable (cx P gl w N E H) E ⟨H.length, [], H⟩ w) args vs →
    Calls P g vs.toArray w fun e w' => ∃ v E', e = .returned v ∧ Fit (cx P gl w N E H) E' ⟨H.length, [], H'⟩ w' ∧ VA E' w' (Stable (cx P gl w N E H) E' ⟨H.length, [], H'⟩ w') ret v
/-- What is known of callees; lists: rows are handed to it as data. -/
structure Orc where
  gl : Nat → Option (List D)
  lists : Nat → Bool
  fn : Nat → List AV → List (Nat × Th) → Option (AV × List (Nat × Th) × List Prop)
def OrcOK (P : Program) (orc : Orc) : Prop := ∀ g args H ret H' cs, orc.fn g args H = some (ret, H', cs) → Conds cs → Spec P orc.gl g args H ret H'

def D.flat : D → Bool
  | .raw _ => true
  | .list .. => false
  | .agg xs => xs.all fun x => match x with | .raw _ => true | _ => false
def AV.flat : AV → Bool
  | .dead => true
  | .d x => x.flat
  | .known _ => true
  | .tup xs => xs.all fun x => match x with | .d y => y.flat | .known _ => true | .dead => true | _ => false
  | _ => false
theorem VCs_flat {N N' : Nat → Prop} : ∀ {xs : List D} {vs : List Value}, (xs.all fun x => match x with | .raw _ => true | _ => false) = true → VCs w N xs vs → VCs w' N' xs vs
  | [], _, _, h => h
  | x :: xs, vs, hf, h => by
    simp only [List.all_cons, Bool.and_eq_true] at hf
    unfold VCs at h ⊢
    obtain ⟨v, vs', h1, h2, h3, h4⟩ := h
    refine ⟨v, vs', h1, h2, ?_, VCs_flat hf.2 h4⟩
    cases x with
    | raw u => unfold VC at h3 ⊢; exact h3
    | list sz n el => simp at hf
    | agg ys => simp at hf
theorem VD_flat {N N' : Nat → Prop} {x : D} {v : Value} (hf : x.flat = true) (h : VD w N x v) : VD w' N' x v := by
  cases x with
  | raw u => have h' : VC w N (.raw u) [v] := h; show VC w' N' (.raw u) [v]; unfold VC at h' ⊢; exact h'
  | list sz n el => simp [D.flat] at hf
  | agg xs =>
    obtain ⟨vs, h1, h2⟩ := h
    refine ⟨vs, h1, ?_⟩
    unfold VC at h2 ⊢
    exact VCs_flat hf h2
theorem VA_flat {N N' : Nat → Prop} {x : AV} {v : Value} (hf : x.flat = true) (h : VA E w N x v) : VA E' w' N' x v := by
  cases x <;> simp only [AV.flat, Bool.false_eq_true] at hf
  case dead => unfold VA; trivial
  case d x => unfold VA at h ⊢; exact VD_flat hf h
  case known b => unfold VA at h ⊢; exact h
  case tup xs =>
    unfold VA at h ⊢
    obtain ⟨vs, h1, h2⟩ := h
    refine ⟨vs, h1, VAs.of_get h2.length fun i x v hx hv => ?_⟩
    obtain ⟨u, h3, h4⟩ := h2.get i x hx
    rw [h3] at hv; cases hv
    have := List.all_eq_true.1 hf x (List.mem_of_getElem? hx)
    cases x <;> simp only [Bool.false_eq_true] at this
    · unfold VA; trivial
    · unfold VA at h4 ⊢; exact VD_flat this h4
    · unfold VA at h4 ⊢; exact h4

/-- A function value: whose, and what it brings along. -/
def AV.asFn : AV → Option (FuncId × List AV × List AV)
  | .fn (.func g) p q => some (g, p, q)
  | .d (.raw (.func (.func g) p q)) => if (p.toList ++ q.toList).all (·.oneCell') then some (g, p.toList.map fun v => .d (.raw v), q.toList.map fun v => .d (.raw v)) else none
  | _ => none
theorem asFn_ok {N : Nat → Prop} {x : AV} {v : Value} {g : FuncId} {p q : List AV} (hx : VA E w N x v) (h : x.asFn = some (g, p, q)) : ∃ ps qs : List Value, v = .func (.func g) ps.toArray qs.toArray ∧ VAs E w N p ps ∧ VAs E w N q qs := by
  unfold AV.asFn at h
  split at h
  · cases h
    unfold VA at hx
    exact hx
  · rename_i g' p' q'
    split at h
    · rename_i hone
      cases h
      unfold VA at hx
      have hv := (VD_raw_inv hx).1
      rw [List.all_append, Bool.and_eq_true] at hone
      have aux : ∀ vs : List Value, vs.all (·.oneCell') = true → VAs E w N (vs.map fun v => .d (.raw v)) vs := fun vs hall => by
        have := VAs_of_VCs (E := E) (VCs_raw (w := w) (N := N) vs hall)
        rw [List.map_map] at this; exact this
      exact ⟨p'.toList, q'.toList, by simpa using hv, aux _ hone.1, aux _ hone.2⟩
    · cases h
  · cases h
def callable (P : Program) (g : FuncId) : Bool := ((P.funcs[g]?).map fun fn => fn.name != "runtime.NumGoroutine" && fn.body.isSome).getD false
theorem call_run {o : Oper} {f : Operand} {args : Array Operand} {ty : Array TypeId} {g : FuncId} {ps qs : List Value} (ho : o.op = .call { callee := .value f, args := args, argTypes := ty }) (hcall : callable P g = true) (hfv : a.eval f = .func (.func g) ps.toArray qs.toArray) :
    (execOp a.eval o).run P w = .ok (.enter g (ps ++ args.toList.map a.eval ++ qs).toArray) w := by
  unfold callable at hcall
  cases hfn : P.funcs[g]? with
  | none => simp [hfn] at hcall
  | some fn =>
    simp only [hfn, Option.map_some, Option.getD_some, Bool.and_eq_true, bne_iff_ne, ne_eq] at hcall
    have hb : ¬ fn.body = none := by cases hb : fn.body <;> simp_all
    simp [execOp, ho, resolve, Deferred.ofValue, hfv, invoke, callFunc, program, Sem.run, hfn, map_toList_toArray]
    rw [if_neg hcall.1, if_neg hb]
theorem call_wp {o : Oper} {f : Operand} {args : Array Operand} {ty : Array TypeId} {g : FuncId} {ps qs : List Value} (ho : o.op = .call { callee := .value f, args := args, argTypes := ty }) (hcall : callable P g = true) (hfv : a.eval f = .func (.func g) ps.toArray qs.toArray)
    {next : Act → World → Prop} {Q : Exit → Act → World → Prop} (h : Calls P g (ps ++ args.toList.map a.eval ++ qs).toArray w fun e w' => ∃ v, e = .returned v ∧ next (a.put o.dst v) w') : Oper.wp P o a w next Q := by
  unfold Oper.wp
  rw [call_run ho hcall hfv]
  show Calls P g _ w _
  refine h.mono ?_
  rintro e w' ⟨v, rfl, hv⟩
  exact hv
end Go.Eng
