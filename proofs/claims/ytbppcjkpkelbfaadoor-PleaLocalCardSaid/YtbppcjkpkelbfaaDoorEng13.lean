/-
  Part of the engine: abstract states of a call, and that the operations do what is told of them. No condition.
-/
import Derived.Test.YtbppcjkpkelbfaaDoorEng12
import Derived.Calls
import Derived.OrdersHeld
namespace Go.Eng
open Go Go.RowKit Go.Lib
variable {P : Program} {gl : Nat → Option (List D)} {C : Cx} {E E' : Env} {s s' : St} {a : Act} {w w' : World}
def copied (b : ByteArray) (n : Nat) (olds : List D) : List AV := (List.range n).map fun j => .d (mrg (Nat.blt j (Nat.min b.size n)) (.raw (.int .u8 (byteAt b j))) (olds.getD j default))
def stepCopy (P : Program) (o : Oper) (dT : TypeId) (x y : AV) (s : St) : Option St :=
 match P.underlying dT, x, y with
 | some (.slice e), .osl k off 1 n _, .d (.raw (.string b)) =>
  match P.info? e, s.th k with
  | some i, some (.obj T cs) =>
   match toDs ((cs.drop off).take n) with
   | some olds => if i.size == 1 && Nat.ble (off + n) cs.length && olds.length == n then some ((s.setTh k (.obj T (splice cs off (copied b n olds)))).put o.dst (.d (.raw (.int .i64 (Nat.min b.size n : Nat))))) else none
   | none => none
  | _, _ => none
 | _, _, _ => none
theorem stepCopy_ok {o : Oper} {dT sT : TypeId} {x y : Operand} (ho : o.op = .call { callee := .builtin .copy, args := #[x, y], argTypes := #[dT, sT] }) (h : stepCopy P o dT (s.ev x) (s.ev y) s = some s') : StepOK P gl (s.ev x).keys o s s' := by
 unfold stepCopy at h
 split at h
 ·
  rename_i e k off n cap b hu hxe hye
  split at h
  ·
   rename_i i T cs hi hk
   split at h
   ·
    rename_i olds hds
    split at h
    ·
     rename_i hc
     simp only [Bool.and_eq_true, beq_iff_eq, Nat.ble_eq] at hc
     cases h
     constructor
     intro C E a w next Q hP hG hsim hn
     have hx := hsim.ev x
     have hy := hsim.ev y
     rw [hxe] at hx; rw [hye] at hy
     unfold VA at hx hy
     have hy := (VD_raw_inv hy).1
     obtain ⟨g, vs, h1, h2, h3, _⟩ := obj_of hsim.fit hk
     obtain ⟨g', h4, h5⟩ := hx
     rw [h1] at h4; cases h4
     have hvl := h3.length
     have hold := toDs_VCs hds ((h3.drop off).take n)
     generalize hcnt : Nat.min b.size n = cnt
     have hcb : cnt ≤ b.size := by rw [← hcnt]; exact Nat.min_le_left _ _
     have hcn : cnt ≤ n := by rw [← hcnt]; exact Nat.min_le_right _ _
     generalize hnews : ((b.data.toList.take cnt).map fun c => Value.int .u8 c.toNat) = news
     have hbl : b.data.toList.length = b.size := by simp
     have hnl : news.length = cnt := by rw [← hnews]; simp; omega
     have hst := run_storeCells_at P g off T news 0 vs.toArray w h2 (by simp; omega) (fun u hu => by rw [← hnews] at hu; obtain ⟨c, _, rfl⟩ := List.mem_map.1 hu; rfl)
     simp only [Nat.add_zero] at hst
     have hrun : (execOp a.eval o).run P w = .ok (.value (.int .i64 (cnt : Nat))) (w.setRow g (splice vs off news).toArray) := by
      simp [execOp, ho, resolve, invoke, builtin, Builtin.copy_, run_underlying hu, h5, hy, Builtin.lenOf, Builtin.firstCells, sizeOf, typeInfo, program, hi, hc.1.1, Sem.run, hcnt]
      rw [show List.take cnt (b.data.toList.map fun c => Value.int .u8 c.toNat) = news by rw [← hnews, List.map_take]]
      rw [hst]
      simp [goInt, splice]
     refine wp_value hrun ?_
     have hslen : (splice vs off news).length = vs.length := splice_len _ _ _ (by omega)
     obtain ⟨f1, f2, f3⟩ := hsim.fit.setTh (w' := w.setRow g (splice vs off news).toArray) k _ hk (.obj T (splice cs off (copied b n olds))) rfl rfl rfl (by simp) (fun q _ hne => setRow_other w g q _ (fun e => hne (by rw [h1, e]; rfl)))
      (fun {N'} hS hC => ⟨g, splice vs off news, h1, setRow_heap w _ _ _ _ _ h2, by
       have h3' := VAs.mono hS hC h3
       have hlc : (copied b n olds).length = n := by simp [copied]
       refine VAs.of_get (by rw [hslen, splice_len _ _ _ (by omega)]; exact hvl) fun j z u hz hu => ?_
       rw [splice_get _ _ _ _ (by omega)] at hz hu
       by_cases hj : off ≤ j ∧ j < off + n
       ·
        rw [if_pos (by omega)] at hz
        have hzc : z = .d (mrg (Nat.blt (j - off) (Nat.min b.size n)) (.raw (.int .u8 (byteAt b (j - off)))) (olds.getD (j - off) default)) := by
         unfold copied at hz
         rw [List.getElem?_map, List.getElem?_range (by omega)] at hz
         simpa using hz.symm
        rw [hzc, hcnt, mrg_eq]
        unfold VA
        by_cases hj2 : j - off < cnt
        ·
         rw [if_pos (by simpa using hj2)]
         rw [if_pos (by omega)] at hu
         rw [← hnews, List.getElem?_map, List.getElem?_take, if_pos hj2] at hu
         have hlt : j - off < b.data.toList.length := by omega
         rw [List.getElem?_eq_getElem hlt] at hu
         have hb2 : byteAt b (j - off) = (b.data.toList[j - off]).toNat := by unfold byteAt; rw [List.getD_eq_getElem?_getD, List.getElem?_eq_getElem hlt]; rfl
         simp only [Option.map_some, Option.some.injEq] at hu
         rw [← hu, hb2]
         exact VD_raw rfl
        ·
         rw [if_neg (by simpa using hj2)]
         rw [if_neg (by omega)] at hu
         have hlt : j - off < olds.length := by omega
         obtain ⟨v, g1, g2, g3⟩ := hold.get (j - off) olds[j - off] (List.getElem?_eq_getElem hlt)
         rw [List.getElem?_take, if_pos (by omega), List.getElem?_drop] at g1
         have e1 : off + (j - off) = j := by omega
         rw [e1] at g1
         rw [g1] at hu; cases hu
         rw [List.getD_eq_getElem?_getD, List.getElem?_eq_getElem hlt]
         have g3' := VC.imp hS hC _ _ g3
         show VD _ _ olds[j - off] u
         generalize olds[j - off] = d at g2 g3'
         cases d with
         | agg xs => simp [D.one] at g2
         | raw v => exact g3'
         | list sz n el => exact g3'
       ·
        rw [if_neg (by omega)] at hz
        rw [if_neg (by omega)] at hu
        obtain ⟨v, g1, g2⟩ := h3'.get j z hz
        rw [g1] at hu; cases hu; exact g2⟩)
     have hs2 : Sim C E (s.setTh k (.obj T (splice cs off (copied b n olds)))) a (w.setRow g (splice vs off news).toArray) := ⟨f1, VAs.mono f2 f3 hsim.tm, hsim.df⟩
     have := hs2.put' o.dst (x := .d (.raw (.int .i64 (cnt : Nat)))) (v := .int .i64 (cnt : Nat)) (by unfold VA; exact VD_raw rfl)
     have hkp : Kp [k] C E s w E (s.setTh k (.obj T (splice cs off (copied b n olds)))) (w.setRow g (splice vs off news).toArray) := setTh_kp hsim.fit k _ hk _ rfl rfl rfl (by simp) (fun q _ hne => setRow_other w g q _ (fun e => hne (by rw [h1, e]; rfl)))
     have hkp2 := Kp.trans hkp (Kp.refl [] (s' := (s.setTh k (.obj T (splice cs off (copied b n olds)))).put o.dst (.d (.raw (.int .i64 (cnt : Nat))))) (by cases o.dst <;> rfl))
     exact hn _ _ _ (by rw [hcnt]; exact this) (by rw [hcnt, hxe]; exact hkp2)
    · cases h
   · cases h
  · cases h
 · cases h
theorem flat_VCs {N : Nat → Prop} {sz : Nat} {el : Nat → D} {cs : List Value} : ∀ (m : Nat), m * sz ≤ cs.length → (∀ i, i < m → VC w N (el i) ((cs.drop (i * sz)).take sz)) → VCs w N ((List.range m).flatMap fun i => (el i).cells) (cs.take (m * sz))
 | 0, _, _ => by simp; unfold VCs; rfl
 | m + 1, hl, h => by
  have hm : m * sz + sz ≤ cs.length := by rw [Nat.add_mul] at hl; omega
  have ih := flat_VCs m (by omega) (fun i hi => h i (by omega))
  rw [List.range_succ, List.flatMap_append]
  have e : cs.take ((m + 1) * sz) = cs.take (m * sz) ++ (cs.drop (m * sz)).take sz := by rw [Nat.add_mul, Nat.one_mul, List.take_add]
  rw [e]
  refine ih.append ?_
  simp only [List.flatMap_cons, List.flatMap_nil, List.append_nil]
  exact (h m (by omega)).cells
def stepArrayAt (P : Program) (t : TypeId) (x : AV) : Option (AV × List Prop) :=
 match P.underlying t, x with
 | some (.array m e), .d (.list sz n el) => match P.info? e with
  | some i => if i.size == sz && Nat.blt 0 m then some (.cptr ((List.range m).flatMap fun i => (el i).cells), [m ≤ n]) else none
  | none => none
 | _, _ => none
theorem stepArrayAt_ok {o : Oper} {t : TypeId} {x : Operand} {y : AV} {cs : List Prop} (ho : o.op = .sliceToArrayPointer t x) (h : stepArrayAt P t (s.ev x) = some (y, cs)) (hcs : Conds cs) : LightOK P gl [] o y s := by
 constructor
 intro C E a w hP hG hsim
 unfold stepArrayAt at h
 split at h
 ·
  rename_i m e sz n el hu hxe
  split at h
  ·
   rename_i i hi
   split at h
   ·
    rename_i hc
    simp only [Bool.and_eq_true, beq_iff_eq, Nat.blt_eq] at hc
    simp only [Option.some.injEq, Prod.mk.injEq] at h
    obtain ⟨rfl, rfl⟩ := h
    have hmn : m ≤ n := hcs.1
    have hx := hsim.ev x
    rw [hxe] at hx
    unfold VA at hx
    have hx' : VC w (Stable C E s w) (.list sz n el) [a.eval x] := hx
    unfold VC at hx'
    obtain ⟨v, hv, hx'⟩ := hx'
    simp only [List.cons.injEq, and_true] at hv
    rcases hx' with ⟨h0, _⟩ | ⟨ad, cap, vs, h1, h2, h3, h4, h5, h6, h7, h8⟩
    · omega
    ·
     refine ⟨.pointer (some ad), fun w' _ => ?_, ?_⟩
     ·
      have hlt : ¬ n < m := by omega
      simp [execOp, ho, Instr.arrayAt, run_underlying hu, hv, h1, hlt]
     ·
      unfold VA
      have hle : m * sz ≤ n * sz := Nat.mul_le_mul_right _ hmn
      refine ⟨ad, vs.take (m * sz), rfl, h4, h5, flat_VCs m (by omega) (fun j hj => h8 j (by omega)), fun j u hu => ?_⟩
      rw [List.getElem?_take] at hu
      split at hu
      · exact h7 j u hu
      · cases hu
   · cases h
  · cases h
 · cases h
def stepMinMax (mx : Bool) (xs : List AV) : Option AV :=
 match xs with
 | [.d (.raw (.int k x)), .d (.raw (.int _ y))] => some (.d (.raw (.int k (if mx then (if y > x then y else x) else (if y < x then y else x)))))
 | _ => none
theorem stepMax_ok {o : Oper} {args : Array Operand} {ty : Array TypeId} {y : AV} (ho : o.op = .call { callee := .builtin .max, args := args, argTypes := ty }) (h : stepMinMax true (args.toList.map s.ev) = some y) : LightOK P gl [] o y s := by
 constructor
 intro C E a w hP hG hsim
 have hA := VAs_map_ev hsim args.toList
 unfold stepMinMax at h
 split at h
 ·
  rename_i k x k' z he
  cases h
  rw [he] at hA
  unfold VAs at hA
  obtain ⟨v1, vs1, e1, h1, hA⟩ := hA
  unfold VAs at hA
  obtain ⟨v2, vs2, e2, h2, hA⟩ := hA
  unfold VAs at hA
  subst hA; subst e2
  unfold VA at h1 h2
  rw [(VD_raw_inv h1).1, (VD_raw_inv h2).1] at e1
  refine ⟨_, fun w' _ => ?_, by unfold VA; exact VD_raw rfl⟩
  simp [execOp, ho, resolve, invoke, builtin, Builtin.max_, e1, Builtin.max2]
 · cases h
theorem stepMin_ok {o : Oper} {args : Array Operand} {ty : Array TypeId} {y : AV} (ho : o.op = .call { callee := .builtin .min, args := args, argTypes := ty }) (h : stepMinMax false (args.toList.map s.ev) = some y) : LightOK P gl [] o y s := by
 constructor
 intro C E a w hP hG hsim
 have hA := VAs_map_ev hsim args.toList
 unfold stepMinMax at h
 split at h
 ·
  rename_i k x k' z he
  cases h
  rw [he] at hA
  unfold VAs at hA
  obtain ⟨v1, vs1, e1, h1, hA⟩ := hA
  unfold VAs at hA
  obtain ⟨v2, vs2, e2, h2, hA⟩ := hA
  unfold VAs at hA
  subst hA; subst e2
  unfold VA at h1 h2
  rw [(VD_raw_inv h1).1, (VD_raw_inv h2).1] at e1
  refine ⟨_, fun w' _ => ?_, by unfold VA; exact VD_raw rfl⟩
  simp [execOp, ho, resolve, invoke, builtin, Builtin.min_, e1, Builtin.min2]
 · cases h
end Go.Eng

namespace Go.Eng
open Go Go.RowKit Go.Lib
variable {P : Program} {gl : Nat → Option (List D)} {C : Cx} {E E' : Env} {s s' : St} {a : Act} {w w' : World}
theorem row_list {N : Nat → Prop} {T sz n : Nat} {el : Nat → D} {v : Value} {vs : List Value} (h : OwnsR w T sz v n vs) (hN : ∀ b, blk v = some b → N b)
  (hel : ∀ i, i < n → VC w N (el i) ((vs.drop (i * sz)).take sz)) : VD w N (.list sz n el) v := by
 show VC w N (.list sz n el) [v]
 unfold VC
 refine ⟨v, rfl, ?_⟩
 rcases h.2 with ⟨h1, h2⟩ | ⟨g, cap, cur, hv, hg, hnc, hcm, hcs, htk⟩
 · exact .inl ⟨h2, h1⟩
 ·
  obtain ⟨_, _, hc⟩ := h.cells hv
  exact .inr ⟨⟨g, 0, none⟩, cap, vs, hv, hnc, hcm, rfl, hN g (by rw [hv]; rfl), h.1, fun j u hu => by rw [addr_mk_add, Nat.zero_add]; exact hc j u hu, hel⟩
theorem sub_list {N N' : Nat → Prop} {T sz n m lo : Nat} {oc : Option Nat} {el : Nat → D} {k : Nat} {v : Value} {vs : List Value} (h : OwnsR w T sz (E k) m vs) (hN : ∀ b, blk (E k) = some b → N b)
  (hel : ∀ i, i < m → VC w N (el i) ((vs.drop (i * sz)).take sz)) (hx : VA E w N' (.sub k lo n sz oc) v) : VD w N (.list sz n fun i => el (lo + i)) v := by
 unfold VA at hx
 show VC w N _ [v]
 unfold VC
 refine ⟨v, rfl, ?_⟩
 rcases hx with ⟨h3, h4, h5, _⟩ | ⟨g, m', c, o, cp', h3, h4, h5, h6, h7, h8, h9, h10⟩
 · exact .inl ⟨h3, h5⟩
 ·
  obtain ⟨hm, hg, h11⟩ := h.cells h3
  subst hm
  have hcap : c ≤ maxLen := by
   rcases h.2 with ⟨h12, _⟩ | ⟨_, _, _, h12, _, _, h13, _⟩
   · rw [h12] at h3; cases h3
   · rw [h12] at h3; cases h3; exact h13
  have hlen := h.1
  have e1 : (lo + n) * sz ≤ m' * sz := Nat.mul_le_mul_right _ h4
  rw [Nat.add_mul] at e1
  refine .inr ⟨⟨g, o, none⟩, cp', (vs.drop (lo * sz)).take (n * sz), h5, h7, by omega, rfl, hN g (by rw [h3]; rfl), by rw [List.length_take, List.length_drop]; omega, fun j u hu => ?_, fun i hi => ?_⟩
  ·
   rw [List.getElem?_take] at hu
   split at hu
   ·
    rename_i hj
    rw [List.getElem?_drop] at hu
    have hn0 : 0 < n := by
     rcases Nat.eq_zero_or_pos n with e | e
     · subst e; simp at hj
     · exact e
    rw [addr_mk_add, h6 (by omega)]
    exact h11 _ u hu
   · cases hu
  ·
   have := hel (lo + i) (by omega)
   have e3 : (((vs.drop (lo * sz)).take (n * sz)).drop (i * sz)).take sz = (vs.drop ((lo + i) * sz)).take sz := by
    apply List.ext_getElem?
    intro q
    rw [List.getElem?_take, List.getElem?_take]
    by_cases hq : q < sz
    ·
     rw [if_pos hq, if_pos hq, List.getElem?_drop, List.getElem?_take, if_pos (by have := mul_bd hi hq; omega), List.getElem?_drop, List.getElem?_drop]
     congr 1; rw [Nat.add_mul]; omega
    · rw [if_neg hq, if_neg hq]
   rw [e3]; exact this
def thaw1 (s : St) (G : Nat → Bool) (x : AV) : AV :=
 match x with
 | .own k => if G k then match s.th k with
  | some (.row _ sz n el) => .d (.list sz n el)
  | _ => x
  else x
 | .sub k lo n sz _ => if G k then match s.th k with
  | some (.row _ sz' _ el) => if sz' == sz then .d (.list sz n fun i => el (lo + i)) else x
  | _ => x
  else x
 | .osl k off sz n cp => if G k then match s.th k with
  | some (.obj _ cs) => match toDs ((cs.drop off).take (n * sz)) with
   | some ds => if ds.length == n * sz && Nat.ble n cp && Nat.ble cp 9223372036854775807 then .d (.list sz n (segD (!(sz == 1)) sz ds)) else x
   | none => x
  | _ => x
  else x
 | x => x
def rawAVs : List AV → Option (List Value)
 | [] => some []
 | .d (.raw v) :: r => (rawAVs r).map (v :: ·)
 | .known b :: r => (rawAVs r).map (.bool b :: ·)
 | _ => none
def thaw (s : St) (G : Nat → Bool) (x : AV) : AV :=
 match x with
 | .agg xs => let ys := xs.map (thaw1 s G); match toDs ys with
  | some ds => .d (.agg ds)
  | none => .agg ys
 | .fn f p q => match rawAVs p, rawAVs q with
  | some ps, some qs => .d (.raw (.func f ps.toArray qs.toArray))
  | _, _ => .fn f (p.map (thaw1 s G)) (q.map (thaw1 s G))
 | .known b => .d (.raw (.bool b))
 | x => thaw1 s G x
theorem rawAVs_ok {N : Nat → Prop} : ∀ {xs : List AV} {us vs : List Value}, rawAVs xs = some us → VAs E w N xs vs → vs = us
 | [], us, vs, h, k => by simp only [rawAVs, Option.some.injEq] at h; subst h; unfold VAs at k; exact k
 | x :: xs, us, vs, h, k => by
  unfold VAs at k
  obtain ⟨v, vs', rfl, hv, k⟩ := k
  cases x <;> (try simp only [rawAVs, reduceCtorEq] at h)
  case d y =>
   cases y <;> (try simp only [rawAVs, reduceCtorEq] at h)
   obtain ⟨us', h1, rfl⟩ := Option.map_eq_some_iff.1 h
   unfold VA at hv
   rw [(VD_raw_inv hv).1, rawAVs_ok h1 k]
  case known b =>
   obtain ⟨us', h1, rfl⟩ := Option.map_eq_some_iff.1 h
   unfold VA at hv
   subst hv
   rw [rawAVs_ok h1 k]
theorem thaw1_VA (hf : Fit C E s w) {N' : Nat → Prop} {G : Nat → Bool} (hS : ∀ b, Stable C E s w b → N' b) (hN : ∀ k t, G k = true → s.th k = some t → ∀ b, blk (E k) = some b → N' b)
  {x : AV} {v : Value} (hx : VA E w (Stable C E s w) x v) : VA E w N' (thaw1 s G x) v := by
 have keep : VA E w N' x v := VA.mono hS (fun _ _ _ h => h) hx
 unfold thaw1
 split
 ·
  rename_i k
  split
  ·
   rename_i hG
   split
   ·
    rename_i T sz n el hk
    obtain ⟨vs, h1, h2⟩ := row_of hf hk
    unfold VA at hx ⊢
    rw [hx.1]
    exact row_list h1 (hN k _ hG hk) fun i hi => VC.imp hS (fun _ _ _ h => h) _ _ (h2 i hi)
   · exact keep
  · exact keep
 ·
  rename_i k lo n sz oc
  split
  ·
   rename_i hG
   split
   ·
    rename_i T sz' n' el hk
    split
    ·
     rename_i e
     have e : sz' = sz := by simpa using e
     subst e
     obtain ⟨vs, h1, h2⟩ := row_of hf hk
     have := sub_list h1 (hN k _ hG hk) (fun i hi => VC.imp hS (fun _ _ _ h => h) _ _ (h2 i hi)) hx
     unfold VA
     exact this
    · exact keep
   · exact keep
  · exact keep
 ·
  rename_i k off sz n cp
  split
  ·
   rename_i hG
   split
   ·
    rename_i T cs hk
    split
    ·
     rename_i ds hds
     split
     ·
      rename_i hc
      simp only [Bool.and_eq_true, beq_iff_eq, Nat.ble_eq] at hc
      obtain ⟨b, vs, h1, h2, h3, hb⟩ := obj_of hf hk
      unfold VA at hx ⊢
      obtain ⟨b', h4, h5⟩ := hx
      rw [h1] at h4; cases h4
      have hv := toDs_VCs hds ((h3.drop off).take (n * sz))
      have hv' : VCs w N' ds ((vs.drop off).take (n * sz)) := VCs.imp hS (fun _ _ _ h => h) _ _ hv
      show VC w N' _ [v]
      unfold VC
      refine ⟨v, rfl, ?_⟩
      ·
       refine .inr ⟨⟨b, off, none⟩, cp, (vs.drop off).take (n * sz), h5, hc.1.2, hc.2, rfl, hN k _ hG hk b (by rw [h1]; rfl), by rw [hv.length, hc.1.1], fun j u hu => ?_, fun i hi => segD_VC hv' hc.1.1 (by cases hs1 : (sz == 1) with | true => exact .inr (by simpa using hs1) | false => exact .inl rfl) i hi⟩
       rw [List.getElem?_take] at hu
       split at hu
       ·
        rw [List.getElem?_drop] at hu
        rw [addr_mk_add, heap_cell h2]; exact hu
       · cases hu
     · exact keep
    · exact keep
   · exact keep
  · exact keep
 · exact keep
theorem thaw_VA (hf : Fit C E s w) {N' : Nat → Prop} {G : Nat → Bool} (hS : ∀ b, Stable C E s w b → N' b) (hN : ∀ k t, G k = true → s.th k = some t → ∀ b, blk (E k) = some b → N' b)
  {x : AV} {v : Value} (hx : VA E w (Stable C E s w) x v) : VA E w N' (thaw s G x) v := by
 have h1 : ∀ x v, VA E w (Stable C E s w) x v → VA E w N' (thaw1 s G x) v := fun x v hx => thaw1_VA hf hS hN hx
 unfold thaw
 split
 ·
  rename_i xs
  unfold VA at hx
  obtain ⟨vs, h2, h3, h4⟩ := hx
  have h5 := VAs.map (thaw1 s G) h3 h1
  simp only
  split
  ·
   rename_i ds hds
   unfold VA
   exact ⟨vs, h2, by unfold VC; exact toDs_VCs hds h5⟩
  ·
   unfold VA
   exact ⟨vs, h2, h5, h4⟩
 ·
  rename_i f p q
  unfold VA at hx
  obtain ⟨ps, qs, h2, h3, h4⟩ := hx
  split
  ·
   rename_i ps' qs' hp hq
   unfold VA
   rw [h2, rawAVs_ok hp h3, rawAVs_ok hq h4]
   exact VD_raw rfl
  ·
   unfold VA
   exact ⟨ps, qs, h2, VAs.map _ h3 h1, VAs.map _ h4 h1⟩
 ·
  unfold VA at hx ⊢
  rw [hx]; exact VD_raw rfl
 · exact h1 x v hx
theorem Sim.freeze (h : Sim C E s a w) (G : Nat → Bool) : Sim C E (s.dropTh G (thaw s G)) a w := by
 have st : Step C E E s (s.dropTh G (thaw s G)) w w G _ (thaw s G) := Step.drop' G _
 have hV : ∀ x v, VA E w (Stable C E s w) x v → VA E w (Stable C E (s.dropTh G (thaw s G)) w) (thaw s G x) v := fun x v hx =>
  thaw_VA h.fit st.stable (fun k t hG hk b hb => h.fit.dropped G _ hk hG hb) hx
 exact ⟨h.fit.dropTh G _ fun _ => hV, VAs.map _ h.tm hV, h.df⟩
def cx (P : Program) (gl : Nat → Option (List D)) (w : World) (N : Nat → Prop) (E : Env) (H : List (Nat × Th)) : Cx :=
 { P := P, B := w.heap.size, w0 := w, N0 := N, O := fun b => ∃ k t, look H k = some t ∧ blk (E k) = some b, m0 := H.length, E0 := E, gl := gl }
def Spec (P : Program) (gl : Nat → Option (List D)) (g : FuncId) (args : List AV) (H : List (Nat × Th)) (ret : AV) (H' : List (Nat × Th)) : Prop :=
 ∀ (w : World) (N : Nat → Prop) (E : Env) (vs : List Value), Fit (cx P gl w N E H) E ⟨H.length, [], H⟩ w → VAs E w (Stable (cx P gl w N E H) E ⟨H.length, [], H⟩ w) args vs →
  Calls P g vs.toArray w fun e w' => ∃ v E', e = .returned v ∧ Fit (cx P gl w N E H) E' ⟨H.length, [], H'⟩ w' ∧ VA E' w' (Stable (cx P gl w N E H) E' ⟨H.length, [], H'⟩ w') ret v
structure Orc where
 gl : Nat → Option (List D)
 lists : Nat → Bool
 fn : Nat → List AV → List (Nat × Th) → Option (AV × List (Nat × Th) × List Prop)
def OrcOK (P : Program) (orc : Orc) : Prop := ∀ g args H ret H' cs, orc.fn g args H = some (ret, H', cs) → Conds cs → Spec P orc.gl g args H ret H'
def D.flat : D → Bool
 | .raw _ => true
 | .list .. => false
 | .agg xs => xs.all fun x => match x with | .raw _ => true | _ => false
def AV.flat : AV → Bool
 | .dead => true
 | .d x => x.flat
 | .known _ => true
 | .tup xs => xs.all fun x => match x with | .d y => y.flat | .known _ => true | .dead => true | _ => false
 | _ => false
theorem VCs_flat {N N' : Nat → Prop} : ∀ {xs : List D} {vs : List Value}, (xs.all fun x => match x with | .raw _ => true | _ => false) = true → VCs w N xs vs → VCs w' N' xs vs
 | [], _, _, h => h
 | x :: xs, vs, hf, h => by
  simp only [List.all_cons, Bool.and_eq_true] at hf
  unfold VCs at h ⊢
  obtain ⟨v, vs', h1, h2, h3, h4⟩ := h
  refine ⟨v, vs', h1, h2, ?_, VCs_flat hf.2 h4⟩
  cases x with
  | raw u => unfold VC at h3 ⊢; exact h3
  | list sz n el => simp at hf
  | agg ys => simp at hf
theorem VD_flat {N N' : Nat → Prop} {x : D} {v : Value} (hf : x.flat = true) (h : VD w N x v) : VD w' N' x v := by
 cases x with
 | raw u => have h' : VC w N (.raw u) [v] := h; show VC w' N' (.raw u) [v]; unfold VC at h' ⊢; exact h'
 | list sz n el => simp [D.flat] at hf
 | agg xs =>
  obtain ⟨vs, h1, h2⟩ := h
  refine ⟨vs, h1, ?_⟩
  unfold VC at h2 ⊢
  exact VCs_flat hf h2
theorem VA_flat {N N' : Nat → Prop} {x : AV} {v : Value} (hf : x.flat = true) (h : VA E w N x v) : VA E' w' N' x v := by
 cases x <;> simp only [AV.flat, Bool.false_eq_true] at hf
 case dead => unfold VA; trivial
 case d x => unfold VA at h ⊢; exact VD_flat hf h
 case known b => unfold VA at h ⊢; exact h
 case tup xs =>
  unfold VA at h ⊢
  obtain ⟨vs, h1, h2⟩ := h
  refine ⟨vs, h1, VAs.of_get h2.length fun i x v hx hv => ?_⟩
  obtain ⟨u, h3, h4⟩ := h2.get i x hx
  rw [h3] at hv; cases hv
  have := List.all_eq_true.1 hf x (List.mem_of_getElem? hx)
  cases x <;> simp only [Bool.false_eq_true] at this
  · unfold VA; trivial
  · unfold VA at h4 ⊢; exact VD_flat this h4
  · unfold VA at h4 ⊢; exact h4
def AV.asFn : AV → Option (FuncId × List AV × List AV)
 | .fn (.func g) p q => some (g, p, q)
 | .d (.raw (.func (.func g) p q)) => if (p.toList ++ q.toList).all (·.oneCell') then some (g, p.toList.map fun v => .d (.raw v), q.toList.map fun v => .d (.raw v)) else none
 | _ => none
theorem asFn_ok {N : Nat → Prop} {x : AV} {v : Value} {g : FuncId} {p q : List AV} (hx : VA E w N x v) (h : x.asFn = some (g, p, q)) : ∃ ps qs : List Value, v = .func (.func g) ps.toArray qs.toArray ∧ VAs E w N p ps ∧ VAs E w N q qs := by
 unfold AV.asFn at h
 split at h
 ·
  cases h
  unfold VA at hx
  exact hx
 ·
  rename_i g' p' q'
  split at h
  ·
   rename_i hone
   cases h
   unfold VA at hx
   have hv := (VD_raw_inv hx).1
   rw [List.all_append, Bool.and_eq_true] at hone
   have aux : ∀ vs : List Value, vs.all (·.oneCell') = true → VAs E w N (vs.map fun v => .d (.raw v)) vs := fun vs hall => by
    have := VAs_of_VCs (E := E) (VCs_raw (w := w) (N := N) vs hall)
    rw [List.map_map] at this; exact this
   exact ⟨p'.toList, q'.toList, by simpa using hv, aux _ hone.1, aux _ hone.2⟩
  · cases h
 · cases h
def callable (P : Program) (g : FuncId) : Bool := ((P.funcs[g]?).map fun fn => fn.name != "runtime.NumGoroutine" && fn.body.isSome).getD false
theorem call_run {o : Oper} {f : Operand} {args : Array Operand} {ty : Array TypeId} {g : FuncId} {ps qs : List Value} (ho : o.op = .call { callee := .value f, args := args, argTypes := ty }) (hcall : callable P g = true) (hfv : a.eval f = .func (.func g) ps.toArray qs.toArray) :
  (execOp a.eval o).run P w = .ok (.enter g (ps ++ args.toList.map a.eval ++ qs).toArray) w := by
 unfold callable at hcall
 cases hfn : P.funcs[g]? with
 | none => simp [hfn] at hcall
 | some fn =>
  simp only [hfn, Option.map_some, Option.getD_some, Bool.and_eq_true, bne_iff_ne, ne_eq] at hcall
  have hb : ¬ fn.body = none := by cases hb : fn.body <;> simp_all
  simp [execOp, ho, resolve, Deferred.ofValue, hfv, invoke, callFunc, program, Sem.run, hfn, map_toList_toArray]
  rw [if_neg hcall.1, if_neg hb]
theorem call_wp {o : Oper} {f : Operand} {args : Array Operand} {ty : Array TypeId} {g : FuncId} {ps qs : List Value} (ho : o.op = .call { callee := .value f, args := args, argTypes := ty }) (hcall : callable P g = true) (hfv : a.eval f = .func (.func g) ps.toArray qs.toArray)
  {next : Act → World → Prop} {Q : Exit → Act → World → Prop} (h : Calls P g (ps ++ args.toList.map a.eval ++ qs).toArray w fun e w' => ∃ v, e = .returned v ∧ next (a.put o.dst v) w') : Oper.wp P o a w next Q := by
 unfold Oper.wp
 rw [call_run ho hcall hfv]
 show Calls P g _ w _
 refine h.mono ?_
 rintro e w' ⟨v, rfl, hv⟩
 exact hv
end Go.Eng
