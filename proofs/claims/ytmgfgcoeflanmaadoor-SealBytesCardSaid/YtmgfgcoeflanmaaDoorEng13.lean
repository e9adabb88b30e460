/-
  Part of the engine: abstract states of a call (values as trees, things of the call's own), and that each operation of the model does to the world what it does to them. No condition.
-/
import Derived.Test.YtmgfgcoeflanmaaDoorEng12
namespace Go.Eng
open Go Go.RowKit Go.Lib
variable {P : Program} {gl : Nat → Option (List D)} {C : Cx} {E E' : Env} {s s' : St} {a : Act} {w w' : World}

/-! ### copy of a text into an array -/
def copied (b : ByteArray) (n : Nat) (olds : List D) : List AV := (List.range n).map fun j => .d (mrg (Nat.blt j (Nat.min b.size n)) (.raw (.int .u8 (byteAt b j))) (olds.getD j default))
def stepCopy (P : Program) (o : Oper) (dT : TypeId) (x y : AV) (s : St) : Option St :=
  match P.underlying dT, x, y with
  | some (.slice e), .osl k off 1 n _, .d (.raw (.string b)) =>
    match P.info? e, s.th k with
    | some i, some (.obj T cs) =>
      match toDs ((cs.drop off).take n) with
      | some olds => if i.size == 1 && Nat.ble (off + n) cs.length && olds.length == n then some ((s.setTh k (.obj T (splice cs off (copied b n olds)))).put o.dst (.d (.raw (.int .i64 (Nat.min b.size n : Nat))))) else none
      | none => none
    | _, _ => none
  | _, _, _ => none
theorem stepCopy_ok {o : Oper} {dT sT : TypeId} {x y : Operand} (ho : o.op = .call { callee := .builtin .copy, args := #[x, y], argTypes := #[dT, sT] }) (h : stepCopy P o dT (s.ev x) (s.ev y) s = some s') : StepOK P gl (s.ev x).keys o s s' := by
  unfold stepCopy at h
  split at h
  · rename_i e k off n cap b hu hxe hye
    split at h
    · rename_i i T cs hi hk
      split at h
      · rename_i olds hds
        split at h
        · rename_i hc
          simp only [Bool.and_eq_true, beq_iff_eq, Nat.ble_eq] at hc
          cases h
          constructor
          intro C E a w next Q hP hG hsim hn
          have hx := hsim.ev x
          have hy := hsim.ev y
          rw [hxe] at hx; rw [hye] at hy
          unfold VA at hx hy
          have hy := (VD_raw_inv hy).1
          obtain ⟨g, vs, h1, h2, h3, _⟩ := obj_of hsim.fit hk
          obtain ⟨g', h4, h5⟩ := hx
          rw [h1] at h4; cases h4
          have hvl := h3.length
          have hold := toDs_VCs hds ((h3.drop off).take n)
          generalize hcnt : Nat.min b.size n = cnt
          have hcb : cnt ≤ b.size := by rw [← hcnt]; exact Nat.min_le_left _ _
          have hcn : cnt ≤ n := by rw [← hcnt]; exact Nat.min_le_right _ _
          generalize hnews : ((b.data.toList.take cnt).map fun c => Value.int .u8 c.toNat) = news
          have hbl : b.data.toList.length = b.size := by simp
          have hnl : news.length = cnt := by rw [← hnews]; simp; omega
          have hst := run_storeCells_at P g off T news 0 vs.toArray w h2 (by simp; omega) (fun u hu => by rw [← hnews] at hu; obtain ⟨c, _, rfl⟩ := List.mem_map.1 hu; rfl)
          simp only [Nat.add_zero] at hst
          have hrun : (execOp a.eval o).run P w = .ok (.value (.int .i64 (cnt : Nat))) (w.setRow g (splice vs off news).toArray) := by
            simp [execOp, ho, resolve, invoke, builtin, Builtin.copy_, run_underlying hu, h5, hy, Builtin.lenOf, Builtin.firstCells, sizeOf, typeInfo, program, hi, hc.1.1, Sem.run, hcnt]
            rw [show List.take cnt (b.data.toList.map fun c => Value.int .u8 c.toNat) = news by rw [← hnews, List.map_take]]
            rw [hst]
            simp [goInt, splice]
          refine wp_value hrun ?_
          have hslen : (splice vs off news).length = vs.length := splice_len _ _ _ (by omega)
          obtain ⟨f1, f2, f3⟩ := hsim.fit.setTh (w' := w.setRow g (splice vs off news).toArray) k _ hk (.obj T (splice cs off (copied b n olds))) rfl rfl rfl (by simp) (fun q _ hne => setRow_other w g q _ (fun e => hne (by rw [h1, e]; rfl)))
            (fun {N'} hS hC => ⟨g, splice vs off news, h1, setRow_heap w _ _ _ _ _ h2, by
              have h3' := VAs.mono hS hC h3
              have hlc : (copied b n olds).length = n := by simp [copied]
              refine VAs.of_get (by rw [hslen, splice_len _ _ _ (by omega)]; exact hvl) fun j z u hz hu => ?_
              rw [splice_get _ _ _ _ (by omega)] at hz hu
              by_cases hj : off ≤ j ∧ j < off + n
              · rw [if_pos (by omega)] at hz
                have hzc : z = .d (mrg (Nat.blt (j - off) (Nat.min b.size n)) (.raw (.int .u8 (byteAt b (j - off)))) (olds.getD (j - off) default)) := by
                  unfold copied at hz
                  rw [List.getElem?_map, List.getElem?_range (by omega)] at hz
                  simpa using hz.symm
                rw [hzc, hcnt, mrg_eq]
                unfold VA
                by_cases hj2 : j - off < cnt
                · rw [if_pos (by simpa using hj2)]
                  rw [if_pos (by omega)] at hu
                  rw [← hnews, List.getElem?_map, List.getElem?_take, if_pos hj2] at hu
                  have hlt : j - off < b.data.toList.length := by omega
                  rw [List.getElem?_eq_getElem hlt] at hu
                  have hb2 : byteAt b (j - off) = (b.data.toList[j - off]).toNat := by unfold byteAt; rw [List.getD_eq_getElem?_getD, List.getElem?_eq_getElem hlt]; rfl
                  simp only [Option.map_some, Option.some.injEq] at hu
                  rw [← hu, hb2]
                  exact VD_raw rfl
                · rw [if_neg (by simpa using hj2)]
                  rw [if_neg (by omega)] at hu
                  have hlt : j - off < olds.length := by omega
                  obtain ⟨v, g1, g2, g3⟩ := hold.get (j - off) olds[j - off] (List.getElem?_eq_getElem hlt)
                  rw [List.getElem?_take, if_pos (by omega), List.getElem?_drop] at g1
                  have e1 : off + (j - off) = j := by omega
                  rw [e1] at g1
                  rw [g1] at hu; cases hu
                  rw [List.getD_eq_getElem?_getD, List.getElem?_eq_getElem hlt]
                  have g3' := VC.imp hS hC _ _ g3
                  show VD _ _ olds[j - off] u
                  generalize olds[j - off] = d at g2 g3'
                  cases d with
                  | agg xs => simp [D.one] at g2
                  | raw v => exact g3'
                  | list sz n el => exact g3'
              · rw [if_neg (by omega)] at hz
                rw [if_neg (by omega)] at hu
                obtain ⟨v, g1, g2⟩ := h3'.get j z hz
                rw [g1] at hu; cases hu; exact g2⟩)
          have hs2 : Sim C E (s.setTh k (.obj T (splice cs off (copied b n olds)))) a (w.setRow g (splice vs off news).toArray) := ⟨f1, VAs.mono f2 f3 hsim.tm, hsim.df⟩
          have := hs2.put' o.dst (x := .d (.raw (.int .i64 (cnt : Nat)))) (v := .int .i64 (cnt : Nat)) (by unfold VA; exact VD_raw rfl)
          have hkp : Kp [k] C E s w E (s.setTh k (.obj T (splice cs off (copied b n olds)))) (w.setRow g (splice vs off news).toArray) := setTh_kp hsim.fit k _ hk _ rfl rfl rfl (by simp) (fun q _ hne => setRow_other w g q _ (fun e => hne (by rw [h1, e]; rfl)))
          have hkp2 := Kp.trans hkp (Kp.refl [] (s' := (s.setTh k (.obj T (splice cs off (copied b n olds)))).put o.dst (.d (.raw (.int .i64 (cnt : Nat))))) (by cases o.dst <;> rfl))
          exact hn _ _ _ (by rw [hcnt]; exact this) (by rw [hcnt, hxe]; exact hkp2)
        · cases h
      · cases h
    · cases h
  · cases h

/-! ### a slice as an array -/
theorem flat_VCs {N : Nat → Prop} {sz : Nat} {el : Nat → D} {cs : List Value} : ∀ (m : Nat), m * sz ≤ cs.length → (∀ i, i < m → VC w N (el i) ((cs.drop (i * sz)).take sz)) → VCs w N ((List.range m).flatMap fun i => (el i).cells) (cs.take (m * sz))
  | 0, _, _ => by simp; unfold VCs; rfl
  | m + 1, hl, h => by
    have hm : m * sz + sz ≤ cs.length := by rw [Nat.add_mul] at hl; omega
    have ih := flat_VCs m (by omega) (fun i hi => h i (by omega))
    rw [List.range_succ, List.flatMap_append]
    have e : cs.take ((m + 1) * sz) = cs.take (m * sz) ++ (cs.drop (m * sz)).take sz := by rw [Nat.add_mul, Nat.one_mul, List.take_add]
    rw [e]
    refine ih.append ?_
    simp only [List.flatMap_cons, List.flatMap_nil, List.append_nil]
    exact (h m (by omega)).cells
def stepArrayAt (P : Program) (t : TypeId) (x : AV) : Option (AV × List Prop) :=
  match P.underlying t, x with
  | some (.array m e), .d (.list sz n el) => match P.info? e with
    | some i => if i.size == sz && Nat.blt 0 m then some (.cptr ((List.range m).flatMap fun i => (el i).cells), [m ≤ n]) else none
    | none => none
  | _, _ => none
theorem stepArrayAt_ok {o : Oper} {t : TypeId} {x : Operand} {y : AV} {cs : List Prop} (ho : o.op = .sliceToArrayPointer t x) (h : stepArrayAt P t (s.ev x) = some (y, cs)) (hcs : Conds cs) : LightOK P gl [] o y s := by
  constructor
  intro C E a w hP hG hsim
  unfold stepArrayAt at h
  split at h
  · rename_i m e sz n el hu hxe
    split at h
    · rename_i i hi
      split at h
      · rename_i hc
        simp only [Bool.and_eq_true, beq_iff_eq, Nat.blt_eq] at hc
        simp only [Option.some.injEq, Prod.mk.injEq] at h
        obtain ⟨rfl, rfl⟩ := h
        have hmn : m ≤ n := hcs.1
        have hx := hsim.ev x
        rw [hxe] at hx
        unfold VA at hx
        have hx' : VC w (Stable C E s w) (.list sz n el) [a.eval x] := hx
        unfold VC at hx'
        obtain ⟨v, hv, hx'⟩ := hx'
        simp only [List.cons.injEq, and_true] at hv
        rcases hx' with ⟨h0, _⟩ | ⟨ad, cap, vs, h1, h2, h3, h4, h5, h6, h7, h8⟩
        · omega
        · refine ⟨.pointer (some ad), fun w' _ => ?_, ?_⟩
          · have hlt : ¬ n < m := by omega
            simp [execOp, ho, Instr.arrayAt, run_underlying hu, hv, h1, hlt]
          · unfold VA
            have hle : m * sz ≤ n * sz := Nat.mul_le_mul_right _ hmn
            refine ⟨ad, vs.take (m * sz), rfl, h4, h5, flat_VCs m (by omega) (fun j hj => h8 j (by omega)), fun j u hu => ?_⟩
            rw [List.getElem?_take] at hu
            split at hu
            · exact h7 j u hu
            · cases hu
      · cases h
    · cases h
  · cases h

/-! ### the greater, the less; a value as an interface's -/
def stepMinMax (mx : Bool) (xs : List AV) : Option AV :=
  match xs with
  | [.d (.raw (.int k x)), .d (.raw (.int _ y))] => some (.d (.raw (.int k (if mx then (if y > x then y else x) else (if y < x then y else x)))))
  | _ => none
theorem stepMax_ok {o : Oper} {args : Array Operand} {ty : Array TypeId} {y : AV} (ho : o.op = .call { callee := .builtin .max, args := args, argTypes := ty }) (h : stepMinMax true (args.toList.map s.ev) = some y) : LightOK P gl [] o y s := by
  constructor
  intro C E a w hP hG hsim
  have hA := VAs_map_ev hsim args.toList
  unfold stepMinMax at h
  split at h
  · rename_i k x k' z he
    cases h
    rw [he] at hA
    unfold VAs at hA
    obtain ⟨v1, vs1, e1, h1, hA⟩ := hA
    unfold VAs at hA
    obtain ⟨v2, vs2, e2, h2, hA⟩ := hA
    unfold VAs at hA
    subst hA; subst e2
    unfold VA at h1 h2
    rw [(VD_raw_inv h1).1, (VD_raw_inv h2).1] at e1
    refine ⟨_, fun w' _ => ?_, by unfold VA; exact VD_raw rfl⟩
    simp [execOp, ho, resolve, invoke, builtin, Builtin.max_, e1, Builtin.max2]
  · cases h
theorem stepMin_ok {o : Oper} {args : Array Operand} {ty : Array TypeId} {y : AV} (ho : o.op = .call { callee := .builtin .min, args := args, argTypes := ty }) (h : stepMinMax false (args.toList.map s.ev) = some y) : LightOK P gl [] o y s := by
  constructor
  intro C E a w hP hG hsim
  have hA := VAs_map_ev hsim args.toList
  unfold stepMinMax at h
  split at h
  · rename_i k x k' z he
    cases h
    rw [he] at hA
    unfold VAs at hA
    obtain ⟨v1, vs1, e1, h1, hA⟩ := hA
    unfold VAs at hA
    obtain ⟨v2, vs2, e2, h2, hA⟩ := hA
    unfold VAs at hA
    subst hA; subst e2
    unfold VA at h1 h2
    rw [(VD_raw_inv h1).1, (VD_raw_inv h2).1] at e1
    refine ⟨_, fun w' _ => ?_, by unfold VA; exact VD_raw rfl⟩
    simp [execOp, ho, resolve, invoke, builtin, Builtin.min_, e1, Builtin.min2]
  · cases h
end Go.Eng
