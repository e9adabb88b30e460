/-
  Part of the engine: abstract states of a call, and that the operations do what is told of them. No condition.
-/
import Derived.Test.YtbppcjkpkelbfaaDoorEng3
namespace Go.Eng
open Go Go.RowKit
variable {P : Program} {gl : Nat → Option (List D)} {C : Cx} {E E' : Env} {s s' : St} {a : Act} {w w' : World}
structure LightOK (P : Program) (gl : Nat → Option (List D)) (rd : List Nat) (o : Oper) (y : AV) (s : St) : Prop where
 out : ∀ {C : Cx} {E : Env} {a : Act} {w : World}, C.P = P → C.gl = gl → Sim C E s a w →
  ∃ v, (∀ w', KeptW (inL rd) C E s w w' → (execOp a.eval o).run P w' = .ok (.value v) w') ∧ VA E w (Stable C E s w) y v
theorem LightOK.step {rd : List Nat} {o : Oper} {y : AV} (h : LightOK P gl rd o y s) : StepOK P gl [] o s (s.put o.dst y) := by
 constructor
 intro C E a w next Q hP hG hsim hn
 obtain ⟨v, h1, h2⟩ := h.out hP hG hsim
 exact wp_value (h1 w (KeptW.refl _)) (hn _ _ _ (hsim.put' o.dst h2) (Kp.refl [] (by cases o.dst <;> rfl)))
theorem inL_self (k : Nat) : inL [k] k = true := by simp [inL]
theorem heap_cell {g : Nat} {vs : List Value} {T : TypeId} (h : w.heap[g]? = some (.cells vs.toArray T (0, 0))) (i : Nat) : w.cell? ⟨g, i, none⟩ = vs[i]? := by
 rw [cell_of_row w g i vs.toArray T (0, 0) h]; simp
def evg (gl : Nat → Option (List D)) (x : AV) : AV :=
 match x with
 | .d (.raw (.pointer (some ⟨g, 0, none⟩))) => match gl g with
  | some cs => .cptr cs
  | none => x
 | _ => x
theorem evg_VA (h : Fit C E s w) {x : AV} {v : Value} (hx : VA E w (Stable C E s w) x v) : VA E w (Stable C E s w) (evg C.gl x) v := by
 unfold evg
 split
 ·
  rename_i g
  split
  ·
   rename_i cs hcs
   unfold VA at hx
   have hv := (VD_raw_inv hx).1
   obtain ⟨h1, vs, h2, h3, -⟩ := h.gl g cs hcs
   unfold VA
   refine ⟨⟨g, 0, none⟩, vs, hv, rfl, h.n0_stable h1, VCs.imp (fun b hb => h.n0_stable hb) (fun a u ha hc => h.n0_cell ha hc) _ _ h2, fun j u hu => ?_⟩
   rw [addr_mk_add, Nat.zero_add]
   exact h.n0_cell h1 (h3 j u hu)
  · exact hx
 · exact hx
theorem obj_of (h : Fit C E s w) {k : Nat} {T : TypeId} {cs : List AV} (hk : s.th k = some (.obj T cs)) : ∃ b vs, E k = .pointer (some ⟨b, 0, none⟩) ∧ w.heap[b]? = some (.cells vs.toArray T (0, 0)) ∧ VAs E w (Stable C E s w) cs vs ∧ b < w.heap.size := by
 obtain ⟨b, vs, h1, h2, h3⟩ := (h.th k _ hk).1
 exact ⟨b, vs, h1, h2, h3, (Array.getElem?_eq_some_iff.1 h2).1⟩
theorem row_of (h : Fit C E s w) {k : Nat} {T sz n : Nat} {el : Nat → D} (hk : s.th k = some (.row T sz n el)) : ∃ vs, OwnsR w T sz (E k) n vs ∧ ∀ i, i < n → VC w (Stable C E s w) (el i) ((vs.drop (i * sz)).take sz) := (h.th k _ hk).1
theorem OwnsR.cells {T sz n : Nat} {v : Value} {vs : List Value} (h : OwnsR w T sz v n vs) {g c m : Nat} (hv : v = .slice (some ⟨g, 0, none⟩) m c) : m = n ∧ g < w.heap.size ∧ ∀ j u, vs[j]? = some u → w.cell? ⟨g, j, none⟩ = some u := by
 rcases h.2 with ⟨h1, _⟩ | ⟨g', cap, cur, h1, h2, h3, h4, h5, h6⟩
 · rw [h1] at hv; cases hv
 ·
  rw [h1] at hv; cases hv
  refine ⟨rfl, (Array.getElem?_eq_some_iff.1 h2).1, fun j u hu => ?_⟩
  rw [cell_of_row w g j cur T (0, 0) h2]
  rw [← h6, List.getElem?_take] at hu
  split at hu
  · simpa using hu
  · cases hu
def stepLoad (P : Program) (t : TypeId) (x : AV) (s : St) : Option AV :=
 match x with
 | .ref k off => match s.th k with
  | some (.obj _ cs) => loadCellsAV P t cs off
  | _ => none
 | .refI k off i sz n o2 => match s.th k with
  | some (.obj _ cs) => match toDs ((cs.drop off).take (n * sz)) with
   | some ds => (loadSel P t ds 0 i sz n o2).map .d
   | none => none
  | _ => none
 | .cptr cs => loadCellsAV P t (cs.map .d) 0
 | .el k i sz off => match s.th k with
  | some (.row _ sz' _ el) => if sz' = sz then loadCellsAV P t ((el i).cells.map .d) off else none
  | _ => none
 | _ => none
def loadConds (x : AV) (s : St) : List Prop :=
 match x with
 | .el k i _ _ => match s.th k with
  | some (.row _ _ n _) => [i < n]
  | _ => []
 | .refI _ _ i _ n _ => [i < n]
 | _ => []
theorem load_run {t : TypeId} {x y : AV} {v : Value} (hf : Fit C E s w) (hx : VA E w (Stable C E s w) x v) (h : stepLoad P t x s = some y) (hcs : Conds (loadConds x s)) :
  ∃ ad u, v = .pointer (some ad) ∧ (∀ w', KeptW (inL x.keys) C E s w w' → (loadVar t ad).run P w' = .ok u w') ∧ VA E w (Stable C E s w) y u := by
 cases x <;> simp only [stepLoad, reduceCtorEq] at h
 case ref k off =>
  split at h
  ·
   rename_i T cs hk
   obtain ⟨b, vs, h1, h2, h3, hb⟩ := obj_of hf hk
   unfold VA at hx
   obtain ⟨b', h4, h5⟩ := hx
   rw [h1] at h4; cases h4
   obtain ⟨u, h6, h7⟩ := loadAV_run (P := P) (ad := ⟨b, off, none⟩) h h3
   refine ⟨_, u, h5, fun w' hs => h6 w' fun j z hz => ?_, h7⟩
   rw [addr_mk_add, heap_cell ((hs _ (.inr ⟨k, _, inL_self k, hk, by rw [h1]; rfl⟩)).trans h2)]; exact hz
  · cases h
 case refI k off i sz n o2 =>
  split at h
  ·
   rename_i T cs hk
   split at h
   ·
    rename_i ds hds
    obtain ⟨d, hd, rfl⟩ := Option.map_eq_some_iff.1 h
    obtain ⟨b, vs, h1, h2, h3, hb⟩ := obj_of hf hk
    unfold VA at hx
    obtain ⟨b', h4, h5⟩ := hx
    rw [h1] at h4; cases h4
    have hin : i < n := hcs.1
    have hc := toDs_VCs hds ((h3.drop off).take (n * sz))
    have hh : ∃ u, (∀ w', (∀ (j : Nat) (z : Value), ((vs.drop off).take (n * sz))[j]? = some z → w'.cell? ⟨b, off + j, none⟩ = some z) → (loadVar t ⟨b, off + i * sz + o2, none⟩).run P w' = .ok u w') ∧ VD w (Stable C E s w) d u := by
     have hl := hc.length
     unfold loadSel at hd
     split at hd
     ·
      rename_i hlen
      have hn : ∀ j, j < n → ∀ c, c < sz → 0 + j * sz + c < ds.length := fun j hj c hc' => by have := mul_bd hj hc'; omega
      have hseg : ∀ {z : Nat} {es : List D}, o2 + z ≤ sz → selCells ds 0 i sz n o2 z = some es → VCs w (Stable C E s w) es ((((vs.drop off).take (n * sz)).drop (i * sz + o2)).take z) ∧ ((((vs.drop off).take (n * sz)).drop (i * sz + o2)).take z).length = z := fun {z es} hz hs => by
       obtain ⟨g1, g2⟩ := selCells_eq hin hn hz hs
       have hlt : i * sz + (o2 + z) ≤ ((vs.drop off).take (n * sz)).length := by
        rw [hl]
        have : (i + 1) * sz ≤ n * sz := Nat.mul_le_mul_right _ hin
        rw [Nat.add_mul] at this; omega
       have hll : ((((vs.drop off).take (n * sz)).drop (i * sz + o2)).take z).length = z := by rw [List.length_take, List.length_drop]; omega
       refine ⟨VCs.of_get (by rw [hll, g1]) fun c x v hx hv => ?_, hll⟩
       have hcz : c < z := by have := (List.getElem?_eq_some_iff.1 hx).1; omega
       rw [← g2 c hcz] at hx
       rw [List.getElem?_take, if_pos hcz, List.getElem?_drop] at hv
       obtain ⟨u, g3, g4⟩ := hc.get _ x hx
       rw [Nat.zero_add] at g3
       rw [g3] at hv; cases hv; exact g4
      split at hd
      ·
       rename_i inf hu hinf
       split at hd
       ·
        rename_i hz
        obtain ⟨es, hes, rfl⟩ := Option.map_eq_some_iff.1 hd
        obtain ⟨g1, g2⟩ := hseg hz hes
        refine ⟨.agg ((((vs.drop off).take (n * sz)).drop (i * sz + o2)).take inf.size).toArray, fun w' hm => loadVar_agg hu hinf g2 w' fun j u hu' => ?_, ⟨_, rfl, by unfold VC; exact g1⟩⟩
        rw [List.getElem?_take] at hu'
        split at hu'
        ·
         rw [List.getElem?_drop] at hu'
         have := hm _ u hu'
         rw [addr_mk_add]
         rw [← this]; congr 2; omega
        · cases hu'
       · cases hd
      ·
       rename_i inf hu hinf
       split at hd
       ·
        rename_i hz
        split at hd
        ·
         rename_i d' hes
         split at hd
         ·
          rename_i hone
          cases hd
          obtain ⟨g1, g2⟩ := hseg hz hes
          unfold VCs at g1
          obtain ⟨v', vs', g3, g4, g5, g6⟩ := g1
          refine ⟨v', fun w' hm => loadVar_one hu w' ?_, ?_⟩
          ·
           have : ((((vs.drop off).take (n * sz)).drop (i * sz + o2)).take 1)[0]? = some v' := by rw [g3]; rfl
           rw [List.getElem?_take, if_pos (by omega), List.getElem?_drop] at this
           have := hm _ v' this
           rw [← this]; congr 2; omega
          ·
           cases d with
           | agg xs => simp [D.one] at hone
           | raw u => exact g5
           | list sz n el => exact g5
         · cases hd
        · cases hd
       · cases hd
      · cases hd
     · cases hd
    obtain ⟨u, h6, h7⟩ := hh
    refine ⟨_, u, h5, fun w' hs => h6 w' fun j z hz => ?_, by unfold VA; exact h7⟩
    rw [heap_cell ((hs _ (.inr ⟨k, _, inL_self k, hk, by rw [h1]; rfl⟩)).trans h2)]
    rw [List.getElem?_take] at hz
    split at hz
    · rw [List.getElem?_drop] at hz; exact hz
    · cases hz
   · cases h
  · cases h
 case cptr cs =>
  unfold VA at hx
  obtain ⟨ad, vs, h1, h2, h3, h4, h5⟩ := hx
  obtain ⟨u, h6, h7⟩ := loadAV_run (P := P) (w := w) (ad := ad) (E := E) h (VAs_of_VCs h4)
  refine ⟨ad, u, h1, fun w' hs => h6 w' fun j z hz => ?_, h7⟩
  have hc := h5 j z (by simpa using hz)
  rw [World.cell?_of_block (w := w) (by rw [addr_add_block]; exact hs _ (.inl h3))]
  exact hc
 case el k i sz off =>
  split at h
  ·
   rename_i T sz' n el hk
   simp only [loadConds, hk] at hcs
   have hin : i < n := hcs.1
   split at h
   ·
    rename_i hsz
    subst hsz
    unfold VA at hx
    obtain ⟨g, m, cap, h1, h2⟩ := hx
    obtain ⟨vs, h3, h4⟩ := row_of hf hk
    obtain ⟨hm, hg, h6⟩ := h3.cells h1
    have h5 := (h4 i hin).cells
    obtain ⟨u, h7, h8⟩ := loadAV_run (P := P) (w := w) (ad := ⟨g, i * sz' + off, none⟩) (E := E) h (VAs_of_VCs h5)
    refine ⟨_, u, h2, fun w' hs => h7 w' fun j z hz => ?_, h8⟩
    have := h6 (i * sz' + (off + j)) z (by
     rw [List.getElem?_take] at hz
     split at hz
     · rw [List.getElem?_drop] at hz; exact hz
     · cases hz)
    rw [addr_mk_add]
    rw [World.cell?_of_block (w := w) (hs _ (.inr ⟨k, _, inL_self k, hk, by rw [h1]; rfl⟩)), ← this]
    congr 2; omega
   · cases h
  · cases h
theorem stepLoad_ok {o : Oper} {t : TypeId} {x : Operand} {y : AV} (ho : o.op = .load t x) (h : stepLoad P t (evg gl (s.ev x)) s = some y) (hcs : Conds (loadConds (evg gl (s.ev x)) s)) : LightOK P gl (evg gl (s.ev x)).keys o y s := by
 constructor
 intro C E a w hP hG hsim
 subst hG
 obtain ⟨ad, u, h1, h2, h3⟩ := load_run (P := P) hsim.fit (evg_VA hsim.fit (hsim.ev x)) h hcs
 exact ⟨u, fun w' hs => by simp [execOp, ho, Instr.loadAt, Instr.sureAddr, h1, h2 w' hs], h3⟩
def stepFieldAddr (P : Program) (st : TypeId) (f : Nat) (x : AV) : Option AV :=
 match P.underlying st with
 | some (.struct fields) =>
  match fields[f]? with
  | some fd =>
   match P.info? fd.type with
   | some i => if i.size = 0 then none else match x with
    | .ref k off => some (.ref k (off + fd.offset))
    | .refI k off i sz n o2 => some (.refI k off i sz n (o2 + fd.offset))
    | .cptr cs => some (.cptr (cs.drop fd.offset))
    | .el r i sz off => some (.el r i sz (off + fd.offset))
    | _ => none
   | none => none
  | none => none
 | _ => none
theorem cptr_drop {N : Nat → Prop} {cs : List D} {ad : Addr} {vs : List Value} (h2 : ad.spot = none) (h3 : N ad.block) (h4 : VCs w N cs vs) (h5 : ∀ j u, vs[j]? = some u → w.cell? (ad.add j) = some u) (n : Nat) :
  VA E w N (.cptr (cs.drop n)) (.pointer (some (ad.add n))) := by
 unfold VA
 refine ⟨_, vs.drop n, rfl, ?_, by rw [addr_add_block]; exact h3, h4.drop _, fun j u hu => ?_⟩
 · unfold Addr.add; split <;> simp [h2]
 ·
  rw [addr_add_add _ h2]
  rw [List.getElem?_drop] at hu
  exact h5 _ u hu
theorem stepFieldAddr_ok {o : Oper} {st : TypeId} {f : Nat} {x : Operand} {y : AV} (ho : o.op = .fieldAddr st x f) (h : stepFieldAddr P st f (evg gl (s.ev x)) = some y) : LightOK P gl [] o y s := by
 constructor
 intro C E a w hP hG hsim
 subst hG
 have hx := evg_VA hsim.fit (hsim.ev x)
 unfold stepFieldAddr at h
 split at h
 ·
  rename_i fields hu
  split at h
  ·
   rename_i fd hfd
   split at h
   ·
    rename_i i hi
    split at h
    · cases h
    ·
     rename_i hne
     have hplace : ∀ (ad : Addr) (w : World), (fieldPlace ad fd).run P w = .ok (ad.add fd.offset) w := fun ad w => by
      simp [fieldPlace, sizeOf, typeInfo, program, hi, hne, Sem.run]
     have hrun : ∀ ad : Addr, a.eval x = .pointer (some ad) → ∀ w', KeptW (inL []) C E s w w' → (execOp a.eval o).run P w' = .ok (.value (.pointer (some (ad.add fd.offset)))) w' := fun ad had w' _ => by
      simp [execOp, ho, Instr.fieldAt, run_underlying hu, hfd, Instr.sureAddr, had, hplace]
     cases hxe : evg C.gl (s.ev x) <;> rw [hxe] at h hx <;> simp only [Option.some.injEq, reduceCtorEq] at h <;> subst h
     case ref k off =>
      unfold VA at hx
      obtain ⟨b, h1, h2⟩ := hx
      refine ⟨_, hrun _ h2, ?_⟩
      unfold VA; exact ⟨b, h1, by rw [addr_mk_add]⟩
     case refI k off i sz n o2 =>
      unfold VA at hx
      obtain ⟨b, h1, h2⟩ := hx
      refine ⟨_, hrun _ h2, ?_⟩
      unfold VA; exact ⟨b, h1, by rw [addr_mk_add, Nat.add_assoc]⟩
     case cptr cs =>
      unfold VA at hx
      obtain ⟨ad, vs, h1, h2, h3, h4, h5⟩ := hx
      exact ⟨_, hrun _ h1, cptr_drop h2 h3 h4 h5 _⟩
     case el r i sz off =>
      unfold VA at hx
      obtain ⟨g, n, cap, h1, h2⟩ := hx
      refine ⟨_, hrun _ h2, ?_⟩
      unfold VA
      exact ⟨g, n, cap, h1, by rw [addr_mk_add, Nat.add_assoc]⟩
   · cases h
  · cases h
 · cases h
def stepIndexAddr (P : Program) (con : Bool) (t : TypeId) (x ix : AV) (s : St) : Option (AV × List Prop) :=
 match ix with
 | .d (.raw (.int _ i)) =>
  match P.underlying t with
  | some (.slice e) =>
   match P.info? e with
   | some inf =>
    match x with
    | .d (.list sz n el) => if sz = inf.size then some (.cptr (el i.toNat).cells, [0 ≤ i ∧ i < n]) else none
    | .own r => match s.th r with
     | some (.row _ sz n _) => if sz = inf.size then some (.el r i.toNat sz 0, [0 ≤ i ∧ i < n]) else none
     | _ => none
    | .sub r lo n sz _ => if sz = inf.size then some (.el r (lo + i.toNat) sz 0, [0 ≤ i ∧ i < n]) else none
    | .osl k off sz n _ => if sz = inf.size then some (if con then .ref k (off + i.toNat * sz) else .refI k off i.toNat sz n 0, [0 ≤ i ∧ i < n]) else none
    | _ => none
   | none => none
  | some (.array n e) =>
   match P.info? e with
   | some inf =>
    match x with
    | .ref k off => some (if con then .ref k (off + i.toNat * inf.size) else .refI k off i.toNat inf.size n 0, [0 ≤ i ∧ i < n])
    | .refI k off j sz m o2 => some (.refI k off j sz m (o2 + i.toNat * inf.size), [0 ≤ i ∧ i < n])
    | .cptr cs => some (.cptr (cs.drop (i.toNat * inf.size)), [0 ≤ i ∧ i < n])
    | .el r j sz off => some (.el r j sz (off + i.toNat * inf.size), [0 ≤ i ∧ i < n])
    | _ => none
   | none => none
  | _ => none
 | _ => none
theorem stepIndexAddr_ok {o : Oper} {t : TypeId} {x ix : Operand} {y : AV} {cs : List Prop} {con : Bool} (ho : o.op = .indexAddr t x ix) (h : stepIndexAddr P con t (evg gl (s.ev x)) (s.ev ix) s = some (y, cs)) (hcs : Conds cs) : LightOK P gl [] o y s := by
 constructor
 intro C E a w hP hG hsim
 subst hG
 have hx := evg_VA hsim.fit (hsim.ev x)
 have hi := hsim.ev ix
 unfold stepIndexAddr at h
 split at h
 ·
  rename_i kind i hie
  rw [hie] at hi
  unfold VA at hi
  have hi := (VD_raw_inv hi).1
  split at h
  ·
   rename_i e hu
   split at h
   ·
    rename_i inf hinf
    have hrun : ∀ (ad : Addr) (n c : Nat), a.eval x = .slice (some ad) n c → (0 ≤ i ∧ i < n) → ∀ w', KeptW (inL []) C E s w w' → (execOp a.eval o).run P w' = .ok (.value (.pointer (some (ad.add (i.toNat * inf.size))))) w' := fun ad n c had hb w' _ => by
     simp [execOp, ho, Instr.indexAt, run_underlying hu, had, hi, asIntOf, sizeOf, typeInfo, program, hinf, hb, Sem.run]
    cases hxe : evg C.gl (s.ev x) <;> rw [hxe] at h hx <;> (try simp only [reduceCtorEq] at h)
    case d y' =>
     cases y' <;> (try simp only [reduceCtorEq] at h)
     rename_i sz n el
     split at h
     ·
      rename_i hsz
      simp only [Option.some.injEq, Prod.mk.injEq] at h
      obtain ⟨rfl, rfl⟩ := h
      have hb : 0 ≤ i ∧ i < n := hcs.1
      unfold VA at hx
      have hx' : VC w (Stable C E s w) (.list sz n el) [a.eval x] := hx
      unfold VC at hx'
      obtain ⟨v, hv, hx'⟩ := hx'
      simp only [List.cons.injEq, and_true] at hv
      rcases hx' with ⟨h0, _⟩ | ⟨ad, cap, vs, h1, h2, h3, h4, h5, h6, h7, h8⟩
      · omega
      ·
       have hlt : i.toNat < n := by omega
       refine ⟨_, hrun ad n cap (hv.trans h1) hb, ?_⟩
       unfold VA
       refine ⟨_, (vs.drop (i.toNat * sz)).take sz, rfl, by unfold Addr.add; split <;> simp [h4], by rw [addr_add_block]; exact h5, (h8 _ hlt).cells, fun j u hu => ?_⟩
       rw [addr_add_add _ h4]
       rw [List.getElem?_take] at hu
       split at hu
       ·
        rw [List.getElem?_drop] at hu
        rw [← hsz]
        exact h7 _ u hu
       · cases hu
     · cases h
    case own r =>
     split at h
     ·
      rename_i T sz n el hk
      split at h
      ·
       rename_i hsz
       simp only [Option.some.injEq, Prod.mk.injEq] at h
       obtain ⟨rfl, rfl⟩ := h
       have hb : 0 ≤ i ∧ i < n := hcs.1
       unfold VA at hx
       obtain ⟨vs, h3, h4⟩ := row_of hsim.fit hk
       rcases h3.2 with ⟨_, h0⟩ | ⟨g, cap, cur, hv, _⟩
       · omega
       ·
        refine ⟨_, hrun _ n cap (hx.1.trans hv) hb, ?_⟩
        unfold VA
        exact ⟨g, n, cap, hv, by rw [addr_mk_add, ← hsz]; simp⟩
      · cases h
     · cases h
    case sub r lo n sz cap =>
     split at h
     ·
      rename_i hsz
      simp only [Option.some.injEq, Prod.mk.injEq] at h
      obtain ⟨rfl, rfl⟩ := h
      have hb : 0 ≤ i ∧ i < n := hcs.1
      unfold VA at hx
      rcases hx with ⟨h0, _⟩ | ⟨g, m, c, o', cp, h1, h2, h3, h4, h5, h6⟩
      · omega
      ·
       refine ⟨_, hrun _ n cp h3 hb, ?_⟩
       unfold VA
       refine ⟨g, m, c, h1, ?_⟩
       rw [addr_mk_add, h4 (by omega), ← hsz, Nat.add_mul]; simp
     · cases h
    case osl k off sz n cap =>
     split at h
     ·
      rename_i hsz
      simp only [Option.some.injEq, Prod.mk.injEq] at h
      obtain ⟨rfl, rfl⟩ := h
      have hb : 0 ≤ i ∧ i < n := hcs.1
      unfold VA at hx
      obtain ⟨b, h1, h2⟩ := hx
      refine ⟨_, hrun _ n _ h2 hb, ?_⟩
      rw [addr_mk_add, ← hsz]
      cases con
      · simp only [Bool.false_eq_true, if_false]; unfold VA; exact ⟨b, h1, by simp⟩
      · simp only [if_true]; unfold VA; exact ⟨b, h1, rfl⟩
     · cases h
   · cases h
  ·
   rename_i n e hu
   split at h
   ·
    rename_i inf hinf
    have hrun : ∀ (ad : Addr), a.eval x = .pointer (some ad) → (0 ≤ i ∧ i < n) → ∀ w', KeptW (inL []) C E s w w' → (execOp a.eval o).run P w' = .ok (.value (.pointer (some (ad.add (i.toNat * inf.size))))) w' := fun ad had hb w' _ => by
     simp [execOp, ho, Instr.indexAt, run_underlying hu, had, hi, Instr.sureAddr, asIntOf, sizeOf, typeInfo, program, hinf, hb, Sem.run]
    cases hxe : evg C.gl (s.ev x) <;> rw [hxe] at h hx <;> (try simp only [reduceCtorEq] at h) <;> (try simp only [Option.some.injEq, Prod.mk.injEq] at h) <;> obtain ⟨rfl, rfl⟩ := h
    case ref k off =>
     have hb : 0 ≤ i ∧ i < n := hcs.1
     unfold VA at hx
     obtain ⟨b, h1, h2⟩ := hx
     refine ⟨_, hrun _ h2 hb, ?_⟩
     rw [addr_mk_add]
     cases con
     · simp only [Bool.false_eq_true, if_false]; unfold VA; exact ⟨b, h1, by simp⟩
     · simp only [if_true]; unfold VA; exact ⟨b, h1, rfl⟩
    case refI k off j sz m o2 =>
     have hb : 0 ≤ i ∧ i < n := hcs.1
     unfold VA at hx
     obtain ⟨b, h1, h2⟩ := hx
     refine ⟨_, hrun _ h2 hb, ?_⟩
     rw [addr_mk_add]
     unfold VA; exact ⟨b, h1, by rw [Nat.add_assoc]⟩
    case cptr cs' =>
     have hb : 0 ≤ i ∧ i < n := hcs.1
     unfold VA at hx
     obtain ⟨ad, vs, h1, h2, h3, h4, h5⟩ := hx
     exact ⟨_, hrun _ h1 hb, cptr_drop h2 h3 h4 h5 _⟩
    case el r j sz off =>
     have hb : 0 ≤ i ∧ i < n := hcs.1
     unfold VA at hx
     obtain ⟨g, m, cap, h1, h2⟩ := hx
     refine ⟨_, hrun _ h2 hb, ?_⟩
     unfold VA
     exact ⟨g, m, cap, h1, by rw [addr_mk_add, Nat.add_assoc]⟩
   · cases h
  · cases h
 · cases h
end Go.Eng
