/-
  Part of the engine: abstract states of a call (values as trees, things of the call's own), and that each operation of the model does to the world what it does to them. No condition.
-/
import Derived.Test.YtmgfgcoeflanmaaDoorEng3
namespace Go.Eng
open Go Go.RowKit
variable {P : Program} {gl : Nat → Option (List D)} {C : Cx} {E E' : Env} {s s' : St} {a : Act} {w w' : World}

theorem Sim.newTh_tm (h : Sim C E s a w) {k : Nat} {q : Option Nat} {t : Th} {v : Value} (hV : ∀ x u, VA E w (Stable C E s w) x u → VA (E.set k v) w' (Stable C (E.set k v) (s.newTh q k t) w') (x.forget (eqk k)) u) :
    VAs (E.set k v) w' (Stable C (E.set k v) (s.newTh q k t) w') (s.newTh q k t).tmps a.tmps.toList := VAs.map _ h.tm hV
theorem fresh_base (s : St) : s.base ≤ s.fresh := Nat.le_max_left _ _

/-! ### a new object -/
def St.newObj (s : St) (dst : Option Tmp) (T : TypeId) (cells : List AV) : St :=
  let k := s.fresh
  (s.newTh none k (.obj T (cells.map (AV.forget (eqk k))))).put dst (.ref k 0)
theorem newObj_ok {o : Oper} {T : TypeId} {cells : List AV} {x : Value}
    (hsim : Sim C E s a w) (hc : VAs E w (Stable C E s w) cells x.cells.toList)
    (hrun : (execOp a.eval o).run P w = .ok (.value (.pointer (some ⟨w.heap.size, 0, none⟩))) (w.alloc (.cells x.cells T)))
    {next : Act → World → Prop} {Q : Exit → Act → World → Prop} (hn : ∀ E' a' w', Sim C E' (s.newObj o.dst T cells) a' w' → Kp [] C E s w E' (s.newObj o.dst T cells) w' → next a' w') : Oper.wp P o a w next Q := by
  refine wp_value hrun ?_
  have hbel : Below w.heap.size w (w.alloc (.cells x.cells T)) := (Below.refl _ _).alloc (Nat.le_refl _) _
  obtain ⟨h1, h2, h3, h4⟩ := hsim.fit.newTh (w' := w.alloc (.cells x.cells T)) none s.fresh (fresh_base s) (.obj T (cells.map (AV.forget (eqk s.fresh)))) (.pointer (some ⟨w.heap.size, 0, none⟩))
    rfl rfl rfl hbel.size (fun b hb _ => hbel.block b hb) (fun b hb => .inl (Nat.le_of_eq (by simpa [blk] using hb)))
    (fun {E' N'} hS hC hE hk => ⟨w.heap.size, x.cells.toList, rfl, by rw [heap_alloc_new], VAs.map _ hc fun y u hy => VA.forget (F := eqk s.fresh) hS hC (fun i hi => hE i (by simpa [eqk] using hi)) hy⟩)
  have hsim' : Sim C (E.set s.fresh (.pointer (some ⟨w.heap.size, 0, none⟩))) (s.newTh none s.fresh (.obj T (cells.map (AV.forget (eqk s.fresh))))) a (w.alloc (.cells x.cells T)) :=
    ⟨h1, hsim.newTh_tm h4, hsim.df⟩
  have hkp : Kp [] C E s w (E.set s.fresh (.pointer (some ⟨w.heap.size, 0, none⟩))) (s.newTh none s.fresh (.obj T (cells.map (AV.forget (eqk s.fresh))))) (w.alloc (.cells x.cells T)) :=
    newTh_kp hsim.fit none _ _ rfl rfl rfl hbel.size (fun b hb _ => hbel.block b hb) (fun b hb => .inl (Nat.le_of_eq (by simpa [blk] using hb)))
  exact hn _ _ _ (hsim'.put' o.dst (x := .ref s.fresh 0) (v := .pointer (some ⟨w.heap.size, 0, none⟩)) (by unfold VA; exact ⟨_, by simp [Env.set], rfl⟩)) (Kp.trans hkp (Kp.refl [] rfl))

def stepBox (o : Oper) (T : TypeId) (x : AV) (s : St) : Option St := x.boxed.map fun cells => s.newObj o.dst T cells
theorem stepBox_ok {o : Oper} {T : TypeId} {x : Operand} (ho : o.op = .box T x) (h : stepBox o T (s.ev x) s = some s') : StepOK P gl [] o s s' := by
  unfold stepBox at h
  obtain ⟨cells, hb, rfl⟩ := Option.map_eq_some_iff.1 h
  constructor
  intro C E a w next Q _ _ hsim hn
  have hv := boxed_VAs (hsim.ev x) hb
  refine newObj_ok hsim hv.1 (x := a.eval x) ?_ hn
  simp [execOp, ho, Instr.box, newVar, newRow, newObj, Sem.run]
def stepAlloc (P : Program) (o : Oper) (T : TypeId) (s : St) : Option St :=
  match (P.info? T).bind (·.zero) with
  | some z => (ofValue z).boxed.map fun cells => s.newObj o.dst T cells
  | _ => none
theorem stepAlloc_ok {o : Oper} {T : TypeId} (ho : o.op = .alloc T) (h : stepAlloc P o T s = some s') : StepOK P gl [] o s s' := by
  unfold stepAlloc at h
  split at h
  · rename_i z hz
    obtain ⟨cells, hb, rfl⟩ := Option.map_eq_some_iff.1 h
    constructor
    intro C E a w next Q _ _ hsim hn
    have hv := boxed_VAs (ofValue_VA (E := E) (w := w) (N := Stable C E s w) z) hb
    obtain ⟨i, hi, hz'⟩ := Option.bind_eq_some_iff.1 hz
    refine newObj_ok hsim hv.1 (x := z) ?_ hn
    simp [execOp, ho, Instr.alloc, zeroValue, typeInfo, program, hi, hz', newVar, newRow, newObj, Sem.run]
  · cases h

/-! ### loads -/
def isAggT (P : Program) (t : TypeId) : Option Bool :=
  (P.underlying t).map fun d => match d with | .struct _ => true | .array _ _ => true | _ => false
/-- What a load of type t finds in cells from off on. -/
def loadCellsAV (P : Program) (t : TypeId) (cells : List AV) (off : Nat) : Option AV :=
  match isAggT P t, P.info? t with
  | some true, some i => if off + i.size ≤ cells.length then aggOf ((cells.drop off).take i.size) else none
  | some false, some _ => cells[off]?
  | _, _ => none
theorem addr_add_add (ad : Addr) (h : ad.spot = none) (m n : Nat) : (ad.add m).add n = ad.add (m + n) := by
  rcases ad with ⟨b, o, sp⟩
  simp only at h
  subst h
  unfold Addr.add
  split <;> split <;> split <;> simp_all <;> omega
theorem addr_mk_add (b o n : Nat) : (⟨b, o, none⟩ : Addr).add n = ⟨b, o + n, none⟩ := by
  unfold Addr.add; split <;> simp_all

/-- Cells there, cells loaded. -/
theorem loadVar_agg {t : TypeId} {i : TypeInfo} {ad : Addr} {us : List Value} (hu : isAggT P t = some true) (hi : P.info? t = some i) (hl : us.length = i.size) (w : World)
    (hm : ∀ (j : Nat) (u : Value), us[j]? = some u → w.cell? (ad.add j) = some u) : (loadVar t ad).run P w = .ok (.agg us.toArray) w := by
  have hr := run_loadCells_list (P := P) (w := w) ad us hm
  rw [hl] at hr
  unfold isAggT at hu
  obtain ⟨d, hd, hd'⟩ := Option.map_eq_some_iff.1 hu
  cases d <;> simp at hd' <;> simp [loadVar, isAgg, run_underlying hd, sizeOf, typeInfo, program, hi, hr, Sem.run]
theorem loadVar_one {t : TypeId} {ad : Addr} {u : Value} (hu : isAggT P t = some false) (w : World) (hm : w.cell? ad = some u) : (loadVar t ad).run P w = .ok u w := by
  unfold isAggT at hu
  obtain ⟨d, hd, hd'⟩ := Option.map_eq_some_iff.1 hu
  cases d <;> simp at hd' <;> simp [loadVar, isAgg, run_underlying hd, load, Sem.run, hm]
/-- The load itself. -/
theorem loadAV_run {t : TypeId} {cells : List AV} {vs : List Value} {off : Nat} {x : AV} {N : Nat → Prop} {ad : Addr} (h : loadCellsAV P t cells off = some x) (hc : VAs E w N cells vs)
    : ∃ v, (∀ w', (∀ (j : Nat) (u : Value), vs[off + j]? = some u → w'.cell? (ad.add j) = some u) → (loadVar t ad).run P w' = .ok v w') ∧ VA E w N x v := by
  unfold loadCellsAV at h
  split at h
  · rename_i i hu hi
    split at h
    · rename_i hl
      have hlen : ((vs.drop off).take i.size).length = i.size := by simp [hc.length]; omega
      refine ⟨.agg ((vs.drop off).take i.size).toArray, fun w' hm => loadVar_agg hu hi hlen w' fun j v hv => ?_, aggOf_VA h ((hc.drop off).take i.size)⟩
      rw [List.getElem?_take] at hv
      split at hv
      · rw [List.getElem?_drop] at hv; exact hm j v hv
      · cases hv
    · cases h
  · rename_i i hu hi
    obtain ⟨v, hv1, hv2⟩ := hc.get off x h
    refine ⟨v, fun w' hm => loadVar_one hu w' ?_, hv2⟩
    have hcell := hm 0 v (by simpa using hv1)
    have hadd : ad.add 0 = ad := by simp [Addr.add]
    rw [hadd] at hcell; exact hcell
  · cases h

/-- The numbers, bools, texts of cells of one kind. -/
def unI : D → Int
  | .raw (.int _ n) => n
  | _ => 0
def unB : D → Bool
  | .raw (.bool b) => b
  | _ => false
def unS : D → ByteArray
  | .raw (.string s) => s
  | _ => .empty
def isI (k : IntKind) : D → Bool
  | .raw (.int k' _) => k == k'
  | _ => false
def isB : D → Bool
  | .raw (.bool _) => true
  | _ => false
def isS : D → Bool
  | .raw (.string _) => true
  | _ => false
/-- One of several cells of one kind, at an open place. -/
def sel1 (i : Nat) (ds : List D) : Option D :=
  match ds with
  | .raw (.int k _) :: _ => if ds.all (isI k) then some (.raw (.int k ((ds.map unI).getD i 0))) else none
  | .raw (.bool _) :: _ => if ds.all isB then some (.raw (.bool ((ds.map unB).getD i false))) else none
  | .raw (.string _) :: _ => if ds.all isS then some (.raw (.string ((ds.map unS).getD i .empty))) else none
  | _ => none
theorem sel1_eq {i : Nat} {ds : List D} {d : D} (h : sel1 i ds = some d) (hi : i < ds.length) : ds[i]? = some d := by
  unfold sel1 at h
  rw [List.getElem?_eq_getElem hi]
  have key : ∀ {α : Type} (f : D → α) (z : α), (ds.map f).getD i z = f ds[i] := fun f z => by
    rw [List.getD_eq_getElem?_getD, List.getElem?_map, List.getElem?_eq_getElem hi]; rfl
  split at h
  · rename_i k n r
    split at h
    · rename_i hall
      cases h
      rw [key unI 0]
      have := List.all_eq_true.1 hall _ (List.getElem_mem hi)
      generalize (D.raw (.int k n) :: r)[i] = x at this
      cases x <;> simp only [isI, Bool.false_eq_true] at this
      rename_i v
      cases v <;> simp only [Bool.false_eq_true] at this
      have e := eq_of_beq this
      subst e; rfl
    · cases h
  · rename_i n r
    split at h
    · rename_i hall
      cases h
      rw [key unB false]
      have := List.all_eq_true.1 hall _ (List.getElem_mem hi)
      generalize (D.raw (.bool n) :: r)[i] = x at this
      cases x <;> simp only [isB, Bool.false_eq_true] at this
      rename_i v
      cases v <;> simp only [Bool.false_eq_true] at this
      rfl
    · cases h
  · rename_i n r
    split at h
    · rename_i hall
      cases h
      rw [key unS .empty]
      have := List.all_eq_true.1 hall _ (List.getElem_mem hi)
      generalize (D.raw (.string n) :: r)[i] = x at this
      cases x <;> simp only [isS, Bool.false_eq_true] at this
      rename_i v
      cases v <;> simp only [Bool.false_eq_true] at this
      rfl
    · cases h
  · cases h
/-- Cell c of each of the n parts. -/
def column (cells : List D) (off sz n c : Nat) : List D := (List.range n).map fun j => cells.getD (off + j * sz + c) default
def selCells (cells : List D) (off i sz n o2 : Nat) : Nat → Option (List D)
  | 0 => some []
  | z + 1 => match selCells cells off i sz n o2 z, sel1 i (column cells off sz n (o2 + z)) with
    | some ds, some d => some (ds ++ [d])
    | _, _ => none
theorem selCells_eq {cells : List D} {off i sz n o2 : Nat} (hi : i < n) (hn : ∀ j, j < n → ∀ c, c < sz → off + j * sz + c < cells.length) : ∀ {z : Nat} {ds : List D}, o2 + z ≤ sz → selCells cells off i sz n o2 z = some ds →
    ds.length = z ∧ ∀ c, c < z → cells[off + i * sz + o2 + c]? = ds[c]?
  | 0, ds, _, h => by simp only [selCells, Option.some.injEq] at h; subst h; exact ⟨rfl, fun c hc => absurd hc (by omega)⟩
  | z + 1, ds, hz, h => by
    simp only [selCells] at h
    split at h
    · rename_i ds' d h1 h2
      cases h
      obtain ⟨h3, h4⟩ := selCells_eq hi hn (by omega) h1
      have h5 := sel1_eq h2 (by simp [column, hi])
      refine ⟨by simp [h3], fun c hc => ?_⟩
      by_cases e : c < z
      · rw [h4 c e, List.getElem?_append_left (by omega)]
      · have e : c = z := by omega
        subst e
        rw [List.getElem?_append_right (by omega), h3]
        simp only [Nat.sub_self, List.getElem?_cons_zero]
        rw [← h5]
        unfold column
        rw [List.getElem?_map, List.getElem?_range hi]
        simp only [Option.map_some]
        have := hn i hi (o2 + c) (by omega)
        rw [List.getD_eq_getElem?_getD, List.getElem?_eq_getElem (by omega), List.getElem?_eq_getElem this]
        simp [Nat.add_assoc]
    · cases h
/-- A load at an open place. -/
def loadSel (P : Program) (t : TypeId) (cells : List D) (off i sz n o2 : Nat) : Option D :=
  if off + n * sz ≤ cells.length then
    match isAggT P t, P.info? t with
    | some true, some inf => if o2 + inf.size ≤ sz then (selCells cells off i sz n o2 inf.size).map .agg else none
    | some false, some _ => if o2 + 1 ≤ sz then match selCells cells off i sz n o2 1 with | some [d] => if d.one then some d else none | _ => none else none
    | _, _ => none
  else none
theorem mul_bd {j n sz c : Nat} (hj : j < n) (hc : c < sz) : j * sz + c < n * sz := by
  have : (j + 1) * sz ≤ n * sz := Nat.mul_le_mul_right _ hj
  rw [Nat.add_mul] at this; omega
theorem loadSel_run {t : TypeId} {cells : List D} {vs : List Value} {off i sz n o2 : Nat} {d : D} {N : Nat → Prop} {b : Nat} (h : loadSel P t cells off i sz n o2 = some d) (hi : i < n) (hc : VCs w N cells vs) :
    ∃ v, (∀ w', (∀ (j : Nat) (u : Value), vs[j]? = some u → w'.cell? ⟨b, j, none⟩ = some u) → (loadVar t ⟨b, off + i * sz + o2, none⟩).run P w' = .ok v w') ∧ VD w N d v := by
  unfold loadSel at h
  split at h
  · rename_i hlen
    have hn : ∀ j, j < n → ∀ c, c < sz → off + j * sz + c < cells.length := fun j hj c hc' => by have := mul_bd hj hc'; omega
    have hseg : ∀ {z : Nat} {ds : List D}, o2 + z ≤ sz → selCells cells off i sz n o2 z = some ds → VCs w N ds ((vs.drop (off + i * sz + o2)).take z) ∧ ((vs.drop (off + i * sz + o2)).take z).length = z := fun {z ds} hz hs => by
      obtain ⟨h1, h2⟩ := selCells_eq hi hn hz hs
      have hl := hc.length
      have hlt : off + i * sz + (o2 + z) ≤ vs.length := by
        rw [hl]
        rcases Nat.eq_zero_or_pos (o2 + z) with e | e
        · have := mul_bd (c := 0) hi (sz := sz)
          rw [e]
          rcases Nat.eq_zero_or_pos sz with e2 | e2
          · subst e2; simp at hlen ⊢; omega
          · have := mul_bd (c := 0) hi e2; omega
        · have := hn i hi (o2 + z - 1) (by omega); omega
      have hll : ((vs.drop (off + i * sz + o2)).take z).length = z := by simp; omega
      refine ⟨VCs.of_get (by rw [hll, h1]) fun c x v hx hv => ?_, hll⟩
      have hcz : c < z := by have := (List.getElem?_eq_some_iff.1 hx).1; omega
      rw [← h2 c hcz] at hx
      rw [List.getElem?_take, if_pos hcz, List.getElem?_drop] at hv
      obtain ⟨u, h3, h4⟩ := hc.get _ x hx
      rw [h3] at hv; cases hv; exact h4
    split at h
    · rename_i inf hu hinf
      split at h
      · rename_i hz
        obtain ⟨ds, hds, rfl⟩ := Option.map_eq_some_iff.1 h
        obtain ⟨h1, h2⟩ := hseg hz hds
        refine ⟨.agg ((vs.drop (off + i * sz + o2)).take inf.size).toArray, fun w' hm => loadVar_agg hu hinf h2 w' fun j u hu' => ?_, ⟨_, rfl, by unfold VC; exact h1⟩⟩
        rw [List.getElem?_take] at hu'
        split at hu'
        · rw [List.getElem?_drop] at hu'
          rw [addr_mk_add]; exact hm _ u hu'
        · cases hu'
      · cases h
    · rename_i inf hu hinf
      split at h
      · rename_i hz
        split at h
        · rename_i d' hds
          split at h
          · rename_i hone
            cases h
            obtain ⟨h1, h2⟩ := hseg hz hds
            unfold VCs at h1
            obtain ⟨v, vs', h3, h4, h5, h6⟩ := h1
            refine ⟨v, fun w' hm => loadVar_one hu w' ?_, ?_⟩
            · have : ((vs.drop (off + i * sz + o2)).take 1)[0]? = some v := by rw [h3]; rfl
              rw [List.getElem?_take, if_pos (by omega), List.getElem?_drop] at this
              exact hm _ v this
            · cases d with
              | agg xs => simp [D.one] at hone
              | raw u => exact h5
              | list sz n el => exact h5
          · cases h
        · cases h
      · cases h
    · cases h
  · cases h
end Go.Eng
