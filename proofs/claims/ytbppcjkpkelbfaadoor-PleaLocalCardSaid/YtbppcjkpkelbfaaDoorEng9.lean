/-
  Part of the engine: abstract states of a call, and that the operations do what is told of them. No condition.
-/
import Derived.Test.YtbppcjkpkelbfaaDoorEng8
import Derived.Laws.Slices
import Derived.Laws.Strings2
import Derived.Laws.BytesString
namespace Go.Eng
open Go Go.RowKit
variable {P : Program} {gl : Nat → Option (List D)} {C : Cx} {E E' : Env} {s s' : St} {a : Act} {w w' : World}
def fillA (place : Nat → Option (Nat × Nat)) (cells : List AV) : List (Nat × List AV) → Option (List AV)
 | [] => some cells
 | (i, x) :: rest =>
  match place i with
  | none => none
  | some (off, size) => if x.length == size && Nat.ble (off + x.length) cells.length then fillA place (splice cells off x) rest else none
theorem fold_splice (off : Nat) : ∀ (vs : List Value) (i : Nat) (cs : Array Value), off + i + vs.length ≤ cs.size →
  ((vs.zipIdx i).foldl (fun cs (x : Value × Nat) => cs.setIfInBounds (off + x.2) x.1) cs).toList = splice cs.toList (off + i) vs
 | [], i, cs, _ => by simp [splice]
 | v :: vs, i, cs, h => by
  simp only [List.length_cons] at h
  rw [List.zipIdx_cons, List.foldl_cons, fold_splice off vs (i + 1) _ (by simp; omega)]
  simp only [Array.toList_setIfInBounds, splice, List.length_cons]
  have hl : cs.toList.length = cs.size := Array.length_toList
  apply List.ext_getElem?
  intro j
  simp only [List.getElem?_append, List.length_take, List.length_set, List.length_append, List.length_cons, List.getElem?_take, List.getElem?_set, List.getElem?_drop, hl]
  rcases Nat.lt_trichotomy j (off + i) with hj | hj | hj
  · rw [if_pos (by omega), if_pos (by omega), if_pos (by omega), if_neg (by omega), if_pos (by omega), if_pos (by omega), if_pos (by omega)]
  ·
   subst hj
   rw [if_pos (by omega), if_pos (by omega), if_pos (by omega), if_pos (by omega), if_pos (by omega), if_pos (by omega), if_neg (by omega)]
   have : off + i - min (off + i) cs.size = 0 := by omega
   rw [this]; rfl
  ·
   by_cases h2 : j < off + i + 1 + vs.length
   ·
    rw [if_pos (by omega), if_neg (by omega), if_pos (by omega), if_neg (by omega)]
    have e1 : j - min (off + i) cs.size = (j - min (off + (i + 1)) cs.size) + 1 := by omega
    rw [e1]; rfl
   ·
    rw [if_neg (by omega), if_neg (by omega), if_neg (by omega)]
    congr 1; omega
theorem fillA_run {N : Nat → Prop} (place : Nat → Option (Nat × Nat)) : ∀ (parts : List (Nat × List AV)) (vparts : List (Nat × Value)) (cells : List AV) (cs : Array Value) (r : List AV),
  VAs E w N cells cs.toList → vparts.length = parts.length → (∀ (j : Nat) i x k v, parts[j]? = some (i, x) → vparts[j]? = some (k, v) → k = i ∧ VAs E w N x v.cells.toList) → fillA place cells parts = some r →
  ∃ rs, Instr.fill place cs vparts = some rs ∧ VAs E w N r rs.toList
 | [], [], cells, cs, r, h, _, _, hf => by simp only [fillA, Option.some.injEq] at hf; subst hf; exact ⟨cs, rfl, h⟩
 | [], _ :: _, _, _, _, _, hl, _, _ => by simp at hl
 | _ :: _, [], _, _, _, _, hl, _, _ => by simp at hl
 | (i, x) :: parts, (k, v) :: vparts, cells, cs, r, h, hl, hp, hf => by
  obtain ⟨rfl, hcv⟩ := hp 0 i x k v rfl rfl
  simp only [fillA] at hf
  cases hpl : place k with
  | none => simp [hpl] at hf
  | some q =>
   obtain ⟨off, size⟩ := q
   simp only [hpl] at hf
   split at hf
   ·
    rename_i hc
    simp only [Bool.and_eq_true, beq_iff_eq, Nat.ble_eq] at hc
    have hlen := hcv.length
    have hlc := h.length
    have h1 := fold_splice off v.cells.toList 0 cs (by simp only [Array.length_toList] at hlc hlen ⊢; omega)
    have h2 : VAs E w N (splice cells off x) ((v.cells.zipIdx.foldl (fun cs (x : Value × Nat) => cs.setIfInBounds (off + x.2) x.1) cs).toList) := by
     have e : v.cells.zipIdx.foldl (fun cs (x : Value × Nat) => cs.setIfInBounds (off + x.2) x.1) cs = (v.cells.toList.zipIdx 0).foldl (fun cs (x : Value × Nat) => cs.setIfInBounds (off + x.2) x.1) cs := by
      rw [← Array.foldl_toList]; simp
     rw [e, h1]
     exact h.splice hcv off
    obtain ⟨rs, h3, h4⟩ := fillA_run place parts vparts _ _ r h2 (by simpa using hl) (fun j i' x' k' v' hj hj' => hp (j + 1) i' x' k' v' (by simpa using hj) (by simpa using hj')) hf
    refine ⟨rs, ?_, h4⟩
    simp only [Instr.fill, hpl]
    rw [if_neg]
    · exact h3
    ·
     simp only [Array.length_toList] at hlc hlen
     simp only [ne_eq, Bool.or_eq_true, decide_eq_true_eq, not_or, Decidable.not_not, Nat.not_lt, gt_iff_lt]
     omega
   · cases hf
def rawCells (z : Value) : Option (List D) := if z.cells.toList.all (·.oneCell') then some (z.cells.toList.map .raw) else none
theorem rawCells_VCs {N : Nat → Prop} {z : Value} {cs : List D} (h : rawCells z = some cs) : VCs w N cs z.cells.toList := by
 unfold rawCells at h
 split at h
 ·
  rename_i h1
  cases h
  exact VCs_raw _ h1
 · cases h
theorem rawCells_VAs {N : Nat → Prop} {z : Value} {cs : List D} (h : rawCells z = some cs) : VAs E w N (cs.map .d) z.cells.toList := VAs_of_VCs (rawCells_VCs h)
def builtA (P : Program) (t : TypeId) (parts : List (Nat × List AV)) : Option (List AV) :=
 match P.info? t, P.underlying t with
 | some it, some (.array _ e) =>
  match it.zero.bind rawCells, P.info? e with
  | some z, some ie => fillA (fun i => some (i * ie.size, ie.size)) (z.map .d) parts
  | _, _ => none
 | some it, some (.struct fields) =>
  match it.zero.bind rawCells, fields.toList.mapM (fun f => (P.info? f.type).map fun i => (f.offset, i.size)) with
  | some z, some places => fillA (places.toArray[·]?) (z.map .d) parts
  | _, _ => none
 | _, _ => none
theorem builtA_run {N : Nat → Prop} {t : TypeId} {parts : List (Nat × List AV)} {vparts : List (Nat × Value)} {r : List AV} (h : builtA P t parts = some r) (hl : vparts.length = parts.length)
  (hp : ∀ (j : Nat) i x k v, parts[j]? = some (i, x) → vparts[j]? = some (k, v) → k = i ∧ VAs E w N x v.cells.toList) : ∃ rs, P.built t vparts = some rs ∧ VAs E w N r rs.toList := by
 unfold builtA at h
 unfold Program.built
 cases hi : P.info? t with
 | none => simp [hi] at h
 | some it =>
  cases hu : P.underlying t with
  | none => simp [hi, hu] at h
  | some d =>
   cases d <;> simp only [hi, hu, reduceCtorEq] at h
   case array n e =>
    cases hz : it.zero with
    | none => simp [hz] at h
    | some z =>
     simp only [hz, Option.bind_some] at h
     cases hz2 : rawCells z with
     | none => simp [hz2] at h
     | some zc =>
      cases he : P.info? e with
      | none => simp [hz2, he] at h
      | some ie =>
       simp only [hz2, he] at h
       simpa [hz, he] using fillA_run _ parts vparts (zc.map .d) z.cells r (rawCells_VAs hz2) hl hp h
   case struct fields =>
    cases hz : it.zero with
    | none => simp [hz] at h
    | some z =>
     simp only [hz, Option.bind_some] at h
     cases hz2 : rawCells z with
     | none => simp [hz2] at h
     | some zc =>
      cases he : fields.toList.mapM (fun f => (P.info? f.type).map fun i => (f.offset, i.size)) with
      | none => simp [hz2, he] at h
      | some places =>
       simp only [hz2, he] at h
       simpa [hz, he] using fillA_run _ parts vparts (zc.map .d) z.cells r (rawCells_VAs hz2) hl hp h
def partsA (s : St) : List (Nat × Operand) → Option (List (Nat × List AV))
 | [] => some []
 | (i, x) :: rest => match (s.ev x).boxed, partsA s rest with
  | some d, some ds => some ((i, d) :: ds)
  | _, _ => none
theorem partsA_ok (hsim : Sim C E s a w) : ∀ (ps : List (Nat × Operand)) (ds : List (Nat × List AV)), partsA s ps = some ds → ds.length = ps.length ∧
  ∀ (j : Nat) i x k v, ds[j]? = some (i, x) → (ps.map fun (i, x) => (i, a.eval x))[j]? = some (k, v) → k = i ∧ VAs E w (Stable C E s w) x v.cells.toList ∧ ∀ u ∈ v.cells.toList, u.oneCell' = true
 | [], ds, h => by simp only [partsA, Option.some.injEq] at h; subst h; exact ⟨rfl, fun j i x k v h => by simp at h⟩
 | (i, x) :: ps, ds, h => by
  simp only [partsA] at h
  split at h
  ·
   rename_i d ds' h1 h2
   cases h
   obtain ⟨h3, h4⟩ := partsA_ok hsim ps ds' h2
   refine ⟨by simp [h3], fun j i' x' k' v hj hj' => ?_⟩
   cases j with
   | zero =>
    simp only [List.getElem?_cons_zero, Option.some.injEq, Prod.mk.injEq, List.map_cons] at hj hj'
    obtain ⟨rfl, rfl⟩ := hj
    obtain ⟨rfl, rfl⟩ := hj'
    exact ⟨rfl, boxed_VAs (hsim.ev x) h1⟩
   | succ j => exact h4 j i' x' k' v (by simpa using hj) (by simpa using hj')
  · cases h
theorem map_toList_toArray {α β : Type} (f : α → β) (z : Array α) : z.map f = (z.toList.map f).toArray := by rw [← Array.toList_map, Array.toArray_toList]
def stepBuild (P : Program) (t : TypeId) (parts : Array (Nat × Operand)) (s : St) : Option AV :=
 match partsA s parts.toList with
 | some ds => (builtA P t ds).bind aggOf
 | none => none
theorem stepBuild_ok {o : Oper} {t : TypeId} {parts : Array (Nat × Operand)} {y : AV} (ho : o.op = .build t parts) (h : stepBuild P t parts s = some y) : LightOK P gl [] o y s := by
 constructor
 intro C E a w hP hG hsim
 unfold stepBuild at h
 split at h
 ·
  rename_i ds hds
  obtain ⟨xs, hxs, hy⟩ := Option.bind_eq_some_iff.1 h
  obtain ⟨h1, h2⟩ := partsA_ok hsim _ _ hds
  obtain ⟨rs, h3, h4⟩ := builtA_run (P := P) hxs (vparts := parts.toList.map fun (i, x) => (i, a.eval x)) (by simp [h1]) (fun j i x k v hj hj' => ⟨(h2 j i x k v hj hj').1, (h2 j i x k v hj hj').2.1⟩)
  refine ⟨.agg rs, fun w' _ => ?_, ?_⟩
  ·
   have hb := run_build (P := P) w' t (parts.map fun (i, x) => (i, a.eval x)) rs (by rw [map_toList_toArray]; simpa using h3)
   simp [execOp, ho, hb]
  ·
   have := aggOf_VA hy h4
   simpa using this
 · cases h
def stepLen (P : Program) (t : TypeId) (x : AV) (s : St) : Option AV :=
 match P.underlying t, x with
 | some (.slice _), .d (.list _ n _) => some (.d (.raw (.int .i64 n)))
 | some (.slice _), .d (.raw (.slice _ n _)) => some (.d (.raw (.int .i64 n)))
 | some (.slice _), .own k => match s.th k with
  | some (.row _ _ n _) => some (.d (.raw (.int .i64 n)))
  | _ => none
 | some (.slice _), .sub _ _ n _ _ => some (.d (.raw (.int .i64 n)))
 | some (.slice _), .osl _ _ _ n _ => some (.d (.raw (.int .i64 n)))
 | some .string, .d (.raw (.string b)) => some (.d (.raw (.int .i64 b.size)))
 | some (.array n _), _ => some (.d (.raw (.int .i64 n)))
 | some (.map _ _), .d (.raw (.map none)) => some (.d (.raw (.int .i64 0)))
 | some (.map _ _), .mp k => match s.th k with
  | some (.mp M) => some (.d (.raw (.int .i64 M.n)))
  | _ => none
 | _, _ => none
theorem list_slice {N : Nat → Prop} {sz n : Nat} {el : Nat → D} {v : Value} (h : VD w N (.list sz n el) v) : ∃ A c, v = .slice A n c := by
 have h' : VC w N (.list sz n el) [v] := h
 unfold VC at h'
 obtain ⟨u, hu, h'⟩ := h'
 simp only [List.cons.injEq, and_true] at hu
 subst hu
 rcases h' with ⟨rfl, rfl⟩ | ⟨ad, cap, cs, rfl, _⟩
 · exact ⟨_, _, rfl⟩
 · exact ⟨_, _, rfl⟩
theorem OwnsR.slice {T sz n : Nat} {v : Value} {vs : List Value} (h : OwnsR w T sz v n vs) : ∃ A c, v = .slice A n c := by
 rcases h.2 with ⟨h1, h2⟩ | ⟨g, cap, cur, hv, _⟩
 · exact ⟨none, 0, by rw [h2]; exact h1⟩
 · exact ⟨_, _, hv⟩
theorem stepLen_ok {o : Oper} {t : TypeId} {x : Operand} {ty : Array TypeId} {z : AV} (ho : o.op = .call { callee := .builtin .len, args := #[x], argTypes := ty }) (ht : ty[0]? = some t) (h : stepLen P t (s.ev x) s = some z) : LightOK P gl (s.ev x).keys o z s := by
 constructor
 intro C E a w hP hG hsim
 have hx := hsim.ev x
 have hsl : ∀ e A n c, P.underlying t = some (.slice e) → a.eval x = .slice A n c → ∀ w', KeptW (inL (s.ev x).keys) C E s w w' → (execOp a.eval o).run P w' = .ok (.value (.int .i64 n)) w' := fun e A n c hu hv w' _ => by
  simp [execOp, ho, resolve, invoke, builtin, Builtin.len_, ht, run_underlying hu, hv, goInt]
 unfold stepLen at h
 split at h
 ·
  rename_i e sz n el hu hxe
  rw [hxe] at hx; unfold VA at hx
  cases h
  obtain ⟨A, c, hv⟩ := list_slice hx
  exact ⟨_, hsl e A n c hu hv, by unfold VA; exact VD_raw rfl⟩
 ·
  rename_i e A n c hu hxe
  rw [hxe] at hx; unfold VA at hx
  cases h
  exact ⟨_, hsl e A n c hu (VD_raw_inv hx).1, by unfold VA; exact VD_raw rfl⟩
 ·
  rename_i e k hu hxe
  rw [hxe] at hx; unfold VA at hx
  split at h
  ·
   rename_i T sz n el hk
   cases h
   obtain ⟨vs, h1, _⟩ := row_of hsim.fit hk
   obtain ⟨A, c, hv⟩ := h1.slice
   exact ⟨_, hsl e A n c hu (hx.1.trans hv), by unfold VA; exact VD_raw rfl⟩
  · cases h
 ·
  rename_i e k lo n sz cap hu hxe
  rw [hxe] at hx; unfold VA at hx
  cases h
  rcases hx with ⟨rfl, _, hv, _⟩ | ⟨g, m, c, o', cp, _, _, hv, _⟩
  · exact ⟨_, hsl e none 0 0 hu hv, by unfold VA; exact VD_raw rfl⟩
  · exact ⟨_, hsl e _ n cp hu hv, by unfold VA; exact VD_raw rfl⟩
 ·
  rename_i e k off sz n cap hu hxe
  rw [hxe] at hx; unfold VA at hx
  cases h
  obtain ⟨b, _, hv⟩ := hx
  exact ⟨_, hsl e _ n cap hu hv, by unfold VA; exact VD_raw rfl⟩
 ·
  rename_i b hu hxe
  rw [hxe] at hx; unfold VA at hx
  cases h
  refine ⟨.int .i64 b.size, fun w' _ => ?_, by unfold VA; exact VD_raw rfl⟩
  simp [execOp, ho, resolve, invoke, builtin, Builtin.len_, ht, run_underlying hu, (VD_raw_inv hx).1, goInt]
 ·
  rename_i n e hu
  cases h
  refine ⟨.int .i64 n, fun w' _ => ?_, by unfold VA; exact VD_raw rfl⟩
  simp [execOp, ho, resolve, invoke, builtin, Builtin.len_, ht, run_underlying hu, goInt]
 ·
  rename_i k e hu hxe
  rw [hxe] at hx; unfold VA at hx
  cases h
  refine ⟨.int .i64 0, fun w' _ => ?_, by unfold VA; exact VD_raw rfl⟩
  simp [execOp, ho, resolve, invoke, builtin, Builtin.len_, ht, run_underlying hu, (VD_raw_inv hx).1, goInt]
 ·
  rename_i kt e k hu hxe
  rw [hxe] at hx; unfold VA at hx
  split at h
  ·
   rename_i M hk
   cases h
   obtain ⟨b, es, clock, h1, h2, h3, _⟩ := (hsim.fit.th k _ hk).1
   refine ⟨.int .i64 M.n, fun w' hs => ?_, by unfold VA; exact VD_raw rfl⟩
   have hh : w'.heap[b]? = some (.map es clock) := (hs b (.inr ⟨k, _, by rw [hxe]; exact inL_self k, hk, by rw [h1]; rfl⟩)).trans h2
   simp [execOp, ho, resolve, invoke, builtin, Builtin.len_, ht, run_underlying hu, hx.1, h1, getObj, hh, h3, goInt, Sem.run]
  · cases h
 · cases h
def bound (x : Option AV) (dflt : Int) : Option Int :=
 match x with
 | none => some dflt
 | some (.d (.raw (.int _ i))) => some i
 | _ => none
theorem bound_val {N : Nat → Prop} {x : Option AV} {v : Option Value} {dflt i : Int} (h : bound x dflt = some i) (hx : ∀ y, x = some y → ∃ u, v = some u ∧ VA E w N y u) (hn : x = none → v = none) : (x = none ∧ v = none ∧ i = dflt) ∨ ∃ k, v = some (.int k i) := by
 unfold bound at h
 split at h
 · cases h; exact .inl ⟨rfl, hn rfl, rfl⟩
 ·
  rename_i k j
  cases h
  obtain ⟨u, rfl, h1⟩ := hx _ rfl
  unfold VA at h1
  exact .inr ⟨k, by rw [(VD_raw_inv h1).1]⟩
 · cases h
theorem run_bound (k : IntKind) (i : Int) (y : Nat) (code : BoundsCode) (h0 : 0 ≤ i) (h1 : i ≤ y) (w : World) : (Instr.sliceBound (.int k i) y code).run P w = .ok i.toNat w := by
 simp [Instr.sliceBound, asIntOf, h0, h1]
theorem run_bounds (isSlice : Bool) (len cap : Nat) {lo hi mx : Option Value} {l h m : Int} (hl : (lo = none ∧ l = 0) ∨ ∃ k, lo = some (.int k l)) (hh : (hi = none ∧ h = len) ∨ ∃ k, hi = some (.int k h))
  (hm : (mx = none ∧ m = cap) ∨ ((∃ k, mx = some (.int k m)) ∧ hi ≠ none)) (h0 : 0 ≤ l) (h1 : l ≤ h) (h2 : h ≤ m) (h3 : m ≤ cap) (w : World) :
  (Instr.sliceBounds isSlice len cap lo hi mx).run P w = .ok (l.toNat, h.toNat, m.toNat) w := by
 unfold Instr.sliceBounds
 rcases hm with ⟨rfl, rfl⟩ | ⟨⟨km, rfl⟩, hne⟩
 ·
  rcases hh with ⟨rfl, rfl⟩ | ⟨kh, rfl⟩
  ·
   rcases hl with ⟨rfl, rfl⟩ | ⟨kl, rfl⟩
   · simp
   · simp [run_bound kl l len _ h0 h1]
  ·
   rcases hl with ⟨rfl, rfl⟩ | ⟨kl, rfl⟩
   · simp [run_bound kh h cap _ (by omega) h2]
   · simp [run_bound kh h cap _ (by omega) h2, run_bound kl l h.toNat _ h0 (by omega)]
 ·
  rcases hh with ⟨rfl, _⟩ | ⟨kh, rfl⟩
  · exact absurd rfl hne
  ·
   have e1 : h ≤ (m.toNat : Int) := by omega
   rcases hl with ⟨rfl, rfl⟩ | ⟨kl, rfl⟩
   · simp [run_bound km m cap _ (by omega) h3, run_bound kh h m.toNat _ (by omega) e1]
   · simp [run_bound km m cap _ (by omega) h3, run_bound kh h m.toNat _ (by omega) e1, run_bound kl l h.toNat _ h0 (by omega)]
def stepSlice (P : Program) (t : TypeId) (x : AV) (lo hi mx : Option AV) (s : St) : Option (AV × List Prop) :=
 match P.underlying t with
 | some .string => match x, mx with
  | .d (.raw (.string b)), none => match bound lo 0, bound hi b.size with
   | some l, some h => some (.d (.raw (.string (b.extract l.toNat h.toNat))), [0 ≤ l ∧ l ≤ h ∧ h ≤ b.size])
   | _, _ => none
  | _, _ => none
 | some (.slice e) => match P.info? e with
  | none => none
  | some inf => match x with
   | .d (.list sz n el) => match mx with
    | none => if sz = inf.size then match bound lo 0, bound hi n with
     | some l, some h => some (.d (.list sz (h - l).toNat fun i => el (l.toNat + i)), [0 ≤ l ∧ l ≤ h ∧ h ≤ n])
     | _, _ => none
     else none
    | _ => none
   | .own k => match s.th k with
    | some (.row _ sz n _) => if sz = inf.size then match bound lo 0, bound hi n with
     | some l, some h => match mx with
      | none => some (.sub k l.toNat (h - l).toNat sz none, [0 ≤ l ∧ l ≤ h ∧ h ≤ n])
      | some _ => match bound mx 0, hi with
       | some m, some _ => some (.sub k l.toNat (h - l).toNat sz (some (m - l).toNat), [0 ≤ l ∧ l ≤ h ∧ h ≤ m ∧ m ≤ n])
       | _, _ => none
     | _, _ => none
     else none
    | _ => none
   | .sub k o n sz _ => match mx with
    | none => if sz = inf.size then match bound lo 0, bound hi n with
     | some l, some h => some (.sub k (o + l.toNat) (h - l).toNat sz none, [0 ≤ l ∧ l ≤ h ∧ h ≤ n])
     | _, _ => none
     else none
    | _ => none
   | _ => none
 | some (.array n e) => match P.info? e with
  | none => none
  | some inf => match x, mx with
   | .ref k off, none => match bound lo 0, bound hi n with
    | some l, some h => some (.osl k (off + l.toNat * inf.size) inf.size (h - l).toNat (n - l).toNat, [0 ≤ l ∧ l ≤ h ∧ h ≤ n ∧ (l = 0 ∨ l < n)])
    | _, _ => none
   | _, _ => none
 | _ => none
end Go.Eng

namespace Go.Eng
open Go Go.RowKit
variable {P : Program} {gl : Nat → Option (List D)} {C : Cx} {E E' : Env} {s s' : St} {a : Act} {w w' : World}
theorem bound_op (hsim : Sim C E s a w) {x : Option Operand} {dflt i : Int} (h : bound (x.map s.ev) dflt = some i) : (x.map a.eval = none ∧ i = dflt) ∨ ∃ k, x.map a.eval = some (.int k i) := by
 have := bound_val (E := E) (w := w) (N := Stable C E s w) (v := x.map a.eval) h (fun y hy => by
  cases x with
  | none => cases hy
  | some p => simp only [Option.map_some, Option.some.injEq] at hy; subst hy; exact ⟨_, rfl, hsim.ev p⟩) (fun hn => by cases x with | none => rfl | some p => cases hn)
 rcases this with ⟨_, h1, h2⟩ | h1
 · exact .inl ⟨h1, h2⟩
 · exact .inr h1
theorem list_sub {N : Nat → Prop} {sz n : Nat} {el : Nat → D} {ad : Addr} {cap : Nat} {cs : List Value} (h2 : n ≤ cap) (h3 : cap ≤ maxLen) (h4 : ad.spot = none) (h5 : N ad.block) (h6 : cs.length = n * sz)
  (h7 : ∀ j u, cs[j]? = some u → w.cell? (ad.add j) = some u) (h8 : ∀ i, i < n → VC w N (el i) ((cs.drop (i * sz)).take sz)) {l h : Nat} (hl : l ≤ h) (hh : h ≤ n) :
  VD w N (.list sz (h - l) fun i => el (l + i)) (.slice (if cap = l then some ad else (some ad).map (·.add (l * sz))) (h - l) (cap - l)) := by
 show VC w N _ [_]
 unfold VC
 refine ⟨_, rfl, .inr ?_⟩
 by_cases e : cap = l
 ·
  rw [if_pos e]
  have e1 : h - l = 0 := by omega
  exact ⟨ad, cap - l, [], rfl, by omega, by omega, h4, h5, by simp [e1], fun j u hu => by simp at hu, fun i hi => absurd hi (by omega)⟩
 ·
  rw [if_neg e]
  refine ⟨ad.add (l * sz), cap - l, (cs.drop (l * sz)).take ((h - l) * sz), rfl, by omega, by omega, by unfold Addr.add; split <;> simp [h4], by rw [addr_add_block]; exact h5, ?_, fun j u hu => ?_, fun i hi => ?_⟩
  ·
   have : h * sz ≤ n * sz := Nat.mul_le_mul_right _ hh
   have e2 : (h - l) * sz = h * sz - l * sz := Nat.sub_mul _ _ _
   rw [List.length_take, List.length_drop, h6]; omega
  ·
   rw [addr_add_add _ h4]
   rw [List.getElem?_take] at hu
   split at hu
   · rw [List.getElem?_drop] at hu; exact h7 _ u hu
   · cases hu
  ·
   have := h8 (l + i) (by omega)
   have e3 : (((cs.drop (l * sz)).take ((h - l) * sz)).drop (i * sz)).take sz = (cs.drop ((l + i) * sz)).take sz := by
    apply List.ext_getElem?
    intro q
    rw [List.getElem?_take, List.getElem?_take]
    by_cases hq : q < sz
    ·
     rw [if_pos hq, if_pos hq, List.getElem?_drop, List.getElem?_take, if_pos (by have := mul_bd hi hq; omega), List.getElem?_drop, List.getElem?_drop]
     congr 1; rw [Nat.add_mul]; omega
    · rw [if_neg hq, if_neg hq]
   rw [e3]; exact this
theorem stepSlice_ok {o : Oper} {t : TypeId} {x : Operand} {lo hi mx : Option Operand} {y : AV} {cs : List Prop} (ho : o.op = .slice t x lo hi mx)
  (h : stepSlice P t (s.ev x) (lo.map s.ev) (hi.map s.ev) (mx.map s.ev) s = some (y, cs)) (hcs : Conds cs) : LightOK P gl [] o y s := by
 constructor
 intro C E a w hP hG hsim
 have hx := hsim.ev x
 unfold stepSlice at h
 split at h
 ·
  rename_i hu
  split at h
  ·
   rename_i b hxe hmx
   split at h
   ·
    rename_i l h' hl hh
    simp only [Option.some.injEq, Prod.mk.injEq] at h
    obtain ⟨rfl, rfl⟩ := h
    obtain ⟨c0, c1, c2⟩ : 0 ≤ l ∧ l ≤ h' ∧ h' ≤ b.size := hcs.1
    have hb : mx = none := by cases mx <;> simp_all
    subst hb
    rw [hxe] at hx
    unfold VA at hx
    have hx := (VD_raw_inv hx).1
    refine ⟨.string (b.extract l.toNat h'.toNat), fun w' _ => ?_, by unfold VA; exact VD_raw rfl⟩
    have hr := run_bounds (P := P) false b.size b.size (mx := none) (m := b.size) (bound_op hsim hl) (bound_op hsim hh) (.inl ⟨rfl, rfl⟩) c0 c1 c2 (Int.le_refl _) w'
    simp [execOp, ho, Instr.sliceAt, Instr.slice, run_underlying hu, hx, hr]
   · cases h
  · cases h
 ·
  rename_i e hu
  split at h
  · cases h
  ·
   rename_i inf hinf
   split at h
   ·
    rename_i sz n el hxe
    split at h
    ·
     rename_i hmx
     split at h
     ·
      rename_i hsz
      split at h
      ·
       rename_i l h' hl hh
       simp only [Option.some.injEq, Prod.mk.injEq] at h
       obtain ⟨rfl, rfl⟩ := h
       obtain ⟨c0, c1, c2⟩ : 0 ≤ l ∧ l ≤ h' ∧ h' ≤ n := hcs.1
       have hb : mx = none := by cases mx <;> simp_all
       subst hb; subst hsz
       rw [hxe] at hx
       unfold VA at hx
       have hx' : VC w (Stable C E s w) (.list inf.size n el) [a.eval x] := hx
       unfold VC at hx'
       obtain ⟨v, hv, hx'⟩ := hx'
       simp only [List.cons.injEq, and_true] at hv
       rcases hx' with ⟨h0, h1⟩ | ⟨ad, cap, vs, h1, h2, h3, h4, h5, h6, h7, h8⟩
       ·
        subst h0
        have e1 : l = 0 := by omega
        have e2 : h' = 0 := by omega
        subst e1; subst e2
        refine ⟨.slice none 0 0, fun w' _ => ?_, ?_⟩
        ·
         have hr := run_bounds (P := P) true 0 0 (mx := none) (m := 0) (bound_op hsim hl) (bound_op hsim hh) (.inl ⟨rfl, rfl⟩) c0 c1 (Int.le_refl _) (Int.le_refl _) w'
         simp [execOp, ho, Instr.sliceAt, Instr.slice, run_underlying hu, hv, h1, hr, sizeOf, typeInfo, program, hinf, Sem.run]
        ·
         unfold VA
         show VC w _ _ [_]
         unfold VC
         exact ⟨_, rfl, .inl ⟨rfl, rfl⟩⟩
       ·
        refine ⟨.slice (if cap = l.toNat then some ad else some (ad.add (l.toNat * inf.size))) (h'.toNat - l.toNat) (cap - l.toNat), fun w' _ => ?_, ?_⟩
        rotate_left
        ·
         unfold VA
         have := list_sub (w := w) (N := Stable C E s w) h2 h3 h4 h5 h6 h7 h8 (l := l.toNat) (h := h'.toNat) (by omega) (by omega)
         have e1 : (h' - l).toNat = h'.toNat - l.toNat := by omega
         rw [e1]
         exact this
        ·
         have hr := run_bounds (P := P) true n cap (mx := none) (m := cap) (bound_op hsim hl) (bound_op hsim hh) (.inl ⟨rfl, rfl⟩) c0 c1 (by omega) (Int.le_refl _) w'
         simp [execOp, ho, Instr.sliceAt, Instr.slice, run_underlying hu, hv, h1, hr, sizeOf, typeInfo, program, hinf, Sem.run]
      · cases h
     · cases h
    · cases h
   ·
    rename_i k hxe
    split at h
    ·
     rename_i T sz n el hk
     split at h
     ·
      rename_i hsz
      subst hsz
      split at h
      ·
       rename_i l h' hl hh
       rw [hxe] at hx
       unfold VA at hx
       obtain ⟨vs, h3, h4⟩ := row_of hsim.fit hk
       have main : ∀ (m : Int) (oc : Option Nat), ((mx.map a.eval = none ∧ oc = none) ∨ ((∃ km, mx.map a.eval = some (.int km m)) ∧ hi.map a.eval ≠ none ∧ oc = some (m - l).toNat)) → 0 ≤ l → l ≤ h' → h' ≤ n → (mx.map a.eval ≠ none → h' ≤ m ∧ m ≤ n) →
         ∃ v, (∀ w', KeptW (inL []) C E s w w' → (execOp a.eval o).run P w' = .ok (.value v) w') ∧ VA E w (Stable C E s w) (.sub k l.toNat (h' - l).toNat inf.size oc) v := fun m oc hm c0 c1 c2 c3 => by
        rcases h3.2 with ⟨h5, h6⟩ | ⟨g, cap, cur, h5, h6, h7, h8, h9, h10⟩
        ·
         subst h6
         have e1 : l = 0 := by omega
         have e2 : h' = 0 := by omega
         subst e1; subst e2
         refine ⟨.slice none 0 0, fun w' _ => ?_, ?_⟩
         ·
          rcases hm with ⟨hm, _⟩ | ⟨⟨km, hm⟩, hne, _⟩
          ·
           have hr := run_bounds (P := P) true 0 0 (mx := none) (m := 0) (bound_op hsim hl) (bound_op hsim hh) (.inl ⟨rfl, rfl⟩) c0 c1 (Int.le_refl _) (Int.le_refl _) w'
           simp [execOp, ho, Instr.sliceAt, Instr.slice, run_underlying hu, hx.1, h5, hm, hr, sizeOf, typeInfo, program, hinf, Sem.run]
          ·
           have c4 := c3 (by rw [hm]; simp)
           have e3 : m = 0 := by omega
           subst e3
           have hr := run_bounds (P := P) true 0 0 (m := 0) (bound_op hsim hl) (bound_op hsim hh) (.inr ⟨⟨km, hm⟩, hne⟩) c0 c1 (Int.le_refl _) (Int.le_refl _) w'
           simp [execOp, ho, Instr.sliceAt, Instr.slice, run_underlying hu, hx.1, h5, hr, sizeOf, typeInfo, program, hinf, Sem.run]
         ·
          unfold VA
          refine .inl ⟨rfl, h5, rfl, fun q hq => ?_⟩
          rcases hm with ⟨_, hoc⟩ | ⟨⟨km, hm⟩, _, hoc⟩
          · rw [hoc] at hq; cases hq
          ·
           rw [hoc] at hq; cases hq
           have c4 := c3 (by rw [hm]; simp)
           omega
        ·
         rcases hm with ⟨hm, hoc⟩ | ⟨⟨km, hm⟩, hne, hoc⟩
         ·
          subst hoc
          refine ⟨.slice (if cap = l.toNat then some ⟨g, 0, none⟩ else some (Addr.add ⟨g, 0, none⟩ (l.toNat * inf.size))) (h'.toNat - l.toNat) (cap - l.toNat), fun w' _ => ?_, ?_⟩
          ·
           have hr := run_bounds (P := P) true n cap (mx := none) (m := cap) (bound_op hsim hl) (bound_op hsim hh) (.inl ⟨rfl, rfl⟩) c0 c1 (by omega) (Int.le_refl _) w'
           simp [execOp, ho, Instr.sliceAt, Instr.slice, run_underlying hu, hx.1, h5, hm, hr, sizeOf, typeInfo, program, hinf, Sem.run]
          ·
           unfold VA
           have e1 : (h' - l).toNat = h'.toNat - l.toNat := by omega
           refine .inr ⟨g, n, cap, if cap = l.toNat then 0 else l.toNat * inf.size, cap - l.toNat, h5, by omega, ?_, fun h0 => by rw [if_neg (by omega)], by omega, by omega, fun h0 => by rw [h0]; simp, fun q hq => by cases hq⟩
           rw [e1]
           split
           · rfl
           · rw [addr_mk_add, Nat.zero_add]
         ·
          subst hoc
          have c4 := c3 (by rw [hm]; simp)
          refine ⟨.slice (if m.toNat = l.toNat then some ⟨g, 0, none⟩ else some (Addr.add ⟨g, 0, none⟩ (l.toNat * inf.size))) (h'.toNat - l.toNat) (m.toNat - l.toNat), fun w' _ => ?_, ?_⟩
          ·
           have hr := run_bounds (P := P) true n cap (m := m) (bound_op hsim hl) (bound_op hsim hh) (.inr ⟨⟨km, hm⟩, hne⟩) c0 c1 c4.1 (by omega) w'
           simp [execOp, ho, Instr.sliceAt, Instr.slice, run_underlying hu, hx.1, h5, hr, sizeOf, typeInfo, program, hinf, Sem.run]
          ·
           unfold VA
           have e1 : (h' - l).toNat = h'.toNat - l.toNat := by omega
           refine .inr ⟨g, n, cap, if m.toNat = l.toNat then 0 else l.toNat * inf.size, m.toNat - l.toNat, h5, by omega, ?_, fun h0 => by rw [if_neg (by omega)], by omega, by omega, fun h0 => by rw [h0]; simp, fun q hq => by simp only [Option.some.injEq] at hq; omega⟩
           rw [e1]
           split
           · rfl
           · rw [addr_mk_add, Nat.zero_add]
       split at h
       ·
        rename_i hmx
        simp only [Option.some.injEq, Prod.mk.injEq] at h
        obtain ⟨rfl, rfl⟩ := h
        obtain ⟨c0, c1, c2⟩ : 0 ≤ l ∧ l ≤ h' ∧ h' ≤ n := hcs.1
        have hb : mx = none := by cases mx <;> simp_all
        subst hb
        exact main 0 none (.inl ⟨rfl, rfl⟩) c0 c1 c2 (fun hne => absurd rfl hne)
       ·
        rename_i mv hmx
        split at h
        ·
         rename_i m hv hm hhi
         simp only [Option.some.injEq, Prod.mk.injEq] at h
         obtain ⟨rfl, rfl⟩ := h
         obtain ⟨c0, c1, c2, c3⟩ : 0 ≤ l ∧ l ≤ h' ∧ h' ≤ m ∧ m ≤ n := hcs.1
         rcases bound_op hsim hm with ⟨hn, _⟩ | hk'
         · cases mx <;> simp_all
         · exact main m _ (.inr ⟨hk', by cases hi <;> simp_all, rfl⟩) c0 c1 (by omega) (fun _ => ⟨c2, c3⟩)
        · cases h
      · cases h
     · cases h
    · cases h
   ·
    rename_i k o' n sz cap' hxe
    split at h
    ·
     rename_i hmx
     split at h
     ·
      rename_i hsz
      subst hsz
      split at h
      ·
       rename_i l h' hl hh
       simp only [Option.some.injEq, Prod.mk.injEq] at h
       obtain ⟨rfl, rfl⟩ := h
       obtain ⟨c0, c1, c2⟩ : 0 ≤ l ∧ l ≤ h' ∧ h' ≤ n := hcs.1
       have hb : mx = none := by cases mx <;> simp_all
       subst hb
       rw [hxe] at hx
       unfold VA at hx
       rcases hx with ⟨h0, h1, h2, h3⟩ | ⟨g, m, c, oo, cp, h1, h2, h3, h4, h5, h6, h7, h8⟩
       ·
        subst h0
        have e1 : l = 0 := by omega
        have e2 : h' = 0 := by omega
        subst e1; subst e2
        refine ⟨.slice none 0 0, fun w' _ => ?_, ?_⟩
        ·
         have hr := run_bounds (P := P) true 0 0 (mx := none) (m := 0) (bound_op hsim hl) (bound_op hsim hh) (.inl ⟨rfl, rfl⟩) c0 c1 (Int.le_refl _) (Int.le_refl _) w'
         simp [execOp, ho, Instr.sliceAt, Instr.slice, run_underlying hu, h2, hr, sizeOf, typeInfo, program, hinf, Sem.run]
        · unfold VA; exact .inl ⟨rfl, h1, rfl, fun q hq => by cases hq⟩
       ·
        refine ⟨.slice (if cp = l.toNat then some ⟨g, oo, none⟩ else some (Addr.add ⟨g, oo, none⟩ (l.toNat * inf.size))) (h'.toNat - l.toNat) (cp - l.toNat), fun w' _ => ?_, ?_⟩
        ·
         have hr := run_bounds (P := P) true n cp (mx := none) (m := cp) (bound_op hsim hl) (bound_op hsim hh) (.inl ⟨rfl, rfl⟩) c0 c1 (by omega) (Int.le_refl _) w'
         simp [execOp, ho, Instr.sliceAt, Instr.slice, run_underlying hu, h3, hr, sizeOf, typeInfo, program, hinf, Sem.run]
        ·
         unfold VA
         have e1 : (h' - l).toNat = h'.toNat - l.toNat := by omega
         refine .inr ⟨g, m, c, if cp = l.toNat then oo else oo + l.toNat * inf.size, cp - l.toNat, h1, by omega, ?_, fun h0 => by rw [if_neg (by omega), h4 (by omega), Nat.add_mul], by omega, by omega, fun h0 => ?_, fun q hq => by cases hq⟩
         ·
          rw [e1]
          split
          · rfl
          · rw [addr_mk_add]
         ·
          have e3 : oo = 0 := h7 (by omega)
          have e4 : l.toNat = 0 := by omega
          rw [e3, e4]; simp
      · cases h
     · cases h
    · cases h
   · cases h
 ·
  rename_i n e hu
  split at h
  · cases h
  ·
   rename_i inf hinf
   split at h
   ·
    rename_i k off hxe hmx
    split at h
    ·
     rename_i l h' hl hh
     simp only [Option.some.injEq, Prod.mk.injEq] at h
     obtain ⟨rfl, rfl⟩ := h
     obtain ⟨c0, c1, c2, c3⟩ : 0 ≤ l ∧ l ≤ h' ∧ h' ≤ n ∧ (l = 0 ∨ l < n) := hcs.1
     have hb : mx = none := by cases mx <;> simp_all
     subst hb
     rw [hxe] at hx
     unfold VA at hx
     obtain ⟨b, h1, h2⟩ := hx
     refine ⟨.slice (some ⟨b, off + l.toNat * inf.size, none⟩) (h' - l).toNat (n - l).toNat, fun w' _ => ?_, by unfold VA; exact ⟨b, h1, rfl⟩⟩
     have hr := run_bounds (P := P) false n n (mx := none) (m := n) (bound_op hsim hl) (bound_op hsim hh) (.inl ⟨rfl, rfl⟩) c0 c1 c2 (Int.le_refl _) w'
     have e1 : (h' - l).toNat = h'.toNat - l.toNat := by omega
     have e2 : ((n : Int) - l).toNat = n - l.toNat := by omega
     have e3 : (if n = l.toNat then (⟨b, off, none⟩ : Addr) else Addr.add ⟨b, off, none⟩ (l.toNat * inf.size)) = ⟨b, off + l.toNat * inf.size, none⟩ := by
      split
      ·
       have : l.toNat = 0 := by omega
       rw [this]; simp
      · rw [addr_mk_add]
     simp [execOp, ho, Instr.sliceAt, Instr.sureAddr, run_underlying hu, h2, hr, sizeOf, typeInfo, program, hinf, Sem.run, e1, e2, e3]
    · cases h
   · cases h
 · cases h
end Go.Eng
