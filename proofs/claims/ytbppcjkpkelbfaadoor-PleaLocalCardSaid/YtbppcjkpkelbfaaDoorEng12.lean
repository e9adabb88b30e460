/-
  Part of the engine: abstract states of a call, and that the operations do what is told of them. No condition.
-/
import Derived.Test.YtbppcjkpkelbfaaDoorEng11
namespace Go.Eng
open Go Go.RowKit Go.Lib
variable {P : Program} {gl : Nat → Option (List D)} {C : Cx} {E E' : Env} {s s' : St} {a : Act} {w w' : World}
def AV.pure : AV → Option D
 | .d x => some x
 | .known b => some (.raw (.bool b))
 | _ => none
theorem pure_VD {N : Nat → Prop} {x : AV} {d : D} {v : Value} (h : x.pure = some d) (hx : VA E w N x v) : VD w N d v := by
 cases x <;> simp only [AV.pure, reduceCtorEq, Option.some.injEq] at h
 · subst h; unfold VA at hx; exact hx
 · subst h; unfold VA at hx; rw [hx]; exact VD_raw rfl
def partsD (s : St) : List (Nat × Operand) → Option (List (Nat × D))
 | [] => some []
 | (i, x) :: rest => match (s.ev x).pure, partsD s rest with
  | some d, some ds => some ((i, d) :: ds)
  | _, _ => none
theorem partsD_ok (hsim : Sim C E s a w) : ∀ (ps : List (Nat × Operand)) (ds : List (Nat × D)), partsD s ps = some ds → ds.length = ps.length ∧
  ∀ (j : Nat) i x k v, ds[j]? = some (i, x) → (ps.map fun (i, x) => (i, a.eval x))[j]? = some (k, v) → k = i ∧ VCs w (Stable C E s w) x.cells v.cells.toList
 | [], ds, h => by simp only [partsD, Option.some.injEq] at h; subst h; exact ⟨rfl, fun j i x k v h => by simp at h⟩
 | (i, x) :: ps, ds, h => by
  simp only [partsD] at h
  split at h
  ·
   rename_i d ds' h1 h2
   cases h
   obtain ⟨h3, h4⟩ := partsD_ok hsim ps ds' h2
   refine ⟨by simp [h3], fun j i' x' k' v hj hj' => ?_⟩
   cases j with
   | zero =>
    simp only [List.getElem?_cons_zero, Option.some.injEq, Prod.mk.injEq, List.map_cons] at hj hj'
    obtain ⟨rfl, rfl⟩ := hj
    obtain ⟨rfl, rfl⟩ := hj'
    exact ⟨rfl, (pure_VD h1 (hsim.ev x)).cells⟩
   | succ j => exact h4 j i' x' k' v (by simpa using hj) (by simpa using hj')
  · cases h
def fillD (place : Nat → Option (Nat × Nat)) (cells : List D) : List (Nat × D) → Option (List D)
 | [] => some cells
 | (i, x) :: rest =>
  match place i with
  | none => none
  | some (off, size) => if x.cells.length == size && Nat.ble (off + x.cells.length) cells.length then fillD place (splice cells off x.cells) rest else none
theorem fillD_run {N : Nat → Prop} (place : Nat → Option (Nat × Nat)) : ∀ (parts : List (Nat × D)) (vparts : List (Nat × Value)) (cells : List D) (cs : Array Value) (r : List D),
  VCs w N cells cs.toList → vparts.length = parts.length → (∀ (j : Nat) i x k v, parts[j]? = some (i, x) → vparts[j]? = some (k, v) → k = i ∧ VCs w N x.cells v.cells.toList) → fillD place cells parts = some r →
  ∃ rs, Instr.fill place cs vparts = some rs ∧ VCs w N r rs.toList
 | [], [], cells, cs, r, h, _, _, hf => by simp only [fillD, Option.some.injEq] at hf; subst hf; exact ⟨cs, rfl, h⟩
 | [], _ :: _, _, _, _, _, hl, _, _ => by simp at hl
 | _ :: _, [], _, _, _, _, hl, _, _ => by simp at hl
 | (i, x) :: parts, (k, v) :: vparts, cells, cs, r, h, hl, hp, hf => by
  obtain ⟨rfl, hcv⟩ := hp 0 i x k v rfl rfl
  simp only [fillD] at hf
  cases hpl : place k with
  | none => simp [hpl] at hf
  | some q =>
   obtain ⟨off, size⟩ := q
   simp only [hpl] at hf
   split at hf
   ·
    rename_i hc
    simp only [Bool.and_eq_true, beq_iff_eq, Nat.ble_eq] at hc
    have hlen := hcv.length
    have hlc := h.length
    have h1 := fold_splice off v.cells.toList 0 cs (by simp only [Array.length_toList] at hlc hlen ⊢; omega)
    have h2 : VCs w N (splice cells off x.cells) ((v.cells.zipIdx.foldl (fun cs (x : Value × Nat) => cs.setIfInBounds (off + x.2) x.1) cs).toList) := by
     have e : v.cells.zipIdx.foldl (fun cs (x : Value × Nat) => cs.setIfInBounds (off + x.2) x.1) cs = (v.cells.toList.zipIdx 0).foldl (fun cs (x : Value × Nat) => cs.setIfInBounds (off + x.2) x.1) cs := by
      rw [← Array.foldl_toList]; simp
     rw [e, h1]
     exact h.splice hcv off
    obtain ⟨rs, h3, h4⟩ := fillD_run place parts vparts _ _ r h2 (by simpa using hl) (fun j i' x' k' v' hj hj' => hp (j + 1) i' x' k' v' (by simpa using hj) (by simpa using hj')) hf
    refine ⟨rs, ?_, h4⟩
    simp only [Instr.fill, hpl]
    rw [if_neg]
    · exact h3
    ·
     simp only [Array.length_toList] at hlc hlen
     simp only [ne_eq, Bool.or_eq_true, decide_eq_true_eq, not_or, Decidable.not_not, Nat.not_lt, gt_iff_lt]
     omega
   · cases hf
theorem OwnsR.new {T sz n cap : Nat} {cs : Array Value} (hw : w'.heap[w.heap.size]? = some (.cells cs T (0, 0))) (hn : n ≤ cap) (hm : cap ≤ maxLen) (hs : cs.size = cap * sz) : OwnsR w' T sz (.slice (some ⟨w.heap.size, 0, none⟩) n cap) n (cs.toList.take (n * sz)) := by
 have : n * sz ≤ cap * sz := Nat.mul_le_mul_right _ hn
 exact ⟨by rw [List.length_take, Array.length_toList]; omega, .inr ⟨w.heap.size, cap, cs, rfl, hw, hn, hm, by omega, rfl⟩⟩
def stepBuildSlice (P : Program) (o : Oper) (t : TypeId) (len : Nat) (parts : Array (Nat × Operand)) (s : St) : Option St :=
 match P.underlying t, partsD s parts.toList with
 | some (.slice e), some ds =>
  match P.info? e, isAggT P e with
  | some i, some agg =>
   match i.zero.bind rawCells with
   | some z =>
    match fillD (fun j => some (j * i.size, i.size)) ((List.range (len * i.size)).map fun j => z.getD (j % z.length) default) ds with
    | some cells => if (agg || i.size == 1) && cells.length == len * i.size && Nat.ble (len * i.size) 16777216 && z.length == i.size && Nat.blt 0 i.size then some (s.newRow o.dst none e i.size len (segD agg i.size cells)) else none
    | none => none
   | none => none
  | _, _ => none
 | _, _ => none
theorem stepBuildSlice_ok {o : Oper} {t : TypeId} {len : Nat} {parts : Array (Nat × Operand)} (ho : o.op = .buildSlice t len parts) (h : stepBuildSlice P o t len parts s = some s') : StepOK P gl [] o s s' := by
 unfold stepBuildSlice at h
 split at h
 ·
  rename_i e ds hu hds
  split at h
  ·
   rename_i i agg hi ha
   split at h
   ·
    rename_i z hz
    split at h
    ·
     rename_i cells hf
     split at h
     ·
      rename_i hc
      cases h
      simp only [Bool.and_eq_true, Bool.or_eq_true, beq_iff_eq, Nat.ble_eq, Nat.blt_eq] at hc
      obtain ⟨⟨⟨⟨c2, c3⟩, c4⟩, c5⟩, c6⟩ := hc
      constructor
      intro C E a w next Q hP hG hsim hn
      obtain ⟨zv, hzv, hz2⟩ := Option.bind_eq_some_iff.1 hz
      have hzc := rawCells_VCs (w := w) (N := Stable C E s w) hz2
      have hzl := hzc.length
      have hzl' : zv.cells.size = i.size := by simpa [c5] using hzl
      obtain ⟨h1, h2⟩ := partsD_ok hsim _ _ hds
      have hzero : VCs w (Stable C E s w) ((List.range (len * i.size)).map fun j => z.getD (j % z.length) default) ((Array.range (len * i.size)).map fun j => zv.cells[j % zv.cells.size]!).toList := by
       refine VCs.of_get (by simp) fun j x v hx hv => ?_
       simp only [List.getElem?_map, Array.toList_map, Array.toList_range] at hx hv
       have hmod : j % zv.cells.size < zv.cells.size := Nat.mod_lt _ (by omega)
       obtain ⟨p, hp, rfl⟩ := Option.map_eq_some_iff.1 hx
       obtain ⟨p', hp', rfl⟩ := Option.map_eq_some_iff.1 hv
       obtain ⟨_, hp1⟩ := List.getElem?_eq_some_iff.1 hp
       obtain ⟨_, hp2⟩ := List.getElem?_eq_some_iff.1 hp'
       rw [List.getElem_range] at hp1 hp2
       subst hp1; subst hp2
       have e0 : z.length = zv.cells.size := by omega
       rw [e0]
       have hlt : j % zv.cells.size < z.length := by omega
       obtain ⟨u, g1, g2, g3⟩ := hzc.get (j % zv.cells.size) z[j % zv.cells.size] (List.getElem?_eq_getElem hlt)
       rw [List.getD_eq_getElem?_getD, List.getElem?_eq_getElem hlt]
       have : zv.cells[j % zv.cells.size]! = u := by
        rw [Array.getElem?_toList] at g1
        simp [Array.getElem!_eq_getD, Array.getD_eq_getD_getElem?, g1]
       rw [this]; exact ⟨g2, g3⟩
      obtain ⟨rs, h3, h4⟩ := fillD_run (w := w) _ ds (parts.toList.map fun (i, x) => (i, a.eval x)) _ _ cells hzero (by simp [h1]) h2 hf
      have hrl : rs.size = len * i.size := by have := h4.length; simpa [c3] using this
      have hl63 : len ≤ maxLen := by
       have : len ≤ len * i.size := Nat.le_mul_of_pos_right _ c6
       unfold maxLen; omega
      have hbel : Below w.heap.size w (w.alloc (.cells rs e)) := (Below.refl _ _).alloc (Nat.le_refl _) _
      refine newRow_ok (v := .slice (some ⟨w.heap.size, 0, none⟩) len len) (w' := w.alloc (.cells rs e)) (vs := rs.toList.take (len * i.size)) hsim (OwnsR.new (heap_alloc_new w _) (Nat.le_refl _) hl63 hrl) (fun j hj => ?_) rfl rfl rfl hbel.size (fun b hb _ => hbel.block b hb) ?_ ?_ (fun E' a' w' hs' hb => hn E' a' w' hs' hb)
      ·
       have e1 : rs.toList.take (len * i.size) = rs.toList := List.take_of_length_le (by rw [Array.length_toList]; omega)
       rw [e1]
       exact segD_VC h4 c3 c2 j hj
      ·
       intro b hb
       exact .inl (Nat.le_of_eq (by simpa [blk] using hb))
      ·
       have hsz : ¬ len * i.size > 2 ^ 24 := by omega
       have hps : (parts.map fun (i, x) => (i, a.eval x)).toList = parts.toList.map fun (i, x) => (i, a.eval x) := by simp
       have hall : ∀ zero : Array Value, len = 0 ∨ zero = zv.cells → (Array.range (len * i.size)).map (fun j => zero[j % zero.size]!) = (Array.range (len * i.size)).map (fun j => zv.cells[j % zv.cells.size]!) := fun zero h => by
        rcases h with h | h
        · subst h; simp
        · rw [h]
       by_cases hne : len * i.size = 0
       ·
        have hl0 : len = 0 := by
         rcases Nat.mul_eq_zero.1 hne with h | h
         · exact h
         · omega
        have h3' := hall #[] (.inl hl0)
        rw [← h3'] at h3
        simp only [execOp, ho, Instr.buildSlice, Sem.run_bind, run_underlying hu, Result.andThen_ok, sizeOf, typeInfo, program, hi, Sem.run_pure, hsz, if_false, if_pos hne, hps, h3, Go.newRow, Go.newObj, Sem.run]
        simp [World.alloc_eq]
       ·
        simp only [execOp, ho, Instr.buildSlice, Sem.run_bind, run_underlying hu, Result.andThen_ok, sizeOf, typeInfo, program, hi, Sem.run_pure, hsz, if_false, hne, zeroValue, hzv, hps, h3, Go.newRow, Go.newObj, Sem.run]
        simp [World.alloc_eq]
     · cases h
    · cases h
   · cases h
  · cases h
 · cases h
def datOf (agg : Bool) (z : List D) : Option D := if agg then some (.agg z) else match z with | [d] => if d.one then some d else none | _ => none
def stepMakeSlice (P : Program) (o : Oper) (t : TypeId) (l c : AV) (s : St) : Option (St × List Prop) :=
 match P.underlying t, l, c with
 | some (.slice e), .d (.raw (.int _ l)), .d (.raw (.int _ c)) =>
  match P.info? e, isAggT P e with
  | some i, some agg =>
   match i.zero.bind rawCells with
   | some z => match datOf agg z with
    | some d => if z.length == i.size && Nat.blt 0 i.size then some (s.newRow o.dst none e i.size l.toNat fun _ => d, [0 ≤ l ∧ l ≤ c ∧ i.bytes * c ≤ 281474976710656 ∧ c ≤ 9223372036854775807]) else none
    | none => none
   | none => none
  | _, _ => none
 | _, _, _ => none
theorem stepMakeSlice_ok {o : Oper} {t : TypeId} {l c : Operand} {cs : List Prop} (ho : o.op = .makeSlice t l c) (h : stepMakeSlice P o t (s.ev l) (s.ev c) s = some (s', cs)) (hcs : Conds cs) : StepOK P gl [] o s s' := by
 unfold stepMakeSlice at h
 split at h
 ·
  rename_i e kl l' kc c' hu hle hce
  split at h
  ·
   rename_i i agg hi ha
   split at h
   ·
    rename_i z hz
    split at h
    ·
     rename_i d hd
     split at h
     ·
      rename_i hc
      simp only [Option.some.injEq, Prod.mk.injEq] at h
      obtain ⟨rfl, rfl⟩ := h
      simp only [Bool.and_eq_true, beq_iff_eq, Nat.blt_eq] at hc
      obtain ⟨b0, b1, b2, b3⟩ := hcs.1
      constructor
      intro C E a w next Q hP hG hsim hn
      have hlv := hsim.ev l
      have hcv := hsim.ev c
      rw [hle] at hlv; rw [hce] at hcv
      unfold VA at hlv hcv
      have hlv := (VD_raw_inv hlv).1
      have hcv := (VD_raw_inv hcv).1
      obtain ⟨zv, hzv, hz2⟩ := Option.bind_eq_some_iff.1 hz
      have hzc := rawCells_VCs (w := w) (N := Stable C E s w) hz2
      have hzl := hzc.length
      have hzs : zv.cells.size = i.size := by simpa [hc.1] using hzl
      have hr := run_make (P := P) (w := w) t e i zv hu hi hzv kl kc l' c' b0 b1 (by omega) b3
      have hbel : Below w.heap.size w (w.alloc (.cells (madeCells zv.cells (c'.toNat * i.size)) e)) := (Below.refl _ _).alloc (Nat.le_refl _) _
      have hmc : (madeCells zv.cells (c'.toNat * i.size)).size = c'.toNat * i.size := size_madeCells _ _
      refine newRow_ok (v := .slice (some ⟨w.heap.size, 0, none⟩) l'.toNat c'.toNat) (w' := w.alloc (.cells (madeCells zv.cells (c'.toNat * i.size)) e)) (vs := (madeCells zv.cells (c'.toNat * i.size)).toList.take (l'.toNat * i.size)) hsim (OwnsR.new (heap_alloc_new w _) (by omega) (by unfold maxLen; omega) hmc) (fun j hj => ?_) rfl rfl rfl hbel.size (fun b hb _ => hbel.block b hb) ?_ ?_ (fun E' a' w' hs' hb => hn E' a' w' hs' hb)
      ·
       have hle2 : l'.toNat * i.size ≤ c'.toNat * i.size := Nat.mul_le_mul_right _ (by omega)
       have hseg : (((madeCells zv.cells (c'.toNat * i.size)).toList.take (l'.toNat * i.size)).drop (j * i.size)).take i.size = zv.cells.toList := by
        apply List.ext_getElem?
        intro q
        rw [List.getElem?_take]
        by_cases hq : q < i.size
        ·
         have hjq := mul_bd hj hq
         rw [if_pos hq, List.getElem?_drop, List.getElem?_take, if_pos (by omega)]
         unfold madeCells
         rw [Array.toList_map, List.getElem?_map, Array.toList_range, List.getElem?_range (by omega)]
         have e1 : (j * i.size + q) % zv.cells.size = q := by rw [hzs, Nat.mul_comm, Nat.mul_add_mod, Nat.mod_eq_of_lt hq]
         rw [Option.map_some, e1, Array.getElem?_toList]
         simp [Array.getElem!_eq_getD, Array.getD_eq_getD_getElem?, Array.getElem?_eq_getElem (xs := zv.cells) (i := q) (by omega)]
        · rw [if_neg hq, List.getElem?_eq_none]; simp; omega
       rw [hseg]
       unfold datOf at hd
       split at hd
       · cases hd; unfold VC; exact hzc
       ·
        split at hd
        ·
         split at hd
         ·
          rename_i d' hone
          cases hd
          unfold VCs at hzc
          obtain ⟨u, vs', h1, h2, h3, h4⟩ := hzc
          unfold VCs at h4
          rw [h1, h4]; exact h3
         · cases hd
        · cases hd
      ·
       intro b hb
       exact .inl (Nat.le_of_eq (by simpa [blk] using hb))
      · simp [execOp, ho, hlv, hcv, hr]
     · cases h
    · cases h
   · cases h
  · cases h
 · cases h
def bytesOf (n : Nat) (el : Nat → D) : ByteArray := ⟨((List.range n).map fun i => UInt8.ofNat (unI (el i)).toNat).toArray⟩
theorem foldl_push : ∀ (l : List Int) (r : ByteArray), (l.foldl (fun r n => r.push (UInt8.ofNat n.toNat)) r).data = r.data ++ (l.map fun n => UInt8.ofNat n.toNat).toArray
 | [], r => by simp
 | x :: l, r => by
  rw [List.foldl_cons, foldl_push l]
  apply Array.ext'
  simp [ByteArray.push]
def stepConvert (P : Program) (src dst : TypeId) (x : AV) (s : St) : Option (AV × List Prop) :=
 match P.underlying src, P.underlying dst with
 | some (.int _), some (.int k) => match x with
  | .d (.raw (.int _ n)) => some (.d (.raw (.int k (k.wrap n))), [])
  | _ => none
 | some .string, some .string => match x with
  | .d (.raw (.string b)) => some (.d (.raw (.string b)), [])
  | _ => none
 | some (.slice e), some .string => match P.underlying e with
  | some (.int .u8) => match listOf P s e 1 x with
   | some (n, el) => some (.d (.raw (.string (bytesOf n el))), [∀ i, i < n → isI .u8 (el i) = true])
   | none => none
  | _ => none
 | _, _ => none
theorem isI_eq {k : IntKind} {d : D} (h : isI k d = true) : d = .raw (.int k (unI d)) := by
 cases d <;> simp only [isI, Bool.false_eq_true] at h
 rename_i v
 cases v <;> simp only [Bool.false_eq_true] at h
 have e := eq_of_beq h
 subst e; rfl
theorem stepConvert_ok {o : Oper} {src dst : TypeId} {x : Operand} {z : AV} {cs : List Prop} (ho : o.op = .convert src dst x) (h : stepConvert P src dst (s.ev x) s = some (z, cs)) (hcs : Conds cs) : LightOK P gl (s.ev x).keys o z s := by
 constructor
 intro C E a w hP hG hsim
 have hx := hsim.ev x
 unfold stepConvert at h
 split at h
 ·
  rename_i k0 k h1 h2
  split at h
  ·
   rename_i k1 n he
   rw [he] at hx; unfold VA at hx
   have hx := (VD_raw_inv hx).1
   cases h
   refine ⟨.int k (k.wrap n), fun w' _ => ?_, by unfold VA; exact VD_raw rfl⟩
   simp [execOp, ho, hx, convert, run_underlying h1, run_underlying h2, Conv.intToInt]
  · cases h
 ·
  rename_i h1 h2
  split at h
  ·
   rename_i b he
   rw [he] at hx; unfold VA at hx
   have hx := (VD_raw_inv hx).1
   cases h
   refine ⟨.string b, fun w' _ => ?_, by unfold VA; exact VD_raw rfl⟩
   simp [execOp, ho, hx, convert, run_underlying h1, run_underlying h2]
  · cases h
 ·
  rename_i e h1 h2
  split at h
  ·
   rename_i h3
   split at h
   ·
    rename_i n el hl
    cases h
    have hc := hcs.1
    rcases listOf_ok hsim.fit hl hx with ⟨hv, rfl⟩ | ⟨ad, c, news, hv, g1, g2, g3, g4, g5⟩
    ·
     refine ⟨.string .empty, fun w' _ => ?_, by unfold VA; exact VD_raw rfl⟩
     simp [execOp, ho, hv, convert, run_underlying h1, run_underlying h2, run_underlying h3, Conv.bytesToString]
    ·
     have hnews : news = (List.range n).map fun i => Value.int .u8 (unI (el i)) := by
      apply List.ext_getElem?
      intro j
      rw [List.getElem?_map]
      by_cases hj : j < n
      ·
       have h5 := g5 j hj
       rw [Nat.mul_one] at h5
       rw [isI_eq (hc j hj)] at h5
       unfold VC at h5
       have h6 : ((news.drop j).take 1)[0]? = some (.int .u8 (unI (el j))) := by rw [h5.1]; rfl
       rw [List.getElem?_take, if_pos (by omega), List.getElem?_drop] at h6
       rw [List.getElem?_range hj]
       simpa using h6
      · rw [List.getElem?_eq_none (by omega), List.getElem?_eq_none (by simp; omega)]; rfl
     refine ⟨.string (bytesOf n el), fun w' hs => ?_, by unfold VA; exact VD_raw rfl⟩
     have hld : (loadCells ad n).run P w' = .ok (((List.range n).map fun i => unI (el i)).map (Value.int .u8)).toArray w' := by
      have := run_loadCells_list (P := P) (w := w') ad news (fun j u hu => by
       rw [World.cell?_of_block (w := w) (by rw [addr_add_block]; exact hs _ g2)]; exact g4 j u hu)
      have e1 : news.length = n := by omega
      rw [e1] at this
      rw [this, hnews]; simp
     have hb := run_bytesToString (P := P) w' ad n c _ hld
     have e2 : (((List.range n).map fun i => unI (el i)).foldl (fun r n => r.push (UInt8.ofNat n.toNat)) ByteArray.empty) = bytesOf n el := by
      apply ByteArray.ext
      rw [foldl_push]
      simp [bytesOf]
     rw [e2] at hb
     simp [execOp, ho, hv, convert, run_underlying h1, run_underlying h2, run_underlying h3, hb]
   · cases h
  · cases h
 · cases h
def stepBytes (P : Program) (o : Oper) (src dst : TypeId) (x : AV) (s : St) : Option (St × List Prop) :=
 match P.underlying src, P.underlying dst, x with
 | some .string, some (.slice e), .d (.raw (.string b)) => match P.underlying e with
  | some (.int .u8) => some (s.put o.dst (.d (.list 1 b.size fun i => .raw (.int .u8 (byteAt b i)))), [b.size ≤ 9223372036854775807])
  | _ => none
 | _, _, _ => none
theorem bytesWorld_below (w : World) (e : TypeId) (b : ByteArray) : Below w.heap.size w (bytesWorld w e b) := by
 refine ⟨rfl, rfl, rfl, ?_, fun j hj => bytesWorld_at_old w e b j hj⟩
 have := (Array.getElem?_eq_some_iff.1 (bytesWorld_at_new w e b)).1
 omega
theorem stepBytes_ok {o : Oper} {src dst : TypeId} {x : Operand} {cs : List Prop} (ho : o.op = .convert src dst x) (h : stepBytes P o src dst (s.ev x) s = some (s', cs)) (hcs : Conds cs) : StepOK P gl [] o s s' := by
 unfold stepBytes at h
 split at h
 ·
  rename_i e b h1 h2 hxe
  split at h
  ·
   rename_i h3
   cases h
   constructor
   intro C E a w next Q hP hG hsim hn
   have hx := hsim.ev x
   rw [hxe] at hx
   unfold VA at hx
   have hx := (VD_raw_inv hx).1
   have hr := run_convert_string_bytes (P := P) w src dst e b h1 h2 h3
   have hbel := bytesWorld_below w e b
   have hs' := hsim.ext hbel
   have hnew := bytesWorld_at_new w e b
   refine wp_value (v := .slice (some ⟨w.heap.size, 0, none⟩) b.size (grownCap w b.size 0 e)) (w' := bytesWorld w e b) (by simp [execOp, ho, hx, hr]) (hn _ _ _ (hs'.put' o.dst (x := .d (.list 1 b.size fun i => .raw (.int .u8 (byteAt b i)))) ?_) (Kp.trans (ext_kp hsim.fit hbel []) (Kp.refl [] (by cases o.dst <;> rfl))))
   unfold VA
   show VC _ _ _ [_]
   unfold VC
   have hsz : b.data.toList.length = b.size := by simp
   have hb0 : b.size ≤ maxLen := hcs.1
   ·
    refine ⟨_, rfl, .inr ⟨⟨w.heap.size, 0, none⟩, grownCap w b.size 0 e, b.data.toList.map fun c => .int .u8 c.toNat, rfl, grownCap_ge _ _ _ _, grownCap_le_maxLen _ _ _ _ hb0, rfl, ?_, by simp, fun j u hu => ?_, fun i hi => ?_⟩⟩
    ·
     refine ⟨(Array.getElem?_eq_some_iff.1 hnew).1, .inr (.inl hsim.fit.keep.size), fun hm => ?_⟩
     exact absurd (hsim.fit.mut_lt hm).1 (Nat.lt_irrefl _)
    ·
     rw [addr_mk_add, Nat.zero_add, cell_of_row _ _ _ _ _ _ hnew]
     rw [← Array.getElem?_toList]
     unfold bytesCells
     rw [Array.toList_append, List.getElem?_append_left (by have := (List.getElem?_eq_some_iff.1 hu).1; simpa using this)]
     simpa using hu
    ·
     have hi' : i < b.data.toList.length := by omega
     have e1 : ((b.data.toList.map fun c => Value.int .u8 c.toNat).drop (i * 1)).take 1 = [.int .u8 (byteAt b i)] := by
      rw [Nat.mul_one, List.drop_eq_getElem_cons (by simpa using hi')]
      simp [byteAt]
      rw [Array.getElem?_eq_getElem (by simpa using hi')]
      rfl
     rw [e1]
     unfold VC
     exact ⟨rfl, rfl⟩
  · cases h
 · cases h
end Go.Eng
