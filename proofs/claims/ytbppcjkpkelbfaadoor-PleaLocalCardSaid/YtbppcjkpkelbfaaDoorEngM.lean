/-
  Part of the engine: abstract states of a call, and that the operations do what is told of them. No condition.
-/
import Derived.Test.YtbppcjkpkelbfaaDoorEng15
import Derived.WideKeyRuns
namespace Go.Eng
open Go Go.RowKit Go.Lib
variable {P : Program} {gl : Nat → Option (List D)} {C : Cx} {E E' : Env} {s s' : St} {a : Act} {w w' : World}
theorem kv1_eq {N : Nat → Prop} {d : D} {u v : Value} (h : D.kv1 d = some u) (hx : VC w N d [v]) : v = u := by
 unfold D.kv1 at h
 split at h <;> first | (cases h; unfold VC at hx; simpa using hx.1) | cases h
theorem kvs_eq {N : Nat → Prop} : ∀ {xs : List D} {us vs : List Value}, D.kvs xs = some us → VCs w N xs vs → vs = us
 | [], us, vs, h, hx => by simp only [D.kvs, Option.some.injEq] at h; subst h; unfold VCs at hx; exact hx
 | x :: xs, us, vs, h, hx => by
  simp only [D.kvs] at h
  split at h
  ·
   rename_i u us' h1 h2
   cases h
   unfold VCs at hx
   obtain ⟨v, vs', rfl, _, h3, h4⟩ := hx
   rw [kv1_eq h1 h3, kvs_eq h2 h4]
  · cases h
theorem kv_val {N : Nat → Prop} {d : D} {u v : Value} (h : D.kv d = some u) (hx : VD w N d v) : v = u := by
 cases d with
 | agg xs =>
  simp only [D.kv] at h
  split at h
  ·
   rename_i us h1
   cases h
   obtain ⟨vs, rfl, h2⟩ := hx
   unfold VC at h2
   rw [kvs_eq h1 h2]
  · cases h
 | raw r => exact kv1_eq (w := w) (N := N) (d := .raw r) h hx
 | list sz n el => simp [D.kv, D.kv1] at h
theorem kv_kc {d : D} {u : Value} (h : D.kv d = some u) : D.kc d = some u.cells.toList := by
 cases d with
 | agg xs =>
  simp only [D.kv] at h
  split at h
  · rename_i us h1; cases h; simp [D.kc, h1, Value.cells]
  · cases h
 | raw r =>
  simp only [D.kv] at h
  simp only [D.kc, h]
  unfold D.kv1 at h
  split at h <;> first | (cases h; rfl) | cases h
 | list sz n el => simp [D.kv, D.kv1] at h
def plainC : Value → Bool
 | .int .. | .string _ | .bool _ => true
 | _ => false
theorem kv1_plain {d : D} {u : Value} (h : D.kv1 d = some u) : plainC u = true := by
 unfold D.kv1 at h
 split at h <;> first | (cases h; rfl) | cases h
theorem kvs_plain : ∀ {xs : List D} {us : List Value}, D.kvs xs = some us → ∀ u ∈ us, plainC u = true
 | [], us, h, u, hu => by simp only [D.kvs, Option.some.injEq] at h; subst h; cases hu
 | x :: xs, us, h, u, hu => by
  simp only [D.kvs] at h
  split at h
  ·
   rename_i v vs h1 h2
   cases h
   rcases List.mem_cons.1 hu with rfl | hu
   · exact kv1_plain h1
   · exact kvs_plain h2 u hu
  · cases h
theorem ba_beq (x y : ByteArray) : (x == y) = true ↔ x = y := by
 cases x; cases y
 rename_i a b
 have : (ByteArray.mk a == ByteArray.mk b) = (a == b) := rfl
 rw [this]; simp
theorem ba_refl (x : ByteArray) : (x == x) = true := (ba_beq x x).2 rfl
theorem same_plain (n : Nat) {v : Value} (h : plainC v = true) : Instr.sameBits n v v = true := by
 cases v <;> simp only [plainC, Bool.false_eq_true] at h <;> cases n <;> simp [Instr.sameBits, ba_refl]
theorem same_kv {d : D} {u : Value} (h : D.kv d = some u) : Instr.sameBits 10000 u u = true := by
 cases d with
 | agg xs =>
  simp only [D.kv] at h
  split at h
  ·
   rename_i us h1
   cases h
   show Instr.sameBits (9999 + 1) (.agg us.toArray) (.agg us.toArray) = true
   simp only [Instr.sameBits, beq_self_eq_true, Bool.true_and, List.all_eq_true]
   intro p hp
   have : p.1 = p.2 ∧ p.1 ∈ us := by
    have hz : ∀ (l : List Value) (p : Value × Value), p ∈ l.zip l → p.1 = p.2 ∧ p.1 ∈ l := fun l => by
     induction l with
     | nil => intro p hp; cases hp
     | cons x l ih =>
      intro p hp
      rcases List.mem_cons.1 (by simpa using hp) with rfl | hp
      · exact ⟨rfl, by simp⟩
      · exact ⟨(ih p hp).1, by simp [(ih p hp).2]⟩
    exact hz us p hp
   obtain ⟨x, y⟩ := p
   obtain ⟨e, hm⟩ := this
   simp only at e hm
   subst e
   exact same_plain _ (kvs_plain h1 x hm)
  · cases h
 | raw r => exact same_plain _ (kv1_plain (d := .raw r) h)
 | list sz n el => simp [D.kv, D.kv1] at h
theorem split_eq (l : List Value) (o n : Nat) : l.drop o = (l.drop o).take n ++ l.drop (o + n) := by
 rw [← List.drop_drop, List.take_append_drop]
theorem shpFields_eq {d : Nat} (IH : ∀ {t : TypeId} {us vs : List Value}, shp P d t us = true → shp P d t vs = true → eqcs us vs = true → us = vs) {us vs : List Value} :
  ∀ (fs : List Field) (off n : Nat), us.length = n → vs.length = n → laidIn P fs off n = true → (∀ f ∈ fs, shp P d f.type ((us.drop f.offset).take (P.cellsOf f.type)) = true ∧ shp P d f.type ((vs.drop f.offset).take (P.cellsOf f.type)) = true) →
  eqcs (us.drop off) (vs.drop off) = true → us.drop off = vs.drop off
 | [], off, n, h1, h2, hl, _, _ => by
  simp only [laidIn, beq_iff_eq] at hl
  subst hl
  rw [List.drop_eq_nil_of_le (by omega), List.drop_eq_nil_of_le (by omega)]
 | f :: fs, off, n, h1, h2, hl, hall, h => by
  simp only [laidIn, Bool.and_eq_true, beq_iff_eq] at hl
  obtain ⟨rfl, hl⟩ := hl
  obtain ⟨hu, hv⟩ := hall f (by simp)
  rw [split_eq us f.offset (P.cellsOf f.type), split_eq vs f.offset (P.cellsOf f.type), eqcs_append (by rw [List.length_take, List.length_take, List.length_drop, List.length_drop, h1, h2]), Bool.and_eq_true] at h
  rw [split_eq us f.offset (P.cellsOf f.type), split_eq vs f.offset (P.cellsOf f.type), IH hu hv h.1, shpFields_eq IH fs _ n h1 h2 hl (fun g hg => hall g (by simp [hg])) h.2]
theorem shpItems_eq {d : Nat} (IH : ∀ {t : TypeId} {us vs : List Value}, shp P d t us = true → shp P d t vs = true → eqcs us vs = true → us = vs) {e : TypeId} {us vs : List Value} :
  ∀ (m i n : Nat), i + m = n → us.length = n * P.cellsOf e → vs.length = n * P.cellsOf e → (∀ j, j < n → shp P d e ((us.drop (j * P.cellsOf e)).take (P.cellsOf e)) = true ∧ shp P d e ((vs.drop (j * P.cellsOf e)).take (P.cellsOf e)) = true) →
  eqcs (us.drop (i * P.cellsOf e)) (vs.drop (i * P.cellsOf e)) = true → us.drop (i * P.cellsOf e) = vs.drop (i * P.cellsOf e)
 | 0, i, n, hi, h1, h2, _, _ => by
  obtain rfl : i = n := by omega
  rw [List.drop_eq_nil_of_le (by omega), List.drop_eq_nil_of_le (by omega)]
 | m + 1, i, n, hi, h1, h2, hall, h => by
  obtain ⟨hu, hv⟩ := hall i (by omega)
  have e1 : i * P.cellsOf e + P.cellsOf e = (i + 1) * P.cellsOf e := by rw [Nat.add_mul, Nat.one_mul]
  rw [split_eq us (i * P.cellsOf e) (P.cellsOf e), split_eq vs (i * P.cellsOf e) (P.cellsOf e), eqcs_append (by rw [List.length_take, List.length_take, List.length_drop, List.length_drop, h1, h2]), Bool.and_eq_true, e1] at h
  rw [split_eq us (i * P.cellsOf e) (P.cellsOf e), split_eq vs (i * P.cellsOf e) (P.cellsOf e), IH hu hv h.1, e1, shpItems_eq IH m (i + 1) n (by omega) h1 h2 hall h.2]
theorem shp_eq : ∀ {d : Nat} {t : TypeId} {us vs : List Value}, shp P d t us = true → shp P d t vs = true → eqcs us vs = true → us = vs
 | 0, t, us, vs, h1, _, _ => by simp [shp] at h1
 | d + 1, t, us, vs, h1, h2, h => by
  unfold shp at h1 h2
  cases hu : P.underlying t with
  | none => simp [hu] at h1
  | some kd =>
   cases kd <;> simp only [hu, reduceCtorEq, Bool.false_eq_true] at h1 h2
   case bool =>
    rcases us with _ | ⟨u, _ | _⟩ <;> (try simp at h1)
    rcases vs with _ | ⟨v, _ | _⟩ <;> (try simp at h2)
    cases u <;> simp at h1
    cases v <;> simp at h2
    simpa [eqcs, eqc] using h
   case int q =>
    rcases us with _ | ⟨u, _ | _⟩ <;> (try simp at h1)
    rcases vs with _ | ⟨v, _ | _⟩ <;> (try simp at h2)
    cases u <;> simp at h1
    cases v <;> simp at h2
    subst h1; subst h2
    simpa [eqcs, eqc] using h
   case string =>
    rcases us with _ | ⟨u, _ | _⟩ <;> (try simp at h1)
    rcases vs with _ | ⟨v, _ | _⟩ <;> (try simp at h2)
    cases u <;> simp at h1
    cases v <;> simp at h2
    simp only [eqcs, eqc] at h
    rw [(ba_beq _ _).1 h]
   case array n e =>
    simp only [Bool.and_eq_true, beq_iff_eq, List.all_eq_true, List.mem_range] at h1 h2
    have := shpItems_eq (fun h h' k => shp_eq h h' k) (e := e) (us := us) (vs := vs) n 0 n (by omega) (by rw [h1.1.1.1, ← h1.1.1.2]) (by rw [h2.1.1.1, ← h2.1.1.2]) (fun j hj => ⟨h1.2 j hj, h2.2 j hj⟩) (by simpa using h)
    simpa using this
   case struct fs =>
    simp only [Bool.and_eq_true, beq_iff_eq, List.all_eq_true, bne_iff_ne, ne_eq, Bool.not_eq_true'] at h1 h2
    have := shpFields_eq (fun h h' k => shp_eq h h' k) (us := us) (vs := vs) fs.toList 0 (P.cellsOf t) h1.1.1.1 h2.1.1.1 h1.1.1.2 (fun f hf' => ⟨(h1.2 f hf').2, (h2.2 f hf').2⟩) (by simpa using h)
    simpa using this
theorem eqc_refl {v : Value} (h : plainC v = true) : eqc v v = true := by
 cases v <;> simp only [plainC, Bool.false_eq_true] at h <;> simp [eqc, ba_refl]
theorem eqcs_refl : ∀ {us : List Value}, (∀ u ∈ us, plainC u = true) → eqcs us us = true
 | [], _ => rfl
 | u :: us, h => by rw [eqcs_cons, eqc_refl (h u (by simp)), eqcs_refl (us := us) (fun v hv => h v (by simp [hv]))]; rfl
theorem kc_plain {d : D} {us : List Value} (h : D.kc d = some us) : ∀ u ∈ us, plainC u = true := by
 cases d with
 | agg xs => exact kvs_plain h
 | raw r =>
  simp only [D.kc] at h
  split at h
  · rename_i v hv; cases h; intro u hu; rw [List.mem_singleton.1 hu]; exact kv1_plain hv
  · cases h
 | list sz n el => simp [D.kc, D.kv1] at h
theorem shape_eqcs {d : Nat} {t : TypeId} {u v : Value} {x : D} (hx : D.kv x = some u) (h1 : shapeV P d t u = true) (h2 : shapeV P d t v = true) : eqcs u.cells.toList v.cells.toList = true ↔ v = u := by
 obtain ⟨e1, h3⟩ := shapeV_val h1
 obtain ⟨e2, h4⟩ := shapeV_val h2
 constructor
 ·
  intro h
  rw [e1, e2, shp_eq h3 h4 h]
 ·
  rintro rfl
  exact eqcs_refl (kc_plain (kv_kc hx))
def keyEq (x y : D) : Bool :=
 match x.kc, y.kc with
 | some us, some vs => eqcs us vs
 | _, _ => false
theorem keyEq_iff {d : Nat} {t : TypeId} {x y : D} {u v : Value} (hx : D.kv x = some u) (hy : D.kv y = some v) (h1 : shapeV P d t u = true) (h2 : shapeV P d t v = true) : keyEq x y = true ↔ v = u := by
 unfold keyEq
 rw [kv_kc hx, kv_kc hy]
 exact shape_eqcs hx h1 h2
theorem getMap_run {w : World} {r : Nat} {es : Array MapEntry} {clock : Nat} (hb : w.heap[r]? = some (.map es clock)) : (getObj r).run P w = .ok (.map es clock) w := by
 simp [getObj, Sem.run, hb]
theorem setMap_run {w : World} {r : Nat} {es : Array MapEntry} {clock : Nat} (o : Obj) (hb : w.heap[r]? = some (.map es clock)) : (setObj r o).run P w = .ok () { w with heap := w.heap.setIfInBounds r o } := by
 simp [setObj, Sem.run, hb]
theorem check_shp (em : Bool) : ∀ {d : Nat} {t : TypeId} {us : List Value}, shp P d t us = true → ∀ (n : Nat) (w : World), (Instr.checkKey em (n + d) t (valOf P t us)).run P w = .ok () w
 | 0, t, us, h, _, _ => by simp [shp] at h
 | d + 1, t, us, h, n, w => by
  unfold shp at h
  cases hu : P.underlying t with
  | none => simp [hu] at h
  | some kd =>
   rw [show n + (d + 1) = (n + d) + 1 from rfl, Instr.checkKey]
   cases kd <;> simp only [hu, reduceCtorEq, Bool.false_eq_true] at h
   case bool => simp [run_underlying hu]
   case int q => simp [run_underlying hu]
   case string => simp [run_underlying hu]
   case array m e =>
    simp only [Bool.and_eq_true, beq_iff_eq, List.all_eq_true, List.mem_range] at h
    obtain ⟨i, hi⟩ := Option.isSome_iff_exists.1 h.1.2
    have hval : valOf P t us = .agg us.toArray := by simp [valOf, hu]
    have hc : P.cellsOf e = i.size := by simp [Program.cellsOf, hi]
    rw [hval]
    simp only [Sem.run_bind, run_underlying hu, Result.andThen_ok]
    simp only [Std.Legacy.Range.forIn_eq_forIn_range', Std.Legacy.Range.size, Nat.sub_zero, Nat.add_one_sub_one, Nat.div_one]
    have each : ∀ j ∈ List.range' 0 m, shp P d e ((us.drop (j * P.cellsOf e)).take (P.cellsOf e)) = true := fun j hj => h.2 j (by rw [List.mem_range'] at hj; omega)
    generalize List.range' 0 m = is at each
    induction is with
    | nil => simp
    | cons j is ih =>
     have p0 := each j (by simp)
     have p1 := part_run p0 w
     have p2 := check_shp em p0 n w
     simp only [List.forIn_cons, Sem.run_bind, run_sizeOf w hi, ← hc, Result.andThen_ok, p1, p2, Sem.run_pure]
     exact ih (fun y hy => each y (by simp [hy]))
   case struct fs =>
    simp only [Bool.and_eq_true, beq_iff_eq, List.all_eq_true, bne_iff_ne, ne_eq, Bool.not_eq_true'] at h
    have hval : valOf P t us = .agg us.toArray := by simp [valOf, hu]
    rw [hval]
    simp only [Sem.run_bind, run_underlying hu, Result.andThen_ok]
    rw [← Array.forIn_toList]
    have each := h.2
    generalize fs.toList = L at each
    induction L with
    | nil => simp
    | cons f L ih =>
     have p0 := each f (by simp)
     have p1 := part_run p0.2 w
     have p2 := check_shp em p0.2 n w
     have hn : f.name ≠ "_" := by simpa using p0.1
     simp only [List.forIn_cons, Sem.run_bind, hn, ne_eq, not_false_eq_true, if_true, Result.andThen_ok, p1, p2, Sem.run_pure]
     exact ih (fun y hy => each y (by simp [hy]))
theorem check_shape (em : Bool) {t : TypeId} {u : Value} (h : shapeV P 8 t u = true) (w : World) : (Instr.checkKey em 10000 t u).run P w = .ok () w := by
 obtain ⟨e, h1⟩ := shapeV_val h
 have := check_shp em h1 9992 w
 rw [← e] at this
 exact this
def Found (es : List MapEntry) (u : Value) (i : Nat) (r : Option (Nat × Value)) : Prop :=
 (∃ j e, es[j]? = some e ∧ e.key = u ∧ r = some (i + j, e.val)) ∨ ((∀ e ∈ es, e.key ≠ u) ∧ r = none)
theorem Found.cons {es : List MapEntry} {u : Value} {i : Nat} {r : Option (Nat × Value)} {e : MapEntry} (he : e.key ≠ u) (h : Found es u (i + 1) r) : Found (e :: es) u i r := by
 rcases h with ⟨j, e', h1, h2, h3⟩ | ⟨h1, h2⟩
 · exact .inl ⟨j + 1, e', by simpa using h1, h2, by rw [h3]; congr 2; omega⟩
 ·
  refine .inr ⟨fun y hy => ?_, h2⟩
  rcases List.mem_cons.1 hy with rfl | hy
  · exact he
  · exact h1 y hy
theorem asking_run {t : TypeId} {u : Value} {x : D} (hx : D.kv x = some u) (hu : shapeV P 8 t u = true) (w : World) : ∀ (es : List MapEntry) (i : Nat), (∀ e ∈ es, shapeV P 8 t e.key = true) →
  ∃ r, (Instr.findAsking t u es i).run P w = .ok r w ∧ Found es u i r
 | [], i, _ => ⟨none, by simp [Instr.findAsking], .inr ⟨by simp, rfl⟩⟩
 | e :: es, i, h => by
  have he := h e (by simp)
  have hq := equal_shape (by omega) hu he w
  cases hb : eqcs u.cells.toList e.key.cells.toList with
  | true =>
   rw [hb] at hq
   exact ⟨some (i, e.val), by simp [Instr.findAsking, hq], .inl ⟨0, e, rfl, (shape_eqcs hx hu he).1 hb, by simp⟩⟩
  | false =>
   rw [hb] at hq
   obtain ⟨r, h1, h2⟩ := asking_run hx hu w es (i + 1) (fun y hy => h y (by simp [hy]))
   exact ⟨r, by simp [Instr.findAsking, hq, h1], h2.cons fun e2 => by rw [(shape_eqcs hx hu he).2 e2] at hb; cases hb⟩
theorem now_found {kd : TypeDesc} {u : Value} : ∀ (es : List MapEntry) (i : Nat), (∀ e ∈ es, ∃ b : Bool, Instr.sameNow kd u e.key = some b ∧ (b = true ↔ e.key = u)) → ∃ r, Instr.findNow kd u es i = some r ∧ Found es u i r
 | [], i, _ => ⟨none, rfl, .inr ⟨by simp, rfl⟩⟩
 | e :: es, i, h => by
  obtain ⟨b, h1, h2⟩ := h e (by simp)
  cases b with
  | true => exact ⟨some (i, e.val), by simp [Instr.findNow, h1], .inl ⟨0, e, rfl, h2.1 rfl, by simp⟩⟩
  | false =>
   obtain ⟨r, h3, h4⟩ := now_found es (i + 1) (fun y hy => h y (by simp [hy]))
   exact ⟨r, by simp [Instr.findNow, h1, h3], h4.cons fun e2 => by have := h2.2 e2; cases this⟩
theorem shape_bool {t : TypeId} {u : Value} (hk : P.underlying t = some .bool) (h : shapeV P 8 t u = true) : ∃ b, u = .bool b := by
 obtain ⟨e, h1⟩ := shapeV_val h
 unfold shp at h1
 simp only [hk] at h1
 have hv : ∀ l, valOf P t l = l.headD undef := fun l => by simp [valOf, hk]
 rw [hv] at e
 rcases hc : u.cells.toList with _ | ⟨c, _ | _⟩ <;> rw [hc] at h1 e <;> (try simp at h1)
 cases c <;> simp at h1
 exact ⟨_, e⟩
theorem shape_int {t : TypeId} {q : IntKind} {u : Value} (hk : P.underlying t = some (.int q)) (h : shapeV P 8 t u = true) : ∃ b, u = .int q b := by
 obtain ⟨e, h1⟩ := shapeV_val h
 unfold shp at h1
 simp only [hk] at h1
 have hv : ∀ l, valOf P t l = l.headD undef := fun l => by simp [valOf, hk]
 rw [hv] at e
 rcases hc : u.cells.toList with _ | ⟨c, _ | _⟩ <;> rw [hc] at h1 e <;> (try simp at h1)
 cases c <;> simp at h1
 subst h1
 exact ⟨_, e⟩
theorem shape_string {t : TypeId} {u : Value} (hk : P.underlying t = some .string) (h : shapeV P 8 t u = true) : ∃ b, u = .string b := by
 obtain ⟨e, h1⟩ := shapeV_val h
 unfold shp at h1
 simp only [hk] at h1
 have hv : ∀ l, valOf P t l = l.headD undef := fun l => by simp [valOf, hk]
 rw [hv] at e
 rcases hc : u.cells.toList with _ | ⟨c, _ | _⟩ <;> rw [hc] at h1 e <;> (try simp at h1)
 cases c <;> simp at h1
 exact ⟨_, e⟩
theorem find_run {t : TypeId} {u : Value} {x : D} (hx : D.kv x = some u) (hu : shapeV P 8 t u = true) (w : World) (es : List MapEntry) (h : ∀ e ∈ es, shapeV P 8 t e.key = true) :
  ∃ r, (Instr.findKey t u es).run P w = .ok r w ∧ Found es u 0 r := by
 have hs := (shapeV_val hu).2
 unfold shp at hs
 cases hk : P.underlying t with
 | none => simp [hk] at hs
 | some kd =>
  have basic : (∀ e ∈ es, ∃ b : Bool, Instr.sameNow kd u e.key = some b ∧ (b = true ↔ e.key = u)) → ∃ r, (Instr.findKey t u es).run P w = .ok r w ∧ Found es u 0 r := fun hb => by
   obtain ⟨r, h1, h2⟩ := now_found es 0 hb
   exact ⟨r, by simp [Instr.findKey, run_underlying hk, h1], h2⟩
  cases kd <;> simp only [hk, reduceCtorEq, Bool.false_eq_true] at hs
  case bool =>
   refine basic fun e he => ?_
   obtain ⟨x, rfl⟩ := shape_bool hk hu
   obtain ⟨y, hy⟩ := shape_bool hk (h e he)
   exact ⟨x == y, by rw [hy]; rfl, by
    rw [hy]
    constructor
    · intro h; rw [eq_of_beq h]
    · intro h; cases h; exact beq_self_eq_true _⟩
  case int q =>
   refine basic fun e he => ?_
   obtain ⟨x, rfl⟩ := shape_int hk hu
   obtain ⟨y, hy⟩ := shape_int hk (h e he)
   exact ⟨x == y, by rw [hy]; simp [Instr.sameNow], by
    rw [hy]
    constructor
    · intro h; rw [eq_of_beq h]
    · intro h; cases h; exact beq_self_eq_true _⟩
  case string =>
   refine basic fun e he => ?_
   obtain ⟨x, rfl⟩ := shape_string hk hu
   obtain ⟨y, hy⟩ := shape_string hk (h e he)
   exact ⟨x == y, by rw [hy]; rfl, by
    rw [hy, ba_beq]
    constructor
    · intro h; rw [h]
    · intro h; cases h; rfl⟩
  case array n e =>
   obtain ⟨r, h1, h2⟩ := asking_run hx hu w es 0 h
   exact ⟨r, by rw [run_findKey_eq w (by rw [hk]) u es]; exact h1, h2⟩
  case struct fs =>
   obtain ⟨r, h1, h2⟩ := asking_run hx hu w es 0 h
   exact ⟨r, by rw [run_findKey_eq w (by rw [hk]) u es]; exact h1, h2⟩
def St.newMap (s : St) (dst : Option Tmp) (kt : TypeId) : St :=
 let k := s.fresh
 (s.newTh none k (.mp ⟨kt, fun _ => false, fun _ => default, 0⟩)).put dst (.mp k)
def stepMakeMap (P : Program) (o : Oper) (t : TypeId) (s : St) : Option St :=
 match P.underlying t with
 | some (.map kt _) => some (s.newMap o.dst kt)
 | _ => none
theorem stepMakeMap_ok {o : Oper} {t : TypeId} (ho : o.op = .makeMap t none) (h : stepMakeMap P o t s = some s') : StepOK P gl [] o s s' := by
 unfold stepMakeMap at h
 split at h
 ·
  rename_i kt et hu
  cases h
  constructor
  intro C E a w next Q _ _ hsim hn
  refine wp_value (v := .map (some w.heap.size)) (w' := w.alloc (.map #[] 0)) (by simp [execOp, ho, Instr.makeMap, newObj, Sem.run]) ?_
  have hbel : Below w.heap.size w (w.alloc (.map #[] 0)) := (Below.refl _ _).alloc (Nat.le_refl _) _
  obtain ⟨h1, h2, h3, h4⟩ := hsim.fit.newTh (w' := w.alloc (.map #[] 0)) none s.fresh (fresh_base s) (.mp ⟨kt, fun _ => false, fun _ => default, 0⟩) (.map (some w.heap.size))
   rfl rfl rfl hbel.size (fun b hb _ => hbel.block b hb) (fun b hb => .inl (Nat.le_of_eq (by simpa [blk] using hb)))
   (fun {E' N'} hS hC hE hk => ⟨w.heap.size, #[], 0, rfl, by rw [heap_alloc_new], rfl, List.Pairwise.nil, fun e he => by simp at he, fun d u _ _ => by simp, fun d u e _ he => by simp at he⟩)
  have hsim' : Sim C (E.set s.fresh (.map (some w.heap.size))) (s.newTh none s.fresh (.mp ⟨kt, fun _ => false, fun _ => default, 0⟩)) a (w.alloc (.map #[] 0)) := ⟨h1, hsim.newTh_tm h4, hsim.df⟩
  have hkp : Kp [] C E s w (E.set s.fresh (.map (some w.heap.size))) (s.newTh none s.fresh (.mp ⟨kt, fun _ => false, fun _ => default, 0⟩)) (w.alloc (.map #[] 0)) :=
   newTh_kp hsim.fit none _ _ rfl rfl rfl hbel.size (fun b hb _ => hbel.block b hb) (fun b hb => .inl (Nat.le_of_eq (by simpa [blk] using hb)))
  exact hn _ _ _ (hsim'.put' o.dst (x := .mp s.fresh) (v := .map (some w.heap.size)) (by unfold VA; exact ⟨by simp [Env.set], _, rfl⟩)) (Kp.trans hkp (Kp.refl [] rfl))
 · cases h
def zeroD (P : Program) (et : TypeId) : Option D :=
 match (P.info? et).bind (·.zero) with
 | some z => (ofValue z).pure
 | none => none
theorem zeroD_run {N : Nat → Prop} {et : TypeId} {d : D} (h : zeroD P et = some d) : ∃ z, (∀ w : World, (zeroValue et).run P w = .ok z w) ∧ VD w N d z := by
 unfold zeroD at h
 split at h
 ·
  rename_i z hz
  obtain ⟨i, hi, hz'⟩ := Option.bind_eq_some_iff.1 hz
  exact ⟨z, fun w => by simp [zeroValue, typeInfo, program, hi, hz', Sem.run], pure_VD h (ofValue_VA (E := fun _ => default) (w := w) (N := N) z)⟩
 · cases h
def lookAt (P : Program) (t : TypeId) (x ix : AV) (s : St) : Option (MapD × D × Value × TypeId) :=
 match P.underlying t, x, ix.pure with
 | some (.map kt et), .mp k, some d =>
  match s.th k, D.kv d with
  | some (.mp M), some u => if M.kt == kt && shapeV P 8 kt u then some (M, d, u, et) else none
  | _, _ => none
 | _, _, _ => none
def lookAsk (P : Program) (t : TypeId) (x ix : AV) (s : St) : Option Bool := (lookAt P t x ix s).map fun r => r.1.has r.2.1
def stepLookup (P : Program) (t : TypeId) (x ix : AV) (ok δ : Bool) (s : St) : Option (AV × List Prop) :=
 match lookAt P t x ix s with
 | some (M, d, _, et) =>
  match δ, ok with
  | true, true => some (.tup [.d (M.val d), .known true], [M.has d = true])
  | true, false => some (.d (M.val d), [M.has d = true])
  | false, ok => match zeroD P et with
   | some z => some (if ok then .tup [.d z, .known false] else .d z, [M.has d = false])
   | none => none
 | none => none
theorem lookAt_inv {t : TypeId} {x ix : AV} {M : MapD} {d : D} {u : Value} {et : TypeId} (h : lookAt P t x ix s = some (M, d, u, et)) : ∃ k, x = .mp k ∧ P.underlying t = some (.map M.kt et) ∧ ix.pure = some d ∧ s.th k = some (.mp M) ∧ D.kv d = some u ∧ shapeV P 8 M.kt u = true := by
 unfold lookAt at h
 split at h
 ·
  rename_i kt et' k d' hu hp
  split at h
  ·
   rename_i M' u' hk hkv
   split at h
   ·
    rename_i hc
    simp only [Bool.and_eq_true, beq_iff_eq] at hc
    simp only [Option.some.injEq, Prod.mk.injEq] at h
    obtain ⟨rfl, rfl, rfl, rfl⟩ := h
    obtain ⟨rfl, hc⟩ := hc
    exact ⟨k, rfl, hu, hp, hk, hkv, hc⟩
   · cases h
  · cases h
 · cases h
theorem stepLookup_ok {o : Oper} {t : TypeId} {x ix : Operand} {ok δ : Bool} {y : AV} {cs : List Prop} (ho : o.op = .lookup t x ix ok) (h : stepLookup P t (s.ev x) (s.ev ix) ok δ s = some (y, cs)) (hcs : Conds cs) : LightOK P gl (s.ev x).keys o y s := by
 constructor
 intro C E a w hP hG hsim
 unfold stepLookup at h
 split at h
 ·
  rename_i M d u et hl
  obtain ⟨k, hxk, hu, hp, hk, hkv, hsh⟩ := lookAt_inv hl
  have hx := hsim.ev x
  rw [hxk] at hx
  unfold VA at hx
  have hi := kv_val hkv (pure_VD hp (hsim.ev ix))
  obtain ⟨b, es, clock, h1, h2, h3, h4, h5, h6, h7⟩ := (hsim.fit.th k _ hk).1
  have h5 : ∀ e ∈ es.toList, shapeV P 8 M.kt e.key = true := by rw [← hP]; exact h5
  have hheap : ∀ w', KeptW (inL (s.ev x).keys) C E s w w' → w'.heap[b]? = some (.map es clock) := fun w' hs =>
   (hs b (.inr ⟨k, _, by rw [hxk]; exact inL_self k, hk, by rw [h1]; rfl⟩)).trans h2
  have run : ∀ w' (r : Option (Nat × Value)), w'.heap[b]? = some (.map es clock) → (Instr.findKey M.kt u es.toList).run P w' = .ok r w' → ∀ v bb, ((∃ i, r = some (i, v)) ∧ bb = true ∨ r = none ∧ bb = false ∧ (zeroValue et).run P w' = .ok v w') →
    (execOp a.eval o).run P w' = .ok (.value (if ok then .tuple #[v, .bool bb] else v)) w' := fun w' r hh hf v bb hv => by
   have hg : (getObj b).run P w' = .ok (.map es clock) w' := getMap_run hh
   have hck := check_shape es.isEmpty hsh w'
   rcases hv with ⟨⟨i, rfl⟩, rfl⟩ | ⟨rfl, rfl, hz⟩
   · simp only [execOp, ho, Instr.lookup, Sem.run_bind, run_underlying hu, Result.andThen_ok, hx.1, h1, hi, hg, hck, hf, Sem.run_pure]
   · simp only [execOp, ho, Instr.lookup, Sem.run_bind, run_underlying hu, Result.andThen_ok, hx.1, h1, hi, hg, hck, hf, hz, Sem.run_pure]
  obtain ⟨r, hr, hf⟩ := find_run hkv hsh w es.toList h5
  have hr' : ∀ w', ∃ r', (Instr.findKey M.kt u es.toList).run P w' = .ok r' w' ∧ Found es.toList u 0 r' := fun w' => find_run hkv hsh w' es.toList h5
  have hhas := h6 d u hkv (by rw [hP]; exact hsh)
  have yes : M.has d = true → ∃ v, VD w (Stable C E s w) (M.val d) v ∧ ∀ w', KeptW (inL (s.ev x).keys) C E s w w' → (execOp a.eval o).run P w' = .ok (.value (if ok then .tuple #[v, .bool true] else v)) w' := fun hb => by
   obtain ⟨e0, he0, hk0⟩ := hhas.1 hb
   refine ⟨e0.val, h7 d u e0 hkv he0 hk0, fun w' hs => ?_⟩
   obtain ⟨r', h8, h9⟩ := hr' w'
   rcases h9 with ⟨j, e, g1, g2, rfl⟩ | ⟨g1, rfl⟩
   ·
    have : e = e0 := by
     obtain ⟨j0, hj0⟩ := List.getElem?_of_mem he0
     by_cases hjj : j = j0
     · subst hjj; rw [g1] at hj0; exact Option.some.inj hj0
     ·
      exfalso
      rw [List.getElem?_eq_some_iff] at g1 hj0
      obtain ⟨l1, g1⟩ := g1
      obtain ⟨l2, hj0⟩ := hj0
      have hpw := List.pairwise_iff_getElem.1 h4
      rcases Nat.lt_or_gt_of_ne hjj with hlt | hlt
      · exact hpw j j0 l1 l2 hlt (by rw [g1, hj0, g2, hk0])
      · exact hpw j0 j l2 l1 hlt (by rw [g1, hj0, g2, hk0])
    subst this
    exact run w' _ (hheap w' hs) h8 _ _ (.inl ⟨⟨_, rfl⟩, rfl⟩)
   · exact absurd hk0 (g1 e0 he0)
  have no : M.has d = false → ∀ z, (∀ w : World, (zeroValue et).run P w = .ok z w) → ∀ w', KeptW (inL (s.ev x).keys) C E s w w' → (execOp a.eval o).run P w' = .ok (.value (if ok then .tuple #[z, .bool false] else z)) w' := fun hb z hz w' hs => by
   obtain ⟨r', h8, h9⟩ := hr' w'
   rcases h9 with ⟨j, e, g1, g2, rfl⟩ | ⟨g1, rfl⟩
   ·
    have := hhas.2 ⟨e, List.mem_of_getElem? g1, g2⟩
    rw [hb] at this; cases this
   · exact run w' _ (hheap w' hs) h8 _ _ (.inr ⟨rfl, rfl, hz w'⟩)
  split at h
  ·
   cases h
   obtain ⟨v, g1, g2⟩ := yes hcs.1
   refine ⟨.tuple #[v, .bool true], g2, ?_⟩
   unfold VA
   refine ⟨[v, .bool true], rfl, ?_⟩
   unfold VAs
   refine ⟨_, _, rfl, by unfold VA; exact g1, ?_⟩
   unfold VAs
   refine ⟨_, _, rfl, by unfold VA; rfl, ?_⟩
   unfold VAs
   rfl
  ·
   cases h
   obtain ⟨v, g1, g2⟩ := yes hcs.1
   exact ⟨v, g2, by unfold VA; exact g1⟩
  ·
   split at h
   ·
    rename_i ok' z hz
    obtain ⟨zv, g1, g2⟩ := zeroD_run (w := w) (N := Stable C E s w) hz
    cases ok with
    | true =>
     cases h
     refine ⟨.tuple #[zv, .bool false], no hcs.1 zv g1, ?_⟩
     show VA E w _ (.tup [.d z, .known false]) _
     unfold VA
     refine ⟨[zv, .bool false], rfl, ?_⟩
     unfold VAs
     refine ⟨_, _, rfl, by unfold VA; exact g2, ?_⟩
     unfold VAs
     refine ⟨_, _, rfl, by unfold VA; rfl, ?_⟩
     unfold VAs
     rfl
    | false =>
     cases h
     exact ⟨zv, no hcs.1 zv g1, by show VA E w _ (.d z) _; unfold VA; exact g2⟩
   · cases h
 · cases h
def MapD.put (M : MapD) (d v : D) : MapD where
 kt := M.kt
 has x := keyEq x d || M.has x
 val x := match keyEq x d with | true => v | false => M.val x
 n := match M.has d with | true => M.n | false => M.n + 1
def stepMapUpdate (P : Program) (t : TypeId) (x ix y : AV) (s : St) : Option St :=
 match lookAt P t x ix s, x, y.pure with
 | some (M, d, _, _), .mp k, some v => some (s.setTh k (.mp (M.put d v)))
 | _, _, _ => none
theorem stepMapUpdate_ok {o : Oper} {t : TypeId} {x ix y : Operand} (ho : o.op = .mapUpdate t x ix y ∨ o.op = .insert t x ix y) (hd : o.dst = none) (h : stepMapUpdate P t (s.ev x) (s.ev ix) (s.ev y) s = some s') : StepOK P gl (s.ev x).keys o s s' := by
 unfold stepMapUpdate at h
 split at h
 ·
  rename_i M d u et k v hl hxk hy
  cases h
  constructor
  intro C E a w next Q hP hG hsim hn
  obtain ⟨k', hxk', hu, hp, hk, hkv, hsh⟩ := lookAt_inv hl
  rw [hxk] at hxk'; cases hxk'
  have hx := hsim.ev x
  rw [hxk] at hx
  unfold VA at hx
  have hi := kv_val hkv (pure_VD hp (hsim.ev ix))
  have hv := pure_VD hy (hsim.ev y)
  obtain ⟨b, es, clock, h1, h2, h3, h4, h5, h6, h7⟩ := (hsim.fit.th k _ hk).1
  have h5 : ∀ e ∈ es.toList, shapeV P 8 M.kt e.key = true := by rw [← hP]; exact h5
  have hhas := h6 d u hkv (by rw [hP]; exact hsh)
  obtain ⟨r, hr, hf⟩ := find_run hkv hsh w es.toList h5
  have hx1 : a.eval x = .map (some b) := hx.1.trans h1
  have fin : ∀ (es' : Array MapEntry) (clock' : Nat), (execOp a.eval o).run P w = .ok .skip { w with heap := w.heap.setIfInBounds b (.map es' clock') } → es'.size = (M.put d v).n → es'.toList.Pairwise (fun x y => x.key ≠ y.key) → (∀ e ∈ es'.toList, e.key = u ∨ e ∈ es.toList) →
    (∀ e ∈ es'.toList, e.key = u → e.val = a.eval y) → (∃ e ∈ es'.toList, e.key = u) → (∀ e ∈ es.toList, e.key ≠ u → e ∈ es'.toList) → Oper.wp P o a w next Q := fun es' clock' hrun e1 e2 e3 e4 e5 e6 => by
   refine wp_skip' hrun ?_
   rw [hd, put_none]
   have hlt : b < w.heap.size := (Array.getElem?_eq_some_iff.1 h2).1
   have hoth : ∀ b', b' < w.heap.size → blk (E k) ≠ some b' → ({ w with heap := w.heap.setIfInBounds b (.map es' clock') } : World).heap[b']? = w.heap[b']? := fun b' _ hne => by
    have : b ≠ b' := fun e => hne (by rw [h1, e]; rfl)
    simp [this]
   have hok : ∀ {N' : Nat → Prop}, (∀ b, Stable C E s w b → N' b) → (∀ a u, Stable C E s w a.block → w.cell? a = some u → ({ w with heap := w.heap.setIfInBounds b (.map es' clock') } : World).cell? a = some u) → ThOK C.P E { w with heap := w.heap.setIfInBounds b (.map es' clock') } N' (.mp (M.put d v)) (E k) := fun {N'} hS hC => by
    refine ⟨b, es', clock', h1, by simp [hlt], e1, e2, fun e he => ?_, fun d2 u2 hd2 hs2 => ?_, fun d2 u2 e hd2 he hk2 => ?_⟩
    ·
     rw [hP]
     rcases e3 e he with g | g
     · rw [g]; exact hsh
     · exact h5 e g
    ·
     have hs2' : shapeV P 8 M.kt u2 = true := by rw [← hP]; exact hs2
     have hq := keyEq_iff hd2 hkv hs2' hsh
     have hh2 := h6 d2 u2 hd2 hs2
     show (keyEq d2 d || M.has d2) = true ↔ _
     rw [Bool.or_eq_true, hq, hh2]
     constructor
     ·
      rintro (g | ⟨e, g1, g2⟩)
      · obtain ⟨e, g3, g4⟩ := e5; exact ⟨e, g3, g4.trans g⟩
      ·
       by_cases g3 : e.key = u
       · obtain ⟨e', g4, g5⟩ := e5; exact ⟨e', g4, g5.trans (g3.symm.trans g2)⟩
       · exact ⟨e, e6 e g1 g3, g2⟩
     ·
      rintro ⟨e, g1, g2⟩
      rcases e3 e g1 with g | g
      · exact .inl (g.symm.trans g2)
      · exact .inr ⟨e, g, g2⟩
    ·
     have hs2' : shapeV P 8 M.kt u2 = true := by
      rw [← hk2]
      rcases e3 e he with g | g
      · rw [g]; exact hsh
      · exact h5 e g
     have hq := keyEq_iff hd2 hkv hs2' hsh
     show VD _ _ (match keyEq d2 d with | true => v | false => M.val d2) e.val
     cases hb : keyEq d2 d with
     | true =>
      have : u = u2 := hq.1 hb
      rw [e4 e he (hk2.trans this.symm)]
      exact VD.imp hS hC hv
     | false =>
      have hne : e.key ≠ u := fun g => by
       rw [hq.2 (g.symm.trans hk2)] at hb; cases hb
      rcases e3 e he with g | g
      · exact absurd g hne
      · exact VD.imp hS hC (h7 d2 u2 e hd2 g hk2)
   obtain ⟨f1, f2, f3⟩ := hsim.fit.setTh (w' := { w with heap := w.heap.setIfInBounds b (.map es' clock') }) k _ hk (.mp (M.put d v)) rfl rfl rfl (by simp) hoth hok
   exact hn _ _ _ ⟨f1, VAs.mono f2 f3 hsim.tm, hsim.df⟩ (by rw [hxk]; exact setTh_kp hsim.fit k _ hk _ rfl rfl rfl (by simp) hoth)
  have hexec : ∀ o', execOp a.eval o = (do Instr.mapUpdate t (a.eval x) (a.eval ix) (a.eval y); pure .skip) ∨ o' = o := fun o' => .inl (by rcases ho with ho | ho <;> simp [execOp, ho])
  have hexec : execOp a.eval o = (do Instr.mapUpdate t (a.eval x) (a.eval ix) (a.eval y); pure .skip) := by rcases ho with ho | ho <;> simp [execOp, ho]
  have hck := check_shape false hsh w
  rcases hf with ⟨j, e, g1, g2, rfl⟩ | ⟨g1, rfl⟩
  ·
   have hj : es[j]? = some e := by rw [← Array.getElem?_toList]; exact g1
   have hget : ∀ (m : Nat) (q : MapEntry), (es.modify j fun e => { e with key := u, val := a.eval y })[m]? = some q → ∃ q0, es[m]? = some q0 ∧ q = if j = m then { q0 with key := u, val := a.eval y } else q0 := fun m q hq => by
    rw [Array.getElem?_modify] at hq
    split at hq
    ·
     rename_i hjm
     obtain ⟨q0, h8, h9⟩ := Option.map_eq_some_iff.1 hq
     exact ⟨q0, h8, by rw [if_pos hjm]; exact h9.symm⟩
    ·
     rename_i hjm
     exact ⟨q, hq, by rw [if_neg hjm]⟩
   have hpw := List.pairwise_iff_getElem.1 h4
   have uniq : ∀ (m : Nat) (q : MapEntry), es[m]? = some q → q.key = u → m = j := fun m q hm hq => by
    rcases Nat.lt_trichotomy m j with hlt | rfl | hlt
    ·
     exfalso
     rw [Array.getElem?_eq_some_iff] at hm hj
     obtain ⟨l1, hm⟩ := hm
     obtain ⟨l2, hj⟩ := hj
     exact hpw m j (by simpa using l1) (by simpa using l2) hlt (by simp [hm, hj, hq, g2])
    · rfl
    ·
     exfalso
     rw [Array.getElem?_eq_some_iff] at hm hj
     obtain ⟨l1, hm⟩ := hm
     obtain ⟨l2, hj⟩ := hj
     exact hpw j m (by simpa using l2) (by simpa using l1) hlt (by simp [hm, hj, hq, g2])
   refine fin (es.modify j fun e => { e with key := u, val := a.eval y }) clock ?_ ?_ ?_ ?_ ?_ ?_ ?_
   ·
    rw [hexec]
    rw [Nat.zero_add] at hr
    have hsame : (Instr.keyThatStays (((es[j]?).map (·.key)).getD u) u).run P w = .ok u w := by
     rw [hj]
     simp [Instr.keyThatStays, g2, same_kv hkv]
    have hg : (getObj b).run P w = .ok (.map es clock) w := getMap_run h2
    have hset := fun o' => setMap_run (P := P) o' h2
    simp only [Instr.mapUpdate, Sem.run_bind, run_underlying hu, Result.andThen_ok, hx1, hi, hg, hck, hr, hsame, hset, Sem.run_pure]
   ·
    rw [Array.size_modify, h3]
    show _ = (match M.has d with | true => M.n | false => M.n + 1)
    rw [hhas.2 ⟨e, List.mem_of_getElem? g1, g2⟩]
   ·
    refine List.pairwise_iff_getElem.2 fun m n hm hn hmn => ?_
    have hm' : m < (es.modify j fun e => { e with key := u, val := a.eval y }).size := by simpa using hm
    have hn' : n < (es.modify j fun e => { e with key := u, val := a.eval y }).size := by simpa using hn
    obtain ⟨q1, h8, h9⟩ := hget m _ (Array.getElem?_eq_getElem hm')
    obtain ⟨q2, h10, h11⟩ := hget n _ (Array.getElem?_eq_getElem hn')
    have k1 : ((es.modify j fun e => { e with key := u, val := a.eval y })[m]).key = q1.key := by
     rw [h9]; split
     · rename_i e; subst e; rw [hj] at h8; cases h8; exact g2.symm
     · rfl
    have k2 : ((es.modify j fun e => { e with key := u, val := a.eval y })[n]).key = q2.key := by
     rw [h11]; split
     · rename_i e; subst e; rw [hj] at h10; cases h10; exact g2.symm
     · rfl
    simp only [Array.getElem_toList]
    rw [k1, k2]
    rw [Array.getElem?_eq_some_iff] at h8 h10
    obtain ⟨l1, h8⟩ := h8
    obtain ⟨l2, h10⟩ := h10
    have := hpw m n (by simpa using l1) (by simpa using l2) hmn
    simpa [h8, h10] using this
   ·
    intro q hq
    obtain ⟨m, hm⟩ := List.getElem?_of_mem hq
    rw [Array.getElem?_toList] at hm
    obtain ⟨q0, h8, h9⟩ := hget m q hm
    by_cases e : j = m
    · rw [if_pos e] at h9; exact .inl (by rw [h9])
    · rw [if_neg e] at h9; exact .inr (by rw [h9]; exact List.mem_of_getElem? (by rw [Array.getElem?_toList]; exact h8))
   ·
    intro q hq hqu
    obtain ⟨m, hm⟩ := List.getElem?_of_mem hq
    rw [Array.getElem?_toList] at hm
    obtain ⟨q0, h8, h9⟩ := hget m q hm
    by_cases e : j = m
    · rw [if_pos e] at h9; rw [h9]
    · rw [if_neg e] at h9; subst h9; exact absurd (uniq m q h8 hqu).symm e
   ·
    refine ⟨{ e with key := u, val := a.eval y }, List.mem_of_getElem? (i := j) ?_, rfl⟩
    rw [Array.getElem?_toList, Array.getElem?_modify, if_pos rfl, hj]
    rfl
   ·
    intro q hq hqu
    obtain ⟨m, hm⟩ := List.getElem?_of_mem hq
    rw [Array.getElem?_toList] at hm
    have hjm : j ≠ m := fun e' => by subst e'; rw [hj] at hm; cases hm; exact hqu g2
    refine List.mem_of_getElem? (i := m) ?_
    rw [Array.getElem?_toList, Array.getElem?_modify, if_neg hjm]
    exact hm
  ·
   refine fin (es.push { key := u, val := a.eval y, born := clock }) (clock + 1) ?_ ?_ ?_ ?_ ?_ ?_ ?_
   ·
    rw [hexec]
    have hg : (getObj b).run P w = .ok (.map es clock) w := getMap_run h2
    have hset := fun o' => setMap_run (P := P) o' h2
    simp only [Instr.mapUpdate, Sem.run_bind, run_underlying hu, Result.andThen_ok, hx1, hi, hg, hck, hr, hset, Sem.run_pure]
   ·
    rw [Array.size_push, h3]
    show _ = (match M.has d with | true => M.n | false => M.n + 1)
    have : M.has d = false := by
     cases hb : M.has d with
     | false => rfl
     | true => obtain ⟨e, g3, g4⟩ := hhas.1 hb; exact absurd g4 (g1 e g3)
    rw [this]
   ·
    rw [Array.toList_push, List.pairwise_append]
    refine ⟨h4, List.pairwise_singleton _ _, fun p hp q hq => ?_⟩
    rw [List.mem_singleton.1 hq]
    exact g1 p hp
   ·
    intro q hq
    rw [Array.toList_push] at hq
    rcases List.mem_append.1 hq with g | g
    · exact .inr g
    · exact .inl (by rw [List.mem_singleton.1 g])
   ·
    intro q hq hqu
    rw [Array.toList_push] at hq
    rcases List.mem_append.1 hq with g | g
    · exact absurd hqu (g1 q g)
    · rw [List.mem_singleton.1 g]
   · exact ⟨{ key := u, val := a.eval y, born := clock }, by simp, rfl⟩
   ·
    intro q hq _
    rw [Array.toList_push]
    exact List.mem_append.2 (.inl hq)
 · cases h
def MapD.clear (M : MapD) : MapD := ⟨M.kt, fun _ => false, fun _ => default, 0⟩
def stepClear (P : Program) (o : Oper) (t : TypeId) (x : AV) (s : St) : Option St :=
 match P.underlying t, x with
 | some (.map _ _), .mp k => match s.th k with
  | some (.mp M) => some ((s.setTh k (.mp M.clear)).put o.dst (.tup []))
  | _ => none
 | _, _ => none
theorem stepClear_ok {o : Oper} {t : TypeId} {x : Operand} {ty : Array TypeId} (ho : o.op = .call { callee := .builtin .clear, args := #[x], argTypes := ty }) (ht : ty[0]? = some t) (h : stepClear P o t (s.ev x) s = some s') : StepOK P gl (s.ev x).keys o s s' := by
 unfold stepClear at h
 split at h
 ·
  rename_i kt et k hu hxk
  split at h
  ·
   rename_i M hk
   cases h
   constructor
   intro C E a w next Q hP hG hsim hn
   have hx := hsim.ev x
   rw [hxk] at hx
   unfold VA at hx
   obtain ⟨b, es, clock, h1, h2, -⟩ := (hsim.fit.th k _ hk).1
   have hx1 : a.eval x = .map (some b) := hx.1.trans h1
   have hlt : b < w.heap.size := (Array.getElem?_eq_some_iff.1 h2).1
   refine wp_value (v := .tuple #[]) (w' := { w with heap := w.heap.setIfInBounds b (.map #[] clock) }) ?_ ?_
   · simp [execOp, ho, resolve, invoke, builtin, Builtin.clear_, ht, hx1, run_underlying hu, getObj, setObj, h2, Sem.run]
   ·
    have hoth : ∀ b', b' < w.heap.size → blk (E k) ≠ some b' → ({ w with heap := w.heap.setIfInBounds b (.map #[] clock) } : World).heap[b']? = w.heap[b']? := fun b' _ hne => by
     have : b ≠ b' := fun e => hne (by rw [h1, e]; rfl)
     simp [this]
    obtain ⟨f1, f2, f3⟩ := hsim.fit.setTh (w' := { w with heap := w.heap.setIfInBounds b (.map #[] clock) }) k _ hk (.mp M.clear) rfl rfl rfl (by simp) hoth
     (fun hS hC => ⟨b, #[], clock, h1, by simp [hlt], rfl, List.Pairwise.nil, fun e he => by simp at he, fun d u _ _ => by simp [MapD.clear], fun d u e _ he => by simp at he⟩)
    have hsim' : Sim C E (s.setTh k (.mp M.clear)) a { w with heap := w.heap.setIfInBounds b (.map #[] clock) } := ⟨f1, VAs.mono f2 f3 hsim.tm, hsim.df⟩
    have hkp := setTh_kp hsim.fit k _ hk (.mp M.clear) (w' := { w with heap := w.heap.setIfInBounds b (.map #[] clock) }) rfl rfl rfl (by simp) hoth
    refine hn _ _ _ (hsim'.put' o.dst (x := .tup []) (v := .tuple #[]) (by unfold VA; exact ⟨[], rfl, by unfold VAs; rfl⟩)) ?_
    rw [hxk]
    have := Kp.trans hkp (Kp.refl (E := E) (w := { w with heap := w.heap.setIfInBounds b (.map #[] clock) }) [] (s := s.setTh k (.mp M.clear)) (s' := (s.setTh k (.mp M.clear)).put o.dst (.tup [])) (by cases o.dst <;> rfl))
    rwa [List.append_nil] at this
  · cases h
 · cases h
end Go.Eng
