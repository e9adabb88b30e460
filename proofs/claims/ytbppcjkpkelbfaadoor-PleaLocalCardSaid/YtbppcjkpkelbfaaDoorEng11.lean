/-
  Part of the engine: abstract states of a call, and that the operations do what is told of them. No condition.
-/
import Derived.Test.YtbppcjkpkelbfaaDoorEng9
import Derived.Lib.ConvBytes
import Derived.Laws.MakeOwn
namespace Go.Eng
open Go Go.RowKit
variable {P : Program} {gl : Nat → Option (List D)} {C : Cx} {E E' : Env} {s s' : St} {a : Act} {w w' : World}
structure Added (P : Program) (w : World) (size m : Nat) (news : List Value) (x : Value) : Prop where
 len : ∀ w', (Builtin.lenOf x).run P w' = .ok m w'
 run : ∀ w' : World, w'.heap = w.heap → (Builtin.firstCells size m x).run P w' = .ok news.toArray w'
 size : news.length = m * size
 ones : ∀ u ∈ news, u.oneCell' = true
def notInt : Option TypeDesc → Bool
 | some (.slice _) => true
 | some .string => true
 | _ => false
theorem run_append_any (t t2 ty e : TypeId) (i : TypeInfo) (z : Value) (ht : P.underlying t = some (.slice e)) (ht2 : notInt (P.underlying t2) = true) (hi : P.info? e = some i) (hz : i.zero = some z) (hzs : z.cells.size = i.size)
  {v : Value} {n : Nat} {vs : List Value} (hown : OwnsR w e i.size v n vs) {x : Value} {m : Nat} {news : List Value} (hx : Added P w i.size m news x) (h63 : n + m ≤ 9223372036854775807) (hbytes : (n + m) * i.bytes ≤ 140737488355328) :
  ∃ v' w', (Builtin.append_ #[t, t2] ty #[v, x]).run P w = .ok v' w' ∧ OwnsR w' e i.size v' (n + m) (vs ++ news) ∧ w'.os = w.os ∧ w'.tape = w.tape ∧ w'.output = w.output ∧ w.heap.size ≤ w'.heap.size ∧
   (∀ b, b < w.heap.size → blk v ≠ some b → w'.heap[b]? = w.heap[b]?) ∧ (∀ b, blk v' = some b → w.heap.size ≤ b ∨ blk v = some b) := by
 obtain ⟨d2, hd2, hor⟩ : ∃ d, P.underlying t2 = some d ∧ ((∃ e2, d = .slice e2) ∨ d = .string) := by
  cases h : P.underlying t2 with
  | none => rw [h] at ht2; cases ht2
  | some d =>
   rw [h] at ht2
   cases d <;> first | exact ⟨_, rfl, .inl ⟨_, rfl⟩⟩ | exact ⟨_, rfl, .inr rfl⟩ | (simp [notInt] at ht2)
 have hmax : maxLen = 9223372036854775807 := rfl
 have grow : ∀ (base : Option Addr) (sCap : Nat), v = .slice base n sCap → sCap < n + m → (∀ w' : World, w'.heap = w.heap → (Builtin.firstCells i.size n v).run P w' = .ok vs.toArray w') →
   (Builtin.append_ #[t, t2] ty #[v, x]).run P w = .ok (.slice (some ⟨w.heap.size, 0, none⟩) (n + m) (grownCap w (n + m) sCap e))
    (w.drew.alloc (.cells (vs.toArray ++ news.toArray ++ Builtin.zeroCells z.cells (grownCap w (n + m) sCap e - (n + m))) e)) := fun base sCap hv hlt hf => by
  have hn : ¬ (n + m ≤ sCap) := by omega
  have h63' : ¬ (9223372036854775807 < ((n : Int) + (m : Int))) := by omega
  have hfit := growslice_fits hlt hbytes
  have h48' : ¬ (281474976710656 < Builtin.nextslicecap (n + m) sCap * i.bytes) := by omega
  have hf1 := hf w.drew rfl
  have hf2 := hx.run w.drew rfl
  rw [hv] at hf1 ⊢
  rcases hor with ⟨e2, rfl⟩ | rfl <;> simp [Builtin.append_, run_underlying ht, run_underlying hd2, sizeOf, typeInfo, zeroValue, hi, hz, hx.len, hn, h63', h48', Question.forced, hf1, hf2, newRow, grownCap]
  all_goals
   congr 2
   apply Array.ext'
   simp [List.append_assoc]
 have grown : ∀ (sCap : Nat), sCap < n + m → (hrun : (Builtin.append_ #[t, t2] ty #[v, x]).run P w = .ok (.slice (some ⟨w.heap.size, 0, none⟩) (n + m) (grownCap w (n + m) sCap e))
    (w.drew.alloc (.cells (vs.toArray ++ news.toArray ++ Builtin.zeroCells z.cells (grownCap w (n + m) sCap e - (n + m))) e))) → ∃ v' w', (Builtin.append_ #[t, t2] ty #[v, x]).run P w = .ok v' w' ∧ OwnsR w' e i.size v' (n + m) (vs ++ news) ∧ w'.os = w.os ∧ w'.tape = w.tape ∧ w'.output = w.output ∧ w.heap.size ≤ w'.heap.size ∧
   (∀ b, b < w.heap.size → blk v ≠ some b → w'.heap[b]? = w.heap[b]?) ∧ (∀ b, blk v' = some b → w.heap.size ≤ b ∨ blk v = some b) := fun sCap hlt hrun => by
  have hge := grownCap_ge w (n + m) sCap e
  have hcm : grownCap w (n + m) sCap e ≤ maxLen := grownCap_le_maxLen w (n + m) sCap e (by rw [hmax]; exact h63)
  refine ⟨_, _, hrun, ⟨by rw [List.length_append, hown.1, hx.size, Nat.add_mul], .inr ⟨w.heap.size, _, _, rfl, heap_alloc_new w.drew _, hge, hcm, ?_, ?_⟩⟩, rfl, rfl, rfl, by simp, fun b hb _ => heap_alloc_old w.drew _ b hb, fun b hb => .inl (Nat.le_of_eq (by simpa [blk] using hb))⟩
  ·
   simp only [Array.size_append, List.size_toArray, size_zeroCells, hzs, hown.1, hx.size, ← Nat.add_mul]
   apply Nat.mul_le_mul_right; omega
  ·
   have hlen : (vs ++ news).length = (n + m) * i.size := by rw [List.length_append, hown.1, hx.size, Nat.add_mul]
   simp only [Array.toList_append, List.append_assoc]
   rw [← List.append_assoc, ← hlen]
   exact List.take_left
 rcases hown.2 with ⟨hv, hn0⟩ | ⟨g, cap, cur, hv, hg, hnc, hcm, hcs, htake⟩
 ·
  subst hn0
  have hvs : vs = [] := List.eq_nil_of_length_eq_zero (by simpa using hown.1)
  subst hvs
  by_cases hm : m = 0
  ·
   subst hm
   have hnews : news = [] := List.eq_nil_of_length_eq_zero (by simpa using hx.size)
   subst hnews
   refine ⟨v, w, ?_, by simpa using hown, rfl, rfl, rfl, Nat.le_refl _, fun _ _ _ => rfl, fun b hb => .inr hb⟩
   rw [hv]
   rcases hor with ⟨e2, rfl⟩ | rfl <;> simp [Builtin.append_, run_underlying ht, run_underlying hd2, sizeOf, typeInfo, hi, hx.len, hx.run w rfl]
  · exact grown 0 (by omega) (grow none 0 hv (by omega) fun w' _ => by rw [hv]; simp [Builtin.firstCells])
 ·
  by_cases hroom : n + m ≤ cap
  ·
   have hmul : (n + m) * i.size ≤ cap * i.size := Nat.mul_le_mul_right _ hroom
   rw [Nat.add_mul] at hmul
   have hst := run_storeCells_at P g (n * i.size) e news 0 cur w hg (by rw [hx.size]; omega) hx.ones
   simp only [Nat.add_zero] at hst
   have hcl : cur.toList.length = cur.size := Array.length_toList
   refine ⟨.slice (some ⟨g, 0, none⟩) (n + m) cap, w.setRow g (cur.toList.take (n * i.size) ++ news ++ cur.toList.drop (n * i.size + news.length)).toArray, ?_, ⟨by rw [List.length_append, hown.1, hx.size, Nat.add_mul], .inr ⟨g, cap, _, rfl, setRow_heap w g _ _ _ _ hg, hroom, hcm, ?_, ?_⟩⟩, rfl, rfl, rfl, by simp, fun b _ hb => setRow_other w g b _ (fun e => hb (by rw [hv, e]; rfl)), fun b hb => .inr (by rw [hv]; exact hb)⟩
   ·
    rw [hv]
    rcases hor with ⟨e2, rfl⟩ | rfl <;> simp [Builtin.append_, run_underlying ht, run_underlying hd2, sizeOf, typeInfo, hi, hx.len, hx.run w rfl, hroom, Addr.add_lit, hst]
   · simp only [List.size_toArray, List.length_append, List.length_take, List.length_drop, hx.size]; omega
   ·
    show (cur.toList.take (n * i.size) ++ news ++ cur.toList.drop (n * i.size + news.length)).take ((n + m) * i.size) = vs ++ news
    rw [htake]
    have hlen : (vs ++ news).length = (n + m) * i.size := by rw [List.length_append, hown.1, hx.size, Nat.add_mul]
    rw [← hlen]
    exact List.take_left
  ·
   refine grown cap (by omega) (grow _ cap hv (by omega) fun w' hw' => ?_)
   rw [hv]
   have hmul : n * i.size ≤ cap * i.size := Nat.mul_le_mul_right _ hnc
   refine run_firstCells_some (P := P) w' i.size n ⟨g, 0, none⟩ n cap vs hown.1 fun j u hu => ?_
   have hg' : w'.heap[g]? = some (.cells cur e (0, 0)) := by rw [hw']; exact hg
   rw [addr_mk_add, Nat.zero_add, cell_of_row w' g j cur e (0, 0) hg']
   rw [← htake, List.getElem?_take] at hu
   split at hu
   · simpa using hu
   · cases hu
def appSrc (s : St) (e sz : Nat) : AV → Option (Option Nat × Nat × (Nat → D))
 | .own k => match s.th k with
  | some (.row T sz' n el) => if T == e && sz' == sz then some (some k, n, el) else none
  | _ => none
 | .sub k 0 n sz' (some _) => match s.th k with
  | some (.row T sz'' n' el) => if T == e && sz' == sz && sz'' == sz then some (some k, n, el) else none
  | _ => none
 | .d (.raw (.slice none 0 0)) => some (none, 0, fun _ => default)
 | _ => none
theorem appSrc_ok (hf : Fit C E s w) {e sz : Nat} {x : AV} {v : Value} {q : Option Nat} {n : Nat} {el : Nat → D} (h : appSrc s e sz x = some (q, n, el)) (hx : VA E w (Stable C E s w) x v) :
  ∃ vs, OwnsR w e sz v n vs ∧ (∀ i, i < n → VC w (Stable C E s w) (el i) ((vs.drop (i * sz)).take sz)) ∧ (∀ k, q = some k → ∃ t, s.th k = some t) ∧ ∀ b, blk v = some b → ∃ k t, q = some k ∧ s.th k = some t ∧ blk (E k) = some b := by
 unfold appSrc at h
 split at h
 ·
  rename_i k
  split at h
  ·
   rename_i T sz' n' el' hk
   split at h
   ·
    rename_i hc
    simp only [Bool.and_eq_true, beq_iff_eq] at hc
    obtain ⟨rfl, rfl⟩ := hc
    simp only [Option.some.injEq, Prod.mk.injEq] at h
    obtain ⟨rfl, rfl, rfl⟩ := h
    obtain ⟨vs, h1, h2⟩ := row_of hf hk
    unfold VA at hx
    rw [hx.1]
    exact ⟨vs, h1, h2, fun j hj => by cases hj; exact ⟨_, hk⟩, fun b hb => ⟨k, _, rfl, hk, hb⟩⟩
   · cases h
  · cases h
 ·
  rename_i k n0 sz' cp
  split at h
  ·
   rename_i T sz'' n' el' hk
   split at h
   ·
    rename_i hc
    simp only [Bool.and_eq_true, beq_iff_eq] at hc
    obtain ⟨⟨rfl, rfl⟩, rfl⟩ := hc
    simp only [Option.some.injEq, Prod.mk.injEq] at h
    obtain ⟨rfl, rfl, rfl⟩ := h
    obtain ⟨vs, h1, h2⟩ := row_of hf hk
    unfold VA at hx
    rcases hx with ⟨h3, h4, h5, _⟩ | ⟨g, m, c, o, cp', h3, h4, h5, h6, h7, h8, h9, h10⟩
    ·
     subst h3
     rw [h5]
     refine ⟨[], ⟨by simp, .inl ⟨rfl, rfl⟩⟩, fun i hi => absurd hi (by omega), fun j hj => by cases hj; exact ⟨_, hk⟩, fun b hb => by simp [blk] at hb⟩
    ·
     have ho : o = 0 := h9 rfl
     subst ho
     rw [h5]
     rcases h1.2 with ⟨h11, _⟩ | ⟨g', cap, cur, h11, h12, h13, h14, h15, h16⟩
     · rw [h11] at h3; cases h3
     ·
      rw [h11] at h3; cases h3
      have hlen := h1.1
      have e1 : n0 * sz'' ≤ n' * sz'' := Nat.mul_le_mul_right _ (by omega)
      refine ⟨vs.take (n0 * sz''), ⟨by rw [List.length_take]; omega, .inr ⟨g, cp', cur, rfl, h12, h7, by omega, Nat.le_trans (Nat.mul_le_mul_right _ (by omega)) h15, ?_⟩⟩, fun i hi => ?_, fun j hj => by cases hj; exact ⟨_, hk⟩, fun b hb => ⟨k, _, rfl, hk, by rw [h11]; exact hb⟩⟩
      · rw [← h16, List.take_take]; congr 1; omega
      ·
       have := h2 i (by omega)
       have e3 : ((vs.take (n0 * sz'')).drop (i * sz'')).take sz'' = (vs.drop (i * sz'')).take sz'' := by
        apply List.ext_getElem?
        intro q
        rw [List.getElem?_take, List.getElem?_take]
        by_cases hq : q < sz''
        · rw [if_pos hq, if_pos hq, List.getElem?_drop, List.getElem?_take, if_pos (by have := mul_bd hi hq; omega), List.getElem?_drop]
        · rw [if_neg hq, if_neg hq]
       rw [e3]; exact this
   · cases h
  · cases h
 ·
  simp only [Option.some.injEq, Prod.mk.injEq] at h
  obtain ⟨rfl, rfl, rfl⟩ := h
  unfold VA at hx
  rw [(VD_raw_inv hx).1]
  exact ⟨[], ⟨by simp, .inl ⟨rfl, rfl⟩⟩, fun i hi => absurd hi (by omega), fun k hk => (by cases hk), fun b hb => by simp [blk] at hb⟩
 · cases h
def segD (agg : Bool) (sz : Nat) (ds : List D) (i : Nat) : D := if agg then .agg ((ds.drop (i * sz)).take sz) else ds.getD (i * sz) default
theorem segD_VC {N : Nat → Prop} {agg : Bool} {sz n : Nat} {ds : List D} {vs : List Value} (h : VCs w N ds vs) (hl : ds.length = n * sz) (ha : agg = true ∨ sz = 1) (i : Nat) (hi : i < n) :
  VC w N (segD agg sz ds i) ((vs.drop (i * sz)).take sz) := by
 unfold segD
 cases agg with
 | true => simp only [if_true]; unfold VC; exact (h.drop _).take _
 | false =>
  simp only [Bool.false_eq_true, if_false]
  obtain rfl : sz = 1 := by simpa using ha
  have hlt : i * 1 < ds.length := by omega
  obtain ⟨v, h1, h2, h3⟩ := h.get (i * 1) ds[i * 1] (List.getElem?_eq_getElem hlt)
  have e1 : ds.getD (i * 1) default = ds[i * 1] := by rw [List.getD_eq_getElem?_getD, List.getElem?_eq_getElem hlt]; rfl
  have e2 : (vs.drop (i * 1)).take 1 = [v] := by
   obtain ⟨hlt2, h4⟩ := List.getElem?_eq_some_iff.1 h1
   rw [List.drop_eq_getElem_cons hlt2, h4]; rfl
  rw [e1, e2]; exact h3
def listOf (P : Program) (s : St) (e sz : Nat) : AV → Option (Nat × (Nat → D))
 | .own k => match s.th k with
  | some (.row _ sz' n el) => if sz' == sz then some (n, el) else none
  | _ => none
 | .sub k lo n sz' _ => match s.th k with
  | some (.row _ sz'' _ el) => if sz' == sz && sz'' == sz then some (n, fun i => el (lo + i)) else none
  | _ => none
 | .osl k off sz' n _ => match s.th k, isAggT P e with
  | some (.obj _ cs), some ag => match toDs ((cs.drop off).take (n * sz)) with
   | some ds => if sz' == sz && ds.length == n * sz && (ag || sz == 1) then some (n, segD ag sz ds) else none
   | none => none
  | _, _ => none
 | .d (.list sz' n el) => if sz' == sz then some (n, el) else none
 | .d (.raw (.slice none 0 0)) => some (0, fun _ => default)
 | _ => none
theorem listOf_ok (hf : Fit C E s w) {e sz : Nat} {x : AV} {v : Value} {n : Nat} {el : Nat → D} (h : listOf P s e sz x = some (n, el)) (hx : VA E w (Stable C E s w) x v) :
  (v = .slice none 0 0 ∧ n = 0) ∨ ∃ (ad : Addr) (c : Nat) (news : List Value), v = .slice (some ad) n c ∧ ad.spot = none ∧ KB (inL x.keys) C E s w ad.block ∧ news.length = n * sz ∧ (∀ j u, news[j]? = some u → w.cell? (ad.add j) = some u) ∧
   ∀ i, i < n → VC w (Stable C E s w) (el i) ((news.drop (i * sz)).take sz) := by
 unfold listOf at h
 split at h
 ·
  rename_i k
  split at h
  ·
   rename_i T sz' n' el' hk
   split at h
   ·
    rename_i hc
    have hc : sz' = sz := by simpa using hc
    subst hc
    cases h
    obtain ⟨vs, h1, h2⟩ := row_of hf hk
    unfold VA at hx
    rw [hx.1]
    rcases h1.2 with ⟨h3, h4⟩ | ⟨g, cap, cur, hv, hg, _⟩
    · exact .inl ⟨h3, h4⟩
    ·
     obtain ⟨_, h5, h6⟩ := h1.cells hv
     exact .inr ⟨_, cap, vs, hv, rfl, .inr ⟨k, _, inL_self k, hk, by rw [hv]; rfl⟩, h1.1, fun j u hu => by rw [addr_mk_add, Nat.zero_add]; exact h6 j u hu, h2⟩
   · cases h
  · cases h
 ·
  rename_i k lo n' sz' cp
  split at h
  ·
   rename_i T sz'' n'' el' hk
   split at h
   ·
    rename_i hc
    simp only [Bool.and_eq_true, beq_iff_eq] at hc
    obtain ⟨rfl, rfl⟩ := hc
    cases h
    obtain ⟨vs, h1, h2⟩ := row_of hf hk
    unfold VA at hx
    rcases hx with ⟨h3, h4, h5, _⟩ | ⟨g, m, c, o, cp', h3, h4, h5, h6, h7, h8, h9, h10⟩
    · exact .inl ⟨h5, h3⟩
    ·
     obtain ⟨hm, hg, h11⟩ := h1.cells h3
     subst hm
     have hlen := h1.1
     have e1 : (lo + n) * sz'' ≤ m * sz'' := Nat.mul_le_mul_right _ h4
     rw [Nat.add_mul] at e1
     refine .inr ⟨_, cp', (vs.drop (lo * sz'')).take (n * sz''), h5, rfl, .inr ⟨k, _, inL_self k, hk, by rw [h3]; rfl⟩, by rw [List.length_take, List.length_drop]; omega, fun j u hu => ?_, fun i hi => ?_⟩
     ·
      rw [List.getElem?_take] at hu
      split at hu
      ·
       rename_i hj
       rw [List.getElem?_drop] at hu
       have hn0 : 0 < n := by
        rcases Nat.eq_zero_or_pos n with e | e
        · subst e; simp at hj
        · exact e
       rw [addr_mk_add, h6 (by omega)]
       exact h11 _ u hu
      · cases hu
     ·
      have := h2 (lo + i) (by omega)
      have e3 : (((vs.drop (lo * sz'')).take (n * sz'')).drop (i * sz'')).take sz'' = (vs.drop ((lo + i) * sz'')).take sz'' := by
       apply List.ext_getElem?
       intro q
       rw [List.getElem?_take, List.getElem?_take]
       by_cases hq : q < sz''
       ·
        rw [if_pos hq, if_pos hq, List.getElem?_drop, List.getElem?_take, if_pos (by have := mul_bd hi hq; omega), List.getElem?_drop, List.getElem?_drop]
        congr 1; rw [Nat.add_mul]; omega
       · rw [if_neg hq, if_neg hq]
      rw [e3]; exact this
   · cases h
  · cases h
 ·
  rename_i k off sz' n' cp
  split at h
  ·
   rename_i T cs ag hk hag
   split at h
   ·
    rename_i ds hds
    split at h
    ·
     rename_i hc
     simp only [Bool.and_eq_true, Bool.or_eq_true, beq_iff_eq] at hc
     cases h
     obtain ⟨b, vs, h1, h2, h3, hb⟩ := obj_of hf hk
     unfold VA at hx
     obtain ⟨b', h4, h5⟩ := hx
     rw [h1] at h4; cases h4
     have hv := toDs_VCs hds ((h3.drop off).take (n * sz))
     refine .inr ⟨_, cp, (vs.drop off).take (n * sz), h5, rfl, .inr ⟨k, _, inL_self k, hk, by rw [h1]; rfl⟩, by rw [hv.length, hc.1.2], fun j u hu => ?_, fun i hi => segD_VC hv hc.1.2 (hc.2.imp id id) i hi⟩
     rw [List.getElem?_take] at hu
     split at hu
     ·
      rw [List.getElem?_drop] at hu
      rw [addr_mk_add, heap_cell h2]; exact hu
     · cases hu
    · cases h
   · cases h
  · cases h
 ·
  rename_i sz' n' el'
  split at h
  ·
   rename_i hc
   have hc : sz' = sz := by simpa using hc
   subst hc
   cases h
   unfold VA at hx
   have h' : VC w (Stable C E s w) (.list sz' n el) [v] := hx
   unfold VC at h'
   obtain ⟨u, hu, h'⟩ := h'
   simp only [List.cons.injEq, and_true] at hu
   rw [hu]
   rcases h' with ⟨h1, h2⟩ | ⟨ad, cap, cs, h1, _, _, h4, h5, h6, h7, h8⟩
   · exact .inl ⟨h2, h1⟩
   · exact .inr ⟨ad, cap, cs, h1, h4, .inl h5, h6, h7, h8⟩
  · cases h
 ·
  cases h
  unfold VA at hx
  exact .inl ⟨(VD_raw_inv hx).1, rfl⟩
 · cases h
theorem seg_all {sz m : Nat} {news : List Value} (hl : news.length = m * sz) (hsz : 0 < sz) (h : ∀ i, i < m → ∀ u ∈ (news.drop (i * sz)).take sz, u.oneCell' = true) : ∀ u ∈ news, u.oneCell' = true := by
 intro u hu
 obtain ⟨j, hj, rfl⟩ := List.mem_iff_getElem.1 hu
 have hi : j / sz < m := by rw [Nat.div_lt_iff_lt_mul hsz]; omega
 refine h (j / sz) hi _ (List.mem_iff_getElem?.2 ⟨j % sz, ?_⟩)
 have hm := Nat.mod_lt j hsz
 have hd : j / sz * sz + j % sz = j := by rw [Nat.mul_comm]; exact Nat.div_add_mod j sz
 rw [List.getElem?_take, if_pos hm, List.getElem?_drop, hd, List.getElem?_eq_getElem hj]
theorem VC_ones {N : Nat → Prop} {x : D} {vs : List Value} (h : VC w N x vs) : ∀ u ∈ vs, u.oneCell' = true := h.cells.ones
def appAdd (P : Program) (s : St) (e sz : Nat) (x : AV) : Option (Nat × (Nat → D)) :=
 match x with
 | .d (.raw (.string b)) => if sz == 1 then some (b.size, fun i => .raw (.int .u8 (byteAt b i))) else none
 | x => listOf P s e sz x
theorem appAdd_ok (hf : Fit C E s w) {e sz : Nat} {x : AV} {v : Value} {m : Nat} {el : Nat → D} (hsz : 0 < sz) (h : appAdd P s e sz x = some (m, el)) (hx : VA E w (Stable C E s w) x v) :
  ∃ news, Added P w sz m news v ∧ ∀ i, i < m → VC w (Stable C E s w) (el i) ((news.drop (i * sz)).take sz) := by
 unfold appAdd at h
 split at h
 ·
  rename_i b
  split at h
  ·
   rename_i hc
   have hc : sz = 1 := by simpa using hc
   subst hc
   cases h
   unfold VA at hx
   have hv := (VD_raw_inv hx).1
   subst hv
   have hsize : b.size = b.data.toList.length := by simp
   refine ⟨b.data.toList.map fun c => .int .u8 c.toNat, ⟨fun w' => by simp [Builtin.lenOf], fun w' _ => ?_, by simp, fun u hu => ?_⟩, fun i hi => ?_⟩
   ·
    simp [Builtin.firstCells]
    apply Array.ext'
    simp
   · obtain ⟨c, _, rfl⟩ := List.mem_map.1 hu; rfl
   ·
    have hi' : i < b.data.toList.length := by omega
    have e1 : ((b.data.toList.map fun c => Value.int .u8 c.toNat).drop (i * 1)).take 1 = [.int .u8 (byteAt b i)] := by
     rw [Nat.mul_one, List.drop_eq_getElem_cons (by simpa using hi')]
     simp [byteAt]
     rw [Array.getElem?_eq_getElem (by simpa using hi')]
     rfl
    rw [e1]
    unfold VC
    exact ⟨rfl, rfl⟩
  · cases h
 ·
  rcases listOf_ok hf h hx with ⟨rfl, rfl⟩ | ⟨ad, c, news, rfl, h1, h2, h3, h4, h5⟩
  · exact ⟨[], ⟨fun w' => by simp [Builtin.lenOf], fun w' _ => by simp [Builtin.firstCells], by simp, by simp⟩, fun i hi => absurd hi (by omega)⟩
  ·
   refine ⟨news, ⟨fun w' => by simp [Builtin.lenOf], fun w' hw' => run_firstCells_some (P := P) w' sz m ad m c news h3 fun j u hu => ?_, h3, seg_all h3 hsz fun i hi => VC_ones (h5 i hi)⟩, h5⟩
   rw [World.cell?_of_block (w := w) (by rw [hw'])]
   exact h4 j u hu
def St.newRow (s : St) (dst : Option Tmp) (q : Option Nat) (T sz n : Nat) (el : Nat → D) : St :=
 let k := s.fresh
 (s.newTh q k (.row T sz n el)).put dst (.own k)
theorem newRow_ok {o : Oper} {q : Option Nat} {T sz n : Nat} {el : Nat → D} {v : Value} {vs : List Value} (hsim : Sim C E s a w) (hown : OwnsR w' T sz v n vs)
  (hel : ∀ i, i < n → VC w (Stable C E s w) (el i) ((vs.drop (i * sz)).take sz)) (hos : w'.os = w.os) (htape : w'.tape = w.tape) (hout : w'.output = w.output) (hsz : w.heap.size ≤ w'.heap.size)
  (hw : ∀ b, b < w.heap.size → (∀ i u, q = some i → s.th i = some u → blk (E i) ≠ some b) → w'.heap[b]? = w.heap[b]?)
  (hblk : ∀ b, blk v = some b → w.heap.size ≤ b ∨ ∃ j u, q = some j ∧ s.th j = some u ∧ blk (E j) = some b)
  (hrun : (execOp a.eval o).run P w = .ok (.value v) w') {next : Act → World → Prop} {Q : Exit → Act → World → Prop}
  (hn : ∀ E' a' w', Sim C E' (s.newRow o.dst q T sz n el) a' w' → Kp q.toList C E s w E' (s.newRow o.dst q T sz n el) w' → next a' w') : Oper.wp P o a w next Q := by
 refine wp_value hrun ?_
 obtain ⟨h1, h2, h3, h4⟩ := hsim.fit.newTh (w' := w') q s.fresh (fresh_base s) (.row T sz n el) v hos htape hout hsz hw hblk (fun {E' N'} hS hC _ hk => ⟨vs, hown, fun i hi => VC.imp hS hC _ _ (hel i hi)⟩)
 have hsim' : Sim C (E.set s.fresh v) (s.newTh q s.fresh (.row T sz n el)) a w' := ⟨h1, hsim.newTh_tm h4, hsim.df⟩
 obtain ⟨A, c, hv⟩ := hown.slice
 exact hn _ _ _ (hsim'.put' o.dst (x := .own s.fresh) (v := v) (by unfold VA; exact ⟨by simp [Env.set], A, n, c, hv⟩)) (by
  have h6 := Kp.trans (newTh_kp hsim.fit q (.row T sz n el) v hos htape hout hsz hw hblk) (Kp.refl [] (s' := s.newRow o.dst q T sz n el) (by cases o.dst <;> rfl))
  rwa [List.append_nil] at h6)
def stepAppend (P : Program) (o : Oper) (t t2 : TypeId) (x y : AV) (s : St) : Option (St × List Prop) :=
 match P.underlying t with
 | some (.slice e) =>
  match P.info? e with
  | some i =>
   match appSrc s e i.size x, appAdd P s e i.size y with
   | some (q, n, el), some (m, el2) =>
    if Nat.blt 0 i.size && (i.zero.map fun z => z.cells.size == i.size) == some true && notInt (P.underlying t2) then
     some (s.newRow o.dst q e i.size (n + m) fun j => if j < n then el j else el2 (j - n), [n + m ≤ 9223372036854775807 ∧ (n + m) * i.bytes ≤ 140737488355328])
    else none
   | _, _ => none
  | none => none
 | _ => none
theorem appSrc_keys {e sz : Nat} {x : AV} {q : Option Nat} {n : Nat} {el : Nat → D} (h : appSrc s e sz x = some (q, n, el)) : x.keys = q.toList := by
 unfold appSrc at h
 split at h
 ·
  split at h
  ·
   split at h
   · cases h; rfl
   · cases h
  · cases h
 ·
  split at h
  ·
   split at h
   · cases h; rfl
   · cases h
  · cases h
 · first | (cases h; rfl) | cases h
 · first | (cases h; rfl) | cases h
theorem stepAppend_ok {o : Oper} {t t2 : TypeId} {x y : Operand} {cs : List Prop} (ho : o.op = .call { callee := .builtin .append, args := #[x, y], argTypes := #[t, t2] }) (h : stepAppend P o t t2 (s.ev x) (s.ev y) s = some (s', cs)) (hcs : Conds cs) : StepOK P gl (s.ev x).keys o s s' := by
 unfold stepAppend at h
 split at h
 ·
  rename_i e hu
  split at h
  ·
   rename_i i hi
   split at h
   ·
    rename_i q n el m el2 hsrc hadd
    split at h
    ·
     rename_i hc
     simp only [Bool.and_eq_true, Nat.blt_eq, beq_iff_eq] at hc
     obtain ⟨⟨c1, c2⟩, c3⟩ := hc
     simp only [Option.some.injEq, Prod.mk.injEq] at h
     obtain ⟨rfl, rfl⟩ := h
     obtain ⟨hb1, hb2⟩ := hcs.1
     obtain ⟨z, hz, hzs⟩ := Option.map_eq_some_iff.1 c2
     have hzs : z.cells.size = i.size := by simpa using hzs
     constructor
     intro C E a w next Q hP hG hsim hn
     obtain ⟨vs, h1, h2, h3, h4⟩ := appSrc_ok hsim.fit hsrc (hsim.ev x)
     obtain ⟨news, h5, h6⟩ := appAdd_ok (P := P) hsim.fit c1 hadd (hsim.ev y)
     obtain ⟨v', w', hr, g1, g2, g3, g4, g5, g6, g7⟩ := run_append_any (P := P) (w := w) t t2 o.type e i z hu c3 hi hz hzs h1 h5 hb1 hb2
     have hlen := h1.1
     refine newRow_ok (v := v') (vs := vs ++ news) (w' := w') hsim g1 (fun j hj => ?_) g2 g3 g4 g5 (fun b hb hne => g6 b hb fun e => ?_) (fun b hb => ?_) ?_ (fun E' a' w' hs' hkp => hn E' a' w' hs' (by rw [appSrc_keys hsrc]; exact hkp))
     ·
      show VC w _ (if j < n then el j else el2 (j - n)) _
      split
      ·
       rename_i hjn
       have hle : j * i.size + i.size ≤ vs.length := by
        rw [hlen]
        calc j * i.size + i.size = (j + 1) * i.size := by rw [Nat.add_mul]; omega
         _ ≤ n * i.size := Nat.mul_le_mul_right _ (by omega)
       have e1 : ((vs ++ news).drop (j * i.size)).take i.size = (vs.drop (j * i.size)).take i.size := by
        rw [List.drop_append_of_le_length (by omega), List.take_append_of_le_length (by simp; omega)]
       rw [e1]
       exact h2 j hjn
      ·
       rename_i hjn
       have e1 : (vs ++ news).drop (j * i.size) = news.drop ((j - n) * i.size) := by
        have : j * i.size = vs.length + (j - n) * i.size := by rw [hlen, ← Nat.add_mul]; congr 1; omega
        rw [this, List.drop_append]
        simp
       rw [e1]
       exact h6 _ (by omega)
     ·
      obtain ⟨k, t', hk, h7, h8⟩ := h4 b e
      exact hne k t' hk h7 h8
     ·
      rcases g7 b hb with h7 | h7
      · exact .inl h7
      · exact .inr (h4 b h7)
     · simp [execOp, ho, resolve, invoke, builtin, hr]
    · cases h
   · cases h
  · cases h
 · cases h
end Go.Eng
