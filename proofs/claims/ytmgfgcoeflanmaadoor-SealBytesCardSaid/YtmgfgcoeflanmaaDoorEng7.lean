/-
  Part of the engine: abstract states of a call (values as trees, things of the call's own), and that each operation of the model does to the world what it does to them. No condition.
-/
import Derived.Test.YtmgfgcoeflanmaaDoorEng6
namespace Go.Eng
open Go Go.RowKit
variable {P : Program} {gl : Nat → Option (List D)} {C : Cx} {E E' : Env} {s s' : St} {a : Act} {w w' : World}

/-! ### stores -/
def splice {α : Type} (xs : List α) (off : Nat) (ys : List α) : List α := xs.take off ++ ys ++ xs.drop (off + ys.length)
theorem VAs.splice {N : Nat → Prop} {xs ys : List AV} {vs us : List Value} (h : VAs E w N xs vs) (k : VAs E w N ys us) (off : Nat) : VAs E w N (splice xs off ys) (splice vs off us) := by
  unfold Eng.splice
  rw [k.length]
  exact ((h.take off).append k).append (h.drop _)
theorem VCs.splice {N : Nat → Prop} {xs ys : List D} {vs us : List Value} (h : VCs w N xs vs) (k : VCs w N ys us) (off : Nat) : VCs w N (splice xs off ys) (splice vs off us) := by
  unfold Eng.splice
  rw [k.length]
  exact ((h.take off).append k).append (h.drop _)
theorem splice_len {α : Type} (xs ys : List α) (off : Nat) (h : off + ys.length ≤ xs.length) : (splice xs off ys).length = xs.length := by simp [splice]; omega
theorem splice_self {α : Type} (xs : List α) (p l : Nat) (h : p + l ≤ xs.length) : splice xs p ((xs.drop p).take l) = xs := by
  unfold splice
  have e : ((xs.drop p).take l).length = l := by simp; omega
  rw [e, List.append_assoc, ← List.drop_drop, List.take_append_drop, List.take_append_drop]
theorem splice_get {α : Type} (xs ys : List α) (off j : Nat) (h : off + ys.length ≤ xs.length) : (splice xs off ys)[j]? = if off ≤ j ∧ j < off + ys.length then ys[j - off]? else xs[j]? := by
  unfold splice
  rw [List.append_assoc, List.getElem?_append]
  have e1 : (xs.take off).length = off := by simp; omega
  rw [e1]
  by_cases h1 : j < off
  · rw [if_pos h1, if_neg (by omega), List.getElem?_take, if_pos h1]
  · rw [if_neg h1, List.getElem?_append]
    by_cases h2 : j - off < ys.length
    · rw [if_pos h2, if_pos (by omega)]
    · rw [if_neg h2, if_neg (by omega), List.getElem?_drop]; congr 1; omega

/-- One datum or another, told in one form. -/
def mrg1 (b : Bool) : D → D → D
  | .raw (.int k x), .raw (.int k' y) => if k = k' then .raw (.int k (if b then x else y)) else if b then .raw (.int k x) else .raw (.int k' y)
  | .raw (.bool x), .raw (.bool y) => .raw (.bool (if b then x else y))
  | .raw (.string x), .raw (.string y) => .raw (.string (if b then x else y))
  | x, y => if b then x else y
def mrgs (b : Bool) : List D → List D → List D
  | x :: xs, y :: ys => mrg1 b x y :: mrgs b xs ys
  | _, _ => []
def mrg (b : Bool) : D → D → D
  | .agg xs, .agg ys => if xs.length == ys.length then .agg (mrgs b xs ys) else if b then .agg xs else .agg ys
  | x, y => mrg1 b x y
theorem mrg1_eq (b : Bool) (x y : D) : mrg1 b x y = if b then x else y := by
  unfold mrg1
  split
  · split
    · rename_i e; subst e; cases b <;> rfl
    · rfl
  · cases b <;> rfl
  · cases b <;> rfl
  · rfl
theorem mrgs_eq (b : Bool) : ∀ (xs ys : List D), xs.length = ys.length → mrgs b xs ys = if b then xs else ys
  | [], [], _ => by cases b <;> rfl
  | x :: xs, y :: ys, h => by
    simp only [mrgs, mrg1_eq, mrgs_eq b xs ys (by simpa using h)]
    cases b <;> rfl
  | [], _ :: _, h => by simp at h
  | _ :: _, [], h => by simp at h
theorem mrg_eq (b : Bool) (x y : D) : mrg b x y = if b then x else y := by
  unfold mrg
  split
  · split
    · rename_i h
      rw [mrgs_eq b _ _ (by simpa using h)]
      cases b <;> rfl
    · rfl
  · exact mrg1_eq b _ _
theorem toD_VD {N : Nat → Prop} {x : AV} {d : D} {v : Value} (h : x.toD = some d) (hx : VA E w N x v) : VD w N d v := by
  cases x <;> simp only [AV.toD, reduceCtorEq, Option.some.injEq] at h
  case d y =>
    split at h
    · cases h; unfold VA at hx; exact hx
    · cases h
  case known b => subst h; unfold VA at hx; rw [hx]; exact VD_raw rfl
def mrgAVs (b : Bool) : List AV → List AV → Option (List AV)
  | [], [] => some []
  | x :: xs, y :: ys => match x.toD, y.toD, mrgAVs b xs ys with
    | some d, some d', some ms => some (.d (mrg b d d') :: ms)
    | _, _, _ => none
  | _, _ => none
theorem mrgAVs_ok {N : Nat → Prop} (b : Bool) : ∀ {xs ys ms : List AV} {us vs : List Value}, mrgAVs b xs ys = some ms → VAs E w N xs us → VAs E w N ys vs → VAs E w N ms (if b then us else vs) ∧ us.length = vs.length
  | [], [], ms, us, vs, h, hx, hy => by
    simp only [mrgAVs, Option.some.injEq] at h; subst h
    unfold VAs at hx hy; subst hx; subst hy
    refine ⟨?_, rfl⟩
    unfold VAs; cases b <;> rfl
  | x :: xs, y :: ys, ms, us, vs, h, hx, hy => by
    simp only [mrgAVs] at h
    split at h
    · rename_i d d' ms' h1 h2 h3
      cases h
      unfold VAs at hx hy
      obtain ⟨u, us', rfl, hu, hx⟩ := hx
      obtain ⟨v, vs', rfl, hv, hy⟩ := hy
      obtain ⟨h4, h5⟩ := mrgAVs_ok b h3 hx hy
      refine ⟨?_, by simp [h5]⟩
      unfold VAs
      refine ⟨if b then u else v, if b then us' else vs', by cases b <;> rfl, ?_, h4⟩
      unfold VA
      rw [mrg_eq]
      cases b
      · exact toD_VD h2 hv
      · exact toD_VD h1 hu
    · cases h
  | [], _ :: _, _, _, _, h, _, _ => by simp [mrgAVs] at h
  | _ :: _, [], _, _, _, h, _, _ => by simp [mrgAVs] at h
/-- A store at an open place: each of the n parts may be the one. -/
def storeSel (cells : List AV) (off i sz o2 : Nat) (news : List AV) : Nat → Option (List AV)
  | 0 => some cells
  | m + 1 => match storeSel cells off i sz o2 news m with
    | some cs => (mrgAVs (Nat.beq i m) news ((cs.drop (off + m * sz + o2)).take news.length)).map fun ms => splice cs (off + m * sz + o2) ms
    | none => none
theorem storeSel_ok {N : Nat → Prop} {cells news : List AV} {vs us : List Value} {off i sz n o2 : Nat} (hc : VAs E w N cells vs) (hn : VAs E w N news us) (h1 : off + n * sz ≤ cells.length) (h2 : o2 + news.length ≤ sz) : ∀ {m : Nat} {cs : List AV}, m ≤ n →
    storeSel cells off i sz o2 news m = some cs → VAs E w N cs (if i < m then splice vs (off + i * sz + o2) us else vs)
  | 0, cs, _, h => by simp only [storeSel, Option.some.injEq] at h; subst h; simpa using hc
  | m + 1, cs, hm, h => by
    simp only [storeSel] at h
    split at h
    · rename_i cs' h3
      obtain ⟨ms, h4, rfl⟩ := Option.map_eq_some_iff.1 h
      have ih := storeSel_ok hc hn h1 h2 (by omega) h3
      have hl := hc.length
      have hnl := hn.length
      have hp : off + m * sz + o2 + us.length ≤ vs.length := by
        have : (m + 1) * sz ≤ n * sz := Nat.mul_le_mul_right _ hm
        rw [Nat.add_mul] at this; omega
      by_cases e : i = m
      · subst e
        rw [if_neg (by omega)] at ih
        rw [if_pos (by omega)]
        obtain ⟨h5, _⟩ := mrgAVs_ok _ h4 hn ((ih.drop _).take _)
        have e1 : Nat.beq i i = true := by simp
        rw [e1, if_pos rfl] at h5
        exact ih.splice h5 _
      · have e1 : Nat.beq i m = false := by cases hb : Nat.beq i m with | false => rfl | true => exact absurd (Nat.eq_of_beq_eq_true hb) e
        have e2 : (i < m + 1) ↔ (i < m) := by omega
        generalize hz : (if i < m then splice vs (off + i * sz + o2) us else vs) = z at ih
        have ez : (if i < m + 1 then splice vs (off + i * sz + o2) us else vs) = z := by simp only [e2]; exact hz
        rw [ez]
        have zl : z.length = vs.length := by
          rw [← hz]; split
          · apply splice_len
            have : (i + 1) * sz ≤ n * sz := Nat.mul_le_mul_right _ (by omega)
            rw [Nat.add_mul] at this; omega
          · rfl
        obtain ⟨h5, _⟩ := mrgAVs_ok _ h4 hn ((ih.drop _).take _)
        rw [e1] at h5
        simp only [Bool.false_eq_true, if_false] at h5
        have h6 := ih.splice h5 (off + m * sz + o2)
        rw [splice_self _ _ _ (by omega)] at h6
        exact h6
    · cases h

theorem put_none (a : Act) (v : Value) : a.put none v = a := rfl
theorem storeVar_run {t : TypeId} {i : TypeInfo} (hi : P.info? t = some i) {g off : Nat} {T : TypeId} {vs : List Value} {v : Value} (hsz : i.size = v.cells.toList.length) (hl : off + v.cells.toList.length ≤ vs.length)
    (h1 : ∀ u ∈ v.cells.toList, u.oneCell' = true) (hg : w.heap[g]? = some (.cells vs.toArray T (0, 0))) :
    (storeVar t ⟨g, off, none⟩ v).run P w = .ok () (w.setRow g (splice vs off v.cells.toList).toArray) := by
  have h2 := run_storeCells_at (P := P) g off T v.cells.toList 0 vs.toArray w hg (by simpa using hl) h1
  simp only [Nat.add_zero] at h2
  have hs : v.cells.size = i.size := by rw [hsz]; simp
  simp [storeVar, sizeOf, typeInfo, program, hi, hs, Sem.run, h2, splice]

/-- The element with some of its cells turned. -/
def elPut (x : D) (off : Nat) (ds : List D) : Option D :=
  match x with
  | .agg xs => if off + ds.length ≤ xs.length then some (.agg (splice xs off ds)) else none
  | _ => match off, ds with
    | 0, [d] => if d.one then some d else none
    | _, _ => none
def stepStore (P : Program) (t : TypeId) (ad x : AV) (s : St) : Option (St × List Prop) :=
  match x.boxed, P.info? t with
  | some cs, some inf =>
    if inf.size = cs.length then
      match ad with
      | .ref k off => match s.th k with
        | some (.obj T cells) => if off + cs.length ≤ cells.length then some (s.setTh k (.obj T (splice cells off cs)), []) else none
        | _ => none
      | .refI k off i sz n o2 => match s.th k with
        | some (.obj T cells) => if off + n * sz ≤ cells.length ∧ o2 + cs.length ≤ sz then (storeSel cells off i sz o2 cs n).map fun r => (s.setTh k (.obj T r), [i < n]) else none
        | _ => none
      | .el k i sz off => match s.th k, toDs cs with
        | some (.row T sz' n el), some ds => if sz' = sz then (elPut (el i) off ds).map fun d => (s.setTh k (.row T sz n fun j => mrg (Nat.beq j i) d (el j)), [i < n]) else none
        | _, _ => none
      | _ => none
    else none
  | _, _ => none
theorem elPut_ok {N : Nat → Prop} {x d : D} {off : Nat} {ds : List D} {vs us : List Value} (h : elPut x off ds = some d) (hx : VC w N x vs) (hd : VCs w N ds us) : VC w N d (splice vs off us) ∧ off + us.length ≤ vs.length := by
  unfold elPut at h
  split at h
  · rename_i xs
    split at h
    · rename_i hl
      cases h
      unfold VC at hx ⊢
      exact ⟨hx.splice hd off, by rw [hx.length, hd.length]; exact hl⟩
    · cases h
  · rename_i hna
    split at h
    · split at h
      · rename_i h1
        cases h
        unfold VCs at hd
        obtain ⟨u, vs', rfl, h2, h3, h4⟩ := hd
        unfold VCs at h4
        subst h4
        have hlen : vs.length = 1 := by
          cases x with
          | agg xs => exact absurd rfl (hna xs)
          | raw v => unfold VC at hx; rw [hx.1]; rfl
          | list sz n el => unfold VC at hx; obtain ⟨v, h5, _⟩ := hx; rw [h5]; rfl
        obtain ⟨v, rfl⟩ : ∃ v, vs = [v] := by
          match vs, hlen with
          | [v], _ => exact ⟨v, rfl⟩
        exact ⟨by simpa [Eng.splice] using h3, by simp⟩
      · cases h
    · cases h
theorem seg_splice {sz n i off : Nat} {vs us : List Value} (hl : vs.length = n * sz) (hi : i < n) (ho : off + us.length ≤ sz) (j : Nat) (_ : j < n) :
    ((splice vs (i * sz + off) us).drop (j * sz)).take sz = if j = i then splice ((vs.drop (i * sz)).take sz) off us else (vs.drop (j * sz)).take sz := by
  have hb : (i + 1) * sz ≤ n * sz := Nat.mul_le_mul_right _ hi
  rw [Nat.add_mul] at hb
  have hsp : i * sz + off + us.length ≤ vs.length := by omega
  apply List.ext_getElem?
  intro q
  rw [List.getElem?_take]
  by_cases hq : q < sz
  · rw [if_pos hq, List.getElem?_drop, splice_get _ _ _ _ hsp]
    by_cases e : j = i
    · subst e
      rw [if_pos rfl, splice_get _ _ _ _ (by simp; omega)]
      by_cases h1 : off ≤ q ∧ q < off + us.length
      · rw [if_pos (by omega), if_pos h1]; congr 1; omega
      · rw [if_neg (by omega), if_neg h1, List.getElem?_take, if_pos hq, List.getElem?_drop]
    · rw [if_neg e, List.getElem?_take, if_pos hq, List.getElem?_drop, if_neg]
      rcases Nat.lt_or_gt_of_ne e with h1 | h1
      · have : (j + 1) * sz ≤ i * sz := Nat.mul_le_mul_right _ h1
        rw [Nat.add_mul] at this; omega
      · have : (i + 1) * sz ≤ j * sz := Nat.mul_le_mul_right _ h1
        rw [Nat.add_mul] at this; omega
  · rw [if_neg hq]
    split
    · rw [List.getElem?_eq_none]
      rw [splice_len _ _ _ (by simp; omega)]
      simp; omega
    · rw [List.getElem?_take, if_neg hq]
theorem setRow_facts (w : World) (g : Nat) (cs : Array Value) : (w.setRow g cs).os = w.os ∧ (w.setRow g cs).tape = w.tape ∧ (w.setRow g cs).output = w.output ∧ (w.setRow g cs).heap.size = w.heap.size := ⟨rfl, rfl, rfl, by simp⟩
theorem stepStore_ok {o : Oper} {t : TypeId} {p x : Operand} {cs : List Prop} (ho : o.op = .store t p x) (hd : o.dst = none) (h : stepStore P t (s.ev p) (s.ev x) s = some (s', cs)) (hcs : Conds cs) : StepOK P gl (s.ev p).keys o s s' := by
  unfold stepStore at h
  split at h
  · rename_i cells inf hb hinf
    split at h
    · rename_i hsz
      constructor
      intro C E a w next Q hP hG hsim hn
      obtain ⟨hv1, hv2⟩ := boxed_VAs (hsim.ev x) hb
      have hvl := hv1.length
      have hpv := hsim.ev p
      -- the store itself, at g and off
      have fin : ∀ (k : Nat) (u t' : Th) (g off : Nat) (T : TypeId) (vs : List Value), s.th k = some u → a.eval p = .pointer (some ⟨g, off, none⟩) → blk (E k) = some g → w.heap[g]? = some (.cells vs.toArray T (0, 0)) → off + (a.eval x).cells.toList.length ≤ vs.length →
          (s.ev p).keys = [k] → s' = s.setTh k t' → (∀ {N' : Nat → Prop} {w' : World}, (∀ b, Stable C E s w b → N' b) → (∀ a u, Stable C E s w a.block → w.cell? a = some u → w'.cell? a = some u) → w'.heap[g]? = some (.cells (splice vs off (a.eval x).cells.toList).toArray T (0, 0)) → ThOK C.P E w' N' t' (E k)) →
          Oper.wp P o a w next Q := fun k u t' g off T vs hk hp hg hh hl hkey hs' hok => by
        subst hs'
        have hr := storeVar_run (P := P) (w := w) hinf (v := a.eval x) (off := off) (by rw [hvl]; exact hsz) hl hv2 hh
        refine wp_skip' (w' := w.setRow g (splice vs off (a.eval x).cells.toList).toArray) (by simp [execOp, ho, Instr.storeAt, Instr.sureAddr, hp, hr]) ?_
        rw [hd, put_none]
        obtain ⟨f1, f2, f3⟩ := hsim.fit.setTh (w' := w.setRow g (splice vs off (a.eval x).cells.toList).toArray) k u hk t' rfl rfl rfl (by simp) (fun b _ hne => setRow_other w g b _ (fun e => hne (by rw [hg, e])))
          (fun hS hC => hok hS hC (setRow_heap w _ _ _ _ _ hh))
        exact hn _ _ _ ⟨f1, VAs.mono f2 f3 hsim.tm, hsim.df⟩ (by rw [hkey]; exact setTh_kp hsim.fit k u hk t' rfl rfl rfl (by simp) (fun b _ hne => setRow_other w g b _ (fun e => hne (by rw [hg, e]))))
      cases hpe : s.ev p <;> rw [hpe] at h hpv <;> simp only [reduceCtorEq] at h
      case ref k off =>
        split at h
        · rename_i T cs' hk
          split at h
          · rename_i hl
            simp only [Option.some.injEq, Prod.mk.injEq] at h
            obtain ⟨rfl, rfl⟩ := h
            obtain ⟨b, vs, h1, h2, h3, _⟩ := obj_of hsim.fit hk
            unfold VA at hpv
            obtain ⟨b', h4, h5⟩ := hpv
            rw [h1] at h4; cases h4
            exact fin k _ _ b off T vs hk h5 (by rw [h1]; rfl) h2 (by rw [hvl, h3.length]; exact hl) (by rw [hpe]; rfl) rfl fun hS hC hw' => ⟨b, _, h1, hw', (VAs.mono hS hC h3).splice (VAs.mono hS hC hv1) off⟩
          · cases h
        · cases h
      case refI k off i sz n o2 =>
        split at h
        · rename_i T cs' hk
          split at h
          · rename_i hl
            obtain ⟨r, hr, h⟩ := Option.map_eq_some_iff.1 h
            simp only [Prod.mk.injEq] at h
            obtain ⟨rfl, rfl⟩ := h
            have hin : i < n := hcs.1
            obtain ⟨b, vs, h1, h2, h3, _⟩ := obj_of hsim.fit hk
            unfold VA at hpv
            obtain ⟨b', h4, h5⟩ := hpv
            rw [h1] at h4; cases h4
            have hlen : off + i * sz + o2 + (a.eval x).cells.toList.length ≤ vs.length := by
              have : (i + 1) * sz ≤ n * sz := Nat.mul_le_mul_right _ hin
              rw [Nat.add_mul] at this
              rw [hvl, h3.length]; omega
            refine fin k _ _ b (off + i * sz + o2) T vs hk h5 (by rw [h1]; rfl) h2 hlen (by rw [hpe]; rfl) rfl fun hS hC hw' => ⟨b, _, h1, hw', ?_⟩
            have := storeSel_ok (VAs.mono hS hC h3) (VAs.mono hS hC hv1) hl.1 hl.2 (Nat.le_refl _) hr
            rw [if_pos hin] at this
            exact this
          · cases h
        · cases h
      case el k i sz off =>
        split at h
        · rename_i T sz' n el ds hk hds
          split at h
          · rename_i hsz'
            subst hsz'
            obtain ⟨d, hdd, h⟩ := Option.map_eq_some_iff.1 h
            simp only [Prod.mk.injEq] at h
            obtain ⟨rfl, rfl⟩ := h
            have hin : i < n := hcs.1
            obtain ⟨vs, h3, h4⟩ := row_of hsim.fit hk
            unfold VA at hpv
            obtain ⟨g, m, cap, h1, h2⟩ := hpv
            have hdv := toDs_VCs hds hv1
            obtain ⟨h6, h7⟩ := elPut_ok hdd (h4 i hin) hdv
            rcases h3.2 with ⟨h5, _⟩ | ⟨g', cap', cur, h5, hg, hnc, hcm, hcs', htk⟩
            · rw [h5] at h1; cases h1
            · rw [h5] at h1; cases h1
              have hmul : n * sz' ≤ cap * sz' := Nat.mul_le_mul_right _ hnc
              have hi2 : (i + 1) * sz' ≤ n * sz' := Nat.mul_le_mul_right _ hin
              rw [Nat.add_mul] at hi2
              have hlen2 : off + (a.eval x).cells.toList.length ≤ sz' := by
                have := h7
                rw [List.length_take] at this; omega
              have hcl : cur.toList.length = cur.size := Array.length_toList
              have hg' : w.heap[g]? = some (.cells cur.toList.toArray T (0, 0)) := by simpa using hg
              refine fin k _ _ g (i * sz' + off) T cur.toList hk h2 (by rw [h5]; rfl) hg' (by omega) (by rw [hpe]; rfl) rfl fun {N' w'} hS hC hw' => ?_
              have hvs : vs.length = n * sz' := h3.1
              refine ⟨splice vs (i * sz' + off) (a.eval x).cells.toList, ⟨by rw [splice_len _ _ _ (by omega)]; exact hvs, .inr ⟨g, cap, (splice cur.toList (i * sz' + off) (a.eval x).cells.toList).toArray, h5, hw', hnc, hcm, by simp only [List.size_toArray]; rw [splice_len _ _ _ (by omega)]; omega, ?_⟩⟩, fun j hj => ?_⟩
              · have hln : (cur.toList.take (n * sz')).length = n * sz' := by rw [List.length_take]; omega
                rw [← htk]
                apply List.ext_getElem?
                intro q
                rw [List.getElem?_take]
                by_cases hq : q < n * sz'
                · rw [if_pos hq, splice_get _ _ _ _ (by omega), splice_get _ _ _ _ (by omega), List.getElem?_take, if_pos hq]
                · rw [if_neg hq, List.getElem?_eq_none]
                  rw [splice_len _ _ _ (by omega)]; omega
              · rw [seg_splice hvs hin hlen2 j hj]
                show VC w' N' (mrg (Nat.beq j i) d (el j)) _
                rw [mrg_eq]
                by_cases e : j = i
                · subst e
                  have e1 : Nat.beq j j = true := by simp
                  rw [if_pos rfl, e1, if_pos rfl]
                  exact VC.imp hS hC _ _ h6
                · have e1 : Nat.beq j i = false := by cases hb : Nat.beq j i with | false => rfl | true => exact absurd (Nat.eq_of_beq_eq_true hb) e
                  rw [if_neg e, e1, if_neg (by simp)]
                  exact VC.imp hS hC _ _ (h4 j hj)
          · cases h
        · cases h
    · cases h
  · cases h
end Go.Eng
