/-
  Part of the engine: abstract states of a call (values as trees, objects and rows of the call's own), and that each operation of the model does to the world what it does to them. No condition.
-/
import Derived.Test.YticnclmadldkkaaAbs12
namespace Go.Abs
open Go Go.RowKit
variable {P : Program} {B : Nat} {w0 : World} {N0 : Nat → Prop} {E E' : Env} {s s' : St} {a : Act} {w w' : World}

/-! ### for proofs: a path to the return, a path to a loop's head -/
def pathR (P : Program) (orc : Orc) (n : Nat) (k : List Item) (s : St) (dec : List Bool) (rs : List ResultVar) : Option (Ret × List Prop) :=
  match run P orc n k s dec with
  | (.ret s', cs) => (retD P rs s').map fun r => (r, cs)
  | _ => none
theorem go_ret {orc : Orc} (horc : OrcOK P orc) {g : FuncId} {fn : Func} (hf : P.funcs[g]? = some fn) {k : List Item} {r r' : Ret} {cs : List Prop} {w0 : World} (dec : List Bool)
    (h : pathR P orc 2000 k s dec fn.results.toList = some (r', cs)) (hcs : Conds cs) (hr : r' = r) (hsim : Sim w0.heap.size w0 N0 E s a w) : Goes P g k (RPure w0 N0 r) a w := by
  unfold pathR at h
  split at h
  · rename_i s1 c1 h1
    obtain ⟨r2, hr2, h⟩ := Option.map_eq_some_iff.1 h
    simp only [Prod.mk.injEq] at h
    obtain ⟨rfl, rfl⟩ := h
    subst hr
    exact run_ok' horc 2000 k s dec _ h1 hcs (ret_ok hf hr2) hsim
  · cases h
theorem go_head {orc : Orc} (horc : OrcOK P orc) {f : FuncId} {R : Ending → World → Prop} {k k' : List Item} (dec : List Bool) (ts os rs : List Nat) {cs : List Prop}
    (h : path P orc 2000 k s dec ts os rs = (.head k' s', cs)) (hcs : Conds cs) (hsim : Sim B w0 N0 E s a w) (hn : ∀ E a w, Sim B w0 N0 E s' a w → Goes P f k' R a w) : Goes P f k R a w :=
  path_ok horc h hcs hn hsim

/-- What reads as r' reads as r. -/
def Ret.Says (r' r : Ret) : Prop := ∀ (w : World) (N : Nat → Prop) (v : Value), VRet w N r' v → VRet w N r v
theorem Ret.Says.eq {r' r : Ret} (h : r' = r) : r'.Says r := fun _ _ _ hv => h ▸ hv
theorem go_says {orc : Orc} (horc : OrcOK P orc) {g : FuncId} {fn : Func} (hf : P.funcs[g]? = some fn) {k : List Item} {r r' : Ret} {cs : List Prop} {w0 : World} (dec : List Bool)
    (h : pathR P orc 2000 k s dec fn.results.toList = some (r', cs)) (hcs : Conds cs) (hr : r'.Says r) (hsim : Sim w0.heap.size w0 N0 E s a w) : Goes P g k (RPure w0 N0 r) a w :=
  fun b cs' hb hk => by
    obtain ⟨e, w', fr, ⟨v, h1, h2, h3⟩, h4⟩ := go_ret horc hf dec h hcs rfl hsim b cs' hb hk
    exact ⟨e, w', fr, ⟨v, h1, hr _ _ _ h2, h3⟩, h4⟩

/-! ### states as tables -/
def setL {α : Type} (f : List (Nat × α)) (xs : List α) : List α := f.foldl (fun xs p => xs.set p.1 p.2) xs
def mk (n : Nat) (ts : List (Nat × AV)) (os : List (Nat × Ob)) (rs : List (Nat × Row)) : St :=
  { tmps := setL ts (List.replicate n .dead), objs := os.foldl (fun xs p => xs.set p.1 (some p.2)) (List.replicate n none), rows := rs.foldl (fun xs p => xs.set p.1 (some p.2)) (List.replicate n none) }

/-! ### what is known of callees, one by one -/
def Orc.none : Orc := fun _ _ => Option.none
def Orc.add (o : Orc) (k : Nat) (m : List D → Option (Ret × List Prop)) : Orc := fun f args => if f = k then m args else o f args
theorem OrcOK.none : OrcOK P Orc.none := fun _ _ _ _ h => by cases h
theorem OrcOK.add {o : Orc} (ho : OrcOK P o) (k : Nat) (m : List D → Option (Ret × List Prop)) (h : ∀ args r cs, m args = some (r, cs) → Conds cs → PureSpec P k args r) : OrcOK P (o.add k m) := by
  intro f args r cs hf hcs
  unfold Orc.add at hf
  split at hf
  · rename_i e; subst e; exact h args r cs hf hcs
  · exact ho f args r cs hf hcs

/-! ### where the loops are -/
/-- The stack at each loop's head, in the text's order. -/
def loops : Code → List Item → List (List Item)
  | .seq x y, k => loops x (.code y :: k) ++ loops y k
  | .cond _ x y, k => loops x k ++ loops y k
  | .block id x, k => loops x (.inBlock id :: k)
  | .loop x, k => (.code x :: .inLoop x :: k) :: loops x (.inLoop x :: k)
  | _, _ => []
def bodyOf (fn : Func) : Code := fn.body.getD .skip
theorem pure_fn {g : FuncId} {fn : Func} {args : List D} {r : Ret} (hf : P.funcs[g]? = some fn) (hb : fn.body.isSome = true)
    (h : ∀ {w : World} {N : Nat → Prop} {E : Env} {a : Act}, Sim w.heap.size w N E (initSt fn.ntmps args) a w → Goes P g [.code (bodyOf fn)] (RPure w N r) a w) : PureSpec P g args r := by
  obtain ⟨c, hc⟩ := Option.isSome_iff_exists.1 hb
  have e : bodyOf fn = c := by simp [bodyOf, hc]
  rw [e] at h
  exact pure_of hf hc h
def loopAt (fn : Func) (i : Nat) : List Item := (loops (bodyOf fn) []).getD i []

/-! ### lists of one kind -/
def I (n : Int) : D := .raw (.int .i64 n)
def Bo (b : Bool) : D := .raw (.bool b)
def Str (s : ByteArray) : D := .raw (.string s)
/-- A list whose elements are told by enc. -/
def L {α : Type} [Inhabited α] (sz : Nat) (enc : α → D) (xs : List α) : D := .list sz xs.length fun i => enc (xs.getD i default)
def LRow {α : Type} [Inhabited α] (E sz : Nat) (enc : α → D) (xs : List α) : Row := ⟨E, sz, xs.length, fun i => enc (xs.getD i default)⟩

/-- A row's elements may be told in another way. -/
theorem Sim.row_eq (h : Sim B w0 N0 E s a w) (r : Nat) (R : Row) (hR : s.row r = some R) (el : Nat → D) (he : ∀ i, i < R.n → el i = R.el i) :
    Sim B w0 N0 E { s with rows := s.rows.set r (some ⟨R.E, R.sz, R.n, el⟩) } a w := by
  have hrl : r < s.rows.length := by
    unfold St.row at hR
    rw [List.getD_eq_getElem?_getD] at hR
    rcases Nat.lt_or_ge r s.rows.length with h1 | h1
    · exact h1
    · rw [List.getElem?_eq_none h1] at hR; cases hR
  generalize hs : ({ s with rows := s.rows.set r (some ⟨R.E, R.sz, R.n, el⟩) } : St) = s'
  have hobj : ∀ i, s'.obj i = s.obj i := fun i => by rw [← hs]; rfl
  have hrow : ∀ i, s'.row i = if i = r then some ⟨R.E, R.sz, R.n, el⟩ else s.row i := fun i => by rw [← hs]; exact St.row_set s r _ i hrl
  have hex : ∀ i R', s'.row i = some R' → ∃ R2, s.row i = some R2 := fun i R' hi => by
    rw [hrow] at hi
    by_cases e : i = r
    · subst e; exact ⟨R, hR⟩
    · rw [if_neg e] at hi; exact ⟨R', hi⟩
  have hM : ∀ b, Mut E s' b → w.heap.size ≤ b ∨ Mut E s b := by
    rintro b (⟨k, o, ho, hb⟩ | ⟨k, o, ho, hb⟩)
    · rw [hobj] at ho; exact .inr (.inl ⟨k, o, ho, hb⟩)
    · obtain ⟨R2, h2⟩ := hex k o ho; exact .inr (.inr ⟨k, R2, h2, hb⟩)
  have hS : ∀ b, Stable B N0 E s w b → Stable B N0 E s' w b := Stable.step (Nat.le_refl _) hM
  have hC : ∀ a v, Stable B N0 E s w a.block → w.cell? a = some v → w.cell? a = some v := fun _ _ _ h => h
  have ht : s'.tmps = s.tmps := by rw [← hs]
  refine ⟨⟨h.fit.low, h.fit.below, h.fit.size, fun k o ho => ?_, fun k o ho => ?_, fun k k' o o' h1 h2 => ?_, fun k k' o o' h1 h2 => ?_, fun k o j p h1 h2 => ?_⟩, ?_, h.df⟩
  · rw [hobj] at ho
    obtain ⟨h1, vs, h2, h3⟩ := h.fit.obj k o ho
    exact ⟨h1, vs, h2, VAs.imp hS hC _ _ (fun _ => .inl rfl) (fun _ => .inl rfl) h3⟩
  · rw [hrow] at ho
    by_cases e : k = r
    · subst e
      rw [if_pos rfl] at ho
      cases ho
      obtain ⟨vs, h1, h2⟩ := h.fit.row k R hR
      exact ⟨vs, h1, fun i hi => by simp only at hi ⊢; rw [he i hi]; exact VC.imp hS hC _ _ (h2 i hi)⟩
    · rw [if_neg e] at ho
      obtain ⟨vs, h1, h2⟩ := h.fit.row k o ho
      exact ⟨vs, h1, fun i hi => VC.imp hS hC _ _ (h2 i hi)⟩
  · rw [hobj] at h1 h2; exact h.fit.oo k k' o o' h1 h2
  · obtain ⟨R1, g1⟩ := hex k o h1
    obtain ⟨R2, g2⟩ := hex k' o' h2
    exact h.fit.rr k k' R1 R2 g1 g2
  · obtain ⟨R1, g1⟩ := hex k o h1
    rw [hobj] at h2
    exact h.fit.ro k R1 j p g1 h2
  · rw [ht]; exact VAs.imp hS hC _ _ (fun _ => .inl rfl) (fun _ => .inl rfl) h.tm
/-- One element more. -/
theorem L_snoc {α : Type} [Inhabited α] (enc : α → D) (xs : List α) (x : α) (i : Nat) (hi : i < xs.length + 1) :
    enc ((xs ++ [x]).getD i default) = if i < xs.length then enc (xs.getD i default) else enc x := by
  split
  · rename_i h; rw [List.getD_eq_getElem?_getD, List.getElem?_append_left h, List.getD_eq_getElem?_getD]
  · rename_i h
    have : i = xs.length := by omega
    subst this
    simp
/-- The row of an append, as a list with one element more. -/
theorem Sim.snoc {α : Type} [Inhabited α] (enc : α → D) (h : Sim B w0 N0 E s a w) (r : Nat) {T sz : Nat} {xs : List α} {x : α} {el : Nat → D} (hR : s.row r = some ⟨T, sz, xs.length + 1, el⟩)
    (he : ∀ i, i < xs.length + 1 → el i = if i < xs.length then enc (xs.getD i default) else enc x) :
    Sim B w0 N0 E { s with rows := s.rows.set r (some (LRow T sz enc (xs ++ [x]))) } a w := by
  have h1 := h.row_eq r _ hR (fun i => enc ((xs ++ [x]).getD i default)) fun i hi => by rw [L_snoc enc xs x i hi]; exact (he i hi).symm
  have e : (⟨T, sz, xs.length + 1, fun i => enc ((xs ++ [x]).getD i default)⟩ : Row) = LRow T sz enc (xs ++ [x]) := by simp [LRow]
  simp only at h1
  rw [e] at h1
  exact h1
theorem snoc_el {n i : Nat} {f g : Nat → D} {x : D} (hi : i < n + 1) (h : g 0 = x) : (if i < n then f i else g (i - n)) = if i < n then f i else x := by
  split
  · rfl
  · have e : i - n = 0 := by omega
    rw [e, h]
/-- A nil slice in slot t, as a row of the call's own. -/
def St.adopt (s : St) (t r T sz : Nat) (el : Nat → D) : St :=
  { s.noOwn r with tmps := (s.noOwn r).tmps.set t (.own r), rows := (s.noOwn r).rows.set r (some ⟨T, sz, 0, el⟩) }
theorem Sim.adopt (h : Sim B w0 N0 E s a w) (t r T sz : Nat) (el : Nat → D) (hr : r < s.rows.length) (ht : s.tmps[t]? = some (.d (.raw (.slice none 0 0)))) : ∃ E', Sim B w0 N0 E' (s.adopt t r T sz el) a w := by
  obtain ⟨h1, h2, h3, h4⟩ := h.fit.newRow (w' := w) none (by simp) r hr ⟨T, sz, 0, el⟩ (.slice none 0 0) [] ⟨rfl, rfl, rfl, Nat.le_refl _, fun _ _ _ => rfl⟩ (World.ownsRow_nil w B T sz) (fun b hb => by simp [Value.ownBlock] at hb)
    (fun i hi => absurd hi (by simp)) _ rfl _ rfl
  obtain ⟨v, hv1, hv2⟩ := h.tm.get t _ ht
  unfold VA at hv2
  have hv := (VD_raw_inv hv2).1
  subst hv
  refine ⟨E.setτ r (.slice none 0 0), ⟨h1.low, h1.below, h1.size, h1.obj, h1.row, h1.oo, h1.rr, h1.ro⟩, ?_, h.df⟩
  have e : a.tmps.toList = a.tmps.toList.set t (.slice none 0 0) := by
    apply List.ext_getElem?
    intro k
    rw [List.getElem?_set]
    split
    · rename_i e; subst e
      have hlt := (List.getElem?_eq_some_iff.1 hv1).1
      rw [if_pos hlt]; exact hv1
    · rfl
  rw [e]
  refine VAs.set ?_ t (by unfold VA; exact ⟨by simp [Env.setτ], rfl⟩)
  exact VAs.map _ h.tm h4
theorem VD_list_eq {N : Nat → Prop} {sz n : Nat} {el el' : Nat → D} {v : Value} (h : VD w N (.list sz n el) v) (he : ∀ i, i < n → el' i = el i) : VD w N (.list sz n el') v := by
  have h' : VC w N (.list sz n el) [v] := h
  show VC w N (.list sz n el') [v]
  unfold VC at h' ⊢
  obtain ⟨u, hu, h'⟩ := h'
  refine ⟨u, hu, ?_⟩
  rcases h' with h1 | ⟨ad, cap, cs, h1, h2, h3, h4, h5, h6, h7, h8⟩
  · exact .inl h1
  · exact .inr ⟨ad, cap, cs, h1, h2, h3, h4, h5, h6, h7, fun i hi => by rw [he i hi]; exact h8 i hi⟩
/-- The numbers of a list. -/
def unI : D → Int
  | .raw (.int _ n) => n
  | _ => 0
def unL {α : Type} (dec : D → α) (n : Nat) (el : Nat → D) : List α := (List.range n).map fun i => dec (el i)
/-- A list, also where it is nil. -/
def D.asList (sz : Nat) : D → Option (Nat × (Nat → D))
  | .list sz' n el => if sz' = sz then some (n, el) else none
  | .raw (.slice none 0 0) => some (0, fun _ => default)
  | _ => none
def IsL {α : Type} (enc : α → D) (dec : D → α) (n : Nat) (el : Nat → D) : Prop := ∀ i, i < n → el i = enc (dec (el i))
theorem unL_L {α : Type} [Inhabited α] {enc : α → D} {dec : D → α} (h : ∀ x, dec (enc x) = x) (xs : List α) : unL dec xs.length (fun i => enc (xs.getD i default)) = xs := by
  apply List.ext_getElem
  · simp [unL]
  · intro i h1 h2; simp [unL, h, h2]
theorem IsL_L {α : Type} [Inhabited α] {enc : α → D} {dec : D → α} (h : ∀ x, dec (enc x) = x) (xs : List α) (n : Nat) : IsL enc dec n (fun i => enc (xs.getD i default)) := fun i _ => by rw [h]
/-- What reads as a list of any elements, reads as the list of what they tell. -/
theorem VD_asList {α : Type} [Inhabited α] {enc : α → D} {dec : D → α} {N : Nat → Prop} {sz n : Nat} {el : Nat → D} {d : D} {v : Value} (hd : d.asList sz = some (n, el)) (hL : IsL enc dec n el) (h : VD w N d v) :
    VD w N (L sz enc (unL dec n el)) v := by
  have hlen : (unL dec n el).length = n := by simp [unL]
  unfold L
  rw [hlen]
  unfold D.asList at hd
  split at hd
  · split at hd
    · cases hd
      rename_i _ e
      subst e
      exact VD_list_eq h fun i hi => by rw [hL i hi]; simp [unL, hi]
    · cases hd
  · cases hd
    have hv := (VD_raw_inv h).1
    subst hv
    show VC w N _ [_]
    unfold VC
    exact ⟨_, rfl, .inl ⟨rfl, rfl⟩⟩
  · cases hd
theorem says_nil {α : Type} [Inhabited α] (sz : Nat) (enc : α → D) {xs : List α} (h : xs = []) : (Ret.one (.raw (.slice none 0 0))).Says (.one (L sz enc xs)) := fun w N v hv => by
  subst h
  have hv' : VD w N (.raw (.slice none 0 0)) v := hv
  have h1 := (VD_raw_inv hv').1
  subst h1
  show VC w N _ [_]
  unfold L VC
  exact ⟨_, rfl, .inl ⟨rfl, rfl⟩⟩
/-- A list is no longer than lists are. -/
theorem Sim.len_le (h : Sim B w0 N0 E s a w) (t : Nat) {sz n : Nat} {el : Nat → D} (ht : s.tmps[t]? = some (.d (.list sz n el))) : n ≤ maxLen := by
  obtain ⟨v, _, hv⟩ := h.tm.get t _ ht
  unfold VA at hv
  have h' : VC w _ (.list sz n el) [v] := hv
  unfold VC at h'
  obtain ⟨u, _, h'⟩ := h'
  rcases h' with h1 | ⟨ad, cap, cs, h1, h2, h3, _⟩
  · rw [h1.1]; exact Nat.zero_le _
  · exact Nat.le_trans h2 h3
/-- A bool that is known, as a bool. -/
theorem Sim.unknow (h : Sim B w0 N0 E s a w) (t : Nat) {b : Bool} (ht : s.tmps[t]? = some (.known b)) : Sim B w0 N0 E { s with tmps := s.tmps.set t (.d (.raw (.bool b))) } a w := by
  refine ⟨⟨h.fit.low, h.fit.below, h.fit.size, h.fit.obj, h.fit.row, h.fit.oo, h.fit.rr, h.fit.ro⟩, ?_, h.df⟩
  obtain ⟨v, hv1, hv2⟩ := h.tm.get t _ ht
  unfold VA at hv2
  subst hv2
  have e : a.tmps.toList = a.tmps.toList.set t (.bool b) := by
    apply List.ext_getElem?
    intro k
    rw [List.getElem?_set]
    split
    · rename_i e; subst e
      have hlt := (List.getElem?_eq_some_iff.1 hv1).1
      rw [if_pos hlt]; exact hv1
    · rfl
  show VAs E w (Stable B N0 E s w) (s.tmps.set t _) _
  rw [e]
  exact h.tm.set t (by unfold VA; exact VD_raw rfl)
end Go.Abs
