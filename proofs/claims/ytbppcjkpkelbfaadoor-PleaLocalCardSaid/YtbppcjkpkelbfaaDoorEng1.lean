/-
  Part of the engine: abstract states of a call, and that the operations do what is told of them. No condition.
-/
import Derived.Test.YtbppcjkpkelbfaaDoorEng0
import Derived.Maps.AppendAt
import Derived.Deep.Draws
namespace Go.Eng
open Go Go.RowKit
def OwnsR (w : World) (T sz : Nat) (v : Value) (n : Nat) (vs : List Value) : Prop :=
 vs.length = n * sz ∧ ((v = .slice none 0 0 ∧ n = 0) ∨
  ∃ g cap cur, v = .slice (some ⟨g, 0, none⟩) n cap ∧ w.heap[g]? = some (.cells cur T (0, 0)) ∧ n ≤ cap ∧ cap ≤ maxLen ∧ cap * sz ≤ cur.size ∧ cur.toList.take (n * sz) = vs)
structure MapD where
 kt : TypeId
 has : D → Bool
 val : D → D
 n : Nat
inductive Th where
 | obj (T : TypeId) (cells : List AV)
 | row (T sz n : Nat) (el : Nat → D)
 | mp (M : MapD)
def Th.map (f : AV → AV) : Th → Th
 | .obj T cs => .obj T (List.map f cs)
 | t => t
def D.kv1 : D → Option Value
 | .raw (.int k a) => some (.int k a)
 | .raw (.string s) => some (.string s)
 | .raw (.bool b) => some (.bool b)
 | _ => none
def D.kvs : List D → Option (List Value)
 | [] => some []
 | x :: xs => match x.kv1, D.kvs xs with
  | some v, some vs => some (v :: vs)
  | _, _ => none
def D.kc : D → Option (List Value)
 | .agg xs => D.kvs xs
 | x => match x.kv1 with
  | some v => some [v]
  | none => none
def D.kv : D → Option Value
 | .agg xs => match D.kvs xs with
  | some vs => some (.agg vs.toArray)
  | none => none
 | x => x.kv1
def laidIn (P : Program) : List Field → Nat → Nat → Bool
 | [], off, n => off == n
 | f :: fs, off, n => f.offset == off && laidIn P fs (off + P.cellsOf f.type) n
def shp (P : Program) : Nat → TypeId → List Value → Bool
 | 0, _, _ => false
 | d + 1, t, cs =>
  match P.underlying t, cs with
  | some .bool, [.bool _] => true
  | some (.int q), [.int q' _] => q == q'
  | some .string, [.string _] => true
  | some (.array n e), cs => cs.length == P.cellsOf t && n * P.cellsOf e == P.cellsOf t && (P.info? e).isSome && (List.range n).all fun i => shp P d e ((cs.drop (i * P.cellsOf e)).take (P.cellsOf e))
  | some (.struct fs), cs => cs.length == P.cellsOf t && laidIn P fs.toList 0 (P.cellsOf t) && !P.stoodInHeld t && fs.toList.all fun f => f.name != "_" && shp P d f.type ((cs.drop f.offset).take (P.cellsOf f.type))
  | _, _ => false
def shapeV (P : Program) (d : Nat) (t : TypeId) (v : Value) : Bool :=
 (match P.underlying t, v with
  | some (.struct _), .agg _ | some (.array _ _), .agg _ => true
  | some (.struct _), _ | some (.array _ _), _ | _, .agg _ | _, .tuple _ => false
  | _, _ => true) && shp P d t v.cells.toList
def blk : Value → Option Nat
 | .pointer (some a) => some a.block
 | .slice (some a) _ _ => some a.block
 | .map (some b) => some b
 | _ => none
def ThOK (P : Program) (E : Env) (w : World) (N : Nat → Prop) : Th → Value → Prop
 | .obj T cells, v => ∃ b vs, v = .pointer (some ⟨b, 0, none⟩) ∧ w.heap[b]? = some (.cells vs.toArray T (0, 0)) ∧ VAs E w N cells vs
 | .row T sz n el, v => ∃ vs, OwnsR w T sz v n vs ∧ ∀ i, i < n → VC w N (el i) ((vs.drop (i * sz)).take sz)
 | .mp M, v => ∃ b es clock, v = .map (some b) ∧ w.heap[b]? = some (.map es clock) ∧ es.size = M.n ∧ es.toList.Pairwise (fun x y => x.key ≠ y.key) ∧ (∀ e ∈ es.toList, shapeV P 8 M.kt e.key = true) ∧
  (∀ d u, D.kv d = some u → shapeV P 8 M.kt u = true → (M.has d = true ↔ ∃ e ∈ es.toList, e.key = u)) ∧ (∀ d u e, D.kv d = some u → e ∈ es.toList → e.key = u → VD w N (M.val d) e.val)
structure St where
 base : Nat
 tmps : List AV
 heap : List (Nat × Th)
def look : List (Nat × Th) → Nat → Option Th
 | [], _ => none
 | (k, t) :: r, j => if k == j then some t else look r j
def St.th (s : St) (k : Nat) : Option Th := look s.heap k
def hput (k : Nat) (t : Th) : List (Nat × Th) → List (Nat × Th)
 | [] => [(k, t)]
 | (j, u) :: r => if k == j then (k, t) :: r else if Nat.blt k j then (k, t) :: (j, u) :: r else (j, u) :: hput k t r
def hdrop (G : Nat → Bool) : List (Nat × Th) → List (Nat × Th)
 | [] => []
 | (j, u) :: r => if G j then hdrop G r else (j, u) :: hdrop G r
def hmap (f : AV → AV) : List (Nat × Th) → List (Nat × Th)
 | [] => []
 | (j, u) :: r => (j, u.map f) :: hmap f r
def hmax : List (Nat × Th) → Nat
 | [] => 0
 | (j, _) :: r => Nat.max (j + 1) (hmax r)
def St.fresh (s : St) : Nat := Nat.max s.base (hmax s.heap)
theorem look_hmap (f : AV → AV) : ∀ (H : List (Nat × Th)) (k : Nat), look (hmap f H) k = (look H k).map (Th.map f)
 | [], k => rfl
 | (j, u) :: r, k => by
  simp only [hmap, look]
  split
  · rfl
  · exact look_hmap f r k
theorem look_hdrop (G : Nat → Bool) : ∀ (H : List (Nat × Th)) (k : Nat), look (hdrop G H) k = if G k then none else look H k
 | [], k => by simp [hdrop, look]
 | (j, u) :: r, k => by
  have ih := look_hdrop G r k
  by_cases e : j = k
  ·
   subst e
   by_cases hj : G j = true
   · simp [hdrop, look, hj, ih]
   · simp [hdrop, look, hj]
  ·
   have he : (j == k) = false := by simpa using e
   by_cases hj : G j = true
   · simp [hdrop, look, hj, ih, he]
   · simp [hdrop, look, hj, ih, he]
theorem look_hput (k : Nat) (t : Th) : ∀ (H : List (Nat × Th)) (j : Nat), look (hput k t H) j = if k = j then some t else look H j
 | [], j => by
  by_cases e : k = j
  · simp [hput, look, e]
  ·
   have he : (k == j) = false := by simpa using e
   simp [hput, look, e, he]
 | (i, u) :: r, j => by
  have ih := look_hput k t r j
  by_cases e : k = i
  ·
   subst e
   by_cases e2 : k = j
   · simp [hput, look, e2]
   ·
    have he : (k == j) = false := by simpa using e2
    simp [hput, look, e2, he]
  ·
   have he : (k == i) = false := by simpa using e
   by_cases hlt : Nat.blt k i = true
   ·
    by_cases e2 : k = j
    · subst e2; simp [hput, look, he, hlt]
    ·
     have he2 : (k == j) = false := by simpa using e2
     simp [hput, look, he, hlt, e2, he2]
   ·
    by_cases e3 : i = j
    ·
     subst e3
     simp [hput, look, he, hlt, e]
    ·
     have he3 : (i == j) = false := by simpa using e3
     simp [hput, look, he, hlt, he3, ih]
structure Cx where
 P : Program
 B : Nat
 w0 : World
 N0 : Nat → Prop
 O : Nat → Prop
 m0 : Nat
 E0 : Env
 gl : Nat → Option (List D)
def Mut (E : Env) (s : St) (b : Nat) : Prop := ∃ k t, s.th k = some t ∧ blk (E k) = some b
def Stable (C : Cx) (E : Env) (s : St) (w : World) (b : Nat) : Prop := b < w.heap.size ∧ (C.N0 b ∨ C.B ≤ b ∨ C.O b) ∧ ¬ Mut E s b
structure Keeps (B : Nat) (O : Nat → Prop) (w0 w : World) : Prop where
 os : w.os = w0.os
 tape : w.tape = w0.tape
 output : w.output = w0.output
 size : B ≤ w.heap.size
 block : ∀ b, b < B → ¬ O b → w.heap[b]? = w0.heap[b]?
def wholeOf (w : World) (g : Nat) : Option (Array Value) := match w.heap[g]? with
 | some (.cells cs _ _) => some cs
 | _ => none
def Cx.GlOK (C : Cx) : Prop := ∀ g cs, C.gl g = some cs → C.N0 g ∧ ∃ vs, VCs C.w0 C.N0 cs vs ∧ (∀ j u, vs[j]? = some u → C.w0.cell? ⟨g, j, none⟩ = some u) ∧ (cs.length ≠ 1 → wholeOf C.w0 g = some vs.toArray)
structure Fit (C : Cx) (E : Env) (s : St) (w : World) : Prop where
 base : s.base = C.m0
 low : ∀ b, C.N0 b → b < C.B ∧ ¬ C.O b
 keep : Keeps C.B C.O C.w0 w
 keys : ∀ k, k < C.m0 → E k = C.E0 k
 th : ∀ k t, s.th k = some t → ThOK C.P E w (Stable C E s w) t (E k) ∧ ∀ b, blk (E k) = some b → C.B ≤ b ∨ C.O b
 dis : ∀ k k' t t', s.th k = some t → s.th k' = some t' → k ≠ k' → ∀ b, blk (E k) = some b → blk (E k') ≠ some b
 gl : C.GlOK
structure Sim (C : Cx) (E : Env) (s : St) (a : Act) (w : World) : Prop where
 fit : Fit C E s w
 tm : VAs E w (Stable C E s w) s.tmps a.tmps.toList
 df : a.defers = []
variable {C : Cx} {E E' : Env} {s s' : St} {a : Act} {w w' : World}
theorem OwnsR.lt {T sz n : Nat} {v : Value} {vs : List Value} (h : OwnsR w T sz v n vs) {b : Nat} (hb : blk v = some b) : b < w.heap.size := by
 rcases h.2 with ⟨h1, _⟩ | ⟨g, cap, cur, h1, h2, _⟩
 · subst h1; simp [blk] at hb
 ·
  subst h1
  simp only [blk, Option.some.injEq] at hb
  subst hb
  exact (Array.getElem?_eq_some_iff.1 h2).1
theorem ThOK.lt {P : Program} {N : Nat → Prop} {t : Th} {v : Value} (h : ThOK P E w N t v) {b : Nat} (hb : blk v = some b) : b < w.heap.size := by
 cases t with
 | obj T cs =>
  obtain ⟨g, vs, h1, h2, _⟩ := h
  subst h1
  simp only [blk, Option.some.injEq] at hb
  subst hb
  exact (Array.getElem?_eq_some_iff.1 h2).1
 | row T sz n el =>
  obtain ⟨vs, h1, _⟩ := h
  exact h1.lt hb
 | mp M =>
  obtain ⟨g, es, clock, h1, h2, _⟩ := h
  subst h1
  simp only [blk, Option.some.injEq] at hb
  subst hb
  exact (Array.getElem?_eq_some_iff.1 h2).1
theorem OwnsR.kept {T sz n : Nat} {v : Value} {vs : List Value} (h : OwnsR w T sz v n vs) (hb : ∀ b, blk v = some b → w'.heap[b]? = w.heap[b]?) : OwnsR w' T sz v n vs := by
 refine ⟨h.1, ?_⟩
 rcases h.2 with h1 | ⟨g, cap, cur, h1, h2, h3⟩
 · exact .inl h1
 · exact .inr ⟨g, cap, cur, h1, (hb g (by rw [h1]; rfl)).trans h2, h3⟩
theorem ThOK.kept {P : Program} {N N' : Nat → Prop} {t : Th} {v : Value} (h : ThOK P E w N t v) (hN : ∀ b, N b → N' b) (hw : ∀ a v, N a.block → w.cell? a = some v → w'.cell? a = some v)
  (hb : ∀ b, blk v = some b → w'.heap[b]? = w.heap[b]?) (f : AV → AV) (hf : ∀ x u, VA E w N x u → VA E' w' N' (f x) u) : ThOK P E' w' N' (t.map f) v := by
 cases t with
 | obj T cs =>
  obtain ⟨g, vs, h1, h2, h3⟩ := h
  exact ⟨g, vs, h1, (hb g (by rw [h1]; rfl)).trans h2, VAs.map f h3 hf⟩
 | row T sz n el =>
  obtain ⟨vs, h1, h2⟩ := h
  exact ⟨vs, h1.kept hb, fun i hi => VC.imp hN hw _ _ (h2 i hi)⟩
 | mp M =>
  obtain ⟨g, es, clock, h1, h2, h3, h4, h5, h6, h7⟩ := h
  exact ⟨g, es, clock, h1, (hb g (by rw [h1]; rfl)).trans h2, h3, h4, h5, h6, fun d u e hd he hk => VD.imp hN hw (h7 d u e hd he hk)⟩
theorem Fit.mut_lt (h : Fit C E s w) {b : Nat} (hm : Mut E s b) : b < w.heap.size ∧ (C.B ≤ b ∨ C.O b) := by
 obtain ⟨k, t, hk, hb⟩ := hm
 obtain ⟨h1, h2⟩ := h.th k t hk
 exact ⟨h1.lt hb, h2 b hb⟩
theorem Fit.n0_stable (h : Fit C E s w) {b : Nat} (hb : C.N0 b) : Stable C E s w b := by
 obtain ⟨h1, h2⟩ := h.low b hb
 exact ⟨Nat.lt_of_lt_of_le h1 h.keep.size, .inl hb, fun hm => (h.mut_lt hm).2.elim (fun h3 => absurd h1 (by omega)) h2⟩
theorem Fit.n0_cell (h : Fit C E s w) {a : Addr} {v : Value} (hb : C.N0 a.block) (hc : C.w0.cell? a = some v) : w.cell? a = some v := by
 obtain ⟨h1, h2⟩ := h.low _ hb
 exact (World.cell?_of_block (h.keep.block a.block h1 h2)).trans hc
structure Step (C : Cx) (E E' : Env) (s s' : St) (w w' : World) (G F : Nat → Bool) (f : AV → AV) : Prop where
 base : s'.base = s.base
 os : w'.os = w.os
 tape : w'.tape = w.tape
 output : w'.output = w.output
 size : w.heap.size ≤ w'.heap.size
 block : ∀ b, b < w.heap.size → (∀ k t, G k = true → s.th k = some t → blk (E k) ≠ some b) → w'.heap[b]? = w.heap[b]?
 new : ∀ k, F k = true → G k = true ∧ s.base ≤ k
 env : ∀ k, F k = false → E' k = E k
 old : ∀ k t', G k = false → s'.th k = some t' → ∃ t, s.th k = some t ∧ t' = t.map f
 blks : ∀ k t', G k = true → s'.th k = some t' → ∀ b, blk (E' k) = some b → w.heap.size ≤ b ∨ ∃ j t, G j = true ∧ s.th j = some t ∧ blk (E j) = some b
 diss : ∀ k k' t t', G k = true → G k' = true → s'.th k = some t → s'.th k' = some t' → k ≠ k' → ∀ b, blk (E' k) = some b → blk (E' k') ≠ some b
theorem Step.mut {G F : Nat → Bool} {f : AV → AV} (st : Step C E E' s s' w w' G F f) {b : Nat} (hm : Mut E' s' b) : w.heap.size ≤ b ∨ Mut E s b := by
 obtain ⟨k, t', hk, hb⟩ := hm
 cases hG : G k with
 | true =>
  rcases st.blks k t' hG hk b hb with h | ⟨j, t, _, h1, h2⟩
  · exact .inl h
  · exact .inr ⟨j, t, h1, h2⟩
 | false =>
  obtain ⟨t, h1, _⟩ := st.old k t' hG hk
  have hF : F k = false := by
   cases hF : F k with
   | false => rfl
   | true => rw [(st.new k hF).1] at hG; cases hG
  exact .inr ⟨k, t, h1, by rw [← st.env k hF]; exact hb⟩
theorem Step.stable {G F : Nat → Bool} {f : AV → AV} (st : Step C E E' s s' w w' G F f) (b : Nat) (h : Stable C E s w b) : Stable C E' s' w' b :=
 ⟨Nat.lt_of_lt_of_le h.1 st.size, h.2.1, fun hm => (st.mut hm).elim (fun h' => absurd h.1 (by omega)) h.2.2⟩
theorem Step.cell {G F : Nat → Bool} {f : AV → AV} (st : Step C E E' s s' w w' G F f) (a : Addr) (v : Value) (h : Stable C E s w a.block) (hc : w.cell? a = some v) : w'.cell? a = some v :=
 (World.cell?_of_block (st.block a.block h.1 fun k t _ hk hb => h.2.2 ⟨k, t, hk, hb⟩)).trans hc
theorem Step.forget {G F : Nat → Bool} {f : AV → AV} (st : Step C E E' s s' w w' G F f) {x : AV} {v : Value} (h : VA E w (Stable C E s w) x v) : VA E' w' (Stable C E' s' w') (x.forget F) v :=
 VA.forget st.stable st.cell st.env h
theorem Step.same {G F : Nat → Bool} {f : AV → AV} (st : Step C E E' s s' w w' G F f) (hF : ∀ k, F k = false) {x : AV} {v : Value} (h : VA E w (Stable C E s w) x v) : VA E' w' (Stable C E' s' w') x v :=
 VA.imp (F := fun _ => false) st.stable st.cell (fun k _ => st.env k (hF k)) x v (AV.has_none x) h
theorem Fit.step (h : Fit C E s w) {G F : Nat → Bool} {f : AV → AV} (st : Step C E E' s s' w w' G F f)
  (hf : ∀ x v, VA E w (Stable C E s w) x v → VA E' w' (Stable C E' s' w') (f x) v)
  (hnew : ∀ k t, G k = true → s'.th k = some t → ThOK C.P E' w' (Stable C E' s' w') t (E' k)) : Fit C E' s' w' := by
 have hF : ∀ k, G k = false → F k = false := fun k hG => by
  cases hF : F k with
  | false => rfl
  | true => rw [(st.new k hF).1] at hG; cases hG
 refine ⟨st.base.trans h.base, h.low, ⟨st.os.trans h.keep.os, st.tape.trans h.keep.tape, st.output.trans h.keep.output, Nat.le_trans h.keep.size st.size, fun b hb hO => ?_⟩, fun k hk => ?_, fun k t' hk => ?_, fun k k' t t' hk hk' hne b hb hb' => ?_, h.gl⟩
 ·
  refine (st.block b (Nat.lt_of_lt_of_le hb h.keep.size) fun k t _ hk he => ?_).trans (h.keep.block b hb hO)
  exact ((h.th k t hk).2 b he).elim (fun h' => absurd hb (by omega)) hO
 ·
  refine (st.env k ?_).trans (h.keys k hk)
  cases hF : F k with
  | false => rfl
  | true =>
   have := (st.new k hF).2
   rw [h.base] at this
   omega
 ·
  cases hG : G k with
  | true =>
   refine ⟨hnew k t' hG hk, fun b hb => ?_⟩
   rcases st.blks k t' hG hk b hb with h1 | ⟨j, t, _, h1, h2⟩
   · exact .inl (Nat.le_trans h.keep.size h1)
   · exact (h.th j t h1).2 b h2
  | false =>
   obtain ⟨t, h1, rfl⟩ := st.old k t' hG hk
   rw [st.env k (hF k hG)]
   obtain ⟨h2, h3⟩ := h.th k t h1
   exact ⟨h2.kept st.stable st.cell (fun b hb => st.block b (h2.lt hb) fun j u hGj hj he => h.dis k j t u h1 hj (fun e => by rw [e] at hG; rw [hG] at hGj; cases hGj) b hb he) f hf, h3⟩
 ·
  cases hG : G k with
  | true =>
   cases hG' : G k' with
   | true => exact st.diss k k' t t' hG hG' hk hk' hne b hb hb'
   | false =>
    obtain ⟨u, h1, _⟩ := st.old k' t' hG' hk'
    rw [st.env k' (hF k' hG')] at hb'
    rcases st.blks k t hG hk b hb with h2 | ⟨j, v, h2, h3, h4⟩
    · exact absurd ((h.th k' u h1).1.lt hb') (by omega)
    · exact h.dis j k' v u h3 h1 (fun e => by rw [← e, h2] at hG'; cases hG') b h4 hb'
  | false =>
   obtain ⟨u, h1, _⟩ := st.old k t hG hk
   rw [st.env k (hF k hG)] at hb
   cases hG' : G k' with
   | true =>
    rcases st.blks k' t' hG' hk' b hb' with h2 | ⟨j, v, h2, h3, h4⟩
    · exact absurd ((h.th k u h1).1.lt hb) (by omega)
    · exact h.dis k j u v h1 h3 (fun e => by rw [e, h2] at hG; cases hG) b hb h4
   | false =>
    obtain ⟨u', h1', _⟩ := st.old k' t' hG' hk'
    rw [st.env k' (hF k' hG')] at hb'
    exact h.dis k k' u u' h1 h1' hne b hb hb'
theorem Th.map_id (t : Th) : t.map (fun x => x) = t := by cases t <;> simp [Th.map]
theorem Step.ext (hb : Below w.heap.size w w') : Step C E E s s w w' (fun _ => false) (fun _ => false) (fun x => x) :=
 ⟨rfl, hb.os, hb.tape, hb.output, hb.size, fun b h _ => hb.block b h, fun _ h => (by cases h), fun _ _ => rfl, fun k t _ h => ⟨t, h, (Th.map_id t).symm⟩, fun _ _ h => (by cases h), fun _ _ _ _ h => (by cases h)⟩
theorem Fit.ext (h : Fit C E s w) (hb : Below w.heap.size w w') : Fit C E s w' ∧ (∀ b, Stable C E s w b → Stable C E s w' b) ∧ (∀ a v, Stable C E s w a.block → w.cell? a = some v → w'.cell? a = some v) :=
 have st := Step.ext (C := C) (E := E) (s := s) hb
 ⟨h.step st (fun x v hx => VA.mono st.stable st.cell hx) (fun _ _ h => (by cases h)), st.stable, st.cell⟩
theorem Sim.ext (h : Sim C E s a w) (hb : Below w.heap.size w w') : Sim C E s a w' := by
 obtain ⟨h1, h2, h3⟩ := h.fit.ext hb
 exact ⟨h1, VAs.mono h2 h3 h.tm, h.df⟩
def St.put (s : St) (dst : Option Tmp) (x : AV) : St := { s with tmps := match dst with | some d => s.tmps.set d x | none => s.tmps }
theorem Fit.tmps (h : Fit C E s w) (ts : List AV) : Fit C E { s with tmps := ts } w := ⟨h.base, h.low, h.keep, h.keys, h.th, h.dis, h.gl⟩
theorem Sim.put' (h : Sim C E s a w) (dst : Option Tmp) {x : AV} {v : Value} (hv : VA E w (Stable C E s w) x v) : Sim C E (s.put dst x) (a.put dst v) w := by
 cases dst with
 | none => exact h
 | some d =>
  refine ⟨h.fit.tmps _, ?_, h.df⟩
  show VAs E w (Stable C E s w) (s.tmps.set d x) ((a.tmps.setIfInBounds d v).toList)
  rw [Array.toList_setIfInBounds]
  exact h.tm.set d hv
def Env.set (E : Env) (k : Nat) (v : Value) : Env := fun i => if i = k then v else E i
def eqk (k : Nat) : Nat → Bool := fun i => i == k
def St.newTh (s : St) (q : Option Nat) (k : Nat) (t : Th) : St :=
 { base := s.base, tmps := s.tmps.map (AV.forget (eqk k)), heap := hput k t (hmap (AV.forget (eqk k)) (hdrop (fun i => i == k || some i == q) s.heap)) }
theorem St.newTh_th (s : St) (q : Option Nat) (k : Nat) (t : Th) (i : Nat) : (s.newTh q k t).th i = if k = i then some t else if q = some i then none else (s.th i).map (Th.map (AV.forget (eqk k))) := by
 unfold St.th St.newTh
 rw [look_hput, look_hmap, look_hdrop]
 by_cases e : k = i
 · simp [e]
 ·
  rw [if_neg e, if_neg e]
  by_cases e2 : q = some i
  · simp [e2]
  ·
   have : (i == k || some i == q) = false := by
    simp; exact ⟨fun h => e h.symm, fun h => e2 h.symm⟩
   rw [this, if_neg e2]; rfl
theorem Step.new' (h : Fit C E s w) (q : Option Nat) (k : Nat) (hk : s.base ≤ k) (t : Th) (v : Value)
  (hos : w'.os = w.os) (htape : w'.tape = w.tape) (hout : w'.output = w.output) (hsz : w.heap.size ≤ w'.heap.size)
  (hw : ∀ b, b < w.heap.size → (∀ i u, q = some i → s.th i = some u → blk (E i) ≠ some b) → w'.heap[b]? = w.heap[b]?)
  (hblk : ∀ b, blk v = some b → w.heap.size ≤ b ∨ ∃ j u, q = some j ∧ s.th j = some u ∧ blk (E j) = some b) :
  Step C E (E.set k v) s (s.newTh q k t) w w' (fun i => i == k || some i == q) (eqk k) (AV.forget (eqk k)) := by
 have hG : ∀ i, q = some i → (i == k || some i == q) = true := fun i hi => by rw [hi]; simp
 refine ⟨rfl, hos, htape, hout, hsz, fun b hb hne => hw b hb fun i u hq hi => hne i u (hG i hq) hi, fun i hi => ?_, fun i hi => ?_, fun i t' hi ht => ?_, fun i t' hi ht b hb => ?_, fun i j t1 t2 hi hj h1 h2 hne b hb hb' => ?_⟩
 ·
  have e : i = k := by simpa [eqk] using hi
  subst e
  exact ⟨by simp, hk⟩
 ·
  have e : i ≠ k := by simpa [eqk] using hi
  simp [Env.set, e]
 ·
  simp at hi
  rw [St.newTh_th, if_neg (fun e => hi.1 e.symm), if_neg (fun e => hi.2 e.symm)] at ht
  obtain ⟨u, h1, h2⟩ := Option.map_eq_some_iff.1 ht
  exact ⟨u, h1, h2.symm⟩
 ·
  rw [St.newTh_th] at ht
  by_cases e : k = i
  ·
   subst e
   simp only [Env.set, if_true] at hb
   rcases hblk b hb with h1 | ⟨j, u, h1, h2, h3⟩
   · exact .inl h1
   · exact .inr ⟨j, u, hG j h1, h2, h3⟩
  ·
   rw [if_neg e] at ht
   simp at hi
   rcases hi with hi | hi
   · exact absurd hi.symm e
   · rw [if_pos hi.symm] at ht; cases ht
 ·
  have key : ∀ i t1, (i == k || some i == q) = true → (s.newTh q k t).th i = some t1 → i = k := fun i t1 hi h1 => by
   rw [St.newTh_th] at h1
   by_cases e : k = i
   · exact e.symm
   ·
    rw [if_neg e] at h1
    simp at hi
    rcases hi with hi | hi
    · exact hi
    · rw [if_pos hi.symm] at h1; cases h1
  exact absurd ((key i t1 hi h1).trans (key j t2 hj h2).symm) hne
theorem Fit.newTh (h : Fit C E s w) (q : Option Nat) (k : Nat) (hk : s.base ≤ k) (t : Th) (v : Value)
  (hos : w'.os = w.os) (htape : w'.tape = w.tape) (hout : w'.output = w.output) (hsz : w.heap.size ≤ w'.heap.size)
  (hw : ∀ b, b < w.heap.size → (∀ i u, q = some i → s.th i = some u → blk (E i) ≠ some b) → w'.heap[b]? = w.heap[b]?)
  (hblk : ∀ b, blk v = some b → w.heap.size ≤ b ∨ ∃ j u, q = some j ∧ s.th j = some u ∧ blk (E j) = some b)
  (hok : ∀ {E' : Env} {N' : Nat → Prop}, (∀ b, Stable C E s w b → N' b) → (∀ a u, Stable C E s w a.block → w.cell? a = some u → w'.cell? a = some u) → (∀ i, i ≠ k → E' i = E i) → E' k = v → ThOK C.P E' w' N' t v) :
  Fit C (E.set k v) (s.newTh q k t) w' ∧ (∀ b, Stable C E s w b → Stable C (E.set k v) (s.newTh q k t) w' b) ∧ (∀ a u, Stable C E s w a.block → w.cell? a = some u → w'.cell? a = some u) ∧
  (∀ x u, VA E w (Stable C E s w) x u → VA (E.set k v) w' (Stable C (E.set k v) (s.newTh q k t) w') (x.forget (eqk k)) u) := by
 have st := Step.new' h q k hk t v hos htape hout hsz hw hblk
 refine ⟨h.step st (fun x u hx => st.forget hx) (fun i t1 hi h1 => ?_), st.stable, st.cell, fun x u hx => st.forget hx⟩
 rw [St.newTh_th] at h1
 by_cases e : k = i
 ·
  subst e
  rw [if_pos rfl] at h1
  cases h1
  have e1 : E.set k v k = v := by simp [Env.set]
  rw [e1]
  exact hok st.stable st.cell (fun j hj => by simp [Env.set, hj]) e1
 ·
  rw [if_neg e] at h1
  simp at hi
  rcases hi with hi | hi
  · exact absurd hi.symm e
  · rw [if_pos hi.symm] at h1; cases h1
def St.setTh (s : St) (k : Nat) (t : Th) : St := { s with heap := hput k t s.heap }
theorem St.setTh_th (s : St) (k : Nat) (t : Th) (i : Nat) : (s.setTh k t).th i = if k = i then some t else s.th i := look_hput k t s.heap i
theorem Step.set' (k : Nat) (u : Th) (hu : s.th k = some u) (t : Th)
  (hos : w'.os = w.os) (htape : w'.tape = w.tape) (hout : w'.output = w.output) (hsz : w.heap.size ≤ w'.heap.size)
  (hw : ∀ b, b < w.heap.size → blk (E k) ≠ some b → w'.heap[b]? = w.heap[b]?) :
  Step C E E s (s.setTh k t) w w' (eqk k) (fun _ => false) (fun x => x) := by
 refine ⟨rfl, hos, htape, hout, hsz, fun b hb hne => hw b hb (hne k u (by simp [eqk]) hu), fun _ h => (by cases h), fun _ _ => rfl, fun i t' hi ht => ?_, fun i t' hi ht b hb => ?_, fun i j t1 t2 hi hj h1 h2 hne => ?_⟩
 ·
  have e : i ≠ k := by simpa [eqk] using hi
  rw [St.setTh_th, if_neg (Ne.symm e)] at ht
  exact ⟨t', ht, (Th.map_id t').symm⟩
 ·
  have e : i = k := by simpa [eqk] using hi
  subst e
  exact .inr ⟨i, u, hi, hu, hb⟩
 ·
  have e1 : i = k := by simpa [eqk] using hi
  have e2 : j = k := by simpa [eqk] using hj
  exact absurd (e1.trans e2.symm) hne
theorem Fit.setTh (h : Fit C E s w) (k : Nat) (u : Th) (hu : s.th k = some u) (t : Th)
  (hos : w'.os = w.os) (htape : w'.tape = w.tape) (hout : w'.output = w.output) (hsz : w.heap.size ≤ w'.heap.size)
  (hw : ∀ b, b < w.heap.size → blk (E k) ≠ some b → w'.heap[b]? = w.heap[b]?)
  (hok : ∀ {N' : Nat → Prop}, (∀ b, Stable C E s w b → N' b) → (∀ a u, Stable C E s w a.block → w.cell? a = some u → w'.cell? a = some u) → ThOK C.P E w' N' t (E k)) :
  Fit C E (s.setTh k t) w' ∧ (∀ b, Stable C E s w b → Stable C E (s.setTh k t) w' b) ∧ (∀ a u, Stable C E s w a.block → w.cell? a = some u → w'.cell? a = some u) := by
 have st : Step C E E s (s.setTh k t) w w' _ _ _ := Step.set' k u hu t hos htape hout hsz hw
 refine ⟨h.step st (fun x v hx => VA.mono st.stable st.cell hx) (fun i t1 hi h1 => ?_), st.stable, st.cell⟩
 have e : i = k := by simpa [eqk] using hi
 subst e
 rw [St.setTh_th, if_pos rfl] at h1
 cases h1
 exact hok st.stable st.cell
def St.dropTh (s : St) (G : Nat → Bool) (f : AV → AV) : St := { base := s.base, tmps := s.tmps.map f, heap := hmap f (hdrop G s.heap) }
theorem St.dropTh_th (s : St) (G : Nat → Bool) (f : AV → AV) (i : Nat) : (s.dropTh G f).th i = if G i then none else (s.th i).map (Th.map f) := by
 unfold St.th St.dropTh
 rw [look_hmap, look_hdrop]
 split <;> rfl
theorem Step.drop' (G : Nat → Bool) (f : AV → AV) : Step C E E s (s.dropTh G f) w w G (fun _ => false) f := by
 refine ⟨rfl, rfl, rfl, rfl, Nat.le_refl _, fun _ _ _ => rfl, fun _ h => (by cases h), fun _ _ => rfl, fun i t' hi ht => ?_, fun i t' hi ht => ?_, fun i j t1 t2 hi hj h1 => ?_⟩
 ·
  rw [St.dropTh_th, hi] at ht
  obtain ⟨u, h1, h2⟩ := Option.map_eq_some_iff.1 ht
  exact ⟨u, h1, h2.symm⟩
 · rw [St.dropTh_th, hi] at ht; cases ht
 · rw [St.dropTh_th, hi] at h1; cases h1
theorem Fit.dropTh (h : Fit C E s w) (G : Nat → Bool) (f : AV → AV) (hf : (∀ b, Stable C E s w b → Stable C E (s.dropTh G f) w b) → ∀ x v, VA E w (Stable C E s w) x v → VA E w (Stable C E (s.dropTh G f) w) (f x) v) :
  Fit C E (s.dropTh G f) w := by
 have st : Step C E E s (s.dropTh G f) w w G _ f := Step.drop' G f
 refine h.step st (hf st.stable) (fun i t1 hi h1 => ?_)
 rw [St.dropTh_th, hi] at h1; cases h1
theorem Fit.dropped (h : Fit C E s w) (G : Nat → Bool) (f : AV → AV) {k : Nat} {t : Th} (hk : s.th k = some t) (hG : G k = true) {b : Nat} (hb : blk (E k) = some b) : Stable C E (s.dropTh G f) w b := by
 refine ⟨(h.th k t hk).1.lt hb, ((h.th k t hk).2 b hb).elim (fun h => .inr (.inl h)) (fun h => .inr (.inr h)), ?_⟩
 rintro ⟨i, u, hi, he⟩
 rw [St.dropTh_th] at hi
 split at hi
 · cases hi
 ·
  rename_i hGi
  obtain ⟨v, h1, _⟩ := Option.map_eq_some_iff.1 hi
  exact h.dis k i t v hk h1 (fun e => hGi (e ▸ hG)) b hb he
def KB (G : Nat → Bool) (C : Cx) (E : Env) (s : St) (w : World) (b : Nat) : Prop := Stable C E s w b ∨ ∃ k t, G k = true ∧ s.th k = some t ∧ blk (E k) = some b
def KeptW (G : Nat → Bool) (C : Cx) (E : Env) (s : St) (w u : World) : Prop := ∀ b, KB G C E s w b → u.heap[b]? = w.heap[b]?
def inL (l : List Nat) : Nat → Bool := fun k => l.any (· == k)
def Kp (wr : List Nat) (C : Cx) (E : Env) (s : St) (w : World) (E' : Env) (s' : St) (w' : World) : Prop :=
 ∀ G : Nat → Bool, (∀ k, inL wr k = true → G k = false) → ∀ b, KB G C E s w b → KB G C E' s' w' b ∧ w'.heap[b]? = w.heap[b]?
theorem KB.lt {G : Nat → Bool} (h : Fit C E s w) {b : Nat} (hb : KB G C E s w b) : b < w.heap.size := by
 rcases hb with h1 | ⟨k, t, _, h2, h3⟩
 · exact h1.1
 · exact (h.th k t h2).1.lt h3
theorem KB.mono {G G' : Nat → Bool} (hG : ∀ k, G k = true → G' k = true) {b : Nat} (hb : KB G C E s w b) : KB G' C E s w b := by
 rcases hb with h1 | ⟨k, t, h1, h2, h3⟩
 · exact .inl h1
 · exact .inr ⟨k, t, hG k h1, h2, h3⟩
theorem KB.of_heap {s1 : St} {G : Nat → Bool} (hs : s1.heap = s.heap) {b : Nat} (hb : KB G C E s1 w b) : KB G C E s w b := by
 rcases hb with h1 | ⟨k, t, h1, h2, h3⟩
 · exact .inl ⟨h1.1, h1.2.1, fun ⟨k, t, h4, h5⟩ => h1.2.2 ⟨k, t, by unfold St.th at h4 ⊢; rw [hs]; exact h4, h5⟩⟩
 · exact .inr ⟨k, t, h1, by unfold St.th at h2 ⊢; rw [← hs]; exact h2, h3⟩
theorem Kp.of_heap {s1 : St} {wr : List Nat} (hs : s1.heap = s.heap) (h : Kp wr C E s1 w E' s' w') : Kp wr C E s w E' s' w' := fun G hG b hb => h G hG b (KB.of_heap hs.symm hb)
theorem KeptW.refl (G : Nat → Bool) : KeptW G C E s w w := fun _ _ => rfl
theorem Kp.refl (wr : List Nat) (hs : s'.heap = s.heap) : Kp wr C E s w E s' w := fun G _ b hb => ⟨by
 rcases hb with h1 | ⟨k, t, h1, h2, h3⟩
 · exact .inl ⟨h1.1, h1.2.1, fun ⟨k, t, h4, h5⟩ => h1.2.2 ⟨k, t, by unfold St.th at h4 ⊢; rw [← hs]; exact h4, h5⟩⟩
 · exact .inr ⟨k, t, h1, by unfold St.th at h2 ⊢; rw [hs]; exact h2, h3⟩, rfl⟩
theorem Kp.trans {wr wr2 : List Nat} {E1 : Env} {s1 : St} {w1 : World} (h1 : Kp wr C E s w E1 s1 w1) (h2 : Kp wr2 C E1 s1 w1 E' s' w') : Kp (wr ++ wr2) C E s w E' s' w' := fun G hG b hb => by
 have a1 := h1 G (fun k hk => hG k (by unfold inL at hk ⊢; rw [List.any_append, hk]; rfl)) b hb
 have a2 := h2 G (fun k hk => hG k (by unfold inL at hk ⊢; rw [List.any_append, hk, Bool.or_true])) b a1.1
 exact ⟨a2.1, a2.2.trans a1.2⟩
theorem Step.kp {G F : Nat → Bool} {f : AV → AV} {wr : List Nat} (h : Fit C E s w) (st : Step C E E' s s' w w' G F f) (hp : ∀ k t, G k = false → s.th k = some t → ∃ t', s'.th k = some t')
  (hw : ∀ k t, G k = true → s.th k = some t → inL wr k = true) : Kp wr C E s w E' s' w' := fun K hK b hb => by
 rcases hb with h1 | ⟨k, t, h1, h2, h3⟩
 · exact ⟨.inl (st.stable b h1), st.block b h1.1 fun k t _ hk hbk => h1.2.2 ⟨k, t, hk, hbk⟩⟩
 ·
  have hGk : G k = false := by
   cases hg : G k with
   | false => rfl
   | true => rw [hK k (hw k t hg h2)] at h1; cases h1
  have hFk : F k = false := by
   cases hF : F k with
   | false => rfl
   | true => rw [(st.new k hF).1] at hGk; cases hGk
  obtain ⟨t', h4⟩ := hp k t hGk h2
  refine ⟨.inr ⟨k, t', h1, h4, by rw [st.env k hFk]; exact h3⟩, st.block b ((h.th k t h2).1.lt h3) fun j u hj hju hbj => ?_⟩
  exact h.dis k j t u h2 hju (fun e => by subst e; rw [hGk] at hj; cases hj) b h3 hbj
theorem look_lt' : ∀ {H : List (Nat × Th)} {k : Nat} {t : Th}, look H k = some t → k < hmax H
 | [], k, t, h => by cases h
 | (j, u) :: r, k, t, h => by
  simp only [look] at h
  have e : hmax ((j, u) :: r) = max (j + 1) (hmax r) := rfl
  rw [e]
  split at h
  ·
   rename_i hj
   have hj : j = k := by simpa using hj
   omega
  ·
   have := look_lt' h
   omega
theorem fresh_none (s : St) : s.th s.fresh = none := by
 cases h : s.th s.fresh with
 | none => rfl
 | some t =>
  have h1 := look_lt' h
  have e : s.fresh = max s.base (hmax s.heap) := rfl
  omega
theorem newTh_kp (h : Fit C E s w) (q : Option Nat) (t : Th) (v : Value)
  (hos : w'.os = w.os) (htape : w'.tape = w.tape) (hout : w'.output = w.output) (hsz : w.heap.size ≤ w'.heap.size)
  (hw : ∀ b, b < w.heap.size → (∀ i u, q = some i → s.th i = some u → blk (E i) ≠ some b) → w'.heap[b]? = w.heap[b]?)
  (hblk : ∀ b, blk v = some b → w.heap.size ≤ b ∨ ∃ j u, q = some j ∧ s.th j = some u ∧ blk (E j) = some b) :
  Kp q.toList C E s w (E.set s.fresh v) (s.newTh q s.fresh t) w' := by
 refine Step.kp h (Step.new' h q s.fresh (Nat.le_max_left _ _) t v hos htape hout hsz hw hblk) (fun k u hk hs => ?_) (fun k u hk hs => ?_)
 ·
  simp at hk
  rw [St.newTh_th, if_neg (fun e => hk.1 e.symm), if_neg (fun e => hk.2 e.symm), hs]
  exact ⟨_, rfl⟩
 ·
  simp at hk
  rcases hk with hk | hk
  · subst hk; rw [fresh_none] at hs; cases hs
  · unfold inL; rw [← hk]; simp
theorem setTh_kp (h : Fit C E s w) (k : Nat) (u : Th) (hu : s.th k = some u) (t : Th)
  (hos : w'.os = w.os) (htape : w'.tape = w.tape) (hout : w'.output = w.output) (hsz : w.heap.size ≤ w'.heap.size)
  (hw : ∀ b, b < w.heap.size → blk (E k) ≠ some b → w'.heap[b]? = w.heap[b]?) : Kp [k] C E s w E (s.setTh k t) w' := by
 refine Step.kp h (Step.set' (C := C) k u hu t hos htape hout hsz hw) (fun j v hj hs => ?_) (fun j v hj hs => ?_)
 ·
  have e : j ≠ k := by simpa [eqk] using hj
  rw [St.setTh_th, if_neg (Ne.symm e)]
  exact ⟨v, hs⟩
 ·
  have e : j = k := by simpa [eqk] using hj
  subst e; simp [inL]
theorem dropTh_kp (h : Fit C E s w) (G : Nat → Bool) (f : AV → AV) (wr : List Nat) : Kp wr C E s w E (s.dropTh G f) w := fun K hK b hb => ⟨by
 have st : Step C E E s (s.dropTh G f) w w G _ f := Step.drop' G f
 rcases hb with h1 | ⟨k, t, h1, h2, h3⟩
 · exact .inl (st.stable b h1)
 ·
  cases hg : G k with
  | true => exact .inl (h.dropped G f h2 hg h3)
  | false => exact .inr ⟨k, t.map f, h1, by rw [St.dropTh_th, hg, h2]; rfl, h3⟩, rfl⟩
theorem ext_kp (h : Fit C E s w) (hb : Below w.heap.size w w') (wr : List Nat) : Kp wr C E s w E s w' := fun K _ b hk => ⟨by
 rcases hk with h1 | ⟨k, t, h1, h2, h3⟩
 · exact .inl ((h.ext hb).2.1 b h1)
 · exact .inr ⟨k, t, h1, h2, h3⟩, hb.block b (KB.lt h hk)⟩
end Go.Eng
