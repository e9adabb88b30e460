/-
  Part of the engine: abstract states of a call, and that the operations do what is told of them. No condition.
-/
import Derived.Test.YtbppcjkpkelbfaaDoorEng1
namespace Go.Eng
open Go Go.RowKit
variable {C : Cx} {E E' : Env} {s s' : St} {a : Act} {w w' : World}
mutual
def AV.rn (m : Nat → Option Nat) : AV → AV
 | .ref k off => match m k with | some k => .ref k off | none => .dead
 | .refI k off i sz n o2 => match m k with | some k => .refI k off i sz n o2 | none => .dead
 | .own k => match m k with | some k => .own k | none => .dead
 | .sub k lo n sz cap => match m k with | some k => .sub k lo n sz cap | none => .dead
 | .osl k off sz n cap => match m k with | some k => .osl k off sz n cap | none => .dead
 | .mp k => match m k with | some k => .mp k | none => .dead
 | .el k i sz off => match m k with | some k => .el k i sz off | none => .dead
 | .fn f a b => .fn f (AV.rns m a) (AV.rns m b)
 | .tup xs => .tup (AV.rns m xs)
 | .agg xs => .agg (AV.rns m xs)
 | .d x => .d x
 | .cptr cs => .cptr cs
 | .known b => .known b
 | .dead => .dead
def AV.rns (m : Nat → Option Nat) : List AV → List AV
 | [] => []
 | x :: xs => AV.rn m x :: AV.rns m xs
end
mutual
theorem VA.rn {m : Nat → Option Nat} {N : Nat → Prop} (hm : ∀ k k', m k = some k' → E' k' = E k) : ∀ (x : AV) (v : Value), VA E w N x v → VA E' w N (x.rn m) v
 | .ref k off, v, h => by
  unfold AV.rn
  split
  ·
   rename_i k' hk
   unfold VA at h ⊢
   rw [hm k k' hk]; exact h
  · unfold VA; trivial
 | .refI k off i sz n o2, v, h => by
  unfold AV.rn
  split
  ·
   rename_i k' hk
   unfold VA at h ⊢
   rw [hm k k' hk]; exact h
  · unfold VA; trivial
 | .own k, v, h => by
  unfold AV.rn
  split
  ·
   rename_i k' hk
   unfold VA at h ⊢
   rw [hm k k' hk]; exact h
  · unfold VA; trivial
 | .sub k lo n sz cap, v, h => by
  unfold AV.rn
  split
  ·
   rename_i k' hk
   unfold VA at h ⊢
   rw [hm k k' hk]; exact h
  · unfold VA; trivial
 | .osl k off sz n cap, v, h => by
  unfold AV.rn
  split
  ·
   rename_i k' hk
   unfold VA at h ⊢
   rw [hm k k' hk]; exact h
  · unfold VA; trivial
 | .mp k, v, h => by
  unfold AV.rn
  split
  ·
   rename_i k' hk
   unfold VA at h ⊢
   rw [hm k k' hk]; exact h
  · unfold VA; trivial
 | .el k i sz off, v, h => by
  unfold AV.rn
  split
  ·
   rename_i k' hk
   unfold VA at h ⊢
   rw [hm k k' hk]; exact h
  · unfold VA; trivial
 | .fn f a b, v, h => by
  unfold AV.rn
  unfold VA at h ⊢
  obtain ⟨p, q, h1, h2, h3⟩ := h
  exact ⟨p, q, h1, VAs.rn hm a p h2, VAs.rn hm b q h3⟩
 | .tup xs, v, h => by
  unfold AV.rn
  unfold VA at h ⊢
  obtain ⟨vs, h1, h2⟩ := h
  exact ⟨vs, h1, VAs.rn hm xs vs h2⟩
 | .agg xs, v, h => by
  unfold AV.rn
  unfold VA at h ⊢
  obtain ⟨vs, h1, h2, h3⟩ := h
  exact ⟨vs, h1, VAs.rn hm xs vs h2, h3⟩
 | .d x, v, h => by unfold AV.rn; unfold VA at h ⊢; exact h
 | .cptr cs, v, h => by unfold AV.rn; unfold VA at h ⊢; exact h
 | .known b, v, h => by unfold AV.rn; unfold VA at h ⊢; exact h
 | .dead, v, h => by unfold AV.rn VA; trivial
theorem VAs.rn {m : Nat → Option Nat} {N : Nat → Prop} (hm : ∀ k k', m k = some k' → E' k' = E k) : ∀ (xs : List AV) (vs : List Value), VAs E w N xs vs → VAs E' w N (AV.rns m xs) vs
 | [], vs, h => by unfold AV.rns; unfold VAs at h ⊢; exact h
 | x :: xs, vs, h => by
  unfold AV.rns
  unfold VAs at h ⊢
  obtain ⟨v, vs', h1, h2, h3⟩ := h
  exact ⟨v, vs', h1, VA.rn hm x v h2, VAs.rn hm xs vs' h3⟩
end
structure Renamed (s s' : St) (m : Nat → Option Nat) : Prop where
 base : s'.base = s.base
 inj : ∀ j k i, m j = some i → m k = some i → j = k
 low : ∀ k k', m k = some k' → k' < s.base → k = k'
 th : ∀ k' t', s'.th k' = some t' → ∃ k t, m k = some k' ∧ s.th k = some t ∧ t' = t.map (AV.rn m)
open Classical in
noncomputable def Env.rn (E : Env) (m : Nat → Option Nat) : Env := fun k' => if h : ∃ k, m k = some k' then E (Classical.choose h) else E k'
theorem Env.rn_eq {m : Nat → Option Nat} (inj : ∀ j k i, m j = some i → m k = some i → j = k) (k k' : Nat) (h : m k = some k') : E.rn m k' = E k := by
 unfold Env.rn
 have hex : ∃ k, m k = some k' := ⟨k, h⟩
 rw [dif_pos hex]
 rw [inj _ _ _ (Classical.choose_spec hex) h]
theorem Fit.renamed (h : Fit C E s w) {m : Nat → Option Nat} (hr : Renamed s s' m) :
  Fit C (E.rn m) s' w ∧ (∀ b, Stable C E s w b → Stable C (E.rn m) s' w b) ∧ ∀ x v, VA E w (Stable C E s w) x v → VA (E.rn m) w (Stable C (E.rn m) s' w) (x.rn m) v := by
 have hm := Env.rn_eq (E := E) hr.inj
 have hM : ∀ b, Mut (E.rn m) s' b → Mut E s b := by
  rintro b ⟨k', t', hk, hb⟩
  obtain ⟨k, t, h1, h2, _⟩ := hr.th k' t' hk
  exact ⟨k, t, h2, by rw [← hm k k' h1]; exact hb⟩
 have hS : ∀ b, Stable C E s w b → Stable C (E.rn m) s' w b := fun b hb => ⟨hb.1, hb.2.1, fun hm' => hb.2.2 (hM b hm')⟩
 have hV : ∀ x v, VA E w (Stable C E s w) x v → VA (E.rn m) w (Stable C (E.rn m) s' w) (x.rn m) v := fun x v hx =>
  VA.rn hm x v (VA.mono hS (fun _ _ _ h => h) hx)
 refine ⟨⟨hr.base.trans h.base, h.low, h.keep, fun k hk => ?_, fun k' t' hk => ?_, fun k' j' t' u' hk hj hne b hb hb' => ?_, h.gl⟩, hS, hV⟩
 ·
  rw [← h.keys k hk]
  by_cases hex : ∃ j, m j = some k
  ·
   obtain ⟨j, hj⟩ := hex
   rw [hm j k hj, hr.low j k hj (by rw [h.base]; exact hk)]
  · unfold Env.rn; rw [dif_neg hex]
 ·
  obtain ⟨k, t, h1, h2, rfl⟩ := hr.th k' t' hk
  rw [hm k k' h1]
  obtain ⟨h3, h4⟩ := h.th k t h2
  exact ⟨h3.kept hS (fun _ _ _ h => h) (fun _ _ => rfl) _ hV, h4⟩
 ·
  obtain ⟨k, t, h1, h2, _⟩ := hr.th k' t' hk
  obtain ⟨j, u, h3, h4, _⟩ := hr.th j' u' hj
  rw [hm k k' h1] at hb
  rw [hm j j' h3] at hb'
  exact h.dis k j t u h2 h4 (fun e => by subst e; rw [h1] at h3; cases h3; exact hne rfl) b hb hb'
def lookN : List (Nat × Nat) → Nat → Option Nat
 | [], _ => none
 | (k, k') :: r, j => if k == j then some k' else lookN r j
theorem lookN_mem : ∀ {ms : List (Nat × Nat)} {k k' : Nat}, lookN ms k = some k' → (k, k') ∈ ms
 | [], k, k', h => by cases h
 | (i, i') :: r, k, k', h => by
  simp only [lookN] at h
  split at h
  ·
   rename_i e
   have e : i = k := by simpa using e
   cases h; subst e; simp
  · exact List.mem_cons_of_mem _ (lookN_mem h)
def nodupN : List Nat → Bool
 | [] => true
 | k :: r => !(r.any (· == k)) && nodupN r
theorem nodupN_inj : ∀ {ms : List (Nat × Nat)}, nodupN (ms.map (·.2)) = true → ∀ {j k i : Nat}, (j, i) ∈ ms → (k, i) ∈ ms → j = k
 | [], _, j, k, i, h, _ => by cases h
 | (x, y) :: r, hn, j, k, i, h1, h2 => by
  simp only [List.map_cons, nodupN, Bool.and_eq_true, Bool.not_eq_true', List.any_eq_false] at hn
  rcases List.mem_cons.1 h1 with e1 | h1
  ·
   rcases List.mem_cons.1 h2 with e2 | h2
   · cases e1; cases e2; rfl
   ·
    cases e1
    exact absurd (by simp) (hn.1 _ (List.mem_map.2 ⟨_, h2, rfl⟩))
  ·
   rcases List.mem_cons.1 h2 with e2 | h2
   ·
    cases e2
    exact absurd (by simp) (hn.1 _ (List.mem_map.2 ⟨_, h1, rfl⟩))
   · exact nodupN_inj hn.2 h1 h2
def rnHeap (H : List (Nat × Th)) (m : Nat → Option Nat) : List (Nat × Nat) → List (Nat × Th)
 | [] => []
 | (k, k') :: r => match look H k with
  | some t => (k', t.map (AV.rn m)) :: rnHeap H m r
  | none => rnHeap H m r
theorem look_rnHeap {H : List (Nat × Th)} {m : Nat → Option Nat} : ∀ {ms : List (Nat × Nat)} {k' : Nat} {t' : Th}, look (rnHeap H m ms) k' = some t' → ∃ k t, (k, k') ∈ ms ∧ look H k = some t ∧ t' = t.map (AV.rn m)
 | [], k', t', h => by cases h
 | (i, i') :: r, k', t', h => by
  simp only [rnHeap] at h
  split at h
  ·
   rename_i t ht
   simp only [look] at h
   split at h
   ·
    rename_i e
    have e : i' = k' := by simpa using e
    cases h; subst e
    exact ⟨i, t, by simp, ht, rfl⟩
   ·
    obtain ⟨k, t, h1, h2⟩ := look_rnHeap h
    exact ⟨k, t, List.mem_cons_of_mem _ h1, h2⟩
  ·
   obtain ⟨k, t, h1, h2⟩ := look_rnHeap h
   exact ⟨k, t, List.mem_cons_of_mem _ h1, h2⟩
def okMap (base : Nat) (ms : List (Nat × Nat)) : Bool := nodupN (ms.map (·.1)) && nodupN (ms.map (·.2)) && ms.all fun p => !(Nat.blt p.2 base) || p.1 == p.2
theorem lookN_of_mem : ∀ {ms : List (Nat × Nat)}, nodupN (ms.map (·.1)) = true → ∀ {k k' : Nat}, (k, k') ∈ ms → lookN ms k = some k'
 | [], _, k, k', h => by cases h
 | (x, y) :: r, hn, k, k', h => by
  simp only [List.map_cons, nodupN, Bool.and_eq_true, Bool.not_eq_true', List.any_eq_false] at hn
  simp only [lookN]
  rcases List.mem_cons.1 h with e | h
  · cases e; simp
  ·
   have hne : (x == k) = false := by
    have := hn.1 k (List.mem_map.2 ⟨(k, k'), h, rfl⟩)
    simp at this ⊢
    exact fun e => this e.symm
   simp [hne, lookN_of_mem hn.2 h]
def St.rnm (s : St) (ms : List (Nat × Nat)) : St := { base := s.base, tmps := s.tmps.map (AV.rn (lookN ms)), heap := rnHeap s.heap (lookN ms) ms }
theorem rnm_renamed {ms : List (Nat × Nat)} (h : okMap s.base ms = true) {H' : List (Nat × Th)} {ts : List AV} (hH : H' = rnHeap s.heap (lookN ms) ms) : Renamed s { base := s.base, tmps := ts, heap := H' } (lookN ms) := by
 unfold okMap at h
 simp only [Bool.and_eq_true, List.all_eq_true] at h
 refine ⟨rfl, fun j k i h1 h2 => nodupN_inj h.1.2 (lookN_mem h1) (lookN_mem h2), fun k k' hk hlt => ?_, fun k' t' hk => ?_⟩
 ·
  have := h.2 _ (lookN_mem hk)
  have e : Nat.blt k' s.base = true := by simpa [Nat.blt_eq] using hlt
  simpa [e] using this
 ·
  unfold St.th at hk
  rw [hH] at hk
  obtain ⟨k, t, h1, h2⟩ := look_rnHeap hk
  exact ⟨k, t, lookN_of_mem h.1.1 h1, h2⟩
mutual
def AV.keys : AV → List Nat
 | .ref k _ => [k]
 | .refI k _ _ _ _ _ => [k]
 | .own k => [k]
 | .sub k _ _ _ _ => [k]
 | .osl k _ _ _ _ => [k]
 | .mp k => [k]
 | .el k _ _ _ => [k]
 | .fn _ a b => AV.keyss a ++ AV.keyss b
 | .tup xs => AV.keyss xs
 | .agg xs => AV.keyss xs
 | _ => []
def AV.keyss : List AV → List Nat
 | [] => []
 | x :: xs => AV.keys x ++ AV.keyss xs
end
def Th.keys : Th → List Nat
 | .obj _ cs => AV.keyss cs
 | _ => []
def reach (H : List (Nat × Th)) : Nat → List Nat → List Nat → List Nat
 | 0, _, seen => seen
 | _ + 1, [], seen => seen
 | n + 1, k :: r, seen => if seen.any (· == k) then reach H n r seen else match look H k with
  | some t => reach H n (t.keys ++ r) (seen ++ [k])
  | none => reach H n r seen
def numb : Nat → List Nat → List (Nat × Nat)
 | _, [] => []
 | n, k :: r => (k, n) :: numb (n + 1) r
def naming (base : Nat) (H : List (Nat × Th)) (roots : List AV) : List (Nat × Nat) :=
 let low := (H.map (·.1)).filter (Nat.blt · base)
 let seen := reach H 400 (AV.keyss roots ++ low) []
 low.map (fun k => (k, k)) ++ numb base (seen.filter fun k => !(Nat.blt k base))
def St.canon (s : St) : St := let ms := naming s.base s.heap s.tmps; if okMap s.base ms then s.rnm ms else s
theorem Sim.canon (h : Sim C E s a w) : ∃ E', Sim C E' s.canon a w := by
 unfold St.canon
 simp only
 split
 ·
  rename_i hok
  obtain ⟨h1, h2, h3⟩ := h.fit.renamed (rnm_renamed (ts := s.tmps.map (AV.rn (lookN (naming s.base s.heap s.tmps)))) hok rfl)
  exact ⟨_, h1, VAs.map _ h.tm h3, h.df⟩
 · exact ⟨E, h⟩
def keepT (ts : List Nat) : Nat → List AV → List AV
 | _, [] => []
 | i, x :: xs => (if ts.any (· == i) then x else .dead) :: keepT ts (i + 1) xs
theorem keepT_get (ts : List Nat) : ∀ (xs : List AV) (n i : Nat) (x : AV), (keepT ts n xs)[i]? = some x → x = .dead ∨ xs[i]? = some x
 | [], n, i, x, h => by simp [keepT] at h
 | y :: ys, n, 0, x, h => by
  simp only [keepT, List.getElem?_cons_zero, Option.some.injEq] at h ⊢
  split at h
  · exact .inr h
  · exact .inl h.symm
 | y :: ys, n, i + 1, x, h => by
  simp only [keepT, List.getElem?_cons_succ] at h ⊢
  exact keepT_get ts ys (n + 1) i x h
theorem keepT_len (ts : List Nat) : ∀ (xs : List AV) (n : Nat), (keepT ts n xs).length = xs.length
 | [], n => rfl
 | y :: ys, n => by simp [keepT, keepT_len ts ys]
def St.keep (s : St) (ts : List Nat) : St := ({ s with tmps := keepT ts 0 s.tmps } : St).canon
theorem Sim.keep (h : Sim C E s a w) (ts : List Nat) : ∃ E', Sim C E' (s.keep ts) a w := by
 have h1 : Sim C E { s with tmps := keepT ts 0 s.tmps } a w := by
  refine ⟨h.fit.tmps _, VAs.of_get (by rw [keepT_len]; exact h.tm.length) fun i x v hx hv => ?_, h.df⟩
  rcases keepT_get ts _ 0 i x hx with rfl | h1
  · unfold VA; trivial
  ·
   obtain ⟨u, h2, h3⟩ := h.tm.get i x h1
   rw [h2] at hv; cases hv; exact h3
 exact h1.canon
end Go.Eng
