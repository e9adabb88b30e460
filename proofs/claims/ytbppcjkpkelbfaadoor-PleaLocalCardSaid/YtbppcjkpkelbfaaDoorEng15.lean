/-
  Part of the engine: abstract states of a call, and that the operations do what is told of them. No condition.
-/
import Derived.Test.YtbppcjkpkelbfaaDoorEng13
namespace Go.Eng
open Go Go.RowKit Go.Lib
variable {P : Program} {gl : Nat → Option (List D)} {C : Cx} {E E' : Env} {s s' : St} {a : Act} {w w' : World}
theorem Fit.n0_whole {C : Cx} {E : Env} {s : St} {w : World} (h : Fit C E s w) {g : Nat} (h1 : C.N0 g) : wholeOf w g = wholeOf C.w0 g := by
 unfold wholeOf; rw [h.keep.block g (h.low g h1).1 (h.low g h1).2]
theorem look_lt : ∀ {H : List (Nat × Th)} {k : Nat} {t : Th}, look H k = some t → k < hmax H
 | [], k, t, h => by cases h
 | (j, u) :: r, k, t, h => by
  simp only [look] at h
  simp only [hmax]
  split at h
  ·
   rename_i e
   have e : j = k := by simpa using e
   exact Nat.lt_of_lt_of_le (by omega) (Nat.le_max_left (j + 1) (hmax r))
  · exact Nat.lt_of_lt_of_le (look_lt h) (Nat.le_max_right (j + 1) (hmax r))
theorem th_lt_fresh {k : Nat} {t : Th} (h : s.th k = some t) : k < s.fresh := Nat.lt_of_lt_of_le (look_lt h) (Nat.le_max_right _ _)
theorem reach_mem (H : List (Nat × Th)) : ∀ (n : Nat) (todo seen : List Nat), (∀ k ∈ seen, ∃ t, look H k = some t) → ∀ k ∈ reach H n todo seen, ∃ t, look H k = some t
 | 0, _, seen, h, k, hk => h k hk
 | n + 1, [], seen, h, k, hk => h k hk
 | n + 1, j :: r, seen, h, k, hk => by
  simp only [reach] at hk
  split at hk
  · exact reach_mem H n r seen h k hk
  ·
   split at hk
   ·
    rename_i t ht
    refine reach_mem H n _ _ (fun i hi => ?_) k hk
    rcases List.mem_append.1 hi with hi | hi
    · exact h i hi
    · simp only [List.mem_singleton] at hi; subst hi; exact ⟨t, ht⟩
   · exact reach_mem H n r seen h k hk
theorem numb_mem : ∀ (l : List Nat) (n k k' : Nat), (k, k') ∈ numb n l → n ≤ k' ∧ l[k' - n]? = some k
 | [], n, k, k', h => by cases h
 | x :: l, n, k, k', h => by
  simp only [numb] at h
  rcases List.mem_cons.1 h with e | h
  · cases e; simp
  ·
   obtain ⟨h1, h2⟩ := numb_mem l (n + 1) k k' h
   refine ⟨by omega, ?_⟩
   have e : k' - n = (k' - (n + 1)) + 1 := by omega
   rw [e]; simpa using h2
def hputs (B : List (Nat × Th)) (bk : Nat → Option Nat) : List (Nat × Th) → List (Nat × Th)
 | [] => B
 | (k, t) :: r => match bk k with
  | some j => hput j (t.map (AV.rn bk)) (hputs B bk r)
  | none => hputs B bk r
theorem look_hputs {B : List (Nat × Th)} {bk : Nat → Option Nat} : ∀ {H : List (Nat × Th)} {j : Nat} {t' : Th}, look (hputs B bk H) j = some t' → (∃ k t, (k, t) ∈ H ∧ bk k = some j ∧ t' = t.map (AV.rn bk)) ∨ look B j = some t'
 | [], j, t', h => .inr h
 | (k, t) :: r, j, t', h => by
  simp only [hputs] at h
  split at h
  ·
   rename_i i hi
   rw [look_hput] at h
   split at h
   ·
    rename_i e; subst e; cases h
    exact .inl ⟨k, t, by simp, hi, rfl⟩
   ·
    rcases look_hputs h with ⟨k', u, h1, h2⟩ | h1
    · exact .inl ⟨k', u, List.mem_cons_of_mem _ h1, h2⟩
    · exact .inr h1
  ·
   rcases look_hputs h with ⟨k', u, h1, h2⟩ | h1
   · exact .inl ⟨k', u, List.mem_cons_of_mem _ h1, h2⟩
   · exact .inr h1
theorem look_hputs_some {B : List (Nat × Th)} {bk : Nat → Option Nat} : ∀ {H : List (Nat × Th)} {j : Nat}, (∃ t, look B j = some t) → ∃ t', look (hputs B bk H) j = some t'
 | [], j, h => h
 | (k, t) :: r, j, h => by
  simp only [hputs]
  have ih := look_hputs_some (B := B) (bk := bk) (H := r) h
  split
  ·
   rw [look_hput]
   split
   · exact ⟨_, rfl⟩
   · exact ih
  · exact ih
theorem look_mem : ∀ {H : List (Nat × Th)}, nodupN (H.map (·.1)) = true → ∀ {k : Nat} {t : Th}, (k, t) ∈ H → look H k = some t
 | [], _, k, t, h => by cases h
 | (j, u) :: r, hn, k, t, h => by
  simp only [List.map_cons, nodupN, Bool.and_eq_true, Bool.not_eq_true', List.any_eq_false] at hn
  simp only [look]
  rcases List.mem_cons.1 h with e | h
  · cases e; simp
  ·
   have hne : (j == k) = false := by
    have := hn.1 k (List.mem_map.2 ⟨(k, t), h, rfl⟩)
    simp at this ⊢
    exact fun e => this e.symm
   simp [hne, look_mem hn.2 h]
theorem Fit.handed (h : Fit C E s w) {ms : List (Nat × Nat)} {H : List (Nat × Th)} (hok : okMap 0 ms = true) (hH : H = rnHeap s.heap (lookN ms) ms) {E1 : Env} (hE : ∀ k k', lookN ms k = some k' → E1 k' = E k) :
  Fit (cx C.P C.gl w (Stable C E s w) E1 H) E1 ⟨H.length, [], H⟩ w ∧ (∀ b, Stable C E s w b → Stable (cx C.P C.gl w (Stable C E s w) E1 H) E1 ⟨H.length, [], H⟩ w b) ∧ ∀ x v, VA E w (Stable C E s w) x v → VA E1 w (Stable (cx C.P C.gl w (Stable C E s w) E1 H) E1 ⟨H.length, [], H⟩ w) (x.rn (lookN ms)) v := by
 have hr : Renamed { s with base := 0 } { base := 0, tmps := [], heap := H } (lookN ms) := rnm_renamed (s := { s with base := 0 }) hok hH
 have hO : ∀ b, (∃ k t, look H k = some t ∧ blk (E1 k) = some b) → Mut E s b := by
  rintro b ⟨k', t', hk, hb⟩
  obtain ⟨k, t, h1, h2, _⟩ := hr.th k' t' hk
  exact ⟨k, t, h2, by rw [← hE k k' h1]; exact hb⟩
 have hS : ∀ b, Stable C E s w b → Stable (cx C.P C.gl w (Stable C E s w) E1 H) E1 ⟨H.length, [], H⟩ w b := fun b hb => ⟨hb.1, .inl hb, fun hm => hb.2.2 (hO b hm)⟩
 have hV : ∀ x v, VA E w (Stable C E s w) x v → VA E1 w (Stable (cx C.P C.gl w (Stable C E s w) E1 H) E1 ⟨H.length, [], H⟩ w) (x.rn (lookN ms)) v := fun x v hx => VA.rn hE x v (VA.mono hS (fun _ _ _ h => h) hx)
 refine ⟨⟨rfl, fun b hb => ⟨hb.1, fun hm => hb.2.2 (hO b hm)⟩, ⟨rfl, rfl, rfl, Nat.le_refl _, fun _ _ _ => rfl⟩, fun _ _ => rfl, fun k' t' hk => ?_, fun k' j' t' u' hk hj hne b hb hb' => ?_, ?_⟩, hS, hV⟩
 ·
  obtain ⟨k, t, h1, h2, rfl⟩ := hr.th k' t' hk
  obtain ⟨h3, h4⟩ := h.th k t h2
  refine ⟨?_, fun b hb => .inr ⟨k', _, hk, hb⟩⟩
  rw [hE k k' h1]
  exact h3.kept hS (fun _ _ _ h => h) (fun _ _ => rfl) _ hV
 ·
  obtain ⟨k, t, h1, h2, _⟩ := hr.th k' t' hk
  obtain ⟨j, u, h3, h4, _⟩ := hr.th j' u' hj
  rw [hE k k' h1] at hb
  rw [hE j j' h3] at hb'
  exact h.dis k j t u h2 h4 (fun e => by subst e; rw [h1] at h3; cases h3; exact hne rfl) b hb hb'
 ·
  intro g cs hcs
  obtain ⟨h1, vs, h2, h3, h4⟩ := h.gl g cs hcs
  exact ⟨h.n0_stable h1, vs, VCs.imp (fun b hb => h.n0_stable hb) (fun a v ha hc => h.n0_cell ha hc) _ _ h2, fun j u hu => h.n0_cell h1 (h3 j u hu), fun hl => (h.n0_whole h1).trans (h4 hl)⟩
def St.back (s : St) (seen : List Nat) (ret : AV) (H' : List (Nat × Th)) (dst : Option Tmp) : St :=
 let fr := s.fresh
 let F := fun k => Nat.ble fr k
 let bk := fun k => if Nat.blt k seen.length then seen[k]? else some (fr + (k - seen.length))
 ({ base := s.base, tmps := s.tmps.map (AV.forget F), heap := hputs (hmap (AV.forget F) (hdrop (fun k => seen.any (· == k) || Nat.ble fr k) s.heap)) bk H' } : St).put dst (ret.rn bk)
theorem back_sim (hsim : Sim C E s a w) {seen : List Nat} {H H' : List (Nat × Th)} {ret : AV} {v : Value} {E1 E1' : Env} (hseen : ∀ k ∈ seen, ∃ t, s.th k = some t) (hnd : nodupN seen = true) (hnd' : nodupN (H'.map (·.1)) = true)
  (hH : H = rnHeap s.heap (lookN (numb 0 seen)) (numb 0 seen)) (hlen : H.length = seen.length) (hE : ∀ i k, seen[i]? = some k → E1 i = E k)
  (hfit : Fit (cx C.P C.gl w (Stable C E s w) E1 H) E1' ⟨H.length, [], H'⟩ w') (hret : VA E1' w' (Stable (cx C.P C.gl w (Stable C E s w) E1 H) E1' ⟨H.length, [], H'⟩ w') ret v) (dst : Option Tmp) :
  ∃ E2, Sim C E2 (s.back seen ret H' dst) (a.put dst v) w' ∧ Kp seen C E s w E2 (s.back seen ret H' dst) w' := by
 unfold St.back
 simp only
 generalize hfr : s.fresh = fr
 generalize hF : (fun k => Nat.ble fr k) = F
 generalize hbk : (fun k => if Nat.blt k seen.length then seen[k]? else some (fr + (k - seen.length))) = bk
 generalize hG : (fun k => seen.any (· == k) || F k) = G
 have hGe : (fun k => seen.any (· == k) || Nat.ble fr k) = G := by rw [← hG, ← hF]
 rw [hGe]
 generalize hs2 : ({ base := s.base, tmps := s.tmps.map (AV.forget F), heap := hputs (hmap (AV.forget F) (hdrop G s.heap)) bk H' } : St) = s2
 have hFk : ∀ k, F k = true ↔ fr ≤ k := fun k => by rw [← hF]; simp
 have hGk : ∀ k, G k = true ↔ k ∈ seen ∨ fr ≤ k := fun k => by rw [← hG]; simp [hFk]
 have hslt : ∀ k ∈ seen, k < fr := fun k hk => by obtain ⟨t, ht⟩ := hseen k hk; rw [← hfr]; exact th_lt_fresh ht
 have hbkv : ∀ k j, bk k = some j → (k < seen.length ∧ seen[k]? = some j) ∨ (seen.length ≤ k ∧ j = fr + (k - seen.length)) := fun k j h => by
  rw [← hbk] at h
  simp only at h
  split at h
  · rename_i hlt; exact .inl ⟨by simpa using hlt, h⟩
  · rename_i hlt; cases h; exact .inr ⟨by simpa using hlt, rfl⟩
 have hinj : ∀ j k i, bk j = some i → bk k = some i → j = k := fun j k i hj hk => by
  rcases hbkv j i hj with ⟨h1, h2⟩ | ⟨h1, h2⟩ <;> rcases hbkv k i hk with ⟨h3, h4⟩ | ⟨h3, h4⟩
  ·
   -- no key stands twice
   have aux : ∀ (l : List Nat), nodupN l = true → ∀ j k i : Nat, l[j]? = some i → l[k]? = some i → j = k := by
    intro l
    induction l with
    | nil => intro _ j k i h; simp at h
    | cons x l ih =>
     intro hn j k i hj hk
     simp only [nodupN, Bool.and_eq_true, Bool.not_eq_true', List.any_eq_false] at hn
     cases j with
     | zero =>
      cases k with
      | zero => rfl
      | succ k =>
       simp at hj hk
       subst hj
       exact absurd (by simp) (hn.1 x (List.mem_of_getElem? hk))
     | succ j =>
      cases k with
      | zero =>
       simp at hj hk
       subst hk
       exact absurd (by simp) (hn.1 x (List.mem_of_getElem? hj))
      | succ k => simp at hj hk; rw [ih hn.2 j k i hj hk]
   exact aux seen hnd j k i h2 h4
  · have := hslt i (List.mem_of_getElem? h2); omega
  · have := hslt i (List.mem_of_getElem? h4); omega
  · omega
 let E2 : Env := fun j => if fr ≤ j then E1' (seen.length + (j - fr)) else E j
 have hE2 : ∀ k j, bk k = some j → E2 j = E1' k := fun k j h => by
  rcases hbkv k j h with ⟨h1, h2⟩ | ⟨h1, h2⟩
  ·
   have hlt := hslt j (List.mem_of_getElem? h2)
   have e1 : E2 j = E j := if_neg (by omega)
   rw [e1, ← hE k j h2]
   have := hfit.keys k (by show k < H.length; omega)
   exact this.symm
  ·
   subst h2
   have e1 : E2 (fr + (k - seen.length)) = E1' (seen.length + (fr + (k - seen.length) - fr)) := if_pos (by omega)
   rw [e1]; congr 1; omega
 have hth : ∀ j t', s2.th j = some t' → (∃ k t, look H' k = some t ∧ bk k = some j ∧ t' = t.map (AV.rn bk)) ∨ (G j = false ∧ ∃ t, s.th j = some t ∧ t' = t.map (AV.forget F)) := fun j t' h => by
  rw [← hs2] at h
  rcases look_hputs h with ⟨k, t, h1, h2, h3⟩ | h1
  · exact .inl ⟨k, t, look_mem hnd' h1, h2, h3⟩
  ·
   rw [look_hmap, look_hdrop] at h1
   obtain ⟨t, h2, h3⟩ := Option.map_eq_some_iff.1 h1
   split at h2
   · cases h2
   ·
    rename_i hg
    exact .inr ⟨by simpa using hg, t, h2, h3.symm⟩
 have hbkG : ∀ k j, bk k = some j → G j = true := fun k j h => by
  rw [hGk]
  rcases hbkv k j h with ⟨_, h2⟩ | ⟨_, h2⟩
  · exact .inl (List.mem_of_getElem? h2)
  · exact .inr (by omega)
 have hO : ∀ b, (∃ k t, look H k = some t ∧ blk (E1 k) = some b) → ∃ j t, G j = true ∧ s.th j = some t ∧ blk (E j) = some b := by
  rintro b ⟨k', t', hk, hb⟩
  rw [hH] at hk
  obtain ⟨k, t, h1, h2, _⟩ := look_rnHeap hk
  obtain ⟨_, h3⟩ := numb_mem seen 0 k k' h1
  simp only [Nat.sub_zero] at h3
  exact ⟨k, t, (hGk k).2 (.inl (List.mem_of_getElem? h3)), h2, by rw [← hE k' k h3]; exact hb⟩
 have hst : Step C E E2 s s2 w w' G F (AV.forget F) := by
  refine ⟨by rw [← hs2], hfit.keep.os, hfit.keep.tape, hfit.keep.output, hfit.keep.size, fun b hb hne => hfit.keep.block b hb fun hm => ?_, fun k hk => ?_, fun k hk => ?_, fun k t' hg hk => ?_, fun k t' hg hk b hb => ?_, fun k k' t t' hg hg' hk hk' hne b hb => ?_⟩
  ·
   obtain ⟨j, t, h1, h2, h3⟩ := hO b hm
   exact hne j t h1 h2 h3
  ·
   have hk := (hFk k).1 hk
   exact ⟨(hGk k).2 (.inr hk), by have := fresh_base s; omega⟩
  ·
   have : ¬ fr ≤ k := fun h => by rw [(hFk k).2 h] at hk; cases hk
   exact if_neg this
  ·
   rcases hth k t' hk with ⟨k0, t, _, h2, _⟩ | ⟨_, h⟩
   · rw [hbkG k0 k h2] at hg; cases hg
   · exact h
  ·
   rcases hth k t' hk with ⟨k0, t, h1, h2, _⟩ | ⟨h, _⟩
   ·
    rw [hE2 k0 k h2] at hb
    rcases (hfit.th k0 t h1).2 b hb with h3 | h3
    · exact .inl h3
    · exact .inr (hO b h3)
   · rw [hg] at h; cases h
  ·
   rcases hth k t hk with ⟨k0, t0, h1, h2, _⟩ | ⟨h, _⟩
   ·
    rcases hth k' t' hk' with ⟨k1, t1, h3, h4, _⟩ | ⟨h, _⟩
    ·
     rw [hE2 k0 k h2] at hb
     rw [hE2 k1 k' h4]
     exact hfit.dis k0 k1 t0 t1 h1 h3 (fun e => hne (by subst e; rw [h2] at h4; cases h4; rfl)) b hb
    · rw [hg'] at h; cases h
   · rw [hg] at h; cases h
 have hN : ∀ b, Stable (cx C.P C.gl w (Stable C E s w) E1 H) E1' ⟨H.length, [], H'⟩ w' b → Stable C E2 s2 w' b := fun b hb => by
  refine ⟨hb.1, ?_, ?_⟩
  ·
   rcases hb.2.1 with h1 | h1 | h1
   · exact h1.2.1
   · exact .inr (.inl (Nat.le_trans hsim.fit.keep.size h1))
   ·
    obtain ⟨j, t, _, h2, h3⟩ := hO b h1
    exact ((hsim.fit.th j t h2).2 b h3).elim (fun h => .inr (.inl h)) (fun h => .inr (.inr h))
  ·
   rintro ⟨j, t', hj, hbj⟩
   rcases hth j t' hj with ⟨k0, t, h1, h2, _⟩ | ⟨hg, t, h1, _⟩
   ·
    rw [hE2 k0 j h2] at hbj
    exact hb.2.2 ⟨k0, t, h1, hbj⟩
   ·
    have hFj : F j = false := by
     cases hF' : F j with
     | false => rfl
     | true => rw [(hst.new j hF').1] at hg; cases hg
    rw [hst.env j hFj] at hbj
    rcases hb.2.1 with h2 | h2 | h2
    · exact h2.2.2 ⟨j, t, h1, hbj⟩
    · exact absurd ((hsim.fit.th j t h1).1.lt hbj) (Nat.not_lt.2 h2)
    ·
     obtain ⟨i, u, h3, h4, h5⟩ := hO b h2
     exact hsim.fit.dis j i t u h1 h4 (fun e => by rw [e, h3] at hg; cases hg) b hbj h5
 have hV : ∀ x v, VA E1' w' (Stable (cx C.P C.gl w (Stable C E s w) E1 H) E1' ⟨H.length, [], H'⟩ w') x v → VA E2 w' (Stable C E2 s2 w') (x.rn bk) v := fun x v hx => VA.rn hE2 x v (VA.mono hN (fun _ _ _ h => h) hx)
 have hf2 : Fit C E2 s2 w' := hsim.fit.step hst (fun x v hx => hst.forget hx) fun k t' hg hk => by
  rcases hth k t' hk with ⟨k0, t, h1, h2, rfl⟩ | ⟨h, _⟩
  ·
   rw [hE2 k0 k h2]
   exact (hfit.th k0 t h1).1.kept hN (fun _ _ _ h => h) (fun _ _ => rfl) _ hV
  · rw [hg] at h; cases h
 refine ⟨E2, ?_⟩
 have hs3 : Sim C E2 s2 a w' := ⟨hf2, by
  have e : s2.tmps = s.tmps.map (AV.forget F) := by rw [← hs2]
  rw [e]
  exact VAs.map _ hsim.tm fun x v hx => hst.forget hx, hsim.df⟩
 refine ⟨hs3.put' dst (hV _ _ hret), ?_⟩
 have hkp : Kp seen C E s w E2 s2 w' := Step.kp hsim.fit hst (fun k t hg hk => by
   rw [← hs2]
   show ∃ t', look (hputs _ bk H') k = some t'
   exact look_hputs_some (by rw [look_hmap, look_hdrop, if_neg (by rw [hg]; decide)]; unfold St.th at hk; rw [hk]; exact ⟨_, rfl⟩)) (fun k t hg hk => by
   rcases (hGk k).1 hg with h | h
   · unfold inL; rw [List.any_eq_true]; exact ⟨k, h, by simp⟩
   · have := th_lt_fresh hk; omega)
 have := Kp.trans hkp (Kp.refl [] (s' := s2.put dst (ret.rn bk)) (by cases dst <;> rfl))
 rwa [List.append_nil] at this
def thawN (s : St) (xs : List AV) : List AV := xs.map (thaw s fun _ => false)
def stepCallA (P : Program) (orc : Orc) (o : Oper) (f : Operand) (args : List Operand) (s : St) : Option (St × List Prop × List Nat) :=
 match (s.ev f).asFn with
 | some (g, p, q) =>
  if callable P g then
   let as := thawN s (p ++ args.map s.ev ++ q)
   let seen := reach s.heap 400 (AV.keyss as) []
   let ms := numb 0 seen
   let H := rnHeap s.heap (lookN ms) ms
   if okMap 0 ms && H.length == seen.length && nodupN seen then
    match orc.fn g (as.map (AV.rn (lookN ms))) H with
    | some (ret, H', cs) => if nodupN (H'.map (·.1)) then
      if H.isEmpty && H'.isEmpty then some (s.put o.dst (ret.rn fun _ => none), cs, [])
      else some (s.back seen ret H' o.dst, cs, seen)
     else none
    | none => none
   else none
  else none
 | none => none
theorem stepCallA_ok {orc : Orc} (horc : OrcOK P orc) {o : Oper} {f : Operand} {args : Array Operand} {ty : Array TypeId} {cs : List Prop} {fr : List Nat} (ho : o.op = .call { callee := .value f, args := args, argTypes := ty })
  (h : stepCallA P orc o f args.toList s = some (s', cs, fr)) (hcs : Conds cs) : StepOK P orc.gl fr o s s' := by
 unfold stepCallA at h
 split at h
 ·
  rename_i g p q hf
  split at h
  ·
   rename_i hcall
   simp only at h
   split at h
   ·
    rename_i hc
    simp only [Bool.and_eq_true, beq_iff_eq] at hc
    obtain ⟨⟨hok, hlen⟩, hnd⟩ := hc
    split at h
    ·
     rename_i ret H' cs' horcg
     split at h
     ·
      rename_i hnd'
      constructor
      intro C E a w next Q hP hG hsim hn
      subst hP
      obtain ⟨ps, qs, hfv, hp, hq⟩ := asFn_ok (hsim.ev f) hf
      have hargs := (hp.append (VAs_map_ev hsim args.toList)).append hq
      generalize hseen : reach s.heap 400 (AV.keyss (thawN s (p ++ args.toList.map s.ev ++ q))) [] = seen at *
      have hsm : ∀ k ∈ seen, ∃ t, s.th k = some t := fun k hk => by
       rw [← hseen] at hk
       exact reach_mem s.heap 400 _ [] (fun k hk => (by cases hk)) k hk
      let E1 : Env := fun i => match seen[i]? with | some k => E k | none => undef
      have hE1 : ∀ i k, seen[i]? = some k → E1 i = E k := fun i k hk => by show (match seen[i]? with | some k => E k | none => undef) = _; rw [hk]
      have hE1' : ∀ k k', lookN (numb 0 seen) k = some k' → E1 k' = E k := fun k k' hk => by
       obtain ⟨_, h1⟩ := numb_mem seen 0 k k' (lookN_mem hk)
       exact hE1 k' k (by simpa using h1)
      obtain ⟨hfit, hS, hV⟩ := hsim.fit.handed hok rfl hE1'
      have hargs2 : VAs E w (Stable C E s w) (thawN s (p ++ args.toList.map s.ev ++ q)) (ps ++ args.toList.map a.eval ++ qs) :=
       VAs.map _ hargs fun x v hx => thaw_VA hsim.fit (fun _ h => h) (fun k t hg => (by cases hg)) hx
      have hargs3 := VAs.map (AV.rn (lookN (numb 0 seen))) hargs2 hV
      have hspec := horc g _ _ ret H' cs' horcg
      refine call_wp ho hcall hfv ?_
      split at h
      ·
       rename_i hemp
       simp only [Bool.and_eq_true, List.isEmpty_iff] at hemp
       simp only [Option.some.injEq, Prod.mk.injEq] at h
       obtain ⟨rfl, rfl, rfl⟩ := h
       have hspec := hspec hcs
       rw [← hG] at hspec
       refine (hspec w (Stable C E s w) E1 _ hfit hargs3).mono ?_
       rintro e w' ⟨v, E1', rfl, h1, h2⟩
       refine ⟨v, rfl, ?_⟩
       have hbel : Below w.heap.size w w' := ⟨h1.keep.os, h1.keep.tape, h1.keep.output, h1.keep.size, fun b hb => h1.keep.block b hb fun ⟨k, t, hk, _⟩ => by rw [hemp.1] at hk; cases hk⟩
       have hs2 := hsim.ext hbel
       refine hn _ _ _ (hs2.put' o.dst ?_) (Kp.trans (ext_kp hsim.fit hbel []) (Kp.refl [] (by cases o.dst <;> rfl)))
       refine VA.rn (E := E1') (fun k k' h => (by cases h)) ret v (VA.mono (fun b hb => ⟨hb.1, ?_, fun hm => ?_⟩) (fun _ _ _ h => h) h2)
       ·
        rcases hb.2.1 with h3 | h3 | ⟨k, t, h3, _⟩
        · exact h3.2.1
        · exact .inr (.inl (Nat.le_trans hsim.fit.keep.size h3))
        · rw [hemp.1] at h3; cases h3
       ·
        rcases hb.2.1 with h3 | h3 | ⟨k, t, h3, _⟩
        · exact h3.2.2 hm
        · exact absurd (hsim.fit.mut_lt hm).1 (Nat.not_lt.2 h3)
        · rw [hemp.1] at h3; cases h3
      ·
       simp only [Option.some.injEq, Prod.mk.injEq] at h
       obtain ⟨rfl, rfl, rfl⟩ := h
       have hspec := hspec hcs
       rw [← hG] at hspec
       refine (hspec w (Stable C E s w) E1 _ hfit hargs3).mono ?_
       rintro e w' ⟨v, E1', rfl, h1, h2⟩
       refine ⟨v, rfl, ?_⟩
       obtain ⟨E2, hs2, hkp⟩ := back_sim hsim hsm hnd hnd' rfl hlen hE1 h1 h2 o.dst
       exact hn _ _ _ hs2 hkp
     · cases h
    · cases h
   · cases h
  · cases h
 · cases h
def stepCallB (P : Program) (orc : Orc) (o : Oper) (f : Operand) (args : List Operand) (s : St) : Option (St × List Prop × List Nat) :=
 match (s.ev f).asFn with
 | some (g, p, q) =>
  if callable P g then
   let as := (p ++ args.map s.ev ++ q).map (thaw s fun _ => true)
   if (AV.keyss as).isEmpty then
    match orc.fn g as [] with
    | some (ret, [], cs) => if ret.flat then some (s.put o.dst ret, cs, []) else none
    | _ => none
   else none
  else none
 | none => none
theorem stepCallB_ok {orc : Orc} (horc : OrcOK P orc) {o : Oper} {f : Operand} {args : Array Operand} {ty : Array TypeId} {cs : List Prop} {fr : List Nat} (ho : o.op = .call { callee := .value f, args := args, argTypes := ty })
  (h : stepCallB P orc o f args.toList s = some (s', cs, fr)) (hcs : Conds cs) : StepOK P orc.gl fr o s s' := by
 unfold stepCallB at h
 split at h
 ·
  rename_i g p q hf
  split at h
  ·
   rename_i hcall
   simp only at h
   split at h
   ·
    split at h
    ·
     rename_i ret cs' horcg
     split at h
     ·
      rename_i hflat
      simp only [Option.some.injEq, Prod.mk.injEq] at h
      obtain ⟨rfl, rfl, rfl⟩ := h
      constructor
      intro C E a w next Q hP hG hsim hn
      subst hP
      obtain ⟨ps, qs, hfv, hp, hq⟩ := asFn_ok (hsim.ev f) hf
      have hargs := (hp.append (VAs_map_ev hsim args.toList)).append hq
      have hspec := horc g _ _ ret [] cs' horcg hcs
      rw [← hG] at hspec
      refine call_wp ho hcall hfv ?_
      have hargs2 : VAs E w (fun b => b < w.heap.size) ((p ++ args.toList.map s.ev ++ q).map (thaw s fun _ => true)) (ps ++ args.toList.map a.eval ++ qs) :=
       VAs.map _ hargs fun x v hx => thaw_VA hsim.fit (fun b hb => hb.1) (fun k t _ hk b hb => (hsim.fit.th k t hk).1.lt hb) hx
      have hno : ∀ k : Nat, ¬ ∃ t, look ([] : List (Nat × Th)) k = some t := fun k ⟨t, h⟩ => by cases h
      have hfit : Fit (cx C.P C.gl w (fun b => b < w.heap.size) E []) E ⟨0, [], []⟩ w := by
       refine ⟨rfl, fun b hb => ⟨hb, fun ⟨k, t, h, _⟩ => hno k ⟨t, h⟩⟩, ⟨rfl, rfl, rfl, Nat.le_refl _, fun _ _ _ => rfl⟩, fun _ _ => rfl, fun k t h => (by cases h), fun k k' t t' h => (by cases h), ?_⟩
       intro g cs hcs
       obtain ⟨h1, vs, h2, h3, h4⟩ := hsim.fit.gl g cs hcs
       exact ⟨(hsim.fit.n0_stable h1).1, vs, VCs.imp (fun b hb => (hsim.fit.n0_stable hb).1) (fun a v ha hc => hsim.fit.n0_cell ha hc) _ _ h2, fun j u hu => hsim.fit.n0_cell h1 (h3 j u hu), fun hl => (hsim.fit.n0_whole h1).trans (h4 hl)⟩
      refine (hspec w (fun b => b < w.heap.size) E _ hfit (VAs.mono (fun b hb => ⟨hb, .inl hb, fun ⟨k, t, h, _⟩ => hno k ⟨t, h⟩⟩) (fun _ _ _ h => h) hargs2)).mono ?_
      rintro e w' ⟨v, E1', rfl, h1, h2⟩
      refine ⟨v, rfl, ?_⟩
      have hbel : Below w.heap.size w w' := ⟨h1.keep.os, h1.keep.tape, h1.keep.output, h1.keep.size, fun b hb => h1.keep.block b hb fun ⟨k, t, hk, _⟩ => hno k ⟨t, hk⟩⟩
      exact hn _ _ _ ((hsim.ext hbel).put' o.dst (VA_flat hflat h2)) (Kp.trans (ext_kp hsim.fit hbel []) (Kp.refl [] (by cases o.dst <;> rfl)))
     · cases h
    · cases h
   · cases h
  · cases h
 · cases h
def rowKeys (H : List (Nat × Th)) : List AV → List Nat
 | [] => []
 | x :: xs => (x.keys.filter fun k => match look H k with | some (.row ..) => true | _ => false) ++ rowKeys H xs
def stepCall (P : Program) (orc : Orc) (o : Oper) (f : Operand) (args : List Operand) (s : St) : Option (St × List Prop × List Nat) :=
 match (s.ev f).asFn with
 | some (g, p, q) =>
  if orc.lists g then
   match stepCallB P orc o f args s with
   | some r => some r
   | none =>
    let ks := rowKeys s.heap (p ++ args.map s.ev ++ q)
    stepCallA P orc o f args (s.dropTh (fun k => ks.any (· == k)) (thaw s fun k => ks.any (· == k)))
  else stepCallA P orc o f args s
 | none => none
theorem stepCall_ok {orc : Orc} (horc : OrcOK P orc) {o : Oper} {f : Operand} {args : Array Operand} {ty : Array TypeId} {cs : List Prop} {fr : List Nat} (ho : o.op = .call { callee := .value f, args := args, argTypes := ty })
  (h : stepCall P orc o f args.toList s = some (s', cs, fr)) (hcs : Conds cs) : StepOK P orc.gl fr o s s' := by
 unfold stepCall at h
 split at h
 ·
  rename_i g p q hf
  split at h
  ·
   split at h
   ·
    rename_i r hr
    cases h
    exact stepCallB_ok horc ho hr hcs
   ·
    constructor
    intro C E a w next Q hP hG hsim hn
    exact (stepCallA_ok horc ho h hcs).out next Q hP hG (hsim.freeze _) fun E' a' w' hs hkp => hn E' a' w' hs (by
     have := Kp.trans (dropTh_kp hsim.fit (fun k => (rowKeys s.heap (p ++ args.toList.map s.ev ++ q)).any (· == k)) (thaw s fun k => (rowKeys s.heap (p ++ args.toList.map s.ev ++ q)).any (· == k)) []) hkp
     rwa [List.nil_append] at this)
  · exact stepCallA_ok horc ho h hcs
 · cases h
end Go.Eng
