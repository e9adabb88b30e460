/-
  Part of the engine: abstract states of a call (values as trees, things of the call's own), and that each operation of the model does to the world what it does to them. No condition.
-/
import Derived.Test.YtmgfgcoeflanmaaDoorEng19
namespace Go.Eng
open Go Go.RowKit Go.Lib
variable {P : Program} {gl : Nat → Option (List D)} {C : Cx} {E E' : Env} {s s' : St} {a : Act} {w w' : World}
/-- (conditions on numerals, told shortly) -/
abbrev Ix (a b : Int) : Prop := (0 : Int) ≤ a ∧ a < b
abbrev Nz (a : Int) : Prop := a ≠ (0 : Int)
abbrev Nn (a : Int) : Prop := (0 : Int) ≤ a
/-- Known bools as data. -/
theorem Sim.dats (h : Sim C E s a w) : Sim C E { s with tmps := s.tmps.map AV.dat } a w :=
  ⟨h.fit.tmps _, VAs.map _ h.tm fun _ _ hx => AV.dat_VA hx, h.df⟩
/-- A row whose elements are told in another way. -/
theorem Sim.rowEq (h : Sim C E s a w) {k T sz n : Nat} {el : Nat → D} (hk : s.th k = some (.row T sz n el)) (el' : Nat → D) (he : ∀ i, i < n → el i = el' i) : ∃ E', Sim C E' (s.setTh k (.row T sz n el')) a w :=
  (Says.th (C := C) hk fun {E w N v} ht => by
    obtain ⟨vs, h1, h2⟩ := ht
    exact ⟨vs, h1, fun i hi => by rw [← he i hi]; exact h2 i hi⟩).out E a w h
theorem Says.rowEq {k T sz n : Nat} {el : Nat → D} (hk : s.th k = some (.row T sz n el)) (el' : Nat → D) (he : ∀ i, i < n → el i = el' i) : Says C s (s.setTh k (.row T sz n el')) :=
  Says.th (C := C) hk fun {E w N v} ht => by
    obtain ⟨vs, h1, h2⟩ := ht
    exact ⟨vs, h1, fun i hi => by rw [← he i hi]; exact h2 i hi⟩
/-- A result told in another way. -/
theorem Says.tmp {b : Nat} {x y : D} {H : List (Nat × Th)} (h : SaysD x y) : Says C ⟨b, [.d x], H⟩ ⟨b, [.d y], H⟩ := ⟨fun E a w hs => ⟨E, hs.fit.tmps _, by
  have h1 := hs.tm
  show VAs E w (Stable C E ⟨b, [.d x], H⟩ w) [.d y] a.tmps.toList
  change VAs E w (Stable C E ⟨b, [.d x], H⟩ w) [.d x] a.tmps.toList at h1
  rw [VAs_cons] at h1 ⊢
  obtain ⟨v, vs, e, h2, h3⟩ := h1
  refine ⟨v, vs, e, ?_, h3⟩
  unfold VA at h2 ⊢; exact h.out _ _ _ h2, hs.df⟩⟩
theorem cx_congr {H H1 : List (Nat × Th)} {w : World} {N : Nat → Prop} {E : Env} (hl : H.length = H1.length) (hk : ∀ k, (look H k).isSome = (look H1 k).isSome) : cx P gl w N E H = cx P gl w N E H1 := by
  have hO : (fun b => ∃ k t, look H k = some t ∧ blk (E k) = some b) = (fun b => ∃ k t, look H1 k = some t ∧ blk (E k) = some b) := by
    funext b
    refine propext ⟨?_, ?_⟩
    · rintro ⟨k, t, h1, h2⟩
      obtain ⟨u, hu⟩ := Option.isSome_iff_exists.1 ((hk k).symm.trans (by rw [h1]; rfl))
      exact ⟨k, u, hu, h2⟩
    · rintro ⟨k, t, h1, h2⟩
      obtain ⟨u, hu⟩ := Option.isSome_iff_exists.1 ((hk k).trans (by rw [h1]; rfl))
      exact ⟨k, u, hu, h2⟩
  unfold cx
  rw [hl, hO]
/-- Things handed over that are told in another way. -/
theorem Spec.hand {g : FuncId} {args : List AV} {H H1 : List (Nat × Th)} {ret : AV} {H' : List (Nat × Th)} (h : Spec P gl g args H1 ret H') (hl : H.length = H1.length) (hk : ∀ k, (look H k).isSome = (look H1 k).isSome)
    (ht : ∀ k t0 t, look H k = some t0 → look H1 k = some t → ∀ {E : Env} {w : World} {N : Nat → Prop} {v : Value}, ThOK P E w N t0 v → ThOK P E w N t v) : Spec P gl g args H ret H' := by
  intro w N E vs hf hv
  have e := cx_congr (P := P) (gl := gl) (w := w) (N := N) (E := E) hl hk
  have key : ∀ k t, look H1 k = some t → ∃ t0, look H k = some t0 := fun k t h1 => Option.isSome_iff_exists.1 ((hk k).trans (by rw [h1]; rfl))
  have key' : ∀ k t, look H k = some t → ∃ t0, look H1 k = some t0 := fun k t h1 => Option.isSome_iff_exists.1 ((hk k).symm.trans (by rw [h1]; rfl))
  have hS : ∀ b, Stable (cx P gl w N E H1) E ⟨H.length, [], H⟩ w b → Stable (cx P gl w N E H1) E ⟨H1.length, [], H1⟩ w b := fun b hb => ⟨hb.1, hb.2.1, fun ⟨k, t, h1, h2⟩ => by
    obtain ⟨t0, h3⟩ := key k t h1
    exact hb.2.2 ⟨k, t0, h3, h2⟩⟩
  have hfit : Fit (cx P gl w N E H1) E ⟨H1.length, [], H1⟩ w := by
    rw [e] at hf
    refine ⟨rfl, hf.low, hf.keep, hf.keys, fun k t h1 => ?_, fun k k' t t' h1 h2 hne => ?_, hf.gl⟩
    · obtain ⟨t0, h3⟩ := key k t h1
      have h4 := hf.th k t0 h3
      refine ⟨?_, h4.2⟩
      have h5 := h4.1.kept (f := fun x => x) hS (fun _ _ _ h => h) (fun _ _ => rfl) (fun x u hx => VA.mono hS (fun _ _ _ h => h) hx)
      rw [Th.map_id] at h5
      exact ht k t0 t h3 h1 h5
    · obtain ⟨t0, h3⟩ := key k t h1
      obtain ⟨t0', h4⟩ := key k' t' h2
      exact hf.dis k k' t0 t0' h3 h4 hne
  have hv' := hv
  rw [e] at hv'
  have := h w N E vs hfit (VAs.mono hS (fun _ _ _ h => h) hv')
  rw [e, hl]; exact this
theorem ThOK.rowEq {E : Env} {w : World} {N : Nat → Prop} {T sz n : Nat} {el el' : Nat → D} {v : Value} (he : ∀ i, i < n → el i = el' i) (h : ThOK P E w N (.row T sz n el) v) : ThOK P E w N (.row T sz n el') v := by
  obtain ⟨vs, h1, h2⟩ := h
  exact ⟨vs, h1, fun i hi => by rw [← he i hi]; exact h2 i hi⟩
/-- A row handed over that is told in another way. -/
theorem Spec.rowArg {g : FuncId} {args : List AV} {T sz n : Nat} {el el' : Nat → D} {ret : AV} {H' : List (Nat × Th)} (h : Spec P gl g args [(0, .row T sz n el')] ret H') (he : ∀ i, i < n → el i = el' i) : Spec P gl g args [(0, .row T sz n el)] ret H' :=
  h.hand rfl (fun k => by simp only [look]; split <;> rfl) fun k t0 t h1 h2 => by
    simp only [look] at h1 h2
    split at h1
    · rename_i e; rw [if_pos e] at h2; cases h1; cases h2; exact ThOK.rowEq he
    · cases h1
/-- A nil slice as a row of the call's own. -/
theorem Sim.nilRow (h : Sim C E s a w) {t : Nat} (ht : s.tmps[t]? = some (.d (.raw (.slice none 0 0)))) (T sz : Nat) (el : Nat → D) :
    ∃ E', Sim C E' { s.newTh none s.fresh (.row T sz 0 el) with tmps := (s.newTh none s.fresh (.row T sz 0 el)).tmps.set t (.own s.fresh) } a w := by
  obtain ⟨h1, h2, h3, h4⟩ := h.fit.newTh (w' := w) none s.fresh (fresh_base s) (.row T sz 0 el) (.slice none 0 0) rfl rfl rfl (Nat.le_refl _) (fun _ _ _ => rfl) (fun b hb => by cases hb)
    (fun {E' N'} _ _ _ _ => ⟨[], ⟨by simp, .inl ⟨rfl, rfl⟩⟩, fun i hi => absurd hi (by omega)⟩)
  have h5 : Sim C (E.set s.fresh (.slice none 0 0)) (s.newTh none s.fresh (.row T sz 0 el)) a w := ⟨h1, h.newTh_tm h4, h.df⟩
  obtain ⟨v, h6, h7⟩ := h.tm.get t _ ht
  unfold VA at h7
  have hv := (VD_raw_inv h7).1
  subst hv
  exact ⟨_, h5.retell (by rw [← Array.getElem?_toList]; exact h6) (by unfold VA; exact ⟨by simp [Env.set], none, 0, 0, rfl⟩)⟩
theorem size_ba (b : ByteArray) : b.size = b.data.toList.length := (Array.length_toList (xs := b.data)).symm
theorem toList_ba (b : ByteArray) : b.toList = b.data.toList := by
  have key : ∀ (n i : Nat) (r : List UInt8), b.size - i = n → ByteArray.toList.loop b i r = r.reverse ++ b.data.toList.drop i := by
    intro n
    induction n with
    | zero =>
      intro i r h
      unfold ByteArray.toList.loop
      have hs : b.size = b.data.toList.length := size_ba b
      rw [if_neg (by omega), List.drop_eq_nil_of_le (by omega), List.append_nil]
    | succ n ih =>
      intro i r h
      unfold ByteArray.toList.loop
      have hs : b.size = b.data.toList.length := size_ba b
      rw [if_pos (by omega), ih (i + 1) _ (by omega)]
      rw [List.drop_eq_getElem_cons (by omega : i < b.data.toList.length)]
      simp only [List.reverse_cons, List.append_assoc, List.cons_append, List.nil_append]
      congr 2
      have hi : i < b.data.size := by rw [← Array.length_toList]; omega
      show b.data[i]! = _
      rw [getElem!_pos b.data i hi, Array.getElem_toList]
  have := key b.size 0 [] (by simp)
  simpa [ByteArray.toList] using this
theorem extract_ba (b : ByteArray) (i j : Nat) : (b.extract i j).data.toList = (b.data.toList.drop i).take (j - i) := by
  rw [ByteArray.data_extract, Array.toList_extract, List.extract_eq_take_drop]
theorem append_ba (a b : ByteArray) : (a ++ b).data.toList = a.data.toList ++ b.data.toList := by
  simp [ByteArray.data_append]
theorem ext_ba {a b : ByteArray} (h : a.data.toList = b.data.toList) : a = b := by
  cases a; cases b; simp only [ByteArray.mk.injEq]; exact Array.toList_inj.1 h
theorem empty_ba : ByteArray.empty.data.toList = [] := rfl
theorem beq_empty (b : ByteArray) : (b.toList == ByteArray.empty.toList) = (b.size == 0) := by
  rw [toList_ba, toList_ba, size_ba, empty_ba]
  cases b.data.toList <;> rfl
theorem beq_ba (a b : ByteArray) : (a.toList == b.toList) = decide (a = b) := by
  rw [toList_ba, toList_ba]
  by_cases h : a = b
  · subst h; simp
  · have : a.data.toList ≠ b.data.toList := fun e => h (ext_ba e)
    rw [decide_eq_false h]; exact beq_eq_false_iff_ne.2 this
theorem byteAt_lt (b : ByteArray) (i : Nat) : 0 ≤ byteAt b i ∧ byteAt b i < 256 := by
  unfold byteAt
  have := (b.data.toList.getD i 0).toNat_lt
  omega
theorem byteAt_out (b : ByteArray) (i : Nat) (h : b.size ≤ i) : byteAt b i = 0 := by
  unfold byteAt
  rw [List.getD_eq_getElem?_getD, List.getElem?_eq_none (by rw [← size_ba]; exact h)]; rfl
/-- What is told of no package-level variable holds where some are told. -/
theorem Spec.glAny {g : FuncId} {args : List AV} {H : List (Nat × Th)} {ret : AV} {H' : List (Nat × Th)} (h : Spec P (fun _ => none) g args H ret H') : Spec P gl g args H ret H' := by
  intro w N E vs hf hv
  refine (h w N E vs ⟨hf.base, hf.low, hf.keep, hf.keys, hf.th, hf.dis, fun g cs h => by cases h⟩ hv).mono ?_
  rintro e w' ⟨v, E', rfl, h1, h2⟩
  exact ⟨v, E', rfl, ⟨h1.base, h1.low, h1.keep, h1.keys, h1.th, h1.dis, hf.gl⟩, h2⟩
/-- The contract of a callee that writes nothing that was there, and that may read what is told of the package-level variables; its answer is data. -/
theorem Spec.pureG {g : FuncId} {args : List AV} {ret : AV}
    (h : ∀ (w : World) (N : Nat → Prop) (E : Env) (vs : List Value), (∀ g cs, gl g = some cs → N g ∧ ∃ us, VCs w N cs us ∧ (∀ j u, us[j]? = some u → w.cell? ⟨g, j, none⟩ = some u) ∧ (cs.length ≠ 1 → wholeOf w g = some us.toArray)) → VAs E w N args vs → (∀ b, N b → b < w.heap.size) →
      Calls P g vs.toArray w fun e w' => ∃ v, e = .returned v ∧ Below w.heap.size w w' ∧ VA E w' (fun b => b < w'.heap.size ∧ (N b ∨ w.heap.size ≤ b)) ret v) : Spec P gl g args [] ret [] := by
  intro w N E vs hfit hvs
  refine (h w (Stable (cx P gl w N E []) E ⟨0, [], []⟩ w) E vs (fun g cs hg => ?_) hvs fun b hb => hb.1).mono ?_
  · obtain ⟨h1, us, h2, h3, h4⟩ := hfit.gl g cs hg
    exact ⟨hfit.n0_stable h1, us, VCs.imp (fun b hb => hfit.n0_stable hb) (fun a v ha hc => hc) _ _ h2, h3, h4⟩
  · rintro e w' ⟨v, rfl, hb, hv⟩
    refine ⟨v, E, rfl, (hfit.ext hb).1, VA.mono (fun b h => ?_) (fun _ _ _ h => h) hv⟩
    obtain ⟨h1, h2⟩ := h
    refine ⟨h1, ?_, fun ⟨k, t, hk, _⟩ => by cases hk⟩
    rcases h2 with h2 | h2
    · exact h2.2.1
    · exact .inr (.inl h2)
end Go.Eng
