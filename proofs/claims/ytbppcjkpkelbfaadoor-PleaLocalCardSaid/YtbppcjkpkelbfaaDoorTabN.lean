/-
  Contracts of given functions, plain laws. No condition.
-/
import Derived.Test.YtbppcjkpkelbfaaDoorTab3
import Derived.Test.YtbppcjkpkelbfaaDoorTab1
import Derived.Test.YtbppcjkpkelbfaaDoorMapE
import Derived.Test.YtbppcjkpkelbfaaDoorRef4
namespace Go.Tab
open Go Go.Eng Go.Proofs
set_option maxRecDepth 100000
set_option maxHeartbeats 4000000
theorem sim_th {C : Cx} {E : Env} {s : St} {a : Act} {w : World} (hs : Sim C E s a w) {k : Nat} {t t' : Th} (hk : s.th k = some t) (h : ∀ (N : Nat → Prop) (v : Value), ThOK C.P E w N t v → ThOK C.P E w N t' v) : Sim C E (s.setTh k t') a w := by
 have st : Step C E E s (s.setTh k t') w w _ _ _ := Step.set' k t hk t' rfl rfl rfl (Nat.le_refl _) (fun _ _ _ => rfl)
 have hN : ∀ b, Stable C E s w b → Stable C E (s.setTh k t') w b := st.stable
 refine ⟨hs.fit.step st (fun x v hx => VA.mono hN (fun _ _ _ h => h) hx) (fun i t1 hi h1 => ?_), VAs.mono hN (fun _ _ _ h => h) hs.tm, hs.df⟩
 have e : i = k := by simpa [eqk] using hi
 subst e
 rw [St.setTh_th, if_pos rfl] at h1
 cases h1
 have h2 := (hs.fit.th i t hk).1
 have h3 : ThOK C.P E w (Stable C E (s.setTh i t') w) t (E i) := by
  have := h2.kept (f := fun x => x) hN (fun _ _ _ h => h) (fun _ _ => rfl) (fun x u hx => VA.mono hN (fun _ _ _ h => h) hx)
  rwa [Th.map_id] at this
 exact h _ _ h3
theorem new_says {C : Cx} (T R : TypeId) (el : Nat → D) : Says C ⟨0, [.ref 0 0], [(0, .obj T [.d (.raw (.slice none 0 0))])]⟩ ⟨0, [.ref 0 0], [(0, .obj T [.own 1]), (1, .row R 2 0 el)]⟩ := ⟨fun E a w hs => by
 obtain ⟨h1, h2, h3, h4⟩ := hs.fit.newTh (w' := w) none 1 (Nat.zero_le _) (.row R 2 0 el) (.slice none 0 0) rfl rfl rfl (Nat.le_refl _) (fun _ _ _ => rfl) (fun b hb => by cases hb)
  (fun {E' N'} _ _ _ _ => ⟨[], ⟨by simp, .inl ⟨rfl, rfl⟩⟩, fun i hi => absurd hi (by omega)⟩)
 have h5 : Sim C (E.set 1 (.slice none 0 0)) (St.newTh ⟨0, [.ref 0 0], [(0, .obj T [.d (.raw (.slice none 0 0))])]⟩ none 1 (.row R 2 0 el)) a w := ⟨h1, hs.newTh_tm h4, hs.df⟩
 exact ⟨_, sim_th h5 (k := 0) (t := .obj T [.d (.raw (.slice none 0 0))]) rfl (t' := .obj T [.own 1]) fun N v h => by
  obtain ⟨b, vs, e1, e2, e3⟩ := h
  refine ⟨b, vs, e1, e2, ?_⟩
  rw [VAs_cons] at e3 ⊢
  obtain ⟨x, xs, rfl, hx, hxs⟩ := e3
  refine ⟨x, xs, rfl, ?_, by unfold VAs at hxs ⊢; exact hxs⟩
  unfold VA at hx ⊢
  rw [(VD_raw_inv hx).1]
  exact ⟨by simp [Env.set], none, 0, 0, rfl⟩⟩⟩
theorem new_ok : Eng.Spec Tryd.prog g0 58 [] [] (.ref 0 0) (tab0 []) := by
 refine spec_fn Tryd.func58 rfl fun {w N E a} hsim => ?_
 let l : List Rw := []
 exact gs C0_ok Tryd.func58 (sr' := ⟨0, [.ref 0 0], [(0, .obj 145 [.d (.raw (Value.slice none 0 0))])]⟩) (cs := []) [] true trivial (by exact new_says _ _ _) hsim
end Go.Tab

namespace Go.Tab
open Go Go.Eng Go.Proofs
theorem sorted_of {l : List Rw} (h : ∀ i j, i < j → j < l.length → ltB (l.getD i (ByteArray.empty, ByteArray.empty)).1 (l.getD j (ByteArray.empty, ByteArray.empty)).1 = true) : Sorted l :=
 List.pairwise_iff_getElem.2 fun i j hi hj hij => by
  have := h i j hij hj
  rwa [getD_get hi, getD_get hj] at this
theorem getD_mem {l : List Rw} {i : Nat} (h : i < l.length) : l.getD i (ByteArray.empty, ByteArray.empty) ∈ l := by rw [getD_get h]; exact List.getElem_mem h
theorem put_tidy {l : List Rw} (h : Tidy l) {key val : ByteArray} (hk : 0 < key.size ∧ key.size ≤ 16) (hv : val.size ≤ 64) (hf : fullM l key = false) : Tidy (putM l key val) := by
 have hp := posM_le l key
 cases hh : hasM l key with
 | true =>
  obtain ⟨h1, h2⟩ := hasM_true h.sorted hh
  have e : putM l key val = l.set (posM l key) (key, val) := by unfold putM; rw [hh]; rfl
  have eg : ∀ i, ((l.set (posM l key) (key, val)).getD i (ByteArray.empty, ByteArray.empty)).1 = (l.getD i (ByteArray.empty, ByteArray.empty)).1 := fun i => by
   by_cases hi : i = posM l key
   · subst hi; rw [h2]; simp [List.getD, h1]
   · simp [List.getD, List.getElem?_set, Ne.symm hi]
  rw [e]
  refine ⟨sorted_of fun i j hij hj => ?_, by simpa using h.few, fun r hr => ?_⟩
  · rw [eg, eg]; exact sorted_lt h.sorted hij (by simpa using hj)
  ·
   rcases List.mem_or_eq_of_mem_set hr with hr | rfl
   · exact h.sized r hr
   · exact ⟨hk.1, hk.2, hv⟩
 | false =>
  have hlen : l.length ≠ 16 := by unfold fullM at hf; rw [hh] at hf; simpa using hf
  have hfew := h.few
  have e : putM l key val = l.take (posM l key) ++ (key, val) :: l.drop (posM l key) := by unfold putM; rw [hh]; rfl
  rw [e]
  refine ⟨?_, by simp; omega, fun r hr => ?_⟩
  ·
   have hgt : ∀ r ∈ l.drop (posM l key), ltB key r.1 = true := fun r hr => by
    obtain ⟨j, hj, rfl⟩ := List.getElem_of_mem hr
    rw [List.getElem_drop]
    have hjl : posM l key + j < l.length := by simp at hj; omega
    have h0 := posM_hi l key (by omega)
    have hne : (l.getD (posM l key) (ByteArray.empty, ByteArray.empty)).1 ≠ key := fun he => by
     rw [hasM_pos h.sorted, he] at hh
     have : posM l key < l.length := by omega
     simp [this] at hh
    have h3 : ltB key (l.getD (posM l key) (ByteArray.empty, ByteArray.empty)).1 = true := by
     cases hx : ltB key (l.getD (posM l key) (ByteArray.empty, ByteArray.empty)).1
     · exact absurd (ltB_tri h0 hx) hne
     · rfl
    cases j with
    | zero => rw [getD_get (by omega)] at h3; exact h3
    | succ j =>
     have := ltB_trans h3 (sorted_lt h.sorted (i := posM l key) (j := posM l key + (j + 1)) (by omega) hjl)
     rwa [getD_get hjl] at this
   have hlt : ∀ r ∈ l.take (posM l key), ltB r.1 key = true := fun r hr => by
    obtain ⟨j, hj, rfl⟩ := List.getElem_of_mem hr
    rw [List.getElem_take]
    have hjp : j < posM l key := by simp at hj; omega
    have := posM_lo l key j hjp
    rwa [getD_get (by omega)] at this
   refine List.pairwise_append.2 ⟨h.sorted.sublist (List.take_sublist _ _), List.pairwise_cons.2 ⟨hgt, h.sorted.sublist (List.drop_sublist _ _)⟩, fun a ha b hb => ?_⟩
   rcases List.mem_cons.1 hb with rfl | hb
   · exact hlt a ha
   · exact ltB_trans (hlt a ha) (hgt b hb)
  ·
   rcases List.mem_append.1 hr with hr | hr
   · exact h.sized r (List.mem_of_mem_take hr)
   ·
    rcases List.mem_cons.1 hr with rfl | hr
    · exact ⟨hk.1, hk.2, hv⟩
    · exact h.sized r (List.mem_of_mem_drop hr)
theorem erase_tidy {l : List Rw} (h : Tidy l) (i : Nat) : Tidy (l.eraseIdx i) :=
 ⟨h.sorted.sublist (List.eraseIdx_sublist _ _), Nat.le_trans (List.eraseIdx_sublist l i).length_le h.few, fun r hr => h.sized r ((List.eraseIdx_sublist l i).mem hr)⟩
theorem check_sizes {k : Int} {key val old : ByteArray} (h : checkM k key val old = 0) : (1 ≤ k ∧ k ≤ 5) ∧ (0 < key.size ∧ key.size ≤ 16) ∧ val.size ≤ 64 ∧ old.size ≤ 64 := by
 unfold checkM at h
 split at h
 · cases h
 ·
  split at h
  · cases h
  · omega
theorem do_tidy {l : List Rw} (h : Tidy l) (k : Int) (key val old : ByteArray) : Tidy (doM l k key val old).2.2 := by
 unfold doM
 split
 ·
  rename_i hc
  obtain ⟨_, hk, hv, _⟩ := check_sizes hc
  split
  ·
   split
   · exact h
   · rename_i hf; exact put_tidy h hk hv (Bool.eq_false_iff.2 hf)
  ·
   split
   ·
    split
    · exact h
    ·
     rename_i hf
     split
     · rename_i hs; exact put_tidy h hk hs (Bool.eq_false_iff.2 hf)
     · exact h
   ·
    split
    ·
     rename_i hh
     have hf : fullM l key = false := by unfold fullM; rw [hh]; rfl
     split
     · exact erase_tidy h _
     ·
      split
      ·
       split
       · exact put_tidy h hk hv hf
       · exact h
      · exact h
    · exact h
 · exact h
end Go.Tab

namespace Go.Prf
open Go Go.Eng Go.Proofs Go.RowKit Go.Tab Go.Plc
set_option maxRecDepth 100000
set_option maxHeartbeats 4000000
abbrev MoOK (P : Program) (gl : Nat → Option (List D)) (f : FuncId) (mo : Mo) : Prop := ∀ args H r H' cs, mo args H = some (r, H', cs) → Conds cs → Eng.Spec P gl f args H r H'
theorem mTN_ok : MoOK Tryd.prog gz0 58 mTN := fun args H ret H' cs h hc => by
 unfold mTN at h
 split at h
 · cases h; exact Go.Tab.new_ok
 · cases h
theorem A0_ok : OrcOK Tryd.prog A0 := (OrcOK.none _).add _ false _ mTN_ok
theorem newTables_ok : Eng.Spec Tryd.prog (fun _ => none) 50 [] [] (rfs) (tabs T0) := by
 refine spec_fn Tryd.func50 rfl fun {w N E act} hsim => ?_
 let u : Int := 0
 exact gr A0_ok Tryd.func50 (sr' := ⟨0, [.agg [.ref 0 0, .ref 2 0, .ref 4 0, .ref 6 0]], [(0, .obj 145 [.own 1]), (1, .row 148 2 0 (rowEl [])), (2, .obj 145 [.own 3]), (3, .row 148 2 0 (rowEl [])), (4, .obj 145 [.own 5]), (5, .row 148 2 0 (rowEl [])), (6, .obj 145 [.own 7]), (7, .row 148 2 0 (rowEl []))]⟩) (cs := [((true) = true), (Ix 0 4), ((true) = true), (Ix 1 4), ((true) = true), (Ix 2 4), ((true) = true), (Ix 3 4), ((false) = false)]) ((List.replicate 13 true) ++ [false]) true ⟨rfl, (by decide), rfl, (by decide), rfl, (by decide), rfl, (by decide), rfl, trivial⟩ (by rfl) hsim
theorem mDoV_ok (l : List Rw) (v : ByteArray) (e : Int) (l2 : List Rw) : MoOK Tryd.prog gz0 59 (mDoV l v e l2) := fun args H ret H' cs h hc => by
 unfold mDoV at h
 split at h
 · cases h; obtain ⟨rfl, rfl, rfl, rfl, ⟨ht, rfl, rfl, rfl⟩, -⟩ := hc; exact Go.Tab.do_ok _ _ _ _ _ ht
 · cases h
theorem mPlcC_ok (c : Int) : MoOK Tryd.prog Go.Bla.gl 34 (mPlcC c) := fun args H ret H' cs h hc => by
 unfold mPlcC at h
 split at h
 · cases h; obtain ⟨⟨rfl, hk⟩, -⟩ := hc; exact place_ok _ hk
 · cases h
theorem A1_ok (c : Int) (l : List Rw) (v : ByteArray) (e : Int) (l2 : List Rw) : OrcOK Tryd.prog (A1 c l v e l2) := ((OrcOK.none _).add _ false _ (mPlcC_ok c)).add _ false (mDoV l v e l2) fun args H r H' cs h hc => Spec.glAny (mDoV_ok l v e l2 args H r H' cs h hc)
theorem tell0 (T : T4) (ht : TidyT T) (o : OpT) (hk : o.2.1.size ≤ 1073741824) (hp : plc o.2.1 = 0) : Eng.Spec Tryd.prog Go.Bla.gl 51 [rfs, .d (opD o)] (tabs T) (.d (anD (tellM T o))) (tabsU (nextT T o)) := by
 refine spec_fn Tryd.func51 rfl fun {w N E act} hsim => ?_
 have er : resM T o = doM T.a o.1 o.2.1 o.2.2.1 o.2.2.2 := by unfold resM; rw [hp]; rfl
 obtain ⟨v, hv⟩ : ∃ v, v = (resM T o).1 := ⟨_, rfl⟩
 obtain ⟨e, he⟩ : ∃ e, e = (resM T o).2.1 := ⟨_, rfl⟩
 obtain ⟨l2, hl⟩ : ∃ l2, l2 = (resM T o).2.2 := ⟨_, rfl⟩
 have en : nextT T o = putT T 0 l2 := by unfold nextT; rw [hp, hl]
 have ea : anD (tellM T o) = .agg [.raw (.int .i64 e), .raw (.string v)] := by rw [he, hv]; rfl
 rw [er] at hv he hl
 exact gs (A1_ok 0 T.a v e l2) Tryd.func51 (sr' := ⟨8, [.d (.agg [rI e, rS v])], [(0, .obj 145 [.own 8]), (2, .obj 145 [.own 3]), (3, .row 148 2 T.b.length (rowEl T.b)), (4, .obj 145 [.own 5]), (5, .row 148 2 T.c.length (rowEl T.c)), (6, .obj 145 [.own 7]), (7, .row 148 2 T.d.length (rowEl T.d)), (8, .row 148 2 l2.length (rowEl l2))]⟩) (cs := [(Plc.plc o.snd.fst = (0 : Int) ∧ o.snd.fst.size ≤ 1073741824), (Ix 0 4), (145 = 145), (148 = 148), (T.a.length = T.a.length), (rowEl T.a = rowEl T.a), (Tidy T.a ∧ v = (doM T.a o.fst o.snd.fst o.snd.snd.fst o.snd.snd.snd).fst ∧ e = (doM T.a o.fst o.snd.fst o.snd.snd.fst o.snd.snd.snd).snd.fst ∧ l2 = (doM T.a o.fst o.snd.fst o.snd.snd.fst o.snd.snd.snd).snd.snd)]) [true] true ⟨(by first | exact ⟨hp, hk⟩ | decide | exact ⟨ht.a, hv, he, hl⟩ | rfl), (by decide), (by first | exact ⟨hp, hk⟩ | decide | exact ⟨ht.a, hv, he, hl⟩ | rfl), (by first | exact ⟨hp, hk⟩ | decide | exact ⟨ht.a, hv, he, hl⟩ | rfl), (by first | exact ⟨hp, hk⟩ | decide | exact ⟨ht.a, hv, he, hl⟩ | rfl), (by first | exact ⟨hp, hk⟩ | decide | exact ⟨ht.a, hv, he, hl⟩ | rfl), (by first | exact ⟨hp, hk⟩ | decide | exact ⟨ht.a, hv, he, hl⟩ | rfl), trivial⟩ (by (rw [ea, en]; exact says_rename (rnm_renamed (ms := [(0, 0), (2, 2), (4, 4), (6, 6), (8, 8), (3, 9), (5, 10), (7, 11)]) rfl rfl) rfl)) hsim
theorem tell1 (T : T4) (ht : TidyT T) (o : OpT) (hk : o.2.1.size ≤ 1073741824) (hp : plc o.2.1 = 1) : Eng.Spec Tryd.prog Go.Bla.gl 51 [rfs, .d (opD o)] (tabs T) (.d (anD (tellM T o))) (tabsU (nextT T o)) := by
 refine spec_fn Tryd.func51 rfl fun {w N E act} hsim => ?_
 have er : resM T o = doM T.b o.1 o.2.1 o.2.2.1 o.2.2.2 := by unfold resM; rw [hp]; rfl
 obtain ⟨v, hv⟩ : ∃ v, v = (resM T o).1 := ⟨_, rfl⟩
 obtain ⟨e, he⟩ : ∃ e, e = (resM T o).2.1 := ⟨_, rfl⟩
 obtain ⟨l2, hl⟩ : ∃ l2, l2 = (resM T o).2.2 := ⟨_, rfl⟩
 have en : nextT T o = putT T 1 l2 := by unfold nextT; rw [hp, hl]
 have ea : anD (tellM T o) = .agg [.raw (.int .i64 e), .raw (.string v)] := by rw [he, hv]; rfl
 rw [er] at hv he hl
 exact gs (A1_ok 1 T.b v e l2) Tryd.func51 (sr' := ⟨8, [.d (.agg [rI e, rS v])], [(0, .obj 145 [.own 1]), (1, .row 148 2 T.a.length (rowEl T.a)), (2, .obj 145 [.own 8]), (4, .obj 145 [.own 5]), (5, .row 148 2 T.c.length (rowEl T.c)), (6, .obj 145 [.own 7]), (7, .row 148 2 T.d.length (rowEl T.d)), (8, .row 148 2 l2.length (rowEl l2))]⟩) (cs := [(Plc.plc o.snd.fst = (1 : Int) ∧ o.snd.fst.size ≤ 1073741824), (Ix 1 4), (145 = 145), (148 = 148), (T.b.length = T.b.length), (rowEl T.b = rowEl T.b), (Tidy T.b ∧ v = (doM T.b o.fst o.snd.fst o.snd.snd.fst o.snd.snd.snd).fst ∧ e = (doM T.b o.fst o.snd.fst o.snd.snd.fst o.snd.snd.snd).snd.fst ∧ l2 = (doM T.b o.fst o.snd.fst o.snd.snd.fst o.snd.snd.snd).snd.snd)]) [true] true ⟨(by first | exact ⟨hp, hk⟩ | decide | exact ⟨ht.b, hv, he, hl⟩ | rfl), (by decide), (by first | exact ⟨hp, hk⟩ | decide | exact ⟨ht.b, hv, he, hl⟩ | rfl), (by first | exact ⟨hp, hk⟩ | decide | exact ⟨ht.b, hv, he, hl⟩ | rfl), (by first | exact ⟨hp, hk⟩ | decide | exact ⟨ht.b, hv, he, hl⟩ | rfl), (by first | exact ⟨hp, hk⟩ | decide | exact ⟨ht.b, hv, he, hl⟩ | rfl), (by first | exact ⟨hp, hk⟩ | decide | exact ⟨ht.b, hv, he, hl⟩ | rfl), trivial⟩ (by (rw [ea, en]; exact says_rename (rnm_renamed (ms := [(0, 0), (2, 2), (4, 4), (6, 6), (1, 8), (8, 9), (5, 10), (7, 11)]) rfl rfl) rfl)) hsim
theorem tell2 (T : T4) (ht : TidyT T) (o : OpT) (hk : o.2.1.size ≤ 1073741824) (hp : plc o.2.1 = 2) : Eng.Spec Tryd.prog Go.Bla.gl 51 [rfs, .d (opD o)] (tabs T) (.d (anD (tellM T o))) (tabsU (nextT T o)) := by
 refine spec_fn Tryd.func51 rfl fun {w N E act} hsim => ?_
 have er : resM T o = doM T.c o.1 o.2.1 o.2.2.1 o.2.2.2 := by unfold resM; rw [hp]; rfl
 obtain ⟨v, hv⟩ : ∃ v, v = (resM T o).1 := ⟨_, rfl⟩
 obtain ⟨e, he⟩ : ∃ e, e = (resM T o).2.1 := ⟨_, rfl⟩
 obtain ⟨l2, hl⟩ : ∃ l2, l2 = (resM T o).2.2 := ⟨_, rfl⟩
 have en : nextT T o = putT T 2 l2 := by unfold nextT; rw [hp, hl]
 have ea : anD (tellM T o) = .agg [.raw (.int .i64 e), .raw (.string v)] := by rw [he, hv]; rfl
 rw [er] at hv he hl
 exact gs (A1_ok 2 T.c v e l2) Tryd.func51 (sr' := ⟨8, [.d (.agg [rI e, rS v])], [(0, .obj 145 [.own 1]), (1, .row 148 2 T.a.length (rowEl T.a)), (2, .obj 145 [.own 3]), (3, .row 148 2 T.b.length (rowEl T.b)), (4, .obj 145 [.own 8]), (6, .obj 145 [.own 7]), (7, .row 148 2 T.d.length (rowEl T.d)), (8, .row 148 2 l2.length (rowEl l2))]⟩) (cs := [(Plc.plc o.snd.fst = (2 : Int) ∧ o.snd.fst.size ≤ 1073741824), (Ix 2 4), (145 = 145), (148 = 148), (T.c.length = T.c.length), (rowEl T.c = rowEl T.c), (Tidy T.c ∧ v = (doM T.c o.fst o.snd.fst o.snd.snd.fst o.snd.snd.snd).fst ∧ e = (doM T.c o.fst o.snd.fst o.snd.snd.fst o.snd.snd.snd).snd.fst ∧ l2 = (doM T.c o.fst o.snd.fst o.snd.snd.fst o.snd.snd.snd).snd.snd)]) [true] true ⟨(by first | exact ⟨hp, hk⟩ | decide | exact ⟨ht.c, hv, he, hl⟩ | rfl), (by decide), (by first | exact ⟨hp, hk⟩ | decide | exact ⟨ht.c, hv, he, hl⟩ | rfl), (by first | exact ⟨hp, hk⟩ | decide | exact ⟨ht.c, hv, he, hl⟩ | rfl), (by first | exact ⟨hp, hk⟩ | decide | exact ⟨ht.c, hv, he, hl⟩ | rfl), (by first | exact ⟨hp, hk⟩ | decide | exact ⟨ht.c, hv, he, hl⟩ | rfl), (by first | exact ⟨hp, hk⟩ | decide | exact ⟨ht.c, hv, he, hl⟩ | rfl), trivial⟩ (by (rw [ea, en]; exact says_rename (rnm_renamed (ms := [(0, 0), (2, 2), (4, 4), (6, 6), (1, 8), (3, 9), (8, 10), (7, 11)]) rfl rfl) rfl)) hsim
theorem tell3 (T : T4) (ht : TidyT T) (o : OpT) (hk : o.2.1.size ≤ 1073741824) (hp : plc o.2.1 = 3) : Eng.Spec Tryd.prog Go.Bla.gl 51 [rfs, .d (opD o)] (tabs T) (.d (anD (tellM T o))) (tabsU (nextT T o)) := by
 refine spec_fn Tryd.func51 rfl fun {w N E act} hsim => ?_
 have er : resM T o = doM T.d o.1 o.2.1 o.2.2.1 o.2.2.2 := by unfold resM; rw [hp]; rfl
 obtain ⟨v, hv⟩ : ∃ v, v = (resM T o).1 := ⟨_, rfl⟩
 obtain ⟨e, he⟩ : ∃ e, e = (resM T o).2.1 := ⟨_, rfl⟩
 obtain ⟨l2, hl⟩ : ∃ l2, l2 = (resM T o).2.2 := ⟨_, rfl⟩
 have en : nextT T o = putT T 3 l2 := by unfold nextT; rw [hp, hl]
 have ea : anD (tellM T o) = .agg [.raw (.int .i64 e), .raw (.string v)] := by rw [he, hv]; rfl
 rw [er] at hv he hl
 exact gs (A1_ok 3 T.d v e l2) Tryd.func51 (sr' := ⟨8, [.d (.agg [rI e, rS v])], [(0, .obj 145 [.own 1]), (1, .row 148 2 T.a.length (rowEl T.a)), (2, .obj 145 [.own 3]), (3, .row 148 2 T.b.length (rowEl T.b)), (4, .obj 145 [.own 5]), (5, .row 148 2 T.c.length (rowEl T.c)), (6, .obj 145 [.own 8]), (8, .row 148 2 l2.length (rowEl l2))]⟩) (cs := [(Plc.plc o.snd.fst = (3 : Int) ∧ o.snd.fst.size ≤ 1073741824), (Ix 3 4), (145 = 145), (148 = 148), (T.d.length = T.d.length), (rowEl T.d = rowEl T.d), (Tidy T.d ∧ v = (doM T.d o.fst o.snd.fst o.snd.snd.fst o.snd.snd.snd).fst ∧ e = (doM T.d o.fst o.snd.fst o.snd.snd.fst o.snd.snd.snd).snd.fst ∧ l2 = (doM T.d o.fst o.snd.fst o.snd.snd.fst o.snd.snd.snd).snd.snd)]) [true] true ⟨(by first | exact ⟨hp, hk⟩ | decide | exact ⟨ht.d, hv, he, hl⟩ | rfl), (by decide), (by first | exact ⟨hp, hk⟩ | decide | exact ⟨ht.d, hv, he, hl⟩ | rfl), (by first | exact ⟨hp, hk⟩ | decide | exact ⟨ht.d, hv, he, hl⟩ | rfl), (by first | exact ⟨hp, hk⟩ | decide | exact ⟨ht.d, hv, he, hl⟩ | rfl), (by first | exact ⟨hp, hk⟩ | decide | exact ⟨ht.d, hv, he, hl⟩ | rfl), (by first | exact ⟨hp, hk⟩ | decide | exact ⟨ht.d, hv, he, hl⟩ | rfl), trivial⟩ (by (rw [ea, en]; exact says_rename (rnm_renamed (ms := [(0, 0), (2, 2), (4, 4), (6, 6), (1, 8), (3, 9), (5, 10), (8, 11)]) rfl rfl) rfl)) hsim
theorem tell_ok (T : T4) (ht : TidyT T) (o : OpT) (hk : o.2.1.size ≤ 1073741824) : Eng.Spec Tryd.prog Go.Bla.gl 51 [rfs, .d (opD o)] (tabs T) (.d (anD (tellM T o))) (tabsU (nextT T o)) := by
 have hb := plc_bd o.2.1
 rcases (by omega : plc o.2.1 = 0 ∨ plc o.2.1 = 1 ∨ plc o.2.1 = 2 ∨ plc o.2.1 = 3) with h | h | h | h
 · exact tell0 T ht o hk h
 · exact tell1 T ht o hk h
 · exact tell2 T ht o hk h
 · exact tell3 T ht o hk h
theorem pick_tidy {T : T4} (h : TidyT T) (c : Int) : Tidy (pickT T c) := by
 unfold pickT
 repeat' split
 · exact h.a
 · exact h.b
 · exact h.c
 · exact h.d
theorem next_tidy {T : T4} (h : TidyT T) (o : OpT) : TidyT (nextT T o) := by
 have hd : Tidy (resM T o).2.2 := do_tidy (pick_tidy h _) _ _ _ _
 unfold nextT putT
 repeat' split
 · exact ⟨hd, h.b, h.c, h.d⟩
 · exact ⟨h.a, hd, h.c, h.d⟩
 · exact ⟨h.a, h.b, hd, h.d⟩
 · exact ⟨h.a, h.b, h.c, hd⟩
theorem tidyT0 : TidyT T0 := ⟨⟨List.Pairwise.nil, by decide, fun r h => by cases h⟩, ⟨List.Pairwise.nil, by decide, fun r h => by cases h⟩, ⟨List.Pairwise.nil, by decide, fun r h => by cases h⟩, ⟨List.Pairwise.nil, by decide, fun r h => by cases h⟩⟩
theorem A2_ok (T T' : T4) (e : Int) (v : ByteArray) : OrcOK Tryd.prog (A2 T T' e v) := ((OrcOK.none _).add _ false mNT fun args H ret H' cs h hc => by
 unfold mNT at h
 split at h
 · cases h; exact Spec.glAny newTables_ok
 · cases h).add _ false (mTell T T' e v) fun args H ret H' cs h hc => by
 unfold mTell at h
 split at h
 ·
  rename_i k key val old C1 R1 n1 l1 C2 R2 n2 l2 C3 R3 n3 l3 C4 R4 n4 l4
  cases h
  obtain ⟨hq, rfl, rfl, rfl, rfl, rfl, rfl, rfl, rfl, ⟨ht, ha, rfl, hk⟩, -⟩ := hc
  simp only [Bool.and_eq_true, beq_iff_eq] at hq
  obtain ⟨⟨⟨⟨⟨⟨⟨rfl, rfl⟩, rfl⟩, rfl⟩, rfl⟩, rfl⟩, rfl⟩, rfl⟩ := hq
  have := tell_ok T ht (k, key, val, old) hk
  rw [← ha] at this
  exact this
 · cases h
theorem nameC_ok (c : Ca) : Eng.Spec Tryd.prog gz0 41 [.d (caD c)] [] (.d (nmD c.cl c.n)) [] := by
 refine spec_fn Tryd.func41 rfl fun {w N E act} hsim => ?_
 exact gr (OrcOK.none _) Tryd.func41 (sr' := ⟨0, [.d (.agg [rI c.cl, rI c.n])], []⟩) (cs := []) [] true trivial (by rfl) hsim
theorem nameP_ok (p : Pt) : Eng.Spec Tryd.prog gz0 55 [.d (ptD p)] [] (.d (nmD p.cl p.n)) [] := by
 refine spec_fn Tryd.func55 rfl fun {w N E act} hsim => ?_
 exact gr (OrcOK.none _) Tryd.func55 (sr' := ⟨0, [.d (.agg [rI p.cl, rI p.n])], []⟩) (cs := []) [] true trivial (by rfl) hsim
end Go.Prf
