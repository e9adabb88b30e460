/-
  Contracts of given functions, or plain laws that they need. No condition.
-/
import Derived.Test.YtbppcjkpkelbfaaDoorEng19
import Derived.Test.YtbppcjkpkelbfaaDoorPlaG
import Derived.Test.YtbppcjkpkelbfaaDoorMapE
namespace Go.Nil
open Go Go.Eng
set_option linter.unusedVariables false
theorem vas_mid {E : Env} {w : World} {N : Nat → Prop} {x y : AV} (h : ∀ v, VA E w N x v → VA E w N y v) (post : List AV) : ∀ (pre : List AV) (vs : List Value), VAs E w N (pre ++ x :: post) vs → VAs E w N (pre ++ y :: post) vs
  | [], vs, hv => VAs_imp_cons h (fun _ h => h) hv
  | z :: pre, vs, hv => VAs_imp_cons (x := z) (y := z) (fun _ h => h) (fun vs h' => vas_mid h post pre vs h') hv
set_option linter.unusedSimpArgs false
theorem sim_th {C : Cx} {E : Env} {s : St} {a : Act} {w : World} (hs : Sim C E s a w) {k : Nat} {t t' : Th} (hk : s.th k = some t) (h : ∀ (N : Nat → Prop) (v : Value), ThOK C.P E w N t v → ThOK C.P E w N t' v) : Sim C E (s.setTh k t') a w := by
  have st : Step C E E s (s.setTh k t') w w _ _ _ := Step.set' k t hk t' rfl rfl rfl (Nat.le_refl _) (fun _ _ _ => rfl)
  have hN : ∀ b, Stable C E s w b → Stable C E (s.setTh k t') w b := st.stable
  refine ⟨hs.fit.step st (fun x v hx => VA.mono hN (fun _ _ _ h => h) hx) (fun i t1 hi h1 => ?_), VAs.mono hN (fun _ _ _ h => h) hs.tm, hs.df⟩
  have e : i = k := by simpa [eqk] using hi
  subst e
  rw [St.setTh_th, if_pos rfl] at h1
  cases h1
  have h2 := (hs.fit.th i t hk).1
  have h3 : ThOK C.P E w (Stable C E (s.setTh i t') w) t (E i) := by
    have := h2.kept (f := fun x => x) hN (fun _ _ _ h => h) (fun _ _ => rfl) (fun x u hx => VA.mono hN (fun _ _ _ h => h) hx)
    rwa [Th.map_id] at this
  exact h _ _ h3
theorem Sim_nilCell {C : Cx} {E : Env} {s : St} {a : Act} {w : World} (h : Sim C E s a w) {k T R sz : Nat} {el : Nat → D} (pre post : List AV) (hk : (s.newTh none s.fresh (.row R sz 0 el)).th k = some (.obj T (pre ++ .d (.raw (.slice none 0 0)) :: post))) :
    ∃ E', Sim C E' ((s.newTh none s.fresh (.row R sz 0 el)).setTh k (.obj T (pre ++ .own s.fresh :: post))) a w := by
  obtain ⟨h1, h2, h3, h4⟩ := h.fit.newTh (w' := w) none s.fresh (fresh_base s) (.row R sz 0 el) (.slice none 0 0) rfl rfl rfl (Nat.le_refl _) (fun _ _ _ => rfl) (fun b hb => by cases hb)
    (fun {E' N'} _ _ _ _ => ⟨[], ⟨by simp, .inl ⟨rfl, rfl⟩⟩, fun i hi => absurd hi (by omega)⟩)
  have h5 : Sim C (E.set s.fresh (.slice none 0 0)) (s.newTh none s.fresh (.row R sz 0 el)) a w := ⟨h1, h.newTh_tm h4, h.df⟩
  exact ⟨_, sim_th h5 (k := k) hk (t' := .obj T (pre ++ .own s.fresh :: post)) fun N v h => by
    obtain ⟨b, vs, e1, e2, e3⟩ := h
    refine ⟨b, vs, e1, e2, vas_mid (fun v hx => ?_) post pre vs e3⟩
    unfold VA at hx ⊢
    rw [(VD_raw_inv hx).1]
    exact ⟨by simp [Env.set], none, 0, 0, rfl⟩⟩
end Go.Nil

namespace Go.Prf
open Go Go.Eng Go.Proofs Go.Tab Go.Plc
set_option linter.unusedVariables false
set_option linter.unusedSimpArgs false
set_option maxRecDepth 100000
set_option maxHeartbeats 4000000
theorem M0_ok (c : Int) : OrcOK Tryd.prog (M0 c) := (OrcOK.none _).add _ false (mPlcV c) fun args H ret H' cs h hc => by
  unfold mPlcV at h
  split at h
  · cases h; obtain ⟨⟨rfl, hk⟩, -⟩ := hc; exact placeR_ok _ hk
  · cases h
abbrev GoRp (w0 : World) (N : Nat → Prop) (E0 : Env)  (st : St) (r : Int) : Prop := ∀ (E : Env) (a : Act) (w : World), Sim (cx Tryd.prog gB w0 N E0 []) E st a w → Goes Tryd.prog 39 (loopAt Tryd.f39 0) (RSpec (cx Tryd.prog gB w0 N E0 []) ⟨0, [.d (.raw (.int .i64 r))], []⟩) a w
theorem rp_go {w0 : World} {N : Nat → Prop} {E0 : Env} (p : Pt) (cs : List Ca) (hl : cs.length ≤ 1000000) (hs : SmallK cs) : ∀ (d : Nat) (n i : Int), n = (cs.length : Int) → 0 ≤ i → i + d = n → GoRp w0 N E0 (rp1 p cs n i) (placeF p.cl p.n (cs.drop i.toNat)) := by
  intro d
  induction d with
  | zero =>
    intro n i en h0 hd E a w hsim
    let c : Int := 0
    rw [List.drop_eq_nil_of_le (by omega)]
    rcases bd (decide (i < n)) with hb1 | hb1
    ·
     rcases bd ((cs.getD i.toNat noCa).cl == p.cl) with hb2 | hb2
     ·
      rcases bd ((cs.getD i.toNat noCa).n == p.n) with hb3 | hb3
      ·
       exact gr (M0_ok c) Tryd.func39 (sr' := ⟨0, [vI c], []⟩) (cs := [_, ((0 : Int) ≤ i ∧ i < (↑cs.length : Int)), _, _, (Plc.plc (cs.getD i.toNat noCa).o.snd.fst = c ∧ (cs.getD i.toNat noCa).o.snd.fst.size ≤ 1073741824)]) [true, true, true] true ⟨hb1, (by exact absurd (of_decide_eq_true hb1) (by omega)), hb2, hb3, (by exact absurd (of_decide_eq_true hb1) (by omega)), trivial⟩ (by rfl) hsim
      ·
       exact absurd (of_decide_eq_true hb1) (by omega)
     ·
      exact absurd (of_decide_eq_true hb1) (by omega)
    ·
     exact gr (M0_ok c) Tryd.func39 (sr' := ⟨0, [vI 0], []⟩) (cs := [_]) [false] true ⟨hb1, trivial⟩ (by rfl) hsim
  | succ d ih =>
    intro n i en h0 hd E a w hsim
    have hi : i.toNat < cs.length := by omega
    have ew : IntKind.i64.wrap (i + 1) = i + 1 := wrapP (by omega)
    obtain ⟨c, hc⟩ : ∃ c, plc (cs.getD i.toNat noCa).o.2.1 = c := ⟨_, rfl⟩
    have hk : (cs.getD i.toNat noCa).o.2.1.size ≤ 1073741824 := hs _ (by rw [List.getD_eq_getElem?_getD, List.getElem?_eq_getElem hi]; exact List.getElem_mem hi)
    have hr : placeF p.cl p.n (cs.drop i.toNat) = if ((cs.getD i.toNat noCa).cl == p.cl && (cs.getD i.toNat noCa).n == p.n) = true then c else placeF p.cl p.n (cs.drop (IntKind.i64.wrap (i + 1)).toNat) := by
      rw [getD_dropP (d := noCa) hi, placeF, hc, ew, show (i + 1).toNat = i.toNat + 1 by omega]
    have ih := ih n (IntKind.i64.wrap (i + 1)) en (by rw [ew]; omega) (by rw [ew]; omega)
    rw [hr]
    clear hr
    rcases bd (decide (i < n)) with hb1 | hb1
    ·
     rcases bd ((cs.getD i.toNat noCa).cl == p.cl) with hb2 | hb2
     ·
      rcases bd ((cs.getD i.toNat noCa).n == p.n) with hb3 | hb3
      ·
       exact gr (M0_ok c) Tryd.func39 (sr' := ⟨0, [vI c], []⟩) (cs := [_, ((0 : Int) ≤ i ∧ i < (↑cs.length : Int)), _, _, (Plc.plc (cs.getD i.toNat noCa).o.snd.fst = c ∧ (cs.getD i.toNat noCa).o.snd.fst.size ≤ 1073741824)]) [true, true, true] true ⟨hb1, by omega, hb2, hb3, (by exact ⟨hc, hk⟩), trivial⟩ (by (rw [hb2, hb3]; rfl)) hsim
      ·
       refine gh (M0_ok c) (k' := loopAt Tryd.f39 0) (s' := mk 0 30 [(3, .ref 0 0), (7, .d (.list 10 cs.length (caEl cs))), (8, vI n), (9, vI (IntKind.i64.wrap (i + 1)))] [(0, .obj 53 [vI p.at', vI p.cl, vI p.n, vI p.a.fst, vS p.a.snd])]) (cs := [_, ((0 : Int) ≤ i ∧ i < (↑cs.length : Int)), _, _]) [true, true, false] [3,7,8,9] ⟨hb1, by omega, hb2, hb3, trivial⟩ hsim fun E a w hsim => ?_
       first | (rw [hb2, hb3]; exact ih E a w hsim) | (rw [hb2]; exact ih E a w hsim)
     ·
      refine gh (M0_ok c) (k' := loopAt Tryd.f39 0) (s' := mk 0 30 [(3, .ref 0 0), (7, .d (.list 10 cs.length (caEl cs))), (8, vI n), (9, vI (IntKind.i64.wrap (i + 1)))] [(0, .obj 53 [vI p.at', vI p.cl, vI p.n, vI p.a.fst, vS p.a.snd])]) (cs := [_, ((0 : Int) ≤ i ∧ i < (↑cs.length : Int)), _]) [true, false] [3,7,8,9] ⟨hb1, by omega, hb2, trivial⟩ hsim fun E a w hsim => ?_
      first | (rw [hb2, hb3]; exact ih E a w hsim) | (rw [hb2]; exact ih E a w hsim)
    ·
     exact absurd (of_decide_eq_false hb1) (by omega)
theorem placeP_ok (p : Pt) (cs : List Ca) (hl : cs.length ≤ 1000000) (hs : SmallK cs) : Eng.Spec Tryd.prog gB 39 [.d (.list 10 cs.length (caEl cs)), .d (ptD p)] [] (.d (.raw (.int .i64 (placeF p.cl p.n cs)))) [] := by
  refine spec_fn Tryd.func39 rfl fun {w N E act} hsim => ?_
  let c : Int := 0
  refine gh (M0_ok c) (k' := loopAt Tryd.f39 0) (s' := mk 0 30 [(3, .ref 0 0), (7, .d (.list 10 cs.length (caEl cs))), (8, vI (↑cs.length : Int)), (9, vI 0)] [(0, .obj 53 [vI p.at', vI p.cl, vI p.n, vI p.a.fst, vS p.a.snd])]) (cs := []) [] [3,7,8,9] trivial hsim fun E a w hsim => ?_
  exact rp_go p cs hl hs cs.length (cs.length : Int) 0 rfl (by omega) (by omega) E a w hsim
end Go.Prf
