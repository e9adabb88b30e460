/-
  Contracts of given functions, plain laws. No condition.
-/
import Derived.Test.YtbppcjkpkelbfaaDoorPrfG
import Derived.Test.YtbppcjkpkelbfaaDoorRef4
namespace Go.Prf
open Go Go.Eng Go.Proofs Go.Tab Go.Plc
set_option maxRecDepth 100000
set_option maxHeartbeats 4000000
theorem getD_dropP {α : Type} {l : List α} {d : α} {k : Nat} (h : k < l.length) : l.drop k = l.getD k d :: l.drop (k + 1) := by
 rw [List.drop_eq_getElem_cons h]; simp [List.getD, h]
abbrev MoOKP (P : Program) (gl : Nat → Option (List D)) (f : FuncId) (mo : Mo) : Prop := ∀ args H r H' cs, mo args H = some (r, H', cs) → Conds cs → Eng.Spec P gl f args H r H'
theorem plcV_ok (c : Int) : MoOKP Tryd.prog gB 34 (mPlcV c) := fun args H ret H' cs h hc => by
 unfold mPlcV at h
 split at h
 · cases h; obtain ⟨⟨rfl, hk⟩, -⟩ := hc; exact place_ok _ hk
 · cases h
theorem L0_ok (c : Int) : OrcOK Tryd.prog (L0 c) := (OrcOK.none _).add _ false _ (plcV_ok c)
theorem s1_ok (c : Ca) (s : Int) (hk : c.o.2.1.size ≤ 1073741824) : Eng.Spec Tryd.prog gB 36 [.d (caD c), .ref 0 0] [(0, .obj 3 [.d (.raw (.int .i64 s))])] (.d (.raw (.bool (inS s c)))) [(0, .obj 3 [.d (.raw (.int .i64 s))])] := by
 refine spec_fn Tryd.func36 rfl fun {w N E act} hsim => ?_
 obtain ⟨k, hp⟩ : ∃ k, plc c.o.2.1 = k := ⟨_, rfl⟩
 have hr : inS s c = (k == s) := by unfold inS; rw [hp]
 rw [hr]
 exact gr (L0_ok k) Tryd.func36 (sr' := ⟨1, [vB (k == s)], [(0, .obj 3 [vI s])]⟩) (cs := [(Plc.plc c.o.snd.fst = k ∧ c.o.snd.fst.size ≤ 1073741824)]) [] true ⟨(by exact ⟨hp, hk⟩), trivial⟩ (by rfl) hsim
theorem L1_ok (r : Bool) : OrcOK Tryd.prog (L1 r) := (OrcOK.none _).add _ false _ fun args H ret H' c h hc => by
 unfold mS1 at h
 split at h
 ·
  rename_i cl nu k key val old fr to er v T s
  cases h; obtain ⟨rfl, ⟨rfl, hk⟩, -⟩ := hc; exact s1_ok ⟨cl, nu, (k, key, val, old), fr, to, (er, v)⟩ s hk
 · cases h
theorem s2_ok (p : Pt) (m : Pm) (s : Int) : Eng.Spec Tryd.prog gB 38 [.d (ptD p), .ref 0 0, .ref 2 0] [(0, .obj 83 [.mp 1]), (1, .mp (plMp m)), (2, .obj 3 [.d (.raw (.int .i64 s))])] (.d (.raw (.bool (inP m s p)))) [(0, .obj 83 [.mp 1]), (1, .mp (plMp m)), (2, .obj 3 [.d (.raw (.int .i64 s))])] := by
 refine spec_fn Tryd.func38 rfl fun {w N E act} hsim => ?_
 have hr : inP m s p = ((if m.h (nmD p.cl p.n) = true then m.v (nmD p.cl p.n) else 0) == s) := rfl
 rw [hr]
 rcases bd ((MapD.mk (85 : Nat) m.h (fun d => D.raw (Value.int IntKind.i64 (m.v d))) m.n).has (D.agg [D.raw (Value.int IntKind.i64 p.cl), D.raw (Value.int IntKind.i64 p.n)])) with hb1 | hb1
 ·
  exact gr (OrcOK.none _) Tryd.func38 (sr' := ⟨3, [vB (m.v (D.agg [rI p.cl, rI p.n]) == s)], [(0, .obj 83 [.mp 1]), (1, .mp ⟨85, m.h, fun d => rI (m.v d), (m.n)⟩), (2, .obj 3 [vI s])]⟩) (cs := [_]) [true] true ⟨hb1, trivial⟩ (by (rw [if_pos (show m.h (nmD p.cl p.n) = true from hb1)]; rfl)) hsim
 ·
  exact gr (OrcOK.none _) Tryd.func38 (sr' := ⟨3, [vB ((0 : Int) == s)], [(0, .obj 83 [.mp 1]), (1, .mp ⟨85, m.h, fun d => rI (m.v d), (m.n)⟩), (2, .obj 3 [vI s])]⟩) (cs := [_]) [false] true ⟨hb1, trivial⟩ (by (rw [if_neg (Bool.eq_false_iff.1 (show m.h (nmD p.cl p.n) = false from hb1))]; rfl)) hsim
theorem L2_ok (m : Pm) (r : Bool) : OrcOK Tryd.prog (L2 m r) := (OrcOK.none _).add _ false _ fun args H ret H' c h hc => by
 unfold mS2 at h
 split at h
 ·
  rename_i at_ cl nu er v A M B s
  cases h; obtain ⟨rfl, rfl, rfl, rfl, -⟩ := hc; exact s2_ok ⟨at_, cl, nu, (er, v)⟩ m s
 · cases h
abbrev GoPkC (w0 : World) (N : Nat → Prop) (E0 : Env) (s : Int) (st : St) (r : List Ca) : Prop := GoG Tryd.prog gB 35 (loopAt Tryd.f35 0) [(0, .obj 3 [.d (.raw (.int .i64 s))])] ⟨1, [.d (.list 10 r.length (caEl r))], [(0, .obj 3 [.d (.raw (.int .i64 s))])]⟩ w0 N E0 st
theorem row_pkC {C : Cx} {E : Env} {a : Act} {w : World} (cs acc : List Ca) (s n i : Int) (x : Ca) (f : Nat → D) (hf : ∀ j, j < acc.length + 1 → f j = caEl (acc ++ [x]) j) (h : Sim C E (mk 1 23 [(1, .fn (.func 36) [] [.ref 0 0]), (5, .own 1), (8, .d (.list 10 cs.length (caEl cs))), (9, .d (.raw (.int .i64 (n)))), (10, .d (.raw (.int .i64 (i))))] [(0, .obj 3 [.d (.raw (.int .i64 s))]), (1, .row 51 10 (acc.length + 1) (f))]) a w) : ∃ E', Sim C E' (pk1 cs (acc ++ [x]) s n i) a w := by
 obtain ⟨E', h1⟩ := h.rowEq (k := 1) (T := 51) (sz := 10) (n := acc.length + 1) (el := f) rfl (caEl (acc ++ [x])) hf
 refine ⟨E', ?_⟩
 have e : pk1 cs (acc ++ [x]) s n i = mk 1 23 [(1, .fn (.func 36) [] [.ref 0 0]), (5, .own 1), (8, .d (.list 10 cs.length (caEl cs))), (9, .d (.raw (.int .i64 (n)))), (10, .d (.raw (.int .i64 (i))))] [(0, .obj 3 [.d (.raw (.int .i64 s))]), (1, .row 51 10 (acc.length + 1) (caEl (acc ++ [x])))] := by
  unfold pk1; rw [List.length_append]; rfl
 rw [e]
 exact h1
theorem app_pkC (os : List Ca) (x : Ca) (g : Nat → D) (hg : g 0 = caD x) (j : Nat) (hj : j < os.length + 1) : (if j < os.length then caEl os j else g (j - os.length)) = caEl (os ++ [x]) j := by
 unfold caEl
 by_cases h : j < os.length
 ·
  rw [if_pos h]
  congr 1
  simp [List.getD, List.getElem?_append_left h]
 ·
  rw [if_neg h]
  obtain rfl : j = os.length := by omega
  rw [Nat.sub_self, hg]
  congr 1
  simp [List.getD]
theorem pkC_go {w0 : World} {N : Nat → Prop} {E0 : Env} (cs : List Ca) (s : Int) (hl : cs.length ≤ 1000000) (hs : SmallK cs) : ∀ (d : Nat) (n i : Int), n = (cs.length : Int) → 0 ≤ i → i + d = n → ∀ acc : List Ca, acc.length ≤ i.toNat → GoPkC w0 N E0 s (pk1 cs acc s n i) (acc ++ (cs.drop i.toNat).filter (inS s)) := by
 intro d
 induction d with
 | zero =>
  intro n i en h0 hd acc ha E a w hsim
  have r : Bool := true
  rw [List.drop_eq_nil_of_le (by omega), List.filter_nil, List.append_nil]
  rcases bd (decide (i < n)) with hb1 | hb1
  ·
   rcases bd (r) with hb2 | hb2
   ·
    exact absurd (of_decide_eq_true hb1) (by omega)
   ·
    exact absurd (of_decide_eq_true hb1) (by omega)
  ·
   exact gr (L1_ok r) Tryd.func35 (sr' := ⟨1, [.d (.list 10 acc.length (caEl acc))], [(0, .obj 3 [vI s])]⟩) (cs := [_]) [false] true ⟨hb1, trivial⟩ (by rfl) hsim
 | succ d ih =>
  intro n i en h0 hd acc ha E a w hsim
  have hi : i.toNat < cs.length := by omega
  have ew : IntKind.i64.wrap (i + 1) = i + 1 := wrapP (by omega)
  obtain ⟨r, hr⟩ : ∃ r, (inS s) (cs.getD i.toNat noCa) = r := ⟨_, rfl⟩
  have hk : (cs.getD i.toNat noCa).o.2.1.size ≤ 1073741824 := hs _ (by rw [List.getD_eq_getElem?_getD, List.getElem?_eq_getElem hi]; exact List.getElem_mem hi)
  have ih := ih n (IntKind.i64.wrap (i + 1)) en (by rw [ew]; omega) (by rw [ew]; omega)
  rw [getD_dropP (d := noCa) hi, List.filter_cons, hr]
  rw [ew, show (i + 1).toNat = i.toNat + 1 by omega, ← ew] at ih
  rcases bd (decide (i < n)) with hb1 | hb1
  ·
   rcases bd (r) with hb2 | hb2
   ·
    refine gh (L1_ok r) (k' := loopAt Tryd.f35 0) (s' := let za := cs.getD i.toNat noCa; mk 1 23 [(1, .fn (Fn.func (36 : FuncId)) [] [.ref 0 0]), (5, .own 1), (8, .d (.list 10 cs.length (caEl cs))), (9, vI n), (10, vI (wI (i + 1)))] [(0, .obj 3 [vI s]), (1, .row 51 10 (acc.length + 1) (fun j => if j < acc.length then caEl acc j else segD true 10 (splice (List.map (fun j => (List.map D.raw (Value.agg #[Value.int IntKind.i64 (0 : Int), Value.int IntKind.i64 (0 : Int), Value.int IntKind.i64 (0 : Int), Value.string (eM), Value.string (eM), Value.string (eM), Value.int IntKind.i64 (0 : Int), Value.int IntKind.i64 (0 : Int), Value.int IntKind.i64 (0 : Int), Value.string (eM)]).cells.toList).getD (j % 10) default) (List.range 10)) 0 (D.agg [rI za.cl, rI za.n, rI za.o.fst, rS za.o.snd.fst, rS za.o.snd.snd.fst, rS za.o.snd.snd.snd, rI za.fr, rI za.to, rI za.a.fst, rS za.a.snd]).cells) (j - acc.length)))]) (cs := [_, (0 ≤ i ∧ i < cs.length), (3 = 3), ((Plc.plc (cs.getD i.toNat noCa).o.snd.fst == s) = r ∧ (cs.getD i.toNat noCa).o.snd.fst.size ≤ 1073741824), _, (acc.length + 1 ≤ 9223372036854775807 ∧ (acc.length + 1) * 112 ≤ 140737488355328)]) [true, true] [1,5,8,9,10] ⟨hb1, by omega, by omega, (by exact ⟨hr, hk⟩), hb2, by omega, trivial⟩ hsim fun E a w hsim => ?_
    first | (rw [if_pos hb2]; have h2 := ih (acc ++ [cs.getD i.toNat noCa]) (by rw [List.length_append]; simp; omega); rw [List.append_assoc] at h2; obtain ⟨E2, h3⟩ := row_pkC cs acc s n (IntKind.i64.wrap (i + 1)) (cs.getD i.toNat noCa) _ (fun j hj => app_pkC acc (cs.getD i.toNat noCa) _ rfl j hj) hsim; exact h2 E2 a w h3) | (rw [if_neg (Bool.eq_false_iff.1 hb2)]; exact ih acc (by omega) E a w hsim)
   ·
    refine gh (L1_ok r) (k' := loopAt Tryd.f35 0) (s' := mk 1 23 [(1, .fn (Fn.func (36 : FuncId)) [] [.ref 0 0]), (5, .own 1), (8, .d (.list 10 cs.length (caEl cs))), (9, vI n), (10, vI (wI (i + 1)))] [(0, .obj 3 [vI s]), (1, .row 51 10 acc.length (caEl acc))]) (cs := [_, (0 ≤ i ∧ i < cs.length), (3 = 3), ((Plc.plc (cs.getD i.toNat noCa).o.snd.fst == s) = r ∧ (cs.getD i.toNat noCa).o.snd.fst.size ≤ 1073741824), _]) [true, false] [1,5,8,9,10] ⟨hb1, by omega, by omega, (by exact ⟨hr, hk⟩), hb2, trivial⟩ hsim fun E a w hsim => ?_
    first | (rw [if_pos hb2]; have h2 := ih (acc ++ [cs.getD i.toNat noCa]) (by rw [List.length_append]; simp; omega); rw [List.append_assoc] at h2; obtain ⟨E2, h3⟩ := row_pkC cs acc s n (IntKind.i64.wrap (i + 1)) (cs.getD i.toNat noCa) _ (fun j hj => app_pkC acc (cs.getD i.toNat noCa) _ rfl j hj) hsim; exact h2 E2 a w h3) | (rw [if_neg (Bool.eq_false_iff.1 hb2)]; exact ih acc (by omega) E a w hsim)
  ·
   exact absurd (of_decide_eq_false hb1) (by omega)
theorem pkC_ok (cs : List Ca) (s : Int) (hl : cs.length ≤ 1000000) (hs : SmallK cs) : Eng.Spec Tryd.prog gB 35 [.d (.list 10 cs.length (caEl cs)), .fn (.func 36) [] [.ref 0 0]] [(0, .obj 3 [.d (.raw (.int .i64 s))])] (.d (.list 10 (cs.filter (inS s)).length (caEl (cs.filter (inS s))))) [(0, .obj 3 [.d (.raw (.int .i64 s))])] := by
 refine spec_fn Tryd.func35 rfl fun {w N E act} hsim => ?_
 refine gh (L1_ok true) (k' := loopAt Tryd.f35 0) (s' := mk 1 23 [(1, .fn (Fn.func (36 : FuncId)) [] [.ref 0 0]), (5, .d (.raw (Value.slice none 0 0))), (8, .d (.list 10 cs.length (caEl cs))), (9, vI (↑cs.length : Int)), (10, vI 0)] [(0, .obj 3 [vI s])]) (cs := []) [] [1,5,8,9,10] trivial hsim fun E a w hsim => ?_
 obtain ⟨E2, h2⟩ := hsim.nilRow (t := 5) rfl 51 10 (caEl [])
 exact pkC_go cs s hl hs cs.length (cs.length : Int) 0 rfl (by omega) (by omega) [] (by simp) E2 a w h2
abbrev GoPkP (w0 : World) (N : Nat → Prop) (E0 : Env) (s : Int) (m : Pm) (st : St) (r : List Pt) : Prop := GoG Tryd.prog gB 37 (loopAt Tryd.f37 0) [(0, .obj 83 [.mp 1]), (1, .mp (plMp m)), (2, .obj 3 [.d (.raw (.int .i64 s))])] ⟨3, [.d (.list 5 r.length (ptEl r))], [(0, .obj 83 [.mp 1]), (1, .mp (plMp m)), (2, .obj 3 [.d (.raw (.int .i64 s))])]⟩ w0 N E0 st
theorem row_pkP {C : Cx} {E : Env} {a : Act} {w : World} (ps acc : List Pt) (m : Pm) (s n i : Int) (x : Pt) (f : Nat → D) (hf : ∀ j, j < acc.length + 1 → f j = ptEl (acc ++ [x]) j) (h : Sim C E (mk 3 23 [(1, .fn (.func 38) [] [.ref 0 0, .ref 2 0]), (5, .own 3), (8, .d (.list 5 ps.length (ptEl ps))), (9, .d (.raw (.int .i64 (n)))), (10, .d (.raw (.int .i64 (i))))] [(0, .obj 83 [.mp 1]), (1, .mp (plMp m)), (2, .obj 3 [.d (.raw (.int .i64 s))]), (3, .row 56 5 (acc.length + 1) (f))]) a w) : ∃ E', Sim C E' (pk2 ps (acc ++ [x]) m s n i) a w := by
 obtain ⟨E', h1⟩ := h.rowEq (k := 3) (T := 56) (sz := 5) (n := acc.length + 1) (el := f) rfl (ptEl (acc ++ [x])) hf
 refine ⟨E', ?_⟩
 have e : pk2 ps (acc ++ [x]) m s n i = mk 3 23 [(1, .fn (.func 38) [] [.ref 0 0, .ref 2 0]), (5, .own 3), (8, .d (.list 5 ps.length (ptEl ps))), (9, .d (.raw (.int .i64 (n)))), (10, .d (.raw (.int .i64 (i))))] [(0, .obj 83 [.mp 1]), (1, .mp (plMp m)), (2, .obj 3 [.d (.raw (.int .i64 s))]), (3, .row 56 5 (acc.length + 1) (ptEl (acc ++ [x])))] := by
  unfold pk2; rw [List.length_append]; rfl
 rw [e]
 exact h1
theorem app_pkP (os : List Pt) (x : Pt) (g : Nat → D) (hg : g 0 = ptD x) (j : Nat) (hj : j < os.length + 1) : (if j < os.length then ptEl os j else g (j - os.length)) = ptEl (os ++ [x]) j := by
 unfold ptEl
 by_cases h : j < os.length
 ·
  rw [if_pos h]
  congr 1
  simp [List.getD, List.getElem?_append_left h]
 ·
  rw [if_neg h]
  obtain rfl : j = os.length := by omega
  rw [Nat.sub_self, hg]
  congr 1
  simp [List.getD]
theorem pkP_go {w0 : World} {N : Nat → Prop} {E0 : Env} (ps : List Pt) (m : Pm) (s : Int) (hl : ps.length ≤ 1000000) : ∀ (d : Nat) (n i : Int), n = (ps.length : Int) → 0 ≤ i → i + d = n → ∀ acc : List Pt, acc.length ≤ i.toNat → GoPkP w0 N E0 s m (pk2 ps acc m s n i) (acc ++ (ps.drop i.toNat).filter (inP m s)) := by
 intro d
 induction d with
 | zero =>
  intro n i en h0 hd acc ha E a w hsim
  have r : Bool := true
  rw [List.drop_eq_nil_of_le (by omega), List.filter_nil, List.append_nil]
  rcases bd (decide (i < n)) with hb1 | hb1
  ·
   rcases bd (r) with hb2 | hb2
   ·
    exact absurd (of_decide_eq_true hb1) (by omega)
   ·
    exact absurd (of_decide_eq_true hb1) (by omega)
  ·
   exact gr (L2_ok m r) Tryd.func37 (sr' := ⟨3, [.d (.list 5 acc.length (ptEl acc))], [(0, .obj 83 [.mp 1]), (1, .mp ⟨85, m.h, fun d => rI (m.v d), (m.n)⟩), (2, .obj 3 [vI s])]⟩) (cs := [_]) [false] true ⟨hb1, trivial⟩ (by rfl) hsim
 | succ d ih =>
  intro n i en h0 hd acc ha E a w hsim
  have hi : i.toNat < ps.length := by omega
  have ew : IntKind.i64.wrap (i + 1) = i + 1 := wrapP (by omega)
  obtain ⟨r, hr⟩ : ∃ r, (inP m s) (ps.getD i.toNat noPt) = r := ⟨_, rfl⟩
  have ih := ih n (IntKind.i64.wrap (i + 1)) en (by rw [ew]; omega) (by rw [ew]; omega)
  rw [getD_dropP (d := noPt) hi, List.filter_cons, hr]
  rw [ew, show (i + 1).toNat = i.toNat + 1 by omega, ← ew] at ih
  rcases bd (decide (i < n)) with hb1 | hb1
  ·
   rcases bd (r) with hb2 | hb2
   ·
    refine gh (L2_ok m r) (k' := loopAt Tryd.f37 0) (s' := let za := ps.getD i.toNat noPt; mk 3 23 [(1, .fn (Fn.func (38 : FuncId)) [] [.ref 0 0, .ref 2 0]), (5, .own 3), (8, .d (.list 5 ps.length (ptEl ps))), (9, vI n), (10, vI (wI (i + 1)))] [(0, .obj 83 [.mp 1]), (1, .mp ⟨85, m.h, fun d => rI (m.v d), (m.n)⟩), (2, .obj 3 [vI s]), (3, .row 56 5 (acc.length + 1) (fun j => if j < acc.length then ptEl acc j else segD true 5 (splice (List.map (fun j => (List.map D.raw (Value.agg #[Value.int IntKind.i64 (0 : Int), Value.int IntKind.i64 (0 : Int), Value.int IntKind.i64 (0 : Int), Value.int IntKind.i64 (0 : Int), Value.string (eM)]).cells.toList).getD (j % 5) default) (List.range 5)) 0 (D.agg [rI za.at', rI za.cl, rI za.n, rI za.a.fst, rS za.a.snd]).cells) (j - acc.length)))]) (cs := [_, (0 ≤ i ∧ i < ps.length), (83 = 83), (MapD.mk 85 m.h (fun d => rI (m.v d)) m.n = plMp m), (3 = 3), ((pmGet m (ps.getD i.toNat noPt).cl (ps.getD i.toNat noPt).n == s) = r), _, (acc.length + 1 ≤ 9223372036854775807 ∧ (acc.length + 1) * 48 ≤ 140737488355328)]) [true, true] [1,5,8,9,10] ⟨hb1, by omega, by omega, (by (constructor <;> omega)), by omega, (by exact hr), hb2, by omega, trivial⟩ hsim fun E a w hsim => ?_
    first | (rw [if_pos hb2]; have h2 := ih (acc ++ [ps.getD i.toNat noPt]) (by rw [List.length_append]; simp; omega); rw [List.append_assoc] at h2; obtain ⟨E2, h3⟩ := row_pkP ps acc m s n (IntKind.i64.wrap (i + 1)) (ps.getD i.toNat noPt) _ (fun j hj => app_pkP acc (ps.getD i.toNat noPt) _ rfl j hj) hsim; exact h2 E2 a w h3) | (rw [if_neg (Bool.eq_false_iff.1 hb2)]; exact ih acc (by omega) E a w hsim)
   ·
    refine gh (L2_ok m r) (k' := loopAt Tryd.f37 0) (s' := mk 3 23 [(1, .fn (Fn.func (38 : FuncId)) [] [.ref 0 0, .ref 2 0]), (5, .own 3), (8, .d (.list 5 ps.length (ptEl ps))), (9, vI n), (10, vI (wI (i + 1)))] [(0, .obj 83 [.mp 1]), (1, .mp ⟨85, m.h, fun d => rI (m.v d), (m.n)⟩), (2, .obj 3 [vI s]), (3, .row 56 5 acc.length (ptEl acc))]) (cs := [_, (0 ≤ i ∧ i < ps.length), (83 = 83), (MapD.mk 85 m.h (fun d => rI (m.v d)) m.n = plMp m), (3 = 3), ((pmGet m (ps.getD i.toNat noPt).cl (ps.getD i.toNat noPt).n == s) = r), _]) [true, false] [1,5,8,9,10] ⟨hb1, by omega, by omega, (by (constructor <;> omega)), by omega, (by exact hr), hb2, trivial⟩ hsim fun E a w hsim => ?_
    first | (rw [if_pos hb2]; have h2 := ih (acc ++ [ps.getD i.toNat noPt]) (by rw [List.length_append]; simp; omega); rw [List.append_assoc] at h2; obtain ⟨E2, h3⟩ := row_pkP ps acc m s n (IntKind.i64.wrap (i + 1)) (ps.getD i.toNat noPt) _ (fun j hj => app_pkP acc (ps.getD i.toNat noPt) _ rfl j hj) hsim; exact h2 E2 a w h3) | (rw [if_neg (Bool.eq_false_iff.1 hb2)]; exact ih acc (by omega) E a w hsim)
  ·
   exact absurd (of_decide_eq_false hb1) (by omega)
theorem pkP_ok (ps : List Pt) (m : Pm) (s : Int) (hl : ps.length ≤ 1000000) : Eng.Spec Tryd.prog gB 37 [.d (.list 5 ps.length (ptEl ps)), .fn (.func 38) [] [.ref 0 0, .ref 2 0]] [(0, .obj 83 [.mp 1]), (1, .mp (plMp m)), (2, .obj 3 [.d (.raw (.int .i64 s))])] (.d (.list 5 (ps.filter (inP m s)).length (ptEl (ps.filter (inP m s))))) [(0, .obj 83 [.mp 1]), (1, .mp (plMp m)), (2, .obj 3 [.d (.raw (.int .i64 s))])] := by
 refine spec_fn Tryd.func37 rfl fun {w N E act} hsim => ?_
 refine gh (L2_ok m true) (k' := loopAt Tryd.f37 0) (s' := mk 3 23 [(1, .fn (Fn.func (38 : FuncId)) [] [.ref 0 0, .ref 2 0]), (5, .d (.raw (Value.slice none 0 0))), (8, .d (.list 5 ps.length (ptEl ps))), (9, vI (↑ps.length : Int)), (10, vI 0)] [(0, .obj 83 [.mp 1]), (1, .mp ⟨85, m.h, fun d => rI (m.v d), (m.n)⟩), (2, .obj 3 [vI s])]) (cs := []) [] [1,5,8,9,10] trivial hsim fun E a w hsim => ?_
 obtain ⟨E2, h2⟩ := hsim.nilRow (t := 5) rfl 56 5 (ptEl [])
 exact pkP_go ps m s hl ps.length (ps.length : Int) 0 rfl (by omega) (by omega) [] (by simp) E2 a w h2
end Go.Prf
