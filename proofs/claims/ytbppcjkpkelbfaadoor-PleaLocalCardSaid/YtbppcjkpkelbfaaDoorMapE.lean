/-
  Contracts of given functions, plain laws. No condition.
-/
import Derived.Test.YtbppcjkpkelbfaaDoorEng18
import Derived.Test.YtbppcjkpkelbfaaDoorPlaA
import Derived.Test.YtbppcjkpkelbfaaDoorPrfG
namespace Go.Eng
open Go
theorem ThOK.mapEq {P : Program} {E : Env} {w : World} {N : Nat → Prop} {M M' : MapD} {v : Value} (hk : M.kt = M'.kt) (hn : M.n = M'.n) (hh : ∀ d, M.has d = M'.has d) (hv : ∀ d, M.has d = true → M.val d = M'.val d)
  (h : ThOK P E w N (.mp M) v) : ThOK P E w N (.mp M') v := by
 obtain ⟨b, es, clock, h1, h2, h3, h4, h5, h6, h7⟩ := h
 refine ⟨b, es, clock, h1, h2, h3.trans hn, h4, fun e he => hk ▸ h5 e he, fun d u hd hs => ?_, fun d u e hd he hu => ?_⟩
 · rw [← hh d]; exact h6 d u hd (hk.symm ▸ hs)
 ·
  have hs : shapeV P 8 M.kt u = true := hu ▸ h5 e he
  have := (h6 d u hd hs).2 ⟨e, he, hu⟩
  rw [← hv d this]; exact h7 d u e hd he hu
theorem Sim.mapEq {C : Cx} {E : Env} {s : St} {a : Act} {w : World} (h : Sim C E s a w) {k : Nat} {M : MapD} (hk : s.th k = some (.mp M)) (M' : MapD) (h1 : M.kt = M'.kt) (h2 : M.n = M'.n) (h3 : ∀ d, M.has d = M'.has d) (h4 : ∀ d, M.has d = true → M.val d = M'.val d) : ∃ E', Sim C E' (s.setTh k (.mp M')) a w :=
 (Says.th hk (t' := .mp M') (fun h => h.mapEq h1 h2 h3 h4)).out E a w h
end Go.Eng

namespace Go.Prf
open Go Go.Eng Go.Proofs Go.Tab Go.Plc
set_option maxRecDepth 100000
set_option maxHeartbeats 4000000
theorem L3_ok (c : Int) (cs xs : List Ca) (ps ys : List Pt) (m : Pm) : OrcOK Tryd.prog (L3 c cs xs ps ys m) := (((L0_ok c).add _ false (mPk1 cs xs) fun args H ret H' q h hc => by
 unfold mPk1 at h
 split at h
 · cases h; obtain ⟨rfl, rfl, rfl, rfl, rfl, ⟨hl, hs, rfl⟩, -⟩ := hc; exact pkC_ok cs _ hl hs
 · cases h).add _ false (mPk2 ps ys m) fun args H ret H' q h hc => by
 unfold mPk2 at h
 split at h
 · cases h; obtain ⟨rfl, rfl, rfl, rfl, rfl, rfl, rfl, ⟨hl, rfl⟩, -⟩ := hc; exact pkP_ok ps m _ hl
 · cases h)
theorem plMp_put (m : Pm) (k : D) (x : Int) : (plMp m).put k (.raw (.int .i64 x)) = plMp (pmPut m k x) := by
 unfold plMp MapD.put pmPut
 congr 1
 funext d
 show (match keyEq d k with | true => D.raw (.int .i64 x) | false => D.raw (.int .i64 (m.v d))) = D.raw (.int .i64 (match keyEq d k with | true => x | false => m.v d))
 cases keyEq d k <;> rfl
abbrev GoS1 (w0 : World) (N : Nat → Prop) (E0 : Env)  (st : St) (r : List PartT) : Prop := GoG Tryd.prog gB 12 (loopAt Tryd.f12 0) [] ⟨0, [.tup [.d (.list 2 r.length (paEl r)), .d (.raw (.int .i64 0))]], []⟩ w0 N E0 st
abbrev GoS2 (w0 : World) (N : Nat → Prop) (E0 : Env)  (st : St) (r : List PartT) : Prop := GoG Tryd.prog gB 12 (loopAt Tryd.f12 1) [] ⟨0, [.tup [.d (.list 2 r.length (paEl r)), .d (.raw (.int .i64 0))]], []⟩ w0 N E0 st
theorem row_pa {C : Cx} {E : Env} {a : Act} {w : World} (cs : List Ca) (ps : List Pt) (m : Pm) (acc : List PartT) (i : Int) (x : PartT) (f : Nat → D) (hf : ∀ j, j < acc.length + 1 → f j = paEl (acc ++ [x]) j) (h : Sim C E (mk 0 64 [(0, .d (.list 10 cs.length (caEl cs))), (1, .d (.list 5 ps.length (ptEl ps))), (6, .ref 0 0), (12, .own 2), (49, .d (.raw (.int .i64 (i))))] [(0, .obj 83 [.mp 1]), (1, .mp (plMp m)), (2, .row 37 2 (acc.length + 1) f)]) a w) : ∃ E', Sim C E' (sp2 cs ps m (acc ++ [x]) i) a w := by
 obtain ⟨E', h1⟩ := h.rowEq (k := 2) (T := 37) (sz := 2) (n := acc.length + 1) (el := f) rfl (paEl (acc ++ [x])) hf
 refine ⟨E', ?_⟩
 have e : sp2 cs ps m (acc ++ [x]) i = mk 0 64 [(0, .d (.list 10 cs.length (caEl cs))), (1, .d (.list 5 ps.length (ptEl ps))), (6, .ref 0 0), (12, .own 2), (49, .d (.raw (.int .i64 (i))))] [(0, .obj 83 [.mp 1]), (1, .mp (plMp m)), (2, .row 37 2 (acc.length + 1) (paEl (acc ++ [x])))] := by
  unfold sp2; rw [List.length_append]; rfl
 rw [e]
 exact h1
theorem app_pa (os : List PartT) (x : PartT) (g : Nat → D) (hg : g 0 = paD x) (j : Nat) (hj : j < os.length + 1) : (if j < os.length then paEl os j else g (j - os.length)) = paEl (os ++ [x]) j := by
 unfold paEl
 by_cases h : j < os.length
 ·
  rw [if_pos h]
  congr 1
  simp [List.getD, List.getElem?_append_left h]
 ·
  rw [if_neg h]
  obtain rfl : j = os.length := by omega
  rw [Nat.sub_self, hg]
  congr 1
  simp [List.getD]
def partsF (cs : List Ca) (ps : List Pt) (m : Pm) : List PartT := (List.range 4).map (partF cs ps m)
theorem sp2_go {w0 : World} {N : Nat → Prop} {E0 : Env} (cs : List Ca) (ps : List Pt) (m : Pm) (hl : cs.length ≤ 1000000) (hl2 : ps.length ≤ 1000000) (hs : SmallK cs) : ∀ (d k : Nat), k + d = 4 → GoS2 w0 N E0 (sp2 cs ps m ((List.range k).map (partF cs ps m)) (k : Int)) (partsF cs ps m) := by
 intro d
 let c : Int := 0
 induction d with
 | zero =>
  intro k hk E a w hsim
  obtain rfl : k = 4 := by omega
  let xs : List Ca := []
  let ys : List Pt := []
  obtain ⟨acc, hacc⟩ : ∃ acc, acc = partsF cs ps m := ⟨_, rfl⟩
  obtain ⟨i, hi⟩ : ∃ i : Int, i = ((4 : Nat) : Int) := ⟨_, rfl⟩
  rw [← hi, show (List.range 4).map (partF cs ps m) = acc from hacc.symm] at hsim
  rw [← hacc]
  rcases bd (decide (i < (4 : Int))) with hb1 | hb1
  ·
   have q0_ : ((3 : Nat) = (3 : Nat)) := (by exact absurd (of_decide_eq_true hb1) (by omega))
   exact absurd (of_decide_eq_true hb1) (by omega)
  ·
   exact gr (L3_ok c cs xs ps ys m) Tryd.func12 (sr' := ⟨0, [.tup [.d (.list 2 acc.length (paEl acc)), vI 0]], []⟩) (cs := [_]) [false] true ⟨hb1, trivial⟩ (by first | rfl | exact absurd (of_decide_eq_true hb1) (by omega)) hsim
 | succ d ih =>
  intro k hk E a w hsim
  have ew : IntKind.i64.wrap ((k : Int) + 1) = ((k + 1 : Nat) : Int) := by rw [wrapP (by omega)]; omega
  have ih := ih (k + 1) (by omega)
  rw [List.range_succ, List.map_append, ← ew] at ih
  obtain ⟨xs, hx⟩ : ∃ xs, xs = cs.filter (inS (k : Int)) := ⟨_, rfl⟩
  obtain ⟨ys, hy⟩ : ∃ ys, ys = ps.filter (inP m (k : Int)) := ⟨_, rfl⟩
  have hp : partF cs ps m k = (xs, ys) := by rw [hx, hy]; rfl
  obtain ⟨acc, hacc⟩ : ∃ acc, acc = (List.range k).map (partF cs ps m) := ⟨_, rfl⟩
  have hal : acc.length = k := by rw [hacc, List.length_map, List.length_range]
  rw [← hacc] at hsim
  rw [← hacc, List.map_cons, List.map_nil, hp] at ih
  obtain ⟨i, hi⟩ : ∃ i : Int, i = ((k : Nat) : Int) := ⟨_, rfl⟩
  rw [← hi] at hsim ih hx hy
  rcases bd (decide (i < (4 : Int))) with hb1 | hb1
  ·
   have q0_ : ((3 : Nat) = (3 : Nat)) := (by first | exact ⟨hl, hs, hx⟩ | exact ⟨hl2, hy⟩ | rfl | omega | (constructor <;> omega))
   refine gh (L3_ok c cs xs ps ys m) (k' := loopAt Tryd.f12 1) (s' := mk 0 64 [(0, .d (.list 10 cs.length (caEl cs))), (1, .d (.list 5 ps.length (ptEl ps))), (6, .ref 0 0), (12, .own 2), (49, vI (wI (i + 1)))] [(0, .obj 83 [.mp 1]), (1, .mp ⟨85, m.h, fun d => rI (m.v d), (m.n)⟩), (2, .row 37 2 (acc.length + 1) (fun j => if j < acc.length then paEl acc j else segD true 2 (splice (List.map (fun j => (List.map D.raw (Value.agg #[Value.slice none 0 0, Value.slice none 0 0]).cells.toList).getD (j % 2) default) (List.range 2)) 0 (D.agg [D.list 10 xs.length (caEl xs), D.list 5 ys.length (ptEl ys)]).cells) (j - acc.length)))]) (cs := ((fun (c0 : Prop) => [_, (10 = 10), (cs.length = cs.length), (caEl cs = caEl cs), (36 = 36), c0, (cs.length ≤ 1000000 ∧ SmallK cs ∧ xs = List.filter (inS i) cs), (5 = 5), (ps.length = ps.length), (ptEl ps = ptEl ps), (38 = 38), (83 = 83), (MapD.mk 85 m.h (fun d => rI (m.v d)) m.n = plMp m), c0, (ps.length ≤ 1000000 ∧ ys = List.filter (inP m i) ps), (acc.length + 1 ≤ 9223372036854775807 ∧ (acc.length + 1) * 48 ≤ 140737488355328)]) _)) [true] [0,1,6,12,49] ⟨hb1, (by first | exact ⟨hl, hs, hx⟩ | exact ⟨hl2, hy⟩ | rfl | omega | (constructor <;> omega)), (by first | exact ⟨hl, hs, hx⟩ | exact ⟨hl2, hy⟩ | rfl | omega | (constructor <;> omega)), (by first | exact ⟨hl, hs, hx⟩ | exact ⟨hl2, hy⟩ | rfl | omega | (constructor <;> omega)), (by first | exact ⟨hl, hs, hx⟩ | exact ⟨hl2, hy⟩ | rfl | omega | (constructor <;> omega)), q0_, (by first | exact ⟨hl, hs, hx⟩ | exact ⟨hl2, hy⟩ | rfl | omega | (constructor <;> omega)), (by first | exact ⟨hl, hs, hx⟩ | exact ⟨hl2, hy⟩ | rfl | omega | (constructor <;> omega)), (by first | exact ⟨hl, hs, hx⟩ | exact ⟨hl2, hy⟩ | rfl | omega | (constructor <;> omega)), (by first | exact ⟨hl, hs, hx⟩ | exact ⟨hl2, hy⟩ | rfl | omega | (constructor <;> omega)), (by first | exact ⟨hl, hs, hx⟩ | exact ⟨hl2, hy⟩ | rfl | omega | (constructor <;> omega)), (by first | exact ⟨hl, hs, hx⟩ | exact ⟨hl2, hy⟩ | rfl | omega | (constructor <;> omega)), (by first | exact ⟨hl, hs, hx⟩ | exact ⟨hl2, hy⟩ | rfl | omega | (constructor <;> omega)), q0_, (by first | exact ⟨hl, hs, hx⟩ | exact ⟨hl2, hy⟩ | rfl | omega | (constructor <;> omega)), (by first | exact ⟨hl, hs, hx⟩ | exact ⟨hl2, hy⟩ | rfl | omega | (constructor <;> omega)), trivial⟩ hsim fun E a w hsim => ?_
   obtain ⟨E2, h2⟩ := row_pa cs ps m acc (IntKind.i64.wrap (i + 1)) (xs, ys) _ (fun j hj => app_pa acc (xs, ys) _ rfl j hj) hsim
   exact ih E2 a w h2
  ·
   exact absurd (of_decide_eq_false hb1) (by omega)
theorem sp1_go {w0 : World} {N : Nat → Prop} {E0 : Env} (cs : List Ca) (ps : List Pt) (hl : cs.length ≤ 1000000) (hl2 : ps.length ≤ 1000000) (hs : SmallK cs) : ∀ (d : Nat) (n i : Int), n = (cs.length : Int) → 0 ≤ i → i + d = n → ∀ m : Pm, GoS1 w0 N E0 (sp1 cs ps m n i) (partsF cs ps ((cs.drop i.toNat).foldl pmStep m)) := by
 intro d
 let xs : List Ca := []
 let ys : List Pt := []
 induction d with
 | zero =>
  intro n i en h0 hd m E a w hsim
  let c : Int := 0
  rw [List.drop_eq_nil_of_le (by omega), List.foldl_nil]
  rcases bd (decide (i < n)) with hb1 | hb1
  ·
   rcases bd ((MapD.mk (85 : Nat) m.h (fun d => D.raw (Value.int IntKind.i64 (m.v d))) m.n).has (D.agg [D.raw (Value.int IntKind.i64 (cs.getD i.toNat noCa).cl), D.raw (Value.int IntKind.i64 (cs.getD i.toNat noCa).n)])) with hb2 | hb2
   ·
    exact absurd (of_decide_eq_true hb1) (by omega)
   ·
    exact absurd (of_decide_eq_true hb1) (by omega)
  ·
   refine gh (L3_ok c cs xs ps ys m) (k' := loopAt Tryd.f12 1) (s' := mk 0 64 [(0, .d (.list 10 cs.length (caEl cs))), (1, .d (.list 5 ps.length (ptEl ps))), (6, .ref 0 0), (12, .d (.raw (Value.slice none 0 0))), (23, .d (.list 10 cs.length (caEl cs))), (24, vI n), (25, vI i), (49, vI 0)] [(0, .obj 83 [.mp 1]), (1, .mp ⟨85, m.h, fun d => rI (m.v d), (m.n)⟩)]) (cs := [_]) [false] [0,1,6,12,23,24,25,49] ⟨hb1, trivial⟩ hsim fun E a w hsim => ?_
   obtain ⟨E8, h8⟩ := hsim.keep [0, 1, 6, 12, 49]
   obtain ⟨E9, h9⟩ := h8.nilRow (t := 12) (by kernel_rfl) 37 2 (paEl [])
   exact sp2_go cs ps m hl hl2 hs 4 0 rfl E9 a w ((congrArg (fun s => Sim _ E9 s a w) (by kernel_rfl)).mp h9)
 | succ d ih =>
  intro n i en h0 hd m E a w hsim
  have hi : i.toNat < cs.length := by omega
  have ew : IntKind.i64.wrap (i + 1) = i + 1 := wrapP (by omega)
  have ih := ih n (IntKind.i64.wrap (i + 1)) en (by rw [ew]; omega) (by rw [ew]; omega)
  obtain ⟨c, hc⟩ : ∃ c, plc (cs.getD i.toNat noCa).o.2.1 = c := ⟨_, rfl⟩
  have hk : (cs.getD i.toNat noCa).o.2.1.size ≤ 1073741824 := hs _ (by rw [List.getD_eq_getElem?_getD, List.getElem?_eq_getElem hi]; exact List.getElem_mem hi)
  rw [getD_dropP (d := noCa) hi, List.foldl_cons]
  rw [show (IntKind.i64.wrap (i + 1)).toNat = i.toNat + 1 by rw [ew]; omega] at ih
  have eT : m.h (nmD (cs.getD i.toNat noCa).cl (cs.getD i.toNat noCa).n) = true → pmStep m (cs.getD i.toNat noCa) = m := fun h => if_pos h
  have eF : m.h (nmD (cs.getD i.toNat noCa).cl (cs.getD i.toNat noCa).n) = false → pmStep m (cs.getD i.toNat noCa) = pmPut m (nmD (cs.getD i.toNat noCa).cl (cs.getD i.toNat noCa).n) c := fun h => by rw [← hc]; exact if_neg (Bool.eq_false_iff.1 h)
  rcases bd (decide (i < n)) with hb1 | hb1
  ·
   rcases bd ((MapD.mk (85 : Nat) m.h (fun d => D.raw (Value.int IntKind.i64 (m.v d))) m.n).has (D.agg [D.raw (Value.int IntKind.i64 (cs.getD i.toNat noCa).cl), D.raw (Value.int IntKind.i64 (cs.getD i.toNat noCa).n)])) with hb2 | hb2
   ·
    refine gh (L3_ok c cs xs ps ys m) (k' := loopAt Tryd.f12 0) (s' := mk 0 64 [(0, .d (.list 10 cs.length (caEl cs))), (1, .d (.list 5 ps.length (ptEl ps))), (6, .ref 0 0), (23, .d (.list 10 cs.length (caEl cs))), (24, vI n), (25, vI (wI (i + 1)))] [(0, .obj 83 [.mp 1]), (1, .mp ⟨85, m.h, fun d => rI (m.v d), (m.n)⟩)]) (cs := [_, (0 ≤ i ∧ i < cs.length), _, ((false) = false)]) [true, true, false] [0,1,6,12,23,24,25,49] ⟨hb1, (by first | exact ⟨hc, hk⟩ | omega | rfl), hb2, rfl, trivial⟩ hsim fun E a w hsim => ?_
    first | (rw [eT hb2]; exact ih m E a w hsim) | (rw [eF hb2]; have h2 : Sim _ E (sp1M cs ps ((plMp m).put (nmD (cs.getD i.toNat noCa).cl (cs.getD i.toNat noCa).n) (.raw (.int .i64 c))) n (IntKind.i64.wrap (i + 1))) a w := hsim; rw [plMp_put] at h2; exact ih _ E a w h2)
   ·
    refine gh (L3_ok c cs xs ps ys m) (k' := loopAt Tryd.f12 0) (s' := let za := D.agg [rI (cs.getD i.toNat noCa).cl, rI (cs.getD i.toNat noCa).n]; mk 0 64 [(0, .d (.list 10 cs.length (caEl cs))), (1, .d (.list 5 ps.length (ptEl ps))), (6, .ref 0 0), (23, .d (.list 10 cs.length (caEl cs))), (24, vI n), (25, vI (wI (i + 1)))] [(0, .obj 83 [.mp 1]), (1, .mp ⟨85, fun x => keyEq x za || (MapD.mk 85 m.h (fun d => rI (m.v d)) m.n).has x, fun x =>   match keyEq x za with   | true => rI c   | false => (MapD.mk 85 m.h (fun d => rI (m.v d)) m.n).val x, (match (MapD.mk 85 m.h (fun d => rI (m.v d)) m.n).has za with | true => (MapD.mk 85 m.h (fun d => rI (m.v d)) m.n).n | false => (MapD.mk 85 m.h (fun d => rI (m.v d)) m.n).n + 1)⟩)]) (cs := [_, (0 ≤ i ∧ i < cs.length), _, ((true) = true), (Plc.plc (cs.getD i.toNat noCa).o.snd.fst = c ∧ (cs.getD i.toNat noCa).o.snd.fst.size ≤ 1073741824)]) [true, false, true] [0,1,6,12,23,24,25,49] ⟨hb1, (by first | exact ⟨hc, hk⟩ | omega | rfl), hb2, rfl, (by first | exact ⟨hc, hk⟩ | omega | rfl), trivial⟩ hsim fun E a w hsim => ?_
    first | (rw [eT hb2]; exact ih m E a w hsim) | (rw [eF hb2]; have h2 : Sim _ E (sp1M cs ps ((plMp m).put (nmD (cs.getD i.toNat noCa).cl (cs.getD i.toNat noCa).n) (.raw (.int .i64 c))) n (IntKind.i64.wrap (i + 1))) a w := hsim; rw [plMp_put] at h2; exact ih _ E a w h2)
  ·
   exact absurd (of_decide_eq_false hb1) (by omega)
def pmOf (cs : List Ca) : Pm := cs.foldl pmStep pm0
theorem split_ok (cs : List Ca) (ps : List Pt) (hl : cs.length ≤ 2000) (hl2 : ps.length ≤ 2000) (hs : SmallK cs) : Eng.Spec Tryd.prog gB 12 [.d (.list 10 cs.length (caEl cs)), .d (.list 5 ps.length (ptEl ps))] [] (.tup [.d (.list 2 4 (paEl (partsF cs ps (pmOf cs)))), .d (.raw (.int .i64 0))]) [] := by
 refine spec_fn Tryd.func12 rfl fun {w N E act} hsim => ?_
 let c : Int := 0
 let xs : List Ca := []
 let ys : List Pt := []
 let m : Pm := pm0
 rcases bd (decide ((↑cs.length : Int) > (2000 : Int))) with hb1 | hb1
 ·
  exact gr (L3_ok c cs xs ps ys m) Tryd.func12 (sr' := ⟨0, [.tup [.d (.raw (Value.slice none 0 0)), vI 2]], []⟩) (cs := [_]) [true] true ⟨hb1, trivial⟩ (by first | exact absurd (of_decide_eq_true hb1) (by omega) | exact absurd (of_decide_eq_true hb2) (by omega)) hsim
 ·
  rcases bd (decide ((↑ps.length : Int) > (2000 : Int))) with hb2 | hb2
  ·
   exact gr (L3_ok c cs xs ps ys m) Tryd.func12 (sr' := ⟨0, [.tup [.d (.raw (Value.slice none 0 0)), vI 2]], []⟩) (cs := [_, _]) [false, true] true ⟨hb1, hb2, trivial⟩ (by first | exact absurd (of_decide_eq_true hb1) (by omega) | exact absurd (of_decide_eq_true hb2) (by omega)) hsim
  ·
   refine gh (L3_ok c cs xs ps ys m) (k' := loopAt Tryd.f12 0) (s' := mk 0 64 [(0, .d (.list 10 cs.length (caEl cs))), (1, .d (.list 5 ps.length (ptEl ps))), (6, .ref 0 0), (23, .d (.list 10 cs.length (caEl cs))), (24, vI (↑cs.length : Int)), (25, vI 0)] [(0, .obj 83 [.mp 1]), (1, .mp ⟨85, fun x => false, fun x => default, 0⟩)]) (cs := [_, _]) [false, false] [0,1,6,23,24,25] ⟨hb1, hb2, trivial⟩ hsim fun E a w hsim => ?_
   obtain ⟨E2, h1⟩ := hsim.mapEq (k := 1) rfl (plMp pm0) rfl rfl (fun _ => rfl) (fun _ h => by cases h)
   exact sp1_go cs ps (by omega) (by omega) hs cs.length (cs.length : Int) 0 rfl (by omega) (by omega) pm0 E2 a w h1
end Go.Prf

namespace Go.Nil
open Go Go.Eng
end Go.Nil

namespace Go.Prf
open Go Go.Eng Go.Proofs Go.Tab Go.Plc
set_option maxRecDepth 100000
set_option maxHeartbeats 4000000
end Go.Prf

namespace Go.Prf
open Go Go.Eng Go.Proofs Go.Tab Go.Plc
set_option maxRecDepth 100000
set_option maxHeartbeats 4000000
def rpartsF (cs : List Ca) (ps : List Pt) : List PartT := (List.range 4).map (rpartF cs ps)
theorem pm_get (cl nu : Int) : ∀ (cs : List Ca) (m : Pm), pmGet (cs.foldl pmStep m) cl nu = if m.h (nmD cl nu) = true then m.v (nmD cl nu) else placeF cl nu cs
 | [], m => rfl
 | c :: r, m => by
  rw [List.foldl_cons, pm_get cl nu r]
  have hk : keyEq (nmD cl nu) (nmD c.cl c.n) = (cl == c.cl && nu == c.n) := rfl
  unfold pmStep
  by_cases hc : m.h (nmD c.cl c.n) = true
  ·
   rw [if_pos hc]
   by_cases hm : m.h (nmD cl nu) = true
   · rw [if_pos hm, if_pos hm]
   ·
    rw [if_neg hm, if_neg hm, placeF]
    rw [if_neg]
    intro e
    rw [Bool.and_eq_true] at e
    rw [eq_of_beq e.1, eq_of_beq e.2] at hc
    exact hm hc
  ·
   rw [if_neg hc]
   show (if (keyEq (nmD cl nu) (nmD c.cl c.n) || m.h (nmD cl nu)) = true then (match keyEq (nmD cl nu) (nmD c.cl c.n) with | true => plc c.o.2.1 | false => m.v (nmD cl nu)) else placeF cl nu r) = _
   rw [hk]
   by_cases he : cl = c.cl ∧ nu = c.n
   ·
    rw [← he.1, ← he.2] at hc ⊢
    rw [beq_self_eq_true, beq_self_eq_true, if_neg hc, placeF, ← he.1, ← he.2, beq_self_eq_true, beq_self_eq_true]
    rfl
   ·
    have e1 : (cl == c.cl && nu == c.n) = false := by
     rw [Bool.and_eq_false_iff]
     by_cases h1 : cl = c.cl
     · exact .inr (beq_eq_false_iff_ne.2 fun h2 => he ⟨h1, h2⟩)
     · exact .inl (beq_eq_false_iff_ne.2 h1)
    have e2 : (c.cl == cl && c.n == nu) = false := by rw [← e1, Bool.beq_comm, Bool.beq_comm (a := c.n)]
    rw [e1, placeF, if_neg (Bool.eq_false_iff.1 e2)]
    rfl
theorem parts_eq (cs : List Ca) (ps : List Pt) : partsF cs ps (pmOf cs) = rpartsF cs ps := by
 unfold partsF rpartsF
 congr 1
 funext s
 unfold partF rpartF
 congr 1
 congr 1
 funext p
 unfold inP inR pmOf
 rw [pm_get]
 rfl
end Go.Prf

namespace Go.Prf
open Go Go.Eng Go.Tab Go.Plc
def pC : Ca := ⟨0, 1, (2, ⟨#[107]⟩, ⟨#[]⟩, ⟨#[]⟩), 2, -1, (0, ⟨#[]⟩)⟩
def lgF : Int → List Ca → Bool → Bool
 | _, [], b => b
 | m, c :: r, b => if m + c.o.2.1.size > 5000 then true else lgF (m + c.o.2.1.size) r b
def lgM (cs : List Ca) (ps : List Pt) : Bool := lgF 0 cs (decide ((cs.length : Int) > 80) || decide ((ps.length : Int) > 80))
def SmallW (L : List Ca) : Prop := ∀ c ∈ L, c.o.2.1.size ≤ 140737488351232
def mCall : Mo
 | [.d (.agg [.raw (.int .i64 cl), .raw (.int .i64 nu), .raw (.int .i64 k), .raw (.string key), .raw (.string val), .raw (.string old), .raw (.int .i64 fr), .raw (.int .i64 to), .raw (.int .i64 er), .raw (.string v)])], [] => some (.d (.agg [.raw (.int .i64 cl), .raw (.int .i64 nu), .raw (.int .i64 k), .raw (.string key), .raw (.string val), .raw (.string old), .raw (.int .i64 fr), .raw (.int .i64 to), .raw (.int .i64 er), .raw (.string v)]), [], [])
 | _, _ => none
def mPoint : Mo
 | [.d (.agg [.raw (.int .i64 at_), .raw (.int .i64 cl), .raw (.int .i64 nu), .raw (.int .i64 er), .raw (.string v)])], [] => some (.d (.agg [.raw (.int .i64 at_), .raw (.int .i64 cl), .raw (.int .i64 nu), .raw (.int .i64 er), .raw (.string v)]), [], [])
 | _, _ => none
def mLong : Mo
 | [.d (.agg [.raw (.int .i64 cl), .raw (.int .i64 nu), .raw (.int .i64 k), .raw (.string key), .raw (.string val), .raw (.string old), .raw (.int .i64 fr), .raw (.int .i64 to), .raw (.int .i64 er), .raw (.string v)]), .d (.raw (.int .i64 now))], [] => some (.d (.raw (.int .i64 7)), [], [(cl == 0 && nu == 1 && k == 2 && fr == 2 && to == -1 && er == 0 && now == 9) = true, key = pC.o.2.1, val = pC.o.2.2.1, old = pC.o.2.2.2, v = pC.a.2])
 | _, _ => none
def mIdC2 (cs : List Ca) : Mo
 | [.d (.list s k el)], [] => some (.d (.list 10 cs.length (caEl cs)), [], [s = 10, k = cs.length, el = caEl cs, cs.length ≤ 1000000])
 | _, _ => none
def mIdP2 (ps : List Pt) : Mo
 | [.d (.list s k el)], [] => some (.d (.list 5 ps.length (ptEl ps)), [], [s = 5, k = ps.length, el = ptEl ps, ps.length ≤ 1000000])
 | _, _ => none
def mSplP (l : List PartT) : Mo
 | [.d (.list z k el), .d (.raw (.slice none 0 0))], [] => some (.tup [.d (.list 2 4 (paEl l)), .d (.raw (.int .i64 0))], [], [z = 10 ∧ k = 1, el 0 = caD pC, l = partsF [pC] [] (pmOf [pC])])
 | _, _ => none
def mLgst : Mo
 | [.d (.list z k el), .d (.raw (.int .i64 n))], [] => some (.tup [.d (.raw (.int .i64 0)), .d (.raw (.int .i64 7))], [], [z = 10 ∧ k = 1 ∧ n = 9, el 0 = caD pC])
 | _, _ => none
def mOpen : Mo
 | [.d (.list z k el)], [] => some (.d (.list 1 1 (fun _ => .raw (.int .i64 0))), [], [z = 10 ∧ k = 1, el 0 = caD pC])
 | _, _ => none
def mSpl (cs : List Ca) (ps : List Pt) (l : List PartT) : Mo
 | [.d (.list z k el), .d (.list z2 k2 el2)], [] => some (.tup [.d (.list 2 4 (paEl l)), .d (.raw (.int .i64 0))], [], [z = 10, k = cs.length, el = caEl cs, z2 = 5, k2 = ps.length, el2 = ptEl ps, cs.length ≤ 2000 ∧ ps.length ≤ 2000 ∧ SmallK cs ∧ l = rpartsF cs ps])
 | _, _ => none
def mLarge (cs : List Ca) (ps : List Pt) (r : Bool) : Mo
 | [.d (.list z k el), .d (.list z2 k2 el2)], [] => some (.d (.raw (.bool r)), [], [z = 10, k = cs.length, el = caEl cs, z2 = 5, k2 = ps.length, el2 = ptEl ps, SmallW cs ∧ cs.length ≤ 9223372036854775807 ∧ lgM cs ps = r])
 | _, _ => none
def mParts : Mo
 | [], [] => some (.d (.raw (.bool true)), [], [])
 | _, _ => none
def O1 : Orc := (Orc.none gB).add 16 false mCall
def O2 : Orc := (Orc.none gB).add 17 false mPoint
def O3 : Orc := (Orc.none gB).add 52 false mLong
def O4 (l : List PartT) (c : Int) : Orc := ((((Orc.none gB).add 12 true (mSplP l)).add 31 true mLgst).add 32 true mOpen).add 33 false (mPlcV c)
def cl1 (cs acc : List Ca) (n i : Int) : St := mk 0 19 [(3, .own 0), (6, .d (.list 10 cs.length (caEl cs))), (7, .d (.raw (.int .i64 (n)))), (8, .d (.raw (.int .i64 (i))))] [(0, .row 45 10 acc.length (caEl acc))]
def pl1 (ps acc : List Pt) (n i : Int) : St := mk 0 19 [(3, .own 0), (6, .d (.list 5 ps.length (ptEl ps))), (7, .d (.raw (.int .i64 (n)))), (8, .d (.raw (.int .i64 (i))))] [(0, .row 53 5 acc.length (ptEl acc))]
def lg1 (cs : List Ca) (ps : List Pt) (m n i : Int) : St := mk 0 31 [(0, .d (.list 10 cs.length (caEl cs))), (1, .d (.list 5 ps.length (ptEl ps))), (5, .d (.raw (.int .i64 (m)))), (8, .d (.list 10 cs.length (caEl cs))), (9, .d (.raw (.int .i64 (n)))), (10, .d (.raw (.int .i64 (i))))] []
end Go.Prf

namespace Go.Prf
open Go Go.Eng Go.Tab Go.Plc
def tbB (k : Nat) (T : T4) : List (Nat × Th) := [(k, .obj 112 [.ref (k + 1) 0, .ref (k + 3) 0, .ref (k + 5) 0, .ref (k + 7) 0]), (k + 1, tobj (k + 2)), (k + 2, trow T.a), (k + 3, tobj (k + 4)), (k + 4, trow T.b), (k + 5, tobj (k + 6)), (k + 6, trow T.c), (k + 7, tobj (k + 8)), (k + 8, trow T.d)]
def fm1 (L cs : List Ca) (n i : Int) : St := mk 0 102 [(3, .mp 0), (9, .d (.list 10 cs.length (caEl cs))), (10, .d (.raw (.int .i64 n))), (11, .d (.raw (.int .i64 i)))] [(0, .mp (lastMp L))]
def or1 (L : List Ca) (ps S : List Pt) (now n i : Int) : St := mk 1 66 [(0, .mp 0), (5, .mp 1), (6, .d (.raw (.int .i64 now))), (12, .d (.list 5 ps.length (ptEl ps))), (13, .d (.raw (.int .i64 n))), (14, .d (.raw (.int .i64 i)))] [(0, .mp (knowMp L)), (1, .mp (seenMp S))]
def aw1 (cs : List Ca) (ps S : List Pt) (n i : Int) : St := mk 0 40 [(0, .d (.list 10 cs.length (caEl cs))), (5, .mp 0), (11, .d (.list 5 ps.length (ptEl ps))), (12, .d (.raw (.int .i64 n))), (13, .d (.raw (.int .i64 i)))] [(0, .mp (seenMp S))]
def td1 (L : List Ca) (ps : List Pt) (T : T4) (n i : Int) : St := mk 1 43 [(0, .mp 0), (5, .ref 1 0), (11, .d (.list 5 ps.length (ptEl ps))), (12, .d (.raw (.int .i64 n))), (13, .d (.raw (.int .i64 i)))] ([(0, .mp (knowMp L))] ++ tbB 1 T)
end Go.Prf

namespace Go.Prf
open Go Go.Eng Go.Tab Go.Plc
def or1M (L : List Ca) (ps : List Pt) (M : MapD) (now n i : Int) : St := mk 1 66 [(0, .mp 0), (5, .mp 1), (6, .d (.raw (.int .i64 now))), (12, .d (.list 5 ps.length (ptEl ps))), (13, .d (.raw (.int .i64 n))), (14, .d (.raw (.int .i64 i)))] [(0, .mp (knowMp L)), (1, .mp M)]
def aw1M (cs : List Ca) (ps : List Pt) (M : MapD) (n i : Int) : St := mk 0 40 [(0, .d (.list 10 cs.length (caEl cs))), (5, .mp 0), (11, .d (.list 5 ps.length (ptEl ps))), (12, .d (.raw (.int .i64 n))), (13, .d (.raw (.int .i64 i)))] [(0, .mp M)]
def aw2 (cs : List Ca) (ps S : List Pt) (n i n2 j : Int) : St := mk 0 40 [(0, .d (.list 10 cs.length (caEl cs))), (5, .mp 0), (11, .d (.list 5 ps.length (ptEl ps))), (12, .d (.raw (.int .i64 n))), (13, .d (.raw (.int .i64 i))), (21, .d (.list 10 cs.length (caEl cs))), (22, .d (.raw (.int .i64 n2))), (23, .d (.raw (.int .i64 j)))] [(0, .mp (seenMp S))]
end Go.Prf
