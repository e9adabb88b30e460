/-
  Contracts of given functions, or plain laws that they need. No condition.
-/
import Derived.Test.YtbppcjkpkelbfaaDoorRkC
import Derived.Test.YtbppcjkpkelbfaaDoorPrzG
import Derived.Test.YtbppcjkpkelbfaaDoorRowK
namespace Go.Prf
open Go Go.Eng Go.Proofs Go.Tab Go.Plc
set_option linter.unusedVariables false
set_option linter.unusedSimpArgs false
set_option maxRecDepth 100000
set_option maxHeartbeats 4000000
theorem J3_ok : OrcOK Tryd.prog J3 := (OrcOK.none _).add _ false mAns fun args H r H' cs h hc => by
  unfold mAns at h
  split at h
  · rename_i e v
    cases h; exact ans_ok (e, v)
  · cases h
abbrev GoIC (w0 : World) (N : Nat → Prop) (E0 : Env) (s : St) (r : List Ca) : Prop := ∀ (E : Env) (a : Act) (w : World), Sim (cx Tryd.prog gz0 w0 N E0 []) E s a w → Goes Tryd.prog 21 (loopAt Tryd.f21 0) (RSpec (cx Tryd.prog gz0 w0 N E0 []) ⟨0, [.d (.list 10 r.length (caEl r))], []⟩) a w
theorem row_Cr {C : Cx} {E : Env} {a : Act} {w : World} (cs acc : List Ca) (n i : Int) (x : Ca) (f : Nat → D) (hf : ∀ j, j < acc.length + 1 → f j = caEl (acc ++ [x]) j)
    (h : Sim C E (mk 0 42 [(3, .own 0), (6, .d (.list 10 cs.length (caEl cs))), (7, .d (.raw (.int .i64 n))), (8, .d (.raw (.int .i64 i)))] [(0, .row 45 10 (acc.length + 1) f)]) a w) : ∃ E', Sim C E' (rf1 cs (acc ++ [x]) n i) a w := by
  obtain ⟨E', h1⟩ := h.rowEq (k := 0) (T := 45) (sz := 10) (n := acc.length + 1) (el := f) rfl (caEl (acc ++ [x])) hf
  refine ⟨E', ?_⟩
  have e : rf1 cs (acc ++ [x]) n i = mk 0 42 [(3, .own 0), (6, .d (.list 10 cs.length (caEl cs))), (7, .d (.raw (.int .i64 n))), (8, .d (.raw (.int .i64 i)))] [(0, .row 45 10 (acc.length + 1) (caEl (acc ++ [x])))] := by
    unfold rf1; rw [List.length_append]; rfl
  rw [e]
  exact h1
theorem app_Cr (os : List Ca) (x : Ca) (g : Nat → D) (hg : g 0 = caD x) (j : Nat) (hj : j < os.length + 1) : (if j < os.length then caEl os j else g (j - os.length)) = caEl (os ++ [x]) j := by
  unfold caEl
  by_cases h : j < os.length
  · rw [if_pos h]
    congr 1
    simp [List.getD, List.getElem?_append_left h]
  · rw [if_neg h]
    obtain rfl : j = os.length := by omega
    rw [Nat.sub_self, hg]
    congr 1
    simp [List.getD]
theorem rf_go {w0 : World} {N : Nat → Prop} {E0 : Env} (cs : List Ca) (hl : cs.length ≤ 1000000) : ∀ (d : Nat) (n i : Int), n = (cs.length : Int) → 0 ≤ i → i + d = n → ∀ acc : List Ca, acc.length = i.toNat → acc ++ cs.drop i.toNat = cs → GoIC w0 N E0 (rf1 cs acc n i) cs := by
  intro d
  induction d with
  | zero =>
    intro n i en h0 hd acc ha hac E a w hsim
    have hr : acc = cs := by rw [List.drop_eq_nil_of_le (by omega), List.append_nil] at hac; exact hac
    rcases bd (decide (i < n)) with hb1 | hb1
    ·
     exact absurd (of_decide_eq_true hb1) (by omega)
    ·
     exact gr J3_ok Tryd.func21 (sr' := ⟨0, [.d (.list 10 acc.length (caEl acc))], []⟩) (cs := [_]) [false] true ⟨hb1, trivial⟩ (by (rw [hr]; done)) hsim
  | succ d ih =>
    intro n i en h0 hd acc ha hac E a w hsim
    have hi : i.toNat < cs.length := by omega
    have ew : IntKind.i64.wrap (i + 1) = i + 1 := wrapP (by omega)
    rw [getD_drop (d := noCa) hi] at hac
    have ih := ih n (IntKind.i64.wrap (i + 1)) en (by rw [ew]; omega) (by rw [ew]; omega) (acc ++ [cs.getD i.toNat noCa]) (by rw [List.length_append, ha, ew]; simp; omega) (by rw [ew, show (i + 1).toNat = i.toNat + 1 by omega, List.append_assoc]; exact hac)
    rcases bd (decide (i < n)) with hb1 | hb1
    ·
     refine gh J3_ok (k' := loopAt Tryd.f21 0) (s' := let za := cs.getD i.toNat noCa; mk 0 42 [(3, .own 0), (6, .d (.list 10 cs.length (caEl cs))), (7, vI n), (8, vI (IntKind.i64.wrap (i + 1)))] [(0, .row 45 10 (acc.length + 1) (fun j => if j < acc.length then caEl acc j else segD true 10 (splice (List.map (fun j => (List.map D.raw (Value.agg #[Value.int IntKind.i64 (0 : Int), Value.int IntKind.i64 (0 : Int), Value.int IntKind.i64 (0 : Int), Value.string (ByteArray.mk #[]), Value.string (ByteArray.mk #[]), Value.string (ByteArray.mk #[]), Value.int IntKind.i64 (0 : Int), Value.int IntKind.i64 (0 : Int), Value.int IntKind.i64 (0 : Int), Value.string (ByteArray.mk #[])]).cells.toList).getD (j % 10) default) (List.range 10)) 0 (D.agg [rI za.cl, rI za.n, rI za.o.fst, rS za.o.snd.fst, rS za.o.snd.snd.fst, rS za.o.snd.snd.snd, rI za.fr, rI za.to, rI za.a.fst, rS za.a.snd]).cells) (j - acc.length)))]) (cs := [_, ((0 : Int) ≤ i ∧ i < (↑cs.length : Int)), (acc.length + 1 ≤ 9223372036854775807 ∧ (acc.length + 1) * 112 ≤ 140737488355328)]) [true] [3,6,7,8] ⟨hb1, by omega, by omega, trivial⟩ hsim fun E a w hsim => ?_
     obtain ⟨E2, h2⟩ := row_Cr cs acc n (IntKind.i64.wrap (i + 1)) (cs.getD i.toNat noCa) _ (fun j hj => app_Cr acc (cs.getD i.toNat noCa) _ rfl j hj) hsim
     exact ih E2 a w h2
    ·
     exact absurd (of_decide_eq_false hb1) (by omega)
theorem refs_ok (cs : List Ca) (hl : cs.length ≤ 1000000) : Eng.Spec Tryd.prog gz0 21 [.d (.list 10 cs.length (caEl cs))] [] (.d (.list 10 cs.length (caEl cs))) [] := by
  refine spec_fn Tryd.func21 rfl fun {w N E act} hsim => ?_
  refine gh J3_ok (k' := loopAt Tryd.f21 0) (s' := mk 0 42 [(3, .d (.raw (Value.slice none 0 0))), (6, .d (.list 10 cs.length (caEl cs))), (7, vI (↑cs.length : Int)), (8, vI 0)] []) (cs := []) [] [3,6,7,8] trivial hsim fun E a w hsim => ?_
  obtain ⟨E2, h2⟩ := hsim.nilRow (t := 3) rfl 45 10 (caEl [])
  exact rf_go cs hl cs.length (cs.length : Int) 0 rfl (by omega) (by omega) [] rfl rfl E2 a w h2
abbrev GoIP (w0 : World) (N : Nat → Prop) (E0 : Env) (s : St) (r : List Pt) : Prop := ∀ (E : Env) (a : Act) (w : World), Sim (cx Tryd.prog gz0 w0 N E0 []) E s a w → Goes Tryd.prog 22 (loopAt Tryd.f22 0) (RSpec (cx Tryd.prog gz0 w0 N E0 []) ⟨0, [.d (.list 5 r.length (ptEl r))], []⟩) a w
theorem row_Pr {C : Cx} {E : Env} {a : Act} {w : World} (ps acc : List Pt) (n i : Int) (x : Pt) (f : Nat → D) (hf : ∀ j, j < acc.length + 1 → f j = ptEl (acc ++ [x]) j)
    (h : Sim C E (mk 0 27 [(3, .own 0), (6, .d (.list 5 ps.length (ptEl ps))), (7, .d (.raw (.int .i64 n))), (8, .d (.raw (.int .i64 i)))] [(0, .row 53 5 (acc.length + 1) f)]) a w) : ∃ E', Sim C E' (pf1 ps (acc ++ [x]) n i) a w := by
  obtain ⟨E', h1⟩ := h.rowEq (k := 0) (T := 53) (sz := 5) (n := acc.length + 1) (el := f) rfl (ptEl (acc ++ [x])) hf
  refine ⟨E', ?_⟩
  have e : pf1 ps (acc ++ [x]) n i = mk 0 27 [(3, .own 0), (6, .d (.list 5 ps.length (ptEl ps))), (7, .d (.raw (.int .i64 n))), (8, .d (.raw (.int .i64 i)))] [(0, .row 53 5 (acc.length + 1) (ptEl (acc ++ [x])))] := by
    unfold pf1; rw [List.length_append]; rfl
  rw [e]
  exact h1
theorem app_Pr (os : List Pt) (x : Pt) (g : Nat → D) (hg : g 0 = ptD x) (j : Nat) (hj : j < os.length + 1) : (if j < os.length then ptEl os j else g (j - os.length)) = ptEl (os ++ [x]) j := by
  unfold ptEl
  by_cases h : j < os.length
  · rw [if_pos h]
    congr 1
    simp [List.getD, List.getElem?_append_left h]
  · rw [if_neg h]
    obtain rfl : j = os.length := by omega
    rw [Nat.sub_self, hg]
    congr 1
    simp [List.getD]
theorem pf_go {w0 : World} {N : Nat → Prop} {E0 : Env} (ps : List Pt) (hl : ps.length ≤ 1000000) : ∀ (d : Nat) (n i : Int), n = (ps.length : Int) → 0 ≤ i → i + d = n → ∀ acc : List Pt, acc.length = i.toNat → acc ++ ps.drop i.toNat = ps → GoIP w0 N E0 (pf1 ps acc n i) ps := by
  intro d
  induction d with
  | zero =>
    intro n i en h0 hd acc ha hac E a w hsim
    have hr : acc = ps := by rw [List.drop_eq_nil_of_le (by omega), List.append_nil] at hac; exact hac
    rcases bd (decide (i < n)) with hb1 | hb1
    ·
     exact absurd (of_decide_eq_true hb1) (by omega)
    ·
     exact gr J3_ok Tryd.func22 (sr' := ⟨0, [.d (.list 5 acc.length (ptEl acc))], []⟩) (cs := [_]) [false] true ⟨hb1, trivial⟩ (by (rw [hr]; done)) hsim
  | succ d ih =>
    intro n i en h0 hd acc ha hac E a w hsim
    have hi : i.toNat < ps.length := by omega
    have ew : IntKind.i64.wrap (i + 1) = i + 1 := wrapP (by omega)
    rw [getD_drop (d := noPt) hi] at hac
    have ih := ih n (IntKind.i64.wrap (i + 1)) en (by rw [ew]; omega) (by rw [ew]; omega) (acc ++ [ps.getD i.toNat noPt]) (by rw [List.length_append, ha, ew]; simp; omega) (by rw [ew, show (i + 1).toNat = i.toNat + 1 by omega, List.append_assoc]; exact hac)
    rcases bd (decide (i < n)) with hb1 | hb1
    ·
     refine gh J3_ok (k' := loopAt Tryd.f22 0) (s' := let za := ps.getD i.toNat noPt; mk 0 27 [(3, .own 0), (6, .d (.list 5 ps.length (ptEl ps))), (7, vI n), (8, vI (IntKind.i64.wrap (i + 1)))] [(0, .row 53 5 (acc.length + 1) (fun j => if j < acc.length then ptEl acc j else segD true 5 (splice (List.map (fun j => (List.map D.raw (Value.agg #[Value.int IntKind.i64 (0 : Int), Value.int IntKind.i64 (0 : Int), Value.int IntKind.i64 (0 : Int), Value.int IntKind.i64 (0 : Int), Value.string (ByteArray.mk #[])]).cells.toList).getD (j % 5) default) (List.range 5)) 0 (D.agg [rI za.at', rI za.cl, rI za.n, rI za.a.fst, rS za.a.snd]).cells) (j - acc.length)))]) (cs := [_, ((0 : Int) ≤ i ∧ i < (↑ps.length : Int)), (acc.length + 1 ≤ 9223372036854775807 ∧ (acc.length + 1) * 48 ≤ 140737488355328)]) [true] [3,6,7,8] ⟨hb1, by omega, by omega, trivial⟩ hsim fun E a w hsim => ?_
     obtain ⟨E2, h2⟩ := row_Pr ps acc n (IntKind.i64.wrap (i + 1)) (ps.getD i.toNat noPt) _ (fun j hj => app_Pr acc (ps.getD i.toNat noPt) _ rfl j hj) hsim
     exact ih E2 a w h2
    ·
     exact absurd (of_decide_eq_false hb1) (by omega)
theorem points_ok (ps : List Pt) (hl : ps.length ≤ 1000000) : Eng.Spec Tryd.prog gz0 22 [.d (.list 5 ps.length (ptEl ps))] [] (.d (.list 5 ps.length (ptEl ps))) [] := by
  refine spec_fn Tryd.func22 rfl fun {w N E act} hsim => ?_
  refine gh J3_ok (k' := loopAt Tryd.f22 0) (s' := mk 0 27 [(3, .d (.raw (Value.slice none 0 0))), (6, .d (.list 5 ps.length (ptEl ps))), (7, vI (↑ps.length : Int)), (8, vI 0)] []) (cs := []) [] [3,6,7,8] trivial hsim fun E a w hsim => ?_
  obtain ⟨E2, h2⟩ := hsim.nilRow (t := 3) rfl 53 5 (ptEl [])
  exact pf_go ps hl ps.length (ps.length : Int) 0 rfl (by omega) (by omega) [] rfl rfl E2 a w h2
theorem J4_ok (cs : List Ca) (ps : List Pt) (r : Int × Int × Int) : OrcOK Tryd.prog (J4 cs ps r) := (((((OrcOK.none _).add _ false (mChkP cs ps r) fun args H ret H' c h hc => by
  unfold mChkP at h
  split at h
  · cases h; obtain ⟨rfl, rfl, rfl, rfl, rfl, rfl, ⟨hl, rfl⟩, -⟩ := hc; exact check_ok cs ps hl
  · cases h).add _ false (mRefC cs ps r) fun args H ret H' c h hc => by
  unfold mRefC at h
  split at h
  · cases h; obtain ⟨rfl, rfl, rfl, rfl, rfl, rfl, ⟨hl, hl2, rfl⟩, -⟩ := hc; exact refck_ok cs ps hl hl2
  · cases h).add _ false (mIdC cs) fun args H ret H' c h hc => by
  unfold mIdC at h
  split at h
  · cases h; obtain ⟨rfl, rfl, rfl, hl, -⟩ := hc; exact Spec.glAny (refs_ok cs hl)
  · cases h).add _ false (mIdP ps) fun args H ret H' c h hc => by
  unfold mIdP at h
  split at h
  · cases h; obtain ⟨rfl, rfl, rfl, hl, -⟩ := hc; exact Spec.glAny (points_ok ps hl)
  · cases h).add _ false mReads mReads_ok
theorem law_checks_ok (cs : List Ca) (ps : List Pt) : Eng.Spec Tryd.prog gB 4 [.d (.list 10 cs.length (caEl cs)), .d (.list 5 ps.length (ptEl ps))] [] (.d (.raw (.bool (true)))) [] := by
  refine spec_fn Tryd.func4 rfl fun {w N E act} hsim => ?_
  obtain ⟨r, hr⟩ : ∃ r, r = checkP cs ps := ⟨_, rfl⟩
  rcases bd (decide ((↑cs.length : Int) > (150 : Int))) with hb1 | hb1
  ·
   exact gr (J4_ok cs ps r) Tryd.func4 (sr' := ⟨0, [vB true], []⟩) (cs := [_]) [true] true ⟨hb1, trivial⟩ (by rfl) hsim
  ·
   rcases bd (decide ((↑ps.length : Int) > (150 : Int))) with hb2 | hb2
   ·
    exact gr (J4_ok cs ps r) Tryd.func4 (sr' := ⟨0, [vB true], []⟩) (cs := [_, _]) [false, true] true ⟨hb1, hb2, trivial⟩ (by rfl) hsim
   ·
    rcases bd (r.fst == r.fst) with hb3 | hb3
    ·
     rcases bd (r.snd.fst == r.snd.fst) with hb4 | hb4
     ·
      rcases bd (r.snd.snd == r.snd.snd) with hb5 | hb5
      ·
       have q0_ : ((10 : Nat) = (10 : Nat)) := (by rfl)
       have q1_ : (cs.length = cs.length) := (by rfl)
       have q2_ : (caEl cs = caEl cs) := (by rfl)
       have q3_ : ((5 : Nat) = (5 : Nat)) := (by rfl)
       have q4_ : (ps.length = ps.length) := (by rfl)
       have q5_ : (ptEl ps = ptEl ps) := (by rfl)
       exact gr (J4_ok cs ps r) Tryd.func4 (sr' := ⟨0, [vB true], []⟩) (cs := ((fun (c0 c1 c2 c3 c4 c5 : Prop) => [_, _, c0, c1, c2, c3, c4, c5, (cs.length ≤ 1099511627776 ∧ r = checkP cs ps), c0, c1, c2, (cs.length ≤ 1000000), c3, c4, c5, (ps.length ≤ 1000000), c0, c1, c2, c3, c4, c5, (cs.length ≤ 1000000 ∧ ps.length ≤ 1000000 ∧ r = checkP cs ps), _, _, _]) _ _ _ _ _ _)) [false, false, true, true, true] true ⟨hb1, hb2, q0_, q1_, q2_, q3_, q4_, q5_, (by exact ⟨by have := of_decide_eq_false hb1; omega, hr⟩), q0_, q1_, q2_, (by (have := of_decide_eq_false hb1; omega)), q3_, q4_, q5_, (by (have := of_decide_eq_false hb2; omega)), q0_, q1_, q2_, q3_, q4_, q5_, (by exact ⟨by have := of_decide_eq_false hb1; omega, by have := of_decide_eq_false hb2; omega, hr⟩), hb3, hb4, hb5, trivial⟩ (by rfl) hsim
      ·
       have q0_ : ((10 : Nat) = (10 : Nat)) := (by rfl)
       have q1_ : (cs.length = cs.length) := (by rfl)
       have q2_ : (caEl cs = caEl cs) := (by rfl)
       have q3_ : ((5 : Nat) = (5 : Nat)) := (by rfl)
       have q4_ : (ps.length = ps.length) := (by rfl)
       have q5_ : (ptEl ps = ptEl ps) := (by rfl)
       (exfalso; clear hsim; simp_all; done)
     ·
      have q0_ : ((10 : Nat) = (10 : Nat)) := (by rfl)
      have q1_ : (cs.length = cs.length) := (by rfl)
      have q2_ : (caEl cs = caEl cs) := (by rfl)
      have q3_ : ((5 : Nat) = (5 : Nat)) := (by rfl)
      have q4_ : (ps.length = ps.length) := (by rfl)
      have q5_ : (ptEl ps = ptEl ps) := (by rfl)
      (exfalso; clear hsim; simp_all; done)
    ·
     have q0_ : ((10 : Nat) = (10 : Nat)) := (by rfl)
     have q1_ : (cs.length = cs.length) := (by rfl)
     have q2_ : (caEl cs = caEl cs) := (by rfl)
     have q3_ : ((5 : Nat) = (5 : Nat)) := (by rfl)
     have q4_ : (ps.length = ps.length) := (by rfl)
     have q5_ : (ptEl ps = ptEl ps) := (by rfl)
     (exfalso; clear hsim; simp_all; done)
end Go.Prf

namespace Go.Prf
open Go Go.Eng Go.Proofs Go.RowKit Go.Tab Go.Plc
set_option linter.unusedVariables false
set_option maxRecDepth 100000
set_option maxHeartbeats 4000000
abbrev tyOp : Ty := .agg [.int .i64, .str, .str, .str]
abbrev tyAn : Ty := .agg [.int .i64, .str]
abbrev tyCa : Ty := .agg [.int .i64, .int .i64, tyOp, .int .i64, .int .i64, tyAn]
abbrev tyPt : Ty := .agg [.int .i64, .int .i64, .int .i64, tyAn]
def toCa (x : tyCa.Val) : Ca := ⟨x.1, x.2.1, (x.2.2.1.1, x.2.2.1.2.1, x.2.2.1.2.2.1, x.2.2.1.2.2.2.1), x.2.2.2.1, x.2.2.2.2.1, (x.2.2.2.2.2.1.1, x.2.2.2.2.2.1.2.1)⟩
def toPt (x : tyPt.Val) : Pt := ⟨x.1, x.2.1, x.2.2.1, (x.2.2.2.1.1, x.2.2.2.1.2.1)⟩
theorem caD_to (x : tyCa.Val) : tyCa.toD x = caD (toCa x) := rfl
theorem ptD_to (x : tyPt.Val) : tyPt.toD x = ptD (toPt x) := rfl
theorem getD_map {α β : Type} (f : α → β) (l : List α) (a : α) (i : Nat) : f (l.getD i a) = (l.map f).getD i (f a) := by
  simp only [List.getD, List.getElem?_map]
  cases l[i]? <;> rfl
theorem cas_to (l : List tyCa.Val) : (Ty.list tyCa).toD l = .list 10 (l.map toCa).length (caEl (l.map toCa)) := by
  have e : (fun i => tyCa.toD (List.getD (α := tyCa.Val) l i tyCa.dflt)) = caEl (l.map toCa) := by
    funext i
    exact (caD_to _).trans (congrArg caD (getD_map toCa l tyCa.dflt i))
  rw [← e, List.length_map]
  rfl
theorem pts_to (l : List tyPt.Val) : (Ty.list tyPt).toD l = .list 5 (l.map toPt).length (ptEl (l.map toPt)) := by
  have e : (fun i => tyPt.toD (List.getD (α := tyPt.Val) l i tyPt.dflt)) = ptEl (l.map toPt) := by
    funext i
    exact (ptD_to _).trans (congrArg ptD (getD_map toPt l tyPt.dflt i))
  rw [← e, List.length_map]
  rfl
end Go.Prf

namespace Go.Prf
open Go Go.Eng Go.Proofs Go.RowKit Go.Tab Go.Plc
set_option linter.unusedVariables false
set_option maxRecDepth 100000
set_option maxHeartbeats 4000000
theorem law_checks_row (l : List tyCa.Val) (m : List tyPt.Val) : Eng.Spec Tryd.prog Go.Bla.gl 4 [.d ((Ty.list tyCa).toD l), .d ((Ty.list tyPt).toD m)] [] (.d (.raw (.bool true))) [] := by
  rw [cas_to, pts_to]
  exact law_checks_ok _ _
end Go.Prf
