/-
  Contracts of given functions, plain laws. No condition.
-/
import Derived.Test.YtbppcjkpkelbfaaDoorMapE
namespace Go.Prf
open Go Go.Eng Go.Proofs Go.Tab Go.Plc
set_option maxRecDepth 100000
set_option maxHeartbeats 4000000
theorem callL_ok (c : Ca) : Eng.Spec Tryd.prog gB 16 [.d (caD c)] [] (.d (caD c)) [] := by
 refine spec_fn Tryd.func16 rfl fun {w N E act} hsim => ?_
 exact gr (OrcOK.none _) Tryd.func16 (sr' := ⟨0, [.d (.agg [rI c.cl, rI c.n, rI c.o.fst, rS c.o.snd.fst, rS c.o.snd.snd.fst, rS c.o.snd.snd.snd, rI c.fr, rI c.to, rI c.a.fst, rS c.a.snd])], []⟩) (cs := []) [] true trivial (by rfl) hsim
theorem pointL_ok (c : Pt) : Eng.Spec Tryd.prog gB 17 [.d (ptD c)] [] (.d (ptD c)) [] := by
 refine spec_fn Tryd.func17 rfl fun {w N E act} hsim => ?_
 exact gr (OrcOK.none _) Tryd.func17 (sr' := ⟨0, [.d (.agg [rI c.at', rI c.cl, rI c.n, rI c.a.fst, rS c.a.snd])], []⟩) (cs := []) [] true trivial (by rfl) hsim
theorem mCall_ok : MoOKP Tryd.prog gB 16 mCall := fun args H ret H' c h hc => by
 unfold mCall at h
 split at h
 ·
  rename_i cl nu k key val old fr to er v
  cases h; exact callL_ok ⟨cl, nu, (k, key, val, old), fr, to, (er, v)⟩
 · cases h
theorem mPoint_ok : MoOKP Tryd.prog gB 17 mPoint := fun args H ret H' c h hc => by
 unfold mPoint at h
 split at h
 ·
  rename_i at_ cl nu er v
  cases h; exact pointL_ok ⟨at_, cl, nu, (er, v)⟩
 · cases h
theorem O1_ok : OrcOK Tryd.prog O1 := (OrcOK.none _).add _ false _ mCall_ok
theorem O2_ok : OrcOK Tryd.prog O2 := (OrcOK.none _).add _ false _ mPoint_ok
abbrev GoICL (w0 : World) (N : Nat → Prop) (E0 : Env)  (st : St) (r : List Ca) : Prop := GoG Tryd.prog gB 14 (loopAt Tryd.f14 0) [] ⟨0, [.d (.list 10 r.length (caEl r))], []⟩ w0 N E0 st
theorem row_iC {C : Cx} {E : Env} {a : Act} {w : World} (cs acc : List Ca) (n i : Int) (x : Ca) (f : Nat → D) (hf : ∀ j, j < acc.length + 1 → f j = caEl (acc ++ [x]) j) (h : Sim C E (mk 0 19 [(3, .own 0), (6, .d (.list 10 cs.length (caEl cs))), (7, .d (.raw (.int .i64 (n)))), (8, .d (.raw (.int .i64 (i))))] [(0, .row 45 10 (acc.length + 1) (f))]) a w) : ∃ E', Sim C E' (cl1 cs (acc ++ [x]) n i) a w := by
 obtain ⟨E', h1⟩ := h.rowEq (k := 0) (T := 45) (sz := 10) (n := acc.length + 1) (el := f) rfl (caEl (acc ++ [x])) hf
 refine ⟨E', ?_⟩
 have e : cl1 cs (acc ++ [x]) n i = mk 0 19 [(3, .own 0), (6, .d (.list 10 cs.length (caEl cs))), (7, .d (.raw (.int .i64 (n)))), (8, .d (.raw (.int .i64 (i))))] [(0, .row 45 10 (acc.length + 1) (caEl (acc ++ [x])))] := by
  unfold cl1; rw [List.length_append]; rfl
 rw [e]
 exact h1
theorem iC_go {w0 : World} {N : Nat → Prop} {E0 : Env} (cs : List Ca) (hl : cs.length ≤ 1000000) : ∀ (d : Nat) (n i : Int), n = (cs.length : Int) → 0 ≤ i → i + d = n → ∀ acc : List Ca, acc.length = i.toNat → acc ++ cs.drop i.toNat = cs → GoICL w0 N E0 (cl1 cs acc n i) cs := by
 intro d
 induction d with
 | zero =>
  intro n i en h0 hd acc ha hac E a w hsim
  have hr : acc = cs := by rw [List.drop_eq_nil_of_le (by omega), List.append_nil] at hac; exact hac
  rcases bd (decide (i < n)) with hb1 | hb1
  ·
   exact absurd (of_decide_eq_true hb1) (by omega)
  ·
   exact gr O1_ok Tryd.func14 (sr' := ⟨0, [.d (.list 10 acc.length (caEl acc))], []⟩) (cs := [_]) [false] true ⟨hb1, trivial⟩ (by (rw [hr]; done)) hsim
 | succ d ih =>
  intro n i en h0 hd acc ha hac E a w hsim
  have hi : i.toNat < cs.length := by omega
  have ew : IntKind.i64.wrap (i + 1) = i + 1 := wrapP (by omega)
  rw [getD_dropP (d := noCa) hi] at hac
  have ih := ih n (IntKind.i64.wrap (i + 1)) en (by rw [ew]; omega) (by rw [ew]; omega) (acc ++ [cs.getD i.toNat noCa]) (by rw [List.length_append, ha, ew]; simp; omega) (by rw [ew, show (i + 1).toNat = i.toNat + 1 by omega, List.append_assoc]; exact hac)
  rcases bd (decide (i < n)) with hb1 | hb1
  ·
   refine gh O1_ok (k' := loopAt Tryd.f14 0) (s' := let za := cs.getD i.toNat noCa; mk 0 19 [(3, .own 0), (6, .d (.list 10 cs.length (caEl cs))), (7, vI n), (8, vI (wI (i + 1)))] [(0, .row 45 10 (acc.length + 1) (fun j => if j < acc.length then caEl acc j else segD true 10 (splice (List.map (fun j => (List.map D.raw (Value.agg #[Value.int IntKind.i64 (0 : Int), Value.int IntKind.i64 (0 : Int), Value.int IntKind.i64 (0 : Int), Value.string (eM), Value.string (eM), Value.string (eM), Value.int IntKind.i64 (0 : Int), Value.int IntKind.i64 (0 : Int), Value.int IntKind.i64 (0 : Int), Value.string (eM)]).cells.toList).getD (j % 10) default) (List.range 10)) 0 (D.agg [rI za.cl, rI za.n, rI za.o.fst, rS za.o.snd.fst, rS za.o.snd.snd.fst, rS za.o.snd.snd.snd, rI za.fr, rI za.to, rI za.a.fst, rS za.a.snd]).cells) (j - acc.length)))]) (cs := [_, (0 ≤ i ∧ i < cs.length), (acc.length + 1 ≤ 9223372036854775807 ∧ (acc.length + 1) * 112 ≤ 140737488355328)]) [true] [3,6,7,8] ⟨hb1, by omega, by omega, trivial⟩ hsim fun E a w hsim => ?_
   obtain ⟨E2, h2⟩ := row_iC cs acc n (IntKind.i64.wrap (i + 1)) (cs.getD i.toNat noCa) _ (fun j hj => app_pkC acc (cs.getD i.toNat noCa) _ rfl j hj) hsim
   exact ih E2 a w h2
  ·
   exact absurd (of_decide_eq_false hb1) (by omega)
theorem callsL_ok (cs : List Ca) (hl : cs.length ≤ 1000000) : Eng.Spec Tryd.prog gB 14 [.d (.list 10 cs.length (caEl cs))] [] (.d (.list 10 cs.length (caEl cs))) [] := by
 refine spec_fn Tryd.func14 rfl fun {w N E act} hsim => ?_
 refine gh O1_ok (k' := loopAt Tryd.f14 0) (s' := mk 0 19 [(3, .d (.raw (Value.slice none 0 0))), (6, .d (.list 10 cs.length (caEl cs))), (7, vI (↑cs.length : Int)), (8, vI 0)] []) (cs := []) [] [3,6,7,8] trivial hsim fun E a w hsim => ?_
 obtain ⟨E2, h2⟩ := hsim.nilRow (t := 3) rfl 45 10 (caEl [])
 exact iC_go cs hl cs.length (cs.length : Int) 0 rfl (by omega) (by omega) [] rfl rfl E2 a w h2
abbrev GoIPL (w0 : World) (N : Nat → Prop) (E0 : Env)  (st : St) (r : List Pt) : Prop := GoG Tryd.prog gB 15 (loopAt Tryd.f15 0) [] ⟨0, [.d (.list 5 r.length (ptEl r))], []⟩ w0 N E0 st
theorem row_iP {C : Cx} {E : Env} {a : Act} {w : World} (ps acc : List Pt) (n i : Int) (x : Pt) (f : Nat → D) (hf : ∀ j, j < acc.length + 1 → f j = ptEl (acc ++ [x]) j) (h : Sim C E (mk 0 19 [(3, .own 0), (6, .d (.list 5 ps.length (ptEl ps))), (7, .d (.raw (.int .i64 (n)))), (8, .d (.raw (.int .i64 (i))))] [(0, .row 53 5 (acc.length + 1) (f))]) a w) : ∃ E', Sim C E' (pl1 ps (acc ++ [x]) n i) a w := by
 obtain ⟨E', h1⟩ := h.rowEq (k := 0) (T := 53) (sz := 5) (n := acc.length + 1) (el := f) rfl (ptEl (acc ++ [x])) hf
 refine ⟨E', ?_⟩
 have e : pl1 ps (acc ++ [x]) n i = mk 0 19 [(3, .own 0), (6, .d (.list 5 ps.length (ptEl ps))), (7, .d (.raw (.int .i64 (n)))), (8, .d (.raw (.int .i64 (i))))] [(0, .row 53 5 (acc.length + 1) (ptEl (acc ++ [x])))] := by
  unfold pl1; rw [List.length_append]; rfl
 rw [e]
 exact h1
theorem iP_go {w0 : World} {N : Nat → Prop} {E0 : Env} (ps : List Pt) (hl : ps.length ≤ 1000000) : ∀ (d : Nat) (n i : Int), n = (ps.length : Int) → 0 ≤ i → i + d = n → ∀ acc : List Pt, acc.length = i.toNat → acc ++ ps.drop i.toNat = ps → GoIPL w0 N E0 (pl1 ps acc n i) ps := by
 intro d
 induction d with
 | zero =>
  intro n i en h0 hd acc ha hac E a w hsim
  have hr : acc = ps := by rw [List.drop_eq_nil_of_le (by omega), List.append_nil] at hac; exact hac
  rcases bd (decide (i < n)) with hb1 | hb1
  ·
   exact absurd (of_decide_eq_true hb1) (by omega)
  ·
   exact gr O2_ok Tryd.func15 (sr' := ⟨0, [.d (.list 5 acc.length (ptEl acc))], []⟩) (cs := [_]) [false] true ⟨hb1, trivial⟩ (by (rw [hr]; done)) hsim
 | succ d ih =>
  intro n i en h0 hd acc ha hac E a w hsim
  have hi : i.toNat < ps.length := by omega
  have ew : IntKind.i64.wrap (i + 1) = i + 1 := wrapP (by omega)
  rw [getD_dropP (d := noPt) hi] at hac
  have ih := ih n (IntKind.i64.wrap (i + 1)) en (by rw [ew]; omega) (by rw [ew]; omega) (acc ++ [ps.getD i.toNat noPt]) (by rw [List.length_append, ha, ew]; simp; omega) (by rw [ew, show (i + 1).toNat = i.toNat + 1 by omega, List.append_assoc]; exact hac)
  rcases bd (decide (i < n)) with hb1 | hb1
  ·
   refine gh O2_ok (k' := loopAt Tryd.f15 0) (s' := let za := ps.getD i.toNat noPt; mk 0 19 [(3, .own 0), (6, .d (.list 5 ps.length (ptEl ps))), (7, vI n), (8, vI (wI (i + 1)))] [(0, .row 53 5 (acc.length + 1) (fun j => if j < acc.length then ptEl acc j else segD true 5 (splice (List.map (fun j => (List.map D.raw (Value.agg #[Value.int IntKind.i64 (0 : Int), Value.int IntKind.i64 (0 : Int), Value.int IntKind.i64 (0 : Int), Value.int IntKind.i64 (0 : Int), Value.string (eM)]).cells.toList).getD (j % 5) default) (List.range 5)) 0 (D.agg [rI za.at', rI za.cl, rI za.n, rI za.a.fst, rS za.a.snd]).cells) (j - acc.length)))]) (cs := [_, (0 ≤ i ∧ i < ps.length), (acc.length + 1 ≤ 9223372036854775807 ∧ (acc.length + 1) * 48 ≤ 140737488355328)]) [true] [3,6,7,8] ⟨hb1, by omega, by omega, trivial⟩ hsim fun E a w hsim => ?_
   obtain ⟨E2, h2⟩ := row_iP ps acc n (IntKind.i64.wrap (i + 1)) (ps.getD i.toNat noPt) _ (fun j hj => app_pkP acc (ps.getD i.toNat noPt) _ rfl j hj) hsim
   exact ih E2 a w h2
  ·
   exact absurd (of_decide_eq_false hb1) (by omega)
theorem pointsL_ok (ps : List Pt) (hl : ps.length ≤ 1000000) : Eng.Spec Tryd.prog gB 15 [.d (.list 5 ps.length (ptEl ps))] [] (.d (.list 5 ps.length (ptEl ps))) [] := by
 refine spec_fn Tryd.func15 rfl fun {w N E act} hsim => ?_
 refine gh O2_ok (k' := loopAt Tryd.f15 0) (s' := mk 0 19 [(3, .d (.raw (Value.slice none 0 0))), (6, .d (.list 5 ps.length (ptEl ps))), (7, vI (↑ps.length : Int)), (8, vI 0)] []) (cs := []) [] [3,6,7,8] trivial hsim fun E a w hsim => ?_
 obtain ⟨E2, h2⟩ := hsim.nilRow (t := 3) rfl 53 5 (ptEl [])
 exact iP_go ps hl ps.length (ps.length : Int) 0 rfl (by omega) (by omega) [] rfl rfl E2 a w h2
abbrev GoLg (w0 : World) (N : Nat → Prop) (E0 : Env)  (st : St) (r : Bool) : Prop := GoG Tryd.prog gB 10 (loopAt Tryd.f10 0) [] ⟨0, [.d (.raw (.bool r))], []⟩ w0 N E0 st
theorem lg_go {w0 : World} {N : Nat → Prop} {E0 : Env} (cs : List Ca) (ps : List Pt) (hl : cs.length ≤ 9223372036854775807) (hW : SmallW cs) : ∀ (d : Nat) (n i m : Int), n = (cs.length : Int) → 0 ≤ i → i + d = n → 0 ≤ m → m ≤ 5000 → GoLg w0 N E0 (lg1 cs ps m n i) (lgF m (cs.drop i.toNat) (decide ((cs.length : Int) > 80) || decide ((ps.length : Int) > 80))) := by
 intro d
 induction d with
 | zero =>
  intro n i m en h0 hd hm hm2 E a w hsim
  rw [List.drop_eq_nil_of_le (by omega), lgF]
  rcases bd (decide (i < n)) with hb1 | hb1
  ·
   rcases bd (decide (IntKind.i64.wrap (m + (↑(cs.getD i.toNat noCa).o.snd.fst.size : Int)) > (5000 : Int))) with hb2 | hb2
   ·
    exact absurd (of_decide_eq_true hb1) (by omega)
   ·
    exact absurd (of_decide_eq_true hb1) (by omega)
  ·
   rcases bd (decide ((↑cs.length : Int) > (80 : Int))) with hb3 | hb3
   ·
    exact gr (OrcOK.none _) Tryd.func10 (sr' := ⟨0, [vB true], []⟩) (cs := [_, _]) [false, true] true ⟨hb1, hb3, trivial⟩ (by (rw [hb3, Bool.true_or]; done)) hsim
   ·
    exact gr (OrcOK.none _) Tryd.func10 (sr' := ⟨0, [vB (decide ((↑ps.length : Int) > (80 : Int)))], []⟩) (cs := [_, _]) [false, false] true ⟨hb1, hb3, trivial⟩ (by (rw [hb3, Bool.false_or]; done)) hsim
 | succ d ih =>
  intro n i m en h0 hd hm hm2 E a w hsim
  have hi : i.toNat < cs.length := by omega
  have ew : IntKind.i64.wrap (i + 1) = i + 1 := wrapP (by omega)
  have hk : (cs.getD i.toNat noCa).o.2.1.size ≤ 140737488351232 := hW _ (by rw [List.getD_eq_getElem?_getD, List.getElem?_eq_getElem hi]; exact List.getElem_mem hi)
  have em : IntKind.i64.wrap (m + ((cs.getD i.toNat noCa).o.2.1.size : Int)) = m + ((cs.getD i.toNat noCa).o.2.1.size : Int) := wrapP (by omega)
  have ih := ih n (IntKind.i64.wrap (i + 1)) (IntKind.i64.wrap (m + ((cs.getD i.toNat noCa).o.2.1.size : Int))) en (by rw [ew]; omega) (by rw [ew]; omega) (by rw [em]; omega)
  rw [getD_dropP (d := noCa) hi, lgF, ← em]
  rw [show (IntKind.i64.wrap (i + 1)).toNat = i.toNat + 1 by rw [ew]; omega] at ih
  rcases bd (decide (i < n)) with hb1 | hb1
  ·
   rcases bd (decide (IntKind.i64.wrap (m + (↑(cs.getD i.toNat noCa).o.snd.fst.size : Int)) > (5000 : Int))) with hb2 | hb2
   ·
    exact gr (OrcOK.none _) Tryd.func10 (sr' := ⟨0, [vB true], []⟩) (cs := [_, (0 ≤ i ∧ i < cs.length), _]) [true, true] true ⟨hb1, by omega, hb2, trivial⟩ (by (rw [if_pos (of_decide_eq_true hb2)]; done)) hsim
   ·
    refine gh (OrcOK.none _) (k' := loopAt Tryd.f10 0) (s' := mk 0 31 [(0, .d (.list 10 cs.length (caEl cs))), (1, .d (.list 5 ps.length (ptEl ps))), (5, vI (wI (m + (↑(cs.getD i.toNat noCa).o.snd.fst.size : Int)))), (8, .d (.list 10 cs.length (caEl cs))), (9, vI n), (10, vI (wI (i + 1)))] []) (cs := [_, (0 ≤ i ∧ i < cs.length), _]) [true, false] [0,1,5,8,9,10] ⟨hb1, by omega, hb2, trivial⟩ hsim fun E a w hsim => ?_
    rw [if_neg (of_decide_eq_false hb2)]
    exact ih (Int.not_lt.1 (of_decide_eq_false hb2)) E a w hsim
  ·
   rcases bd (decide ((↑cs.length : Int) > (80 : Int))) with hb3 | hb3
   ·
    exact absurd (of_decide_eq_false hb1) (by omega)
   ·
    exact absurd (of_decide_eq_false hb1) (by omega)
theorem large_ok (cs : List Ca) (ps : List Pt) (hl : cs.length ≤ 9223372036854775807) (hW : SmallW cs) : Eng.Spec Tryd.prog gB 10 [.d (.list 10 cs.length (caEl cs)), .d (.list 5 ps.length (ptEl ps))] [] (.d (.raw (.bool (lgM cs ps)))) [] := by
 refine spec_fn Tryd.func10 rfl fun {w N E act} hsim => ?_
 refine gh (OrcOK.none _) (k' := loopAt Tryd.f10 0) (s' := mk 0 31 [(0, .d (.list 10 cs.length (caEl cs))), (1, .d (.list 5 ps.length (ptEl ps))), (5, vI 0), (8, .d (.list 10 cs.length (caEl cs))), (9, vI (↑cs.length : Int)), (10, vI 0)] []) (cs := []) [] [0,1,5,8,9,10] trivial hsim fun E a w hsim => ?_
 exact lg_go cs ps hl hW cs.length (cs.length : Int) 0 0 rfl (by omega) (by omega) (by omega) (by omega) E a w hsim
theorem long_ok : Eng.Spec Tryd.prog gB 52 [.d (caD pC), .d (.raw (.int .i64 9))] [] (.d (.raw (.int .i64 7))) [] := by
 refine spec_fn Tryd.func52 rfl fun {w N E act} hsim => ?_
 let u : Int := 0
 exact gr (OrcOK.none _) Tryd.func52 (sr' := ⟨0, [vI 7], []⟩) (cs := [((false) = false), ((false) = false), ((false) = false)]) [false, false, false] true ⟨rfl, rfl, rfl, trivial⟩ (by rfl) hsim
theorem O3_ok : OrcOK Tryd.prog O3 := (OrcOK.none _).add _ false mLong fun args H ret H' c h hc => by
 unfold mLong at h
 split at h
 ·
  rename_i cl nu k key val old fr to er v now
  cases h; obtain ⟨hm, rfl, rfl, rfl, rfl, -⟩ := hc
  simp only [Bool.and_eq_true, beq_iff_eq] at hm
  obtain ⟨⟨⟨⟨⟨⟨rfl, rfl⟩, rfl⟩, rfl⟩, rfl⟩, rfl⟩, rfl⟩ := hm
  exact long_ok
 · cases h
theorem longest_ok : Eng.Spec Tryd.prog gB 31 [.d (.list 10 1 (caEl [pC])), .d (.raw (.int .i64 9))] [] (.tup [.d (.raw (.int .i64 0)), .d (.raw (.int .i64 7))]) [] := by
 refine spec_fn Tryd.func31 rfl fun {w N E act} hsim => ?_
 let u : Int := 0
 exact gr O3_ok Tryd.func31 (sr' := ⟨0, [.tup [vI 0, vI 7]], []⟩) (cs := [((true) = true), (Ix 0 1), ((true) = true), (([pC].getD 0 noCa).o.snd.fst = pC.o.snd.fst), (([pC].getD 0 noCa).o.snd.snd.fst = pC.o.snd.snd.fst), (([pC].getD 0 noCa).o.snd.snd.snd = pC.o.snd.snd.snd), (([pC].getD 0 noCa).a.snd = pC.a.snd), ((true) = true), ((false) = false)]) ((List.replicate 4 true) ++ [false]) true ⟨rfl, (by decide), rfl, (by decide), (by decide), (by decide), (by decide), rfl, rfl, trivial⟩ (by rfl) hsim
theorem open_ok : Eng.Spec Tryd.prog gB 32 [.d (.list 10 1 (caEl [pC]))] [] (.d (.list 1 1 (fun _ => .raw (.int .i64 0)))) [] := by
 refine spec_fn Tryd.func32 rfl fun {w N E act} hsim => ?_
 let u : Int := 0
 exact gs (OrcOK.none _) Tryd.func32 (sr' := ⟨0, [.d (.list 1 1 (fun j => if j < 0 then default else segD false 1 (splice (List.map (fun j => (List.map D.raw (Value.int IntKind.i64 (0 : Int)).cells.toList).getD (j % 1) default) (List.range 1)) 0 (rI 0).cells) (j - 0)))], []⟩) (cs := [((true) = true), (Ix 0 1), ((true) = true), (1 ≤ 9223372036854775807 ∧ 8 ≤ 140737488355328), ((false) = false)]) ((List.replicate 4 true) ++ [false]) true ⟨rfl, (by decide), rfl, (by decide), rfl, trivial⟩ (by exact Says.tmp (SaysD.list fun i hi => by { obtain rfl : i = 0 := (by omega); rfl })) hsim
end Go.Prf

namespace Go.Prf
open Go Go.Eng Go.Proofs Go.Tab Go.Plc
set_option maxRecDepth 100000
set_option maxHeartbeats 4000000
theorem one_eqP {el el' : Nat → D} (h0 : el 0 = el' 0) (i : Nat) (hi : i < 1) : el' i = el i := by
 rcases i with _ | i
 · exact h0.symm
 · omega
theorem va_dat {x x' : D} (h : SaysD x x') {E : Env} {w : World} {N : Nat → Prop} {v : Value} (hv : VA E w N (.d x) v) : VA E w N (.d x') v := h.out w N v hv
theorem pC_small : SmallK [pC] := fun c hc => by rw [List.mem_singleton.1 hc]; decide
theorem O4_ok (l : List PartT) (c : Int) : OrcOK Tryd.prog (O4 l c) := ((((OrcOK.none _).add _ true (mSplP l) fun args H ret H' q h hc => by
 unfold mSplP at h
 split at h
 ·
  cases h; obtain ⟨⟨rfl, rfl⟩, h0, rfl, -⟩ := hc
  have hs := split_ok [pC] [] (by decide) (by decide) pC_small
  exact hs.args fun h => VAs_imp_cons (x := .d _) (y := .d _) (fun v hv => va_dat (SaysD.list (one_eqP h0)) hv) (fun vs h => VAs_imp_cons (x := .d _) (y := .d _) (fun v hv => va_dat (SaysD.nil 5 (ptEl [])) hv) (fun _ h => h) h) h
 · cases h).add _ true mLgst fun args H ret H' q h hc => by
 unfold mLgst at h
 split at h
 ·
  cases h; obtain ⟨⟨rfl, rfl, rfl⟩, h0, -⟩ := hc
  exact longest_ok.args fun h => VAs_imp_cons (x := .d _) (y := .d _) (fun v hv => va_dat (SaysD.list (one_eqP h0)) hv) (fun _ h => h) h
 · cases h).add _ true mOpen fun args H ret H' q h hc => by
 unfold mOpen at h
 split at h
 ·
  cases h; obtain ⟨⟨rfl, rfl⟩, h0, -⟩ := hc
  exact open_ok.args fun h => VAs_imp_cons (x := .d _) (y := .d _) (fun v hv => va_dat (SaysD.list (one_eqP h0)) hv) (fun _ h => h) h
 · cases h).add _ false (mPlcV c) fun args H ret H' cs h hc => by
 unfold mPlcV at h
 split at h
 · cases h; obtain ⟨⟨rfl, hk⟩, -⟩ := hc; exact placeR_ok _ hk
 · cases h
theorem part_at (cs : List Ca) (ps : List Pt) (m : Pm) {c : Int} (h0 : 0 ≤ c) (h4 : c < 4) : (partsF cs ps m).getD c.toNat ([], []) = (cs.filter (inS c), ps.filter (inP m c)) := by
 unfold partsF
 rw [List.getD, List.getElem?_map, List.getElem?_range (by omega)]
 show (cs.filter (inS ((c.toNat : Nat) : Int)), ps.filter (inP m ((c.toNat : Nat) : Int))) = _
 rw [show ((c.toNat : Nat) : Int) = c by omega]
theorem parts_ok : Eng.Spec Tryd.prog gB 11 [] [] (.d (.raw (.bool (true)))) [] := by
 refine spec_fn Tryd.func11 rfl fun {w N E act} hsim => ?_
 obtain ⟨l, hl⟩ : ∃ l, l = partsF [pC] [] (pmOf [pC]) := ⟨_, rfl⟩
 have hp : plc ⟨#[107]⟩ = 1 := by kernel_rfl
 obtain ⟨c, hc⟩ : ∃ c : Int, 1 = c := ⟨_, rfl⟩
 have hb : 0 ≤ c ∧ c < 4 := by omega
 have hc2 : (1 : Int) = c ∧ (1 : Nat) ≤ 1073741824 := ⟨hc, by decide⟩
 have h1 : (((l.getD c.toNat ([], [])).1.length : Int) == 1) = true := by
   rw [hl, part_at _ _ _ hb.1 hb.2]
   show (((([pC].filter (inS c)).length : Nat) : Int) == 1) = true
   rw [List.filter_cons, if_pos (by unfold inS; rw [show plc pC.o.2.1 = c from hp.trans hc]; exact beq_self_eq_true _)]
   rfl
 rcases bd ((↑(l.getD c.toNat ([], [])).fst.length : Int) == (1 : Int)) with hb1 | hb1
 ·
  have q0_ : ((10 : Nat) = (10 : Nat) ∧ (1 : Nat) = (1 : Nat)) := (by exact ⟨rfl, rfl⟩)
  have q1_ : (D.agg [D.raw (Value.int IntKind.i64 (0 : Int)), D.raw (Value.int IntKind.i64 (1 : Int)), D.raw (Value.int IntKind.i64 (2 : Int)), D.raw (Value.string (ByteArray.mk #[(107 : UInt8)])), D.raw (Value.string (ByteArray.mk #[])), D.raw (Value.string (ByteArray.mk #[])), D.raw (Value.int IntKind.i64 (2 : Int)), D.raw (Value.int IntKind.i64 (-1 : Int)), D.raw (Value.int IntKind.i64 (0 : Int)), D.raw (Value.string (ByteArray.mk #[]))] = D.agg [D.raw (Value.int IntKind.i64 (0 : Int)), D.raw (Value.int IntKind.i64 (1 : Int)), D.raw (Value.int IntKind.i64 (2 : Int)), D.raw (Value.string pC.o.snd.fst), D.raw (Value.string pC.o.snd.snd.fst), D.raw (Value.string pC.o.snd.snd.snd), D.raw (Value.int IntKind.i64 (2 : Int)), D.raw (Value.int IntKind.i64 (-1 : Int)), D.raw (Value.int IntKind.i64 (0 : Int)), D.raw (Value.string pC.a.snd)]) := (by rfl)
  exact gr (O4_ok l c) Tryd.func11 (sr' := ⟨0, [vB true], []⟩) (cs := ((fun (c0 c1 : Prop) => [c0, c1, (l = [partF [pC] [] (pmOf [pC]) 0, partF [pC] [] (pmOf [pC]) 1, partF [pC] [] (pmOf [pC]) 2, partF [pC] [] (pmOf [pC]) 3]), (10 = 10 ∧ 1 = 1 ∧ (9 : Int) = (9 : Int)), c1, c0, c1, ((true) = true), ((true) = true), ((1 : Int) = c ∧ 1 ≤ 1073741824), ((0 : Int) ≤ c ∧ c < (4 : Int)), _, ((true) = true), ((true) = true)]) _ _)) ((List.replicate 5 true)) true ⟨q0_, q1_, (by exact hl), (by exact ⟨rfl, rfl, rfl⟩), q1_, q0_, q1_, rfl, rfl, (by exact hc2), (by exact hb), hb1, rfl, rfl, trivial⟩ (by rfl) hsim
 ·
  have q0_ : ((10 : Nat) = (10 : Nat) ∧ (1 : Nat) = (1 : Nat)) := (by exact ⟨rfl, rfl⟩)
  have q1_ : (D.agg [D.raw (Value.int IntKind.i64 (0 : Int)), D.raw (Value.int IntKind.i64 (1 : Int)), D.raw (Value.int IntKind.i64 (2 : Int)), D.raw (Value.string (ByteArray.mk #[(107 : UInt8)])), D.raw (Value.string (ByteArray.mk #[])), D.raw (Value.string (ByteArray.mk #[])), D.raw (Value.int IntKind.i64 (2 : Int)), D.raw (Value.int IntKind.i64 (-1 : Int)), D.raw (Value.int IntKind.i64 (0 : Int)), D.raw (Value.string (ByteArray.mk #[]))] = D.agg [D.raw (Value.int IntKind.i64 (0 : Int)), D.raw (Value.int IntKind.i64 (1 : Int)), D.raw (Value.int IntKind.i64 (2 : Int)), D.raw (Value.string pC.o.snd.fst), D.raw (Value.string pC.o.snd.snd.fst), D.raw (Value.string pC.o.snd.snd.snd), D.raw (Value.int IntKind.i64 (2 : Int)), D.raw (Value.int IntKind.i64 (-1 : Int)), D.raw (Value.int IntKind.i64 (0 : Int)), D.raw (Value.string pC.a.snd)]) := (by rfl)
  exact absurd (h1.symm.trans hb1) (by decide)
theorem lg_small {b : Bool} : ∀ (cs : List Ca) (m : Int), 0 ≤ m → lgF m cs b = false → SmallK cs ∧ b = false
 | [], _, _, h => ⟨fun c hc => (by cases hc), h⟩
 | c :: r, m, hm, h => by
  rw [lgF] at h
  split at h
  · cases h
  ·
   obtain ⟨h1, h2⟩ := lg_small r _ (by omega) h
   refine ⟨fun x hx => ?_, h2⟩
   rcases List.mem_cons.1 hx with rfl | hx
   · omega
   · exact h1 x hx
end Go.Prf
