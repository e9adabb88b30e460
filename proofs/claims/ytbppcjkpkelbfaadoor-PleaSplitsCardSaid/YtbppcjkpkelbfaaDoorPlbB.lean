/-
  Contracts of given functions, or plain laws that they need. No condition.
-/
import Derived.Test.YtbppcjkpkelbfaaDoorNilC
namespace Go.Prf
open Go Go.Eng Go.Proofs Go.Tab Go.Plc
set_option linter.unusedVariables false
set_option linter.unusedSimpArgs false
set_option maxRecDepth 100000
set_option maxHeartbeats 4000000
theorem M1_ok (cs : List Ca) (c d : Int) : OrcOK Tryd.prog (M1 cs c d) := (M0_ok c).add _ false (mPlR cs d) fun args H ret H' q h hc => by
  unfold mPlR at h
  split at h
  · rename_i z k el at_ cl nu er v
    cases h; obtain ⟨rfl, rfl, rfl, ⟨hl, hs, rfl⟩, -⟩ := hc; exact placeP_ok ⟨at_, cl, nu, (er, v)⟩ cs hl hs
  · cases h
abbrev GoR1 (w0 : World) (N : Nat → Prop) (E0 : Env)  (st : St) (r : List PartT) : Prop := ∀ (E : Env) (a : Act) (w : World), Sim (cx Tryd.prog gB w0 N E0 []) E st a w → Goes Tryd.prog 13 (loopAt Tryd.f13 0) (RSpec (cx Tryd.prog gB w0 N E0 []) ⟨0, [.d (.list 2 r.length (paEl r))], []⟩) a w
abbrev GoR2 (w0 : World) (N : Nat → Prop) (E0 : Env)  (st : St) (r : List PartT) : Prop := ∀ (E : Env) (a : Act) (w : World), Sim (cx Tryd.prog gB w0 N E0 []) E st a w → Goes Tryd.prog 13 (loopAt Tryd.f13 1) (RSpec (cx Tryd.prog gB w0 N E0 []) ⟨0, [.d (.list 2 r.length (paEl r))], []⟩) a w
abbrev GoR3 (w0 : World) (N : Nat → Prop) (E0 : Env)  (st : St) (r : List PartT) : Prop := ∀ (E : Env) (a : Act) (w : World), Sim (cx Tryd.prog gB w0 N E0 []) E st a w → Goes Tryd.prog 13 (loopAt Tryd.f13 2) (RSpec (cx Tryd.prog gB w0 N E0 []) ⟨0, [.d (.list 2 r.length (paEl r))], []⟩) a w
theorem row_xa {C : Cx} {E : Env} {a : Act} {w : World} (cs : List Ca) (ps : List Pt) (acc : List PartT) (s : Int) (xa : List Ca) (xb : List Pt) (n i : Int) (x : Ca) (f : Nat → D) (hf : ∀ j, j < xa.length + 1 → f j = caEl (xa ++ [x]) j) (h : Sim C E (mk 0 59 [(0, .d (.list 10 cs.length (caEl cs))), (1, .d (.list 5 ps.length (ptEl ps))), (5, .own 0), (6, .d (.raw (.int .i64 (s)))), (7, .ref 1 0), (12, .d (.raw (.int .i64 (s)))), (17, .d (.list 10 cs.length (caEl cs))), (18, .d (.raw (.int .i64 (n)))), (19, .d (.raw (.int .i64 (i))))] [(0, .row 39 2 acc.length (paEl acc)), (1, .obj 39 [.own 2, .own 3]), (2, .row 45 10 (xa.length + 1) (f)), (3, .row 53 5 (xb.length) (ptEl xb))]) a w) : ∃ E', Sim C E' (ru2 cs ps acc s (xa ++ [x]) xb n i) a w := by
  obtain ⟨E', h1⟩ := h.rowEq (k := 2) (T := 45) (sz := 10) (n := xa.length + 1) (el := f) rfl (caEl (xa ++ [x])) hf
  refine ⟨E', ?_⟩
  have e : ru2 cs ps acc s (xa ++ [x]) xb n i = mk 0 59 [(0, .d (.list 10 cs.length (caEl cs))), (1, .d (.list 5 ps.length (ptEl ps))), (5, .own 0), (6, .d (.raw (.int .i64 (s)))), (7, .ref 1 0), (12, .d (.raw (.int .i64 (s)))), (17, .d (.list 10 cs.length (caEl cs))), (18, .d (.raw (.int .i64 (n)))), (19, .d (.raw (.int .i64 (i))))] [(0, .row 39 2 acc.length (paEl acc)), (1, .obj 39 [.own 2, .own 3]), (2, .row 45 10 (xa.length + 1) (caEl (xa ++ [x]))), (3, .row 53 5 (xb.length) (ptEl xb))] := by
    unfold ru2; rw [List.length_append]; rfl
  rw [e]
  exact h1
theorem row_xb {C : Cx} {E : Env} {a : Act} {w : World} (cs : List Ca) (ps : List Pt) (acc : List PartT) (s : Int) (xa : List Ca) (xb : List Pt) (n i : Int) (x : Pt) (f : Nat → D) (hf : ∀ j, j < xb.length + 1 → f j = ptEl (xb ++ [x]) j) (h : Sim C E (mk 0 59 [(0, .d (.list 10 cs.length (caEl cs))), (1, .d (.list 5 ps.length (ptEl ps))), (5, .own 0), (6, .d (.raw (.int .i64 (s)))), (7, .ref 1 0), (12, .d (.raw (.int .i64 (s)))), (36, .d (.list 5 ps.length (ptEl ps))), (37, .d (.raw (.int .i64 (n)))), (38, .d (.raw (.int .i64 (i))))] [(0, .row 39 2 acc.length (paEl acc)), (1, .obj 39 [.own 2, .own 3]), (2, .row 45 10 (xa.length) (caEl xa)), (3, .row 53 5 (xb.length + 1) (f))]) a w) : ∃ E', Sim C E' (ru3 cs ps acc s xa (xb ++ [x]) n i) a w := by
  obtain ⟨E', h1⟩ := h.rowEq (k := 3) (T := 53) (sz := 5) (n := xb.length + 1) (el := f) rfl (ptEl (xb ++ [x])) hf
  refine ⟨E', ?_⟩
  have e : ru3 cs ps acc s xa (xb ++ [x]) n i = mk 0 59 [(0, .d (.list 10 cs.length (caEl cs))), (1, .d (.list 5 ps.length (ptEl ps))), (5, .own 0), (6, .d (.raw (.int .i64 (s)))), (7, .ref 1 0), (12, .d (.raw (.int .i64 (s)))), (36, .d (.list 5 ps.length (ptEl ps))), (37, .d (.raw (.int .i64 (n)))), (38, .d (.raw (.int .i64 (i))))] [(0, .row 39 2 acc.length (paEl acc)), (1, .obj 39 [.own 2, .own 3]), (2, .row 45 10 (xa.length) (caEl xa)), (3, .row 53 5 (xb.length + 1) (ptEl (xb ++ [x])))] := by
    unfold ru3; rw [List.length_append]; rfl
  rw [e]
  exact h1
theorem row_ru {C : Cx} {E : Env} {a : Act} {w : World} (cs : List Ca) (ps : List Pt) (acc : List PartT) (i s n k : Int) (x : PartT) (f : Nat → D) (hf : ∀ j, j < acc.length + 1 → f j = paEl (acc ++ [x]) j) (h : Sim C E (mk 0 59 [(0, .d (.list 10 cs.length (caEl cs))), (1, .d (.list 5 ps.length (ptEl ps))), (5, .own 0), (6, .d (.raw (.int .i64 (i)))), (7, .ref 1 0), (12, .d (.raw (.int .i64 s))), (36, .d (.list 5 ps.length (ptEl ps))), (37, .d (.raw (.int .i64 n))), (38, .d (.raw (.int .i64 k)))] [(0, .row 39 2 (acc.length + 1) f), (1, .obj 39 [.d (.list 10 x.1.length (caEl x.1)), .d (.list 5 x.2.length (ptEl x.2))])]) a w) : ∃ E', Sim C E' (ru1 cs ps (acc ++ [x]) i) a w := by
  obtain ⟨E1, h1⟩ := h.rowEq (k := 0) (T := 39) (sz := 2) (n := acc.length + 1) (el := f) rfl (paEl (acc ++ [x])) hf
  obtain ⟨E', h2⟩ := h1.keep [0, 1, 5, 6]
  refine ⟨E', ?_⟩
  have e : ru1 cs ps (acc ++ [x]) i = mk 0 59 [(0, .d (.list 10 cs.length (caEl cs))), (1, .d (.list 5 ps.length (ptEl ps))), (5, .own 0), (6, .d (.raw (.int .i64 (i))))] [(0, .row 39 2 (acc.length + 1) (paEl (acc ++ [x])))] := by
    unfold ru1; rw [List.length_append]; rfl
  rw [e]
  exact (congrArg (fun s => Sim _ E' s a w) (by kernel_rfl)).mp h2
theorem ru3_go {w0 : World} {N : Nat → Prop} {E0 : Env} (cs : List Ca) (ps : List Pt) (acc : List PartT) (s : Int) (R : List PartT) (hl : cs.length ≤ 1000000) (hl2 : ps.length ≤ 1000000) (hs : SmallK cs) (ha : acc.length ≤ 10) (xa : List Ca) (hR : GoR1 w0 N E0 (ru1 cs ps (acc ++ [(xa, ps.filter (inR cs s))]) (IntKind.i64.wrap (s + 1))) R) : ∀ (d : Nat) (n i : Int), n = (ps.length : Int) → 0 ≤ i → i + d = n → ∀ xb : List Pt, xb.length ≤ i.toNat → xb ++ (ps.drop i.toNat).filter (inR cs s) = ps.filter (inR cs s) → GoR3 w0 N E0 (ru3 cs ps acc s xa xb n i) R := by
  intro d
  let c : Int := 0
  induction d with
  | zero =>
    intro n i en h0 hd xb hxl hxb E a w hsim
    let d : Int := 0
    have hx : xb = ps.filter (inR cs s) := by rw [← hxb, List.drop_eq_nil_of_le (by omega), List.filter_nil, List.append_nil]
    rw [← hx] at hR
    rcases bd (decide (i < n)) with hb1 | hb1
    ·
     rcases bd (d == s) with hb2 | hb2
     ·
      exact absurd (of_decide_eq_true hb1) (by omega)
     ·
      exact absurd (of_decide_eq_true hb1) (by omega)
    ·
     refine gh (M1_ok cs c d) (k' := loopAt Tryd.f13 0) (s' := mk 0 59 [(0, .d (.list 10 cs.length (caEl cs))), (1, .d (.list 5 ps.length (ptEl ps))), (5, .own 0), (6, vI (IntKind.i64.wrap (s + 1))), (7, .ref 1 0), (12, vI s), (36, .d (.list 5 ps.length (ptEl ps))), (37, vI n), (38, vI i)] [(0, .row 39 2 (acc.length + 1) (fun j => if j < acc.length then paEl acc j else segD true 2 (splice (List.map (fun j => (List.map D.raw (Value.agg #[Value.slice none 0 0, Value.slice none 0 0]).cells.toList).getD (j % 2) default) (List.range 2)) 0 (D.agg [D.list 10 xa.length (caEl xa), D.list 5 xb.length (ptEl xb)]).cells) (j - acc.length))), (1, .obj 39 [.d (.list 10 xa.length (caEl xa)), .d (.list 5 xb.length (ptEl xb))])]) (cs := [_, (acc.length + 1 ≤ 9223372036854775807 ∧ (acc.length + 1) * 48 ≤ 140737488355328)]) [false] [0,1,5,6,7,12,36,37,38] ⟨hb1, by omega, trivial⟩ hsim fun E a w hsim => ?_
     obtain ⟨E2, h2⟩ := row_ru cs ps acc (IntKind.i64.wrap (s + 1)) s n i (xa, xb) _ (fun j hj => app_pa acc (xa, xb) _ rfl j hj) hsim
     exact hR E2 a w h2
  | succ dd ih =>
    intro n i en h0 hd xb hxl hxb E a w hsim
    have hi : i.toNat < ps.length := by omega
    have ew : IntKind.i64.wrap (i + 1) = i + 1 := wrapP (by omega)
    have ih := ih n (IntKind.i64.wrap (i + 1)) en (by rw [ew]; omega) (by rw [ew]; omega)
    obtain ⟨d, hdp⟩ : ∃ d, placeF (ps.getD i.toNat noPt).cl (ps.getD i.toNat noPt).n cs = d := ⟨_, rfl⟩
    rw [getD_dropP (d := noPt) hi, List.filter_cons, show inR cs s (ps.getD i.toNat noPt) = (d == s) by unfold inR; rw [hdp]] at hxb
    rw [show (IntKind.i64.wrap (i + 1)).toNat = i.toNat + 1 by rw [ew]; omega] at ih
    rcases bd (decide (i < n)) with hb1 | hb1
    ·
     rcases bd (d == s) with hb2 | hb2
     ·
      refine gh (M1_ok cs c d) (k' := loopAt Tryd.f13 2) (s' := let za := ps.getD i.toNat noPt; mk 0 59 [(0, .d (.list 10 cs.length (caEl cs))), (1, .d (.list 5 ps.length (ptEl ps))), (5, .own 0), (6, vI s), (7, .ref 1 0), (12, vI s), (36, .d (.list 5 ps.length (ptEl ps))), (37, vI n), (38, vI (IntKind.i64.wrap (i + 1)))] [(0, .row 39 2 acc.length (paEl acc)), (1, .obj 39 [.own 2, .own 3]), (2, .row 45 10 xa.length (caEl xa)), (3, .row 53 5 (xb.length + 1) (fun j => if j < xb.length then ptEl xb j else segD true 5 (splice (List.map (fun j => (List.map D.raw (Value.agg #[Value.int IntKind.i64 (0 : Int), Value.int IntKind.i64 (0 : Int), Value.int IntKind.i64 (0 : Int), Value.int IntKind.i64 (0 : Int), Value.string (ByteArray.mk #[])]).cells.toList).getD (j % 5) default) (List.range 5)) 0 (D.agg [rI za.at', rI za.cl, rI za.n, rI za.a.fst, rS za.a.snd]).cells) (j - xb.length)))]) (cs := [_, ((0 : Int) ≤ i ∧ i < (↑ps.length : Int)), (10 = 10), (cs.length = cs.length), (caEl cs = caEl cs), (cs.length ≤ 1000000 ∧ SmallK cs ∧ placeF (ps.getD i.toNat noPt).cl (ps.getD i.toNat noPt).n cs = d), _, (xb.length + 1 ≤ 9223372036854775807 ∧ (xb.length + 1) * 48 ≤ 140737488355328)]) [true, true] [0,1,5,6,7,12,36,37,38] ⟨hb1, by omega, by omega, by omega, (by (constructor <;> omega)), (by exact ⟨hl, hs, hdp⟩), hb2, by omega, trivial⟩ hsim fun E a w hsim => ?_
      first | (rw [if_pos hb2] at hxb; obtain ⟨E2, h3⟩ := row_xb cs ps acc s xa xb n (IntKind.i64.wrap (i + 1)) (ps.getD i.toNat noPt) _ (fun j hj => app_pkP xb (ps.getD i.toNat noPt) _ rfl j hj) hsim; exact ih (xb ++ [ps.getD i.toNat noPt]) (by rw [List.length_append]; simp; omega) (by rw [List.append_assoc]; exact hxb) E2 a w h3) | (rw [if_neg (Bool.eq_false_iff.1 hb2)] at hxb; exact ih xb (by omega) hxb E a w hsim)
     ·
      refine gh (M1_ok cs c d) (k' := loopAt Tryd.f13 2) (s' := mk 0 59 [(0, .d (.list 10 cs.length (caEl cs))), (1, .d (.list 5 ps.length (ptEl ps))), (5, .own 0), (6, vI s), (7, .ref 1 0), (12, vI s), (36, .d (.list 5 ps.length (ptEl ps))), (37, vI n), (38, vI (IntKind.i64.wrap (i + 1)))] [(0, .row 39 2 acc.length (paEl acc)), (1, .obj 39 [.own 2, .own 3]), (2, .row 45 10 xa.length (caEl xa)), (3, .row 53 5 xb.length (ptEl xb))]) (cs := [_, ((0 : Int) ≤ i ∧ i < (↑ps.length : Int)), (10 = 10), (cs.length = cs.length), (caEl cs = caEl cs), (cs.length ≤ 1000000 ∧ SmallK cs ∧ placeF (ps.getD i.toNat noPt).cl (ps.getD i.toNat noPt).n cs = d), _]) [true, false] [0,1,5,6,7,12,36,37,38] ⟨hb1, by omega, by omega, by omega, (by (constructor <;> omega)), (by exact ⟨hl, hs, hdp⟩), hb2, trivial⟩ hsim fun E a w hsim => ?_
      first | (rw [if_pos hb2] at hxb; obtain ⟨E2, h3⟩ := row_xb cs ps acc s xa xb n (IntKind.i64.wrap (i + 1)) (ps.getD i.toNat noPt) _ (fun j hj => app_pkP xb (ps.getD i.toNat noPt) _ rfl j hj) hsim; exact ih (xb ++ [ps.getD i.toNat noPt]) (by rw [List.length_append]; simp; omega) (by rw [List.append_assoc]; exact hxb) E2 a w h3) | (rw [if_neg (Bool.eq_false_iff.1 hb2)] at hxb; exact ih xb (by omega) hxb E a w hsim)
    ·
     exact absurd (of_decide_eq_false hb1) (by omega)
theorem ru2_go {w0 : World} {N : Nat → Prop} {E0 : Env} (cs : List Ca) (ps : List Pt) (acc : List PartT) (s : Int) (R : List PartT) (hl : cs.length ≤ 1000000) (hl2 : ps.length ≤ 1000000) (hs : SmallK cs) (ha : acc.length ≤ 10) (hR : GoR1 w0 N E0 (ru1 cs ps (acc ++ [(cs.filter (inS s), ps.filter (inR cs s))]) (IntKind.i64.wrap (s + 1))) R) : ∀ (d : Nat) (n i : Int), n = (cs.length : Int) → 0 ≤ i → i + d = n → ∀ xa : List Ca, xa.length ≤ i.toNat → xa ++ (cs.drop i.toNat).filter (inS s) = cs.filter (inS s) → GoR2 w0 N E0 (ru2 cs ps acc s xa [] n i) R := by
  intro dd
  let d : Int := 0
  induction dd with
  | zero =>
    intro n i en h0 hd xa hxl hxa E a w hsim
    let c : Int := 0
    have hx : xa = cs.filter (inS s) := by rw [← hxa, List.drop_eq_nil_of_le (by omega), List.filter_nil, List.append_nil]
    rw [← hx] at hR
    obtain ⟨xb, hxb⟩ : ∃ xb : List Pt, xb = [] := ⟨_, rfl⟩
    rw [← hxb] at hsim
    rcases bd (decide (i < n)) with hb1 | hb1
    ·
     rcases bd (c == s) with hb2 | hb2
     ·
      exact absurd (of_decide_eq_true hb1) (by omega)
     ·
      exact absurd (of_decide_eq_true hb1) (by omega)
    ·
     refine gh (M1_ok cs c d) (k' := loopAt Tryd.f13 2) (s' := mk 0 59 [(0, .d (.list 10 cs.length (caEl cs))), (1, .d (.list 5 ps.length (ptEl ps))), (5, .own 0), (6, vI s), (7, .ref 1 0), (12, vI s), (17, .d (.list 10 cs.length (caEl cs))), (18, vI n), (19, vI i), (36, .d (.list 5 ps.length (ptEl ps))), (37, vI (↑ps.length : Int)), (38, vI 0)] [(0, .row 39 2 acc.length (paEl acc)), (1, .obj 39 [.own 2, .own 3]), (2, .row 45 10 xa.length (caEl xa)), (3, .row 53 5 xb.length (ptEl xb))]) (cs := [_]) [false] [0,1,5,6,7,12,17,18,19,36,37,38] ⟨hb1, trivial⟩ hsim fun E a w hsim => ?_
     obtain ⟨E8, h8⟩ := hsim.keep [0, 1, 5, 6, 7, 12, 36, 37, 38]
     exact ru3_go cs ps acc s R hl hl2 hs ha xa hR ps.length (ps.length : Int) 0 rfl (by omega) (by omega) xb (by rw [hxb]; simp) (by rw [hxb]; rfl) E8 a w ((congrArg (fun s => Sim _ E8 s a w) (by kernel_rfl)).mp h8)
  | succ dd ih =>
    intro n i en h0 hd xa hxl hxa E a w hsim
    have hi : i.toNat < cs.length := by omega
    have ew : IntKind.i64.wrap (i + 1) = i + 1 := wrapP (by omega)
    have ih := ih n (IntKind.i64.wrap (i + 1)) en (by rw [ew]; omega) (by rw [ew]; omega)
    have hk : (cs.getD i.toNat noCa).o.2.1.size ≤ 1073741824 := hs _ (by rw [List.getD_eq_getElem?_getD, List.getElem?_eq_getElem hi]; exact List.getElem_mem hi)
    obtain ⟨c, hc⟩ : ∃ c, plc (cs.getD i.toNat noCa).o.2.1 = c := ⟨_, rfl⟩
    rw [getD_dropP (d := noCa) hi, List.filter_cons, show inS s (cs.getD i.toNat noCa) = (c == s) by unfold inS; rw [hc]] at hxa
    rw [show (IntKind.i64.wrap (i + 1)).toNat = i.toNat + 1 by rw [ew]; omega] at ih
    obtain ⟨xb, hxb⟩ : ∃ xb : List Pt, xb = [] := ⟨_, rfl⟩
    rw [← hxb] at hsim ih
    rcases bd (decide (i < n)) with hb1 | hb1
    ·
     rcases bd (c == s) with hb2 | hb2
     ·
      refine gh (M1_ok cs c d) (k' := loopAt Tryd.f13 1) (s' := let za := cs.getD i.toNat noCa; mk 0 59 [(0, .d (.list 10 cs.length (caEl cs))), (1, .d (.list 5 ps.length (ptEl ps))), (5, .own 0), (6, vI s), (7, .ref 1 0), (12, vI s), (17, .d (.list 10 cs.length (caEl cs))), (18, vI n), (19, vI (IntKind.i64.wrap (i + 1)))] [(0, .row 39 2 acc.length (paEl acc)), (1, .obj 39 [.own 2, .own 3]), (2, .row 45 10 (xa.length + 1) (fun j => if j < xa.length then caEl xa j else segD true 10 (splice (List.map (fun j => (List.map D.raw (Value.agg #[Value.int IntKind.i64 (0 : Int), Value.int IntKind.i64 (0 : Int), Value.int IntKind.i64 (0 : Int), Value.string (ByteArray.mk #[]), Value.string (ByteArray.mk #[]), Value.string (ByteArray.mk #[]), Value.int IntKind.i64 (0 : Int), Value.int IntKind.i64 (0 : Int), Value.int IntKind.i64 (0 : Int), Value.string (ByteArray.mk #[])]).cells.toList).getD (j % 10) default) (List.range 10)) 0 (D.agg [rI za.cl, rI za.n, rI za.o.fst, rS za.o.snd.fst, rS za.o.snd.snd.fst, rS za.o.snd.snd.snd, rI za.fr, rI za.to, rI za.a.fst, rS za.a.snd]).cells) (j - xa.length))), (3, .row 53 5 xb.length (ptEl xb))]) (cs := [_, ((0 : Int) ≤ i ∧ i < (↑cs.length : Int)), (Plc.plc (cs.getD i.toNat noCa).o.snd.fst = c ∧ (cs.getD i.toNat noCa).o.snd.fst.size ≤ 1073741824), _, (xa.length + 1 ≤ 9223372036854775807 ∧ (xa.length + 1) * 112 ≤ 140737488355328)]) [true, true] [0,1,5,6,7,12,17,18,19,36,37,38] ⟨hb1, by omega, (by exact ⟨hc, hk⟩), hb2, by omega, trivial⟩ hsim fun E a w hsim => ?_
      obtain ⟨E8, h8⟩ := hsim.keep [0, 1, 5, 6, 7, 12, 17, 18, 19]
      first | (rw [if_pos hb2] at hxa; obtain ⟨E2, h3⟩ := row_xa cs ps acc s xa xb n (IntKind.i64.wrap (i + 1)) (cs.getD i.toNat noCa) _ (fun j hj => app_pkC xa (cs.getD i.toNat noCa) _ rfl j hj) h8; exact ih (xa ++ [cs.getD i.toNat noCa]) (by rw [List.length_append]; simp; omega) (by rw [List.append_assoc]; exact hxa) E2 a w h3) | (rw [if_neg (Bool.eq_false_iff.1 hb2)] at hxa; exact ih xa (by omega) hxa E8 a w h8)
     ·
      refine gh (M1_ok cs c d) (k' := loopAt Tryd.f13 1) (s' := mk 0 59 [(0, .d (.list 10 cs.length (caEl cs))), (1, .d (.list 5 ps.length (ptEl ps))), (5, .own 0), (6, vI s), (7, .ref 1 0), (12, vI s), (17, .d (.list 10 cs.length (caEl cs))), (18, vI n), (19, vI (IntKind.i64.wrap (i + 1)))] [(0, .row 39 2 acc.length (paEl acc)), (1, .obj 39 [.own 2, .own 3]), (2, .row 45 10 xa.length (caEl xa)), (3, .row 53 5 xb.length (ptEl xb))]) (cs := [_, ((0 : Int) ≤ i ∧ i < (↑cs.length : Int)), (Plc.plc (cs.getD i.toNat noCa).o.snd.fst = c ∧ (cs.getD i.toNat noCa).o.snd.fst.size ≤ 1073741824), _]) [true, false] [0,1,5,6,7,12,17,18,19,36,37,38] ⟨hb1, by omega, (by exact ⟨hc, hk⟩), hb2, trivial⟩ hsim fun E a w hsim => ?_
      obtain ⟨E8, h8⟩ := hsim.keep [0, 1, 5, 6, 7, 12, 17, 18, 19]
      first | (rw [if_pos hb2] at hxa; obtain ⟨E2, h3⟩ := row_xa cs ps acc s xa xb n (IntKind.i64.wrap (i + 1)) (cs.getD i.toNat noCa) _ (fun j hj => app_pkC xa (cs.getD i.toNat noCa) _ rfl j hj) h8; exact ih (xa ++ [cs.getD i.toNat noCa]) (by rw [List.length_append]; simp; omega) (by rw [List.append_assoc]; exact hxa) E2 a w h3) | (rw [if_neg (Bool.eq_false_iff.1 hb2)] at hxa; exact ih xa (by omega) hxa E8 a w h8)
    ·
     exact absurd (of_decide_eq_false hb1) (by omega)
def rpartsF (cs : List Ca) (ps : List Pt) : List PartT := (List.range 4).map (rpartF cs ps)
theorem ru1_go {w0 : World} {N : Nat → Prop} {E0 : Env} (cs : List Ca) (ps : List Pt) (hl : cs.length ≤ 1000000) (hl2 : ps.length ≤ 1000000) (hs : SmallK cs) : ∀ (dd k : Nat), k + dd = 4 → GoR1 w0 N E0 (ru1 cs ps ((List.range k).map (rpartF cs ps)) (k : Int)) (rpartsF cs ps) := by
  intro dd
  let c : Int := 0
  let d : Int := 0
  induction dd with
  | zero =>
    intro k hk E a w hsim
    obtain rfl : k = 4 := by omega
    obtain ⟨acc, hacc⟩ : ∃ acc, acc = rpartsF cs ps := ⟨_, rfl⟩
    obtain ⟨s, hi⟩ : ∃ i : Int, i = ((4 : Nat) : Int) := ⟨_, rfl⟩
    rw [← hi, show (List.range 4).map (rpartF cs ps) = acc from hacc.symm] at hsim
    rw [← hacc]
    rcases bd (decide (s < (4 : Int))) with hb1 | hb1
    ·
     exact absurd (of_decide_eq_true hb1) (by omega)
    ·
     exact gr (M1_ok cs c d) Tryd.func13 (sr' := ⟨0, [.d (.list 2 acc.length (paEl acc))], []⟩) (cs := [_]) [false] true ⟨hb1, trivial⟩ (by rfl) hsim
  | succ dd ih =>
    intro k hk E a w hsim
    have ew : IntKind.i64.wrap ((k : Int) + 1) = ((k + 1 : Nat) : Int) := by rw [wrapP (by omega)]; omega
    have ih := ih (k + 1) (by omega)
    rw [List.range_succ, List.map_append, ← ew] at ih
    obtain ⟨acc, hacc⟩ : ∃ acc, acc = (List.range k).map (rpartF cs ps) := ⟨_, rfl⟩
    have hal : acc.length = k := by rw [hacc, List.length_map, List.length_range]
    rw [← hacc] at hsim
    rw [← hacc, List.map_cons, List.map_nil, show rpartF cs ps k = (cs.filter (inS (k : Int)), ps.filter (inR cs (k : Int))) from rfl] at ih
    obtain ⟨s, hi⟩ : ∃ i : Int, i = ((k : Nat) : Int) := ⟨_, rfl⟩
    rw [← hi] at hsim ih
    rcases bd (decide (s < (4 : Int))) with hb1 | hb1
    ·
     refine gh (M1_ok cs c d) (k' := loopAt Tryd.f13 1) (s' := mk 0 59 [(0, .d (.list 10 cs.length (caEl cs))), (1, .d (.list 5 ps.length (ptEl ps))), (5, .own 0), (6, vI s), (7, .ref 1 0), (12, vI s), (17, .d (.list 10 cs.length (caEl cs))), (18, vI (↑cs.length : Int)), (19, vI 0)] [(0, .row 39 2 acc.length (paEl acc)), (1, .obj 39 [.d (.raw (Value.slice none 0 0)), .d (.raw (Value.slice none 0 0))])]) (cs := [_]) [true] [0,1,5,6,7,12,17,18,19] ⟨hb1, trivial⟩ hsim fun E a w hsim => ?_
     obtain ⟨E8, h8⟩ := hsim.keep [0, 1, 5, 6, 7, 12, 17, 18, 19]
     obtain ⟨E6, h6⟩ := Go.Nil.Sim_nilCell (k := 1) (T := 39) (R := 45) (sz := 10) (el := caEl []) h8 [] [.d (.raw (.slice none 0 0))] (by kernel_rfl)
     obtain ⟨E7, h7⟩ := Go.Nil.Sim_nilCell (k := 1) (T := 39) (R := 53) (sz := 5) (el := ptEl []) h6 [.own 2] [] (by kernel_rfl)
     exact ru2_go cs ps acc s _ hl hl2 hs (by omega) ih cs.length (cs.length : Int) 0 rfl (by omega) (by omega) [] (by simp) rfl E7 a w ((congrArg (fun s => Sim _ E7 s a w) (by kernel_rfl)).mp h7)
    ·
     exact absurd (of_decide_eq_false hb1) (by omega)
theorem rsplit_ok (cs : List Ca) (ps : List Pt) (hl : cs.length ≤ 1000000) (hl2 : ps.length ≤ 1000000) (hs : SmallK cs) : Eng.Spec Tryd.prog gB 13 [.d (.list 10 cs.length (caEl cs)), .d (.list 5 ps.length (ptEl ps))] [] (.d (.list 2 4 (paEl (rpartsF cs ps)))) [] := by
  refine spec_fn Tryd.func13 rfl fun {w N E act} hsim => ?_
  let c : Int := 0
  let d : Int := 0
  refine gh (M1_ok cs c d) (k' := loopAt Tryd.f13 0) (s' := mk 0 59 [(0, .d (.list 10 cs.length (caEl cs))), (1, .d (.list 5 ps.length (ptEl ps))), (5, .d (.raw (Value.slice none 0 0))), (6, vI 0)] []) (cs := []) [] [0,1,5,6] trivial hsim fun E a w hsim => ?_
  obtain ⟨E2, h2⟩ := hsim.nilRow (t := 5) rfl 39 2 (paEl [])
  exact ru1_go cs ps hl hl2 hs 4 0 rfl E2 a w h2
theorem pm_get (cl nu : Int) : ∀ (cs : List Ca) (m : Pm), pmGet (cs.foldl pmStep m) cl nu = if m.h (nmD cl nu) = true then m.v (nmD cl nu) else placeF cl nu cs
  | [], m => rfl
  | c :: r, m => by
    rw [List.foldl_cons, pm_get cl nu r]
    have hk : keyEq (nmD cl nu) (nmD c.cl c.n) = (cl == c.cl && nu == c.n) := rfl
    unfold pmStep
    by_cases hc : m.h (nmD c.cl c.n) = true
    · rw [if_pos hc]
      by_cases hm : m.h (nmD cl nu) = true
      · rw [if_pos hm, if_pos hm]
      · rw [if_neg hm, if_neg hm, placeF]
        rw [if_neg]
        intro e
        rw [Bool.and_eq_true] at e
        rw [eq_of_beq e.1, eq_of_beq e.2] at hc
        exact hm hc
    · rw [if_neg hc]
      show (if (keyEq (nmD cl nu) (nmD c.cl c.n) || m.h (nmD cl nu)) = true then (match keyEq (nmD cl nu) (nmD c.cl c.n) with | true => plc c.o.2.1 | false => m.v (nmD cl nu)) else placeF cl nu r) = _
      rw [hk]
      by_cases he : cl = c.cl ∧ nu = c.n
      · rw [← he.1, ← he.2] at hc ⊢
        rw [beq_self_eq_true, beq_self_eq_true, if_neg hc, placeF, ← he.1, ← he.2, beq_self_eq_true, beq_self_eq_true]
        rfl
      · have e1 : (cl == c.cl && nu == c.n) = false := by
          rw [Bool.and_eq_false_iff]
          by_cases h1 : cl = c.cl
          · exact .inr (beq_eq_false_iff_ne.2 fun h2 => he ⟨h1, h2⟩)
          · exact .inl (beq_eq_false_iff_ne.2 h1)
        have e2 : (c.cl == cl && c.n == nu) = false := by rw [← e1, Bool.beq_comm, Bool.beq_comm (a := c.n)]
        rw [e1, placeF, if_neg (Bool.eq_false_iff.1 e2)]
        rfl
theorem parts_eq (cs : List Ca) (ps : List Pt) : partsF cs ps (pmOf cs) = rpartsF cs ps := by
  unfold partsF rpartsF
  congr 1
  funext s
  unfold partF rpartF
  congr 1
  congr 1
  funext p
  unfold inP inR pmOf
  rw [pm_get]
  rfl
end Go.Prf
