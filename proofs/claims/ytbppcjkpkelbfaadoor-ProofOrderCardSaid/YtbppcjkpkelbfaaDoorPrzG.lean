/-
  Contracts of given functions, or plain laws that they need. No condition.
-/
import Derived.Test.YtbppcjkpkelbfaaDoorPrfJ
import Derived.Test.YtbppcjkpkelbfaaDoorPrfF
namespace Go.Prf
open Go Go.Eng Go.Tab Go.Plc
set_option linter.unusedVariables false
/-- proof.Check, its answer named: for calls and points of any shape. -/
def mChkP (cs : List Ca) (ps : List Pt) (r : Int × Int × Int) : Mo
  | [.d (.list s k el), .d (.list s2 k2 el2)], [] => some (.tup [.d (.raw (.int .i64 r.1)), .d (.raw (.int .i64 r.2.1)), .d (.raw (.int .i64 r.2.2))], [], [s = 10, k = cs.length, el = caEl cs, s2 = 5, k2 = ps.length, el2 = ptEl ps, cs.length ≤ 1099511627776 ∧ r = checkP cs ps])
  | _, _ => none
def mReads : Mo
  | [], [] => some (.d (.raw (.bool true)), [], [])
  | _, _ => none
def atF (cl n : Int) : List Pt → Int → Int
  | [], _ => -1
  | p :: r, i => if (p.cl == cl && p.n == n) = true then i else atF cl n r (i + 1)
def mAtF (ps : List Pt) : Mo
  | [.d (.agg [.raw (.int .i64 c), .raw (.int .i64 n), .raw (.int .i64 k), .raw (.string key), .raw (.string val), .raw (.string old), .raw (.int .i64 fr), .raw (.int .i64 to), .raw (.int .i64 er), .raw (.string v)]), .d (.list s2 k2 el2)], [] => some (.d (.raw (.int .i64 (atF c n ps 0))), [], [s2 = 5, k2 = ps.length, el2 = ptEl ps, ps.length ≤ 1099511627776])
  | _, _ => none
def mReplay (os : List OpT) (an : List An) : Mo
  | [.d (.list s k el)], [] => some (.d (.list 2 an.length (anEl an)), [], [s = 4, k = os.length, el = opEl os, Small os ∧ os.length ≤ 1099511627776 ∧ an = repF T0 os])
  | _, _ => none
def rdC : List Ca := [⟨0, 1, (2, ⟨#[107]⟩, ⟨#[97]⟩, ⟨#[]⟩), 0, 3, (0, ⟨#[]⟩)⟩, ⟨0, 2, (1, ⟨#[107]⟩, ⟨#[]⟩, ⟨#[]⟩), 4, 6, (0, ⟨#[97]⟩)⟩]
def rdP : List Pt := [⟨2, 0, 1, (0, ⟨#[]⟩)⟩, ⟨5, 0, 2, (0, ⟨#[97]⟩)⟩]
def rdQ : List Pt := [⟨5, 0, 1, (0, ⟨#[]⟩)⟩]
def mChkR : Mo
  | [.d (.list s k el), .d (.list s2 2 el2)], [] => some (.tup [.d (.raw (.int .i64 0)), .d (.raw (.int .i64 0)), .d (.raw (.int .i64 0))], [], [s = 10 ∧ k = 2 ∧ s2 = 5, el 0 = caEl rdC 0, el 1 = caEl rdC 1, el2 0 = ptEl rdP 0, el2 1 = ptEl rdP 1])
  | [.d (.list s k el), .d (.list s2 1 el2)], [] => some (.tup [.d (.raw (.int .i64 2)), .d (.raw (.int .i64 0)), .d (.raw (.int .i64 0))], [], [s = 10 ∧ k = 2 ∧ s2 = 5, el 0 = caEl rdC 0, el 1 = caEl rdC 1, el2 0 = ptEl rdQ 0])
  | _, _ => none
def C0 (cs : List Ca) (ps : List Pt) (r : Int × Int × Int) (os : List OpT) (an : List An) : Orc := ((((Orc.none gB).add 19 false (mChkP cs ps r)).add 18 false mReads).add 28 false (mAtF ps)).add 26 true (mReplay os an)
end Go.Prf

namespace Go.Prf
open Go Go.Eng Go.Tab Go.Plc
set_option linter.unusedVariables false
def caAV (c : Ca) : List AV := [.d (.raw (.int .i64 c.cl)), .d (.raw (.int .i64 c.n)), .d (.raw (.int .i64 c.o.1)), .d (.raw (.string c.o.2.1)), .d (.raw (.string c.o.2.2.1)), .d (.raw (.string c.o.2.2.2)), .d (.raw (.int .i64 c.fr)), .d (.raw (.int .i64 c.to)), .d (.raw (.int .i64 c.a.1)), .d (.raw (.string c.a.2))]
def at1 (c : Ca) (ps : List Pt) (n i : Int) : St := mk 0 28 [(2, .ref 0 0), (7, .d (.list 5 ps.length (ptEl ps))), (8, .d (.raw (.int .i64 n))), (9, .d (.raw (.int .i64 i)))] [(0, .obj 51 (caAV c))]
def po1 (cs : List Ca) (ps : List Pt) (n i : Int) : St := mk 0 145 [(0, .d (.list 10 cs.length (caEl cs))), (1, .d (.list 5 ps.length (ptEl ps))), (45, .d (.list 10 cs.length (caEl cs))), (46, .d (.raw (.int .i64 n))), (47, .d (.raw (.int .i64 i)))] []
def po2 (cs : List Ca) (ps : List Pt) (c : Ca) (k n i n2 j : Int) : St := mk 0 145 [(0, .d (.list 10 cs.length (caEl cs))), (1, .d (.list 5 ps.length (ptEl ps))), (9, .ref 0 0), (10, .d (.raw (.int .i64 k))), (45, .d (.list 10 cs.length (caEl cs))), (46, .d (.raw (.int .i64 n))), (47, .d (.raw (.int .i64 i))), (61, .d (.list 10 cs.length (caEl cs))), (62, .d (.raw (.int .i64 n2))), (63, .d (.raw (.int .i64 j)))] [(0, .obj 51 (caAV c))]
def po3 (cs : List Ca) (ps : List Pt) (os : List OpT) (n i : Int) : St := mk 0 145 [(0, .d (.list 10 cs.length (caEl cs))), (1, .d (.list 5 ps.length (ptEl ps))), (14, .own 0), (91, .d (.list 5 ps.length (ptEl ps))), (92, .d (.raw (.int .i64 n))), (93, .d (.raw (.int .i64 i)))] [(0, .row 47 4 os.length (opEl os))]
def ptAV (p : Pt) : List AV := [.d (.raw (.int .i64 p.at')), .d (.raw (.int .i64 p.cl)), .d (.raw (.int .i64 p.n)), .d (.raw (.int .i64 p.a.1)), .d (.raw (.string p.a.2))]
def po4 (cs : List Ca) (ps : List Pt) (os : List OpT) (p : Pt) (n i n2 j : Int) : St := mk 0 145 [(0, .d (.list 10 cs.length (caEl cs))), (1, .d (.list 5 ps.length (ptEl ps))), (14, .own 0), (16, .ref 1 0), (91, .d (.list 5 ps.length (ptEl ps))), (92, .d (.raw (.int .i64 n))), (93, .d (.raw (.int .i64 i))), (97, .d (.list 10 cs.length (caEl cs))), (98, .d (.raw (.int .i64 n2))), (99, .d (.raw (.int .i64 j)))] [(0, .row 47 4 os.length (opEl os)), (1, .obj 56 (ptAV p))]
def po5 (an : List An) (ps : List Pt) (n i : Int) : St := mk 0 145 [(19, .d (.list 2 an.length (anEl an))), (129, .d (.list 5 ps.length (ptEl ps))), (130, .d (.raw (.int .i64 n))), (131, .d (.raw (.int .i64 i)))] []
end Go.Prf

namespace Go.Prf
open Go Go.Eng Go.Proofs Go.RowKit Go.Tab Go.Plc
set_option linter.unusedVariables false
set_option linter.unusedSimpArgs false
set_option maxRecDepth 100000
set_option maxHeartbeats 4000000
theorem rd_chk1 : checkP rdC rdP = (0, 0, 0) := by kernel_rfl
theorem rd_chk2 : checkP rdC rdQ = (2, 0, 0) := by kernel_rfl
theorem two_eq {el el' : Nat → D} (h0 : el 0 = el' 0) (h1 : el 1 = el' 1) (i : Nat) (hi : i < 2) : el' i = el i := by
  rcases i with _ | _ | i
  · exact h0.symm
  · exact h1.symm
  · omega
theorem one_eq {el el' : Nat → D} (h0 : el 0 = el' 0) (i : Nat) (hi : i < 1) : el' i = el i := by
  rcases i with _ | i
  · exact h0.symm
  · omega
theorem va_lists {x x' y y' : D} (hx : SaysD x x') (hy : SaysD y y') {E : Env} {w : World} {N : Nat → Prop} {vs : List Value} (h : VAs E w N [.d x, .d y] vs) : VAs E w N [.d x', .d y'] vs := VAs_imp_cons (x := .d x) (y := .d x') (fun v hv => hx.out w N v hv) (fun vs h => VAs_imp_cons (x := .d y) (y := .d y') (fun v hv => hy.out w N v hv) (fun _ h => h) h) h
theorem mChkR_ok : MoOK Tryd.prog gB 19 mChkR := fun args H ret H' cs h hc => by
  unfold mChkR at h
  split at h
  · cases h
    obtain ⟨⟨rfl, rfl, rfl⟩, h0, h1, h2, h3, -⟩ := hc
    have hs := check_ok rdC rdP (by decide)
    rw [rd_chk1] at hs
    exact hs.args (va_lists (SaysD.list (two_eq h0 h1)) (SaysD.list (two_eq h2 h3)))
  · cases h
    obtain ⟨⟨rfl, rfl, rfl⟩, h0, h1, h2, -⟩ := hc
    have hs := check_ok rdC rdQ (by decide)
    rw [rd_chk2] at hs
    exact hs.args (va_lists (SaysD.list (two_eq h0 h1)) (SaysD.list (one_eq h2)))
  · cases h
theorem reads_ok : Eng.Spec Tryd.prog gB 18 [] [] (.d (.raw (.bool true))) [] := by
  refine spec_fn Tryd.func18 rfl fun {w N E act} hsim => ?_
  have q0_ : ((10 : Nat) = (10 : Nat) ∧ (2 : Nat) = (2 : Nat) ∧ (5 : Nat) = (5 : Nat)) := (by first | kernel_rfl | decide)
  have q1_ : (D.agg [D.raw (Value.int IntKind.i64 (0 : Int)), D.raw (Value.int IntKind.i64 (1 : Int)), D.raw (Value.int IntKind.i64 (2 : Int)), D.raw (Value.string (ByteArray.mk #[(107 : UInt8)])), D.raw (Value.string (ByteArray.mk #[(97 : UInt8)])), D.raw (Value.string (ByteArray.mk #[])), D.raw (Value.int IntKind.i64 (0 : Int)), D.raw (Value.int IntKind.i64 (3 : Int)), D.raw (Value.int IntKind.i64 (0 : Int)), D.raw (Value.string (ByteArray.mk #[]))] = D.agg [D.raw (Value.int IntKind.i64 (0 : Int)), D.raw (Value.int IntKind.i64 (1 : Int)), D.raw (Value.int IntKind.i64 (2 : Int)), D.raw (Value.string (rdC.getD (0 : Nat) noCa).o.snd.fst), D.raw (Value.string (rdC.getD (0 : Nat) noCa).o.snd.snd.fst), D.raw (Value.string (rdC.getD (0 : Nat) noCa).o.snd.snd.snd), D.raw (Value.int IntKind.i64 (0 : Int)), D.raw (Value.int IntKind.i64 (3 : Int)), D.raw (Value.int IntKind.i64 (0 : Int)), D.raw (Value.string (rdC.getD (0 : Nat) noCa).a.snd)]) := (by first | kernel_rfl | decide)
  have q2_ : (D.agg [D.raw (Value.int IntKind.i64 (0 : Int)), D.raw (Value.int IntKind.i64 (2 : Int)), D.raw (Value.int IntKind.i64 (1 : Int)), D.raw (Value.string (ByteArray.mk #[(107 : UInt8)])), D.raw (Value.string (ByteArray.mk #[])), D.raw (Value.string (ByteArray.mk #[])), D.raw (Value.int IntKind.i64 (4 : Int)), D.raw (Value.int IntKind.i64 (6 : Int)), D.raw (Value.int IntKind.i64 (0 : Int)), D.raw (Value.string (ByteArray.mk #[(97 : UInt8)]))] = D.agg [D.raw (Value.int IntKind.i64 (0 : Int)), D.raw (Value.int IntKind.i64 (2 : Int)), D.raw (Value.int IntKind.i64 (1 : Int)), D.raw (Value.string (rdC.getD (1 : Nat) noCa).o.snd.fst), D.raw (Value.string (rdC.getD (1 : Nat) noCa).o.snd.snd.fst), D.raw (Value.string (rdC.getD (1 : Nat) noCa).o.snd.snd.snd), D.raw (Value.int IntKind.i64 (4 : Int)), D.raw (Value.int IntKind.i64 (6 : Int)), D.raw (Value.int IntKind.i64 (0 : Int)), D.raw (Value.string (rdC.getD (1 : Nat) noCa).a.snd)]) := (by first | kernel_rfl | decide)
  exact go_ret ((OrcOK.none _).add _ true mChkR mChkR_ok) rfl rfl Tryd.func18 (sr' := ⟨0, [.d (.raw (.bool (true)))], []⟩) (cs := ((fun (c0 c1 c2 : Prop) => [c0, c1, c2, (D.agg [D.raw (Value.int IntKind.i64 (2 : Int)), D.raw (Value.int IntKind.i64 (0 : Int)), D.raw (Value.int IntKind.i64 (1 : Int)), D.raw (Value.int IntKind.i64 (0 : Int)), D.raw (Value.string (ByteArray.mk #[]))] = D.agg [D.raw (Value.int IntKind.i64 (2 : Int)), D.raw (Value.int IntKind.i64 (0 : Int)), D.raw (Value.int IntKind.i64 (1 : Int)), D.raw (Value.int IntKind.i64 (0 : Int)), D.raw (Value.string (rdP.getD (0 : Nat) noPt).a.snd)]), (D.agg [D.raw (Value.int IntKind.i64 (5 : Int)), D.raw (Value.int IntKind.i64 (0 : Int)), D.raw (Value.int IntKind.i64 (2 : Int)), D.raw (Value.int IntKind.i64 (0 : Int)), D.raw (Value.string (ByteArray.mk #[(97 : UInt8)]))] = D.agg [D.raw (Value.int IntKind.i64 (5 : Int)), D.raw (Value.int IntKind.i64 (0 : Int)), D.raw (Value.int IntKind.i64 (2 : Int)), D.raw (Value.int IntKind.i64 (0 : Int)), D.raw (Value.string (rdP.getD (1 : Nat) noPt).a.snd)]), c0, c1, c2, (D.agg [D.raw (Value.int IntKind.i64 (5 : Int)), D.raw (Value.int IntKind.i64 (0 : Int)), D.raw (Value.int IntKind.i64 (1 : Int)), D.raw (Value.int IntKind.i64 (0 : Int)), D.raw (Value.string (ByteArray.mk #[]))] = D.agg [D.raw (Value.int IntKind.i64 (5 : Int)), D.raw (Value.int IntKind.i64 (0 : Int)), D.raw (Value.int IntKind.i64 (1 : Int)), D.raw (Value.int IntKind.i64 (0 : Int)), D.raw (Value.string (rdQ.getD (0 : Nat) noPt).a.snd)]), ((true) = true), ((true) = true), ((true) = true), ((true) = true)]) _ _ _)) ((List.replicate 4 true)) true (by kernel_rfl) (by kernel_rfl) ⟨q0_, q1_, q2_, (by first | kernel_rfl | decide), (by first | kernel_rfl | decide), q0_, q1_, q2_, (by first | kernel_rfl | decide), rfl, rfl, rfl, rfl, trivial⟩ (by rfl) hsim
end Go.Prf

namespace Go.Prf
open Go Go.Eng Go.Proofs Go.RowKit Go.Tab Go.Plc
set_option linter.unusedVariables false
set_option linter.unusedSimpArgs false
set_option maxRecDepth 100000
set_option maxHeartbeats 4000000
abbrev GoA (w0 : World) (N : Nat → Prop) (E0 : Env) (s : St) (r : Int) : Prop := ∀ (E : Env) (a : Act) (w : World), Sim (cx Tryd.prog gz0 w0 N E0 []) E s a w → Goes Tryd.prog 28 (loopAt Tryd.f28 0) (RSpec (cx Tryd.prog gz0 w0 N E0 []) ⟨0, [.d (.raw (.int .i64 r))], []⟩) a w
theorem at_go {w0 : World} {N : Nat → Prop} {E0 : Env} (c : Ca) (ps : List Pt) (hl : ps.length ≤ 1099511627776) : ∀ (d : Nat) (n i : Int), n = (ps.length : Int) → 0 ≤ i → i + d = n → GoA w0 N E0 (at1 c ps n i) (atF c.cl c.n (ps.drop i.toNat) i) := by
  intro d
  induction d with
  | zero =>
    intro n i en h0 hd E a w hsim
    have hr : atF c.cl c.n (ps.drop i.toNat) i = -1 := by rw [List.drop_eq_nil_of_le (by omega)]; rfl
    rw [hr]
    rcases Bool.eq_false_or_eq_true (decide (i < n)) with hb1 | hb1
    · skip
      rcases Bool.eq_false_or_eq_true ((ps.getD i.toNat noPt).cl == c.cl) with hb2 | hb2
      · skip
        rcases Bool.eq_false_or_eq_true ((ps.getD i.toNat noPt).n == c.n) with hb3 | hb3
        · skip
          exact go_ret (OrcOK.none _) rfl rfl Tryd.func28 (sr' := ⟨0, [.d (.raw (.int .i64 (i)))], []⟩) (cs := [_, ((0 : Int) ≤ i ∧ i < (↑ps.length : Int)), _, _]) [true, true, true] true (by kernel_rfl) (by kernel_rfl) ⟨hb1, (by exact absurd (of_decide_eq_true hb1) (by omega)), hb2, hb3, trivial⟩ (by first | exact absurd (of_decide_eq_true hb1) (by omega) | rfl) hsim
        · skip
          refine go_head (OrcOK.none _) rfl rfl (k' := loopAt Tryd.f28 0) (s' := mk 0 28 [(2, .ref 0 0), (7, .d (.list 5 (ps.length) (ptEl ps))), (8, .d (.raw (.int .i64 (n)))), (9, .d (.raw (.int .i64 (IntKind.i64.wrap (i + (1 : Int))))))] [(0, .obj 51 [.d (.raw (.int .i64 (c.cl))), .d (.raw (.int .i64 (c.n))), .d (.raw (.int .i64 (c.o.fst))), .d (.raw (.string (c.o.snd.fst))), .d (.raw (.string (c.o.snd.snd.fst))), .d (.raw (.string (c.o.snd.snd.snd))), .d (.raw (.int .i64 (c.fr))), .d (.raw (.int .i64 (c.to))), .d (.raw (.int .i64 (c.a.fst))), .d (.raw (.string (c.a.snd)))])]) (cs := [_, ((0 : Int) ≤ i ∧ i < (↑ps.length : Int)), _, _]) [true, true, false] [2,7,8,9] (by kernel_rfl) (by kernel_rfl) ⟨hb1, (by exact absurd (of_decide_eq_true hb1) (by omega)), hb2, hb3, trivial⟩ hsim fun E a w hsim => ?_
          exact absurd (of_decide_eq_true hb1) (by omega)
      · skip
        refine go_head (OrcOK.none _) rfl rfl (k' := loopAt Tryd.f28 0) (s' := mk 0 28 [(2, .ref 0 0), (7, .d (.list 5 (ps.length) (ptEl ps))), (8, .d (.raw (.int .i64 (n)))), (9, .d (.raw (.int .i64 (IntKind.i64.wrap (i + (1 : Int))))))] [(0, .obj 51 [.d (.raw (.int .i64 (c.cl))), .d (.raw (.int .i64 (c.n))), .d (.raw (.int .i64 (c.o.fst))), .d (.raw (.string (c.o.snd.fst))), .d (.raw (.string (c.o.snd.snd.fst))), .d (.raw (.string (c.o.snd.snd.snd))), .d (.raw (.int .i64 (c.fr))), .d (.raw (.int .i64 (c.to))), .d (.raw (.int .i64 (c.a.fst))), .d (.raw (.string (c.a.snd)))])]) (cs := [_, ((0 : Int) ≤ i ∧ i < (↑ps.length : Int)), _]) [true, false] [2,7,8,9] (by kernel_rfl) (by kernel_rfl) ⟨hb1, (by exact absurd (of_decide_eq_true hb1) (by omega)), hb2, trivial⟩ hsim fun E a w hsim => ?_
        exact absurd (of_decide_eq_true hb1) (by omega)
    · skip
      exact go_ret (OrcOK.none _) rfl rfl Tryd.func28 (sr' := ⟨0, [.d (.raw (.int .i64 ((-1 : Int))))], []⟩) (cs := [_]) [false] true (by kernel_rfl) (by kernel_rfl) ⟨hb1, trivial⟩ (by first | exact absurd (of_decide_eq_true hb1) (by omega) | rfl) hsim
  | succ d ih =>
    intro n i en h0 hd E a w hsim
    have hi : i.toNat < ps.length := by omega
    have ew : IntKind.i64.wrap (i + 1) = i + 1 := wrapP (by omega)
    have hr : atF c.cl c.n (ps.drop i.toNat) i = if ((ps.getD i.toNat noPt).cl == c.cl && (ps.getD i.toNat noPt).n == c.n) = true then i else atF c.cl c.n (ps.drop (IntKind.i64.wrap (i + 1)).toNat) (IntKind.i64.wrap (i + 1)) := by
      rw [getD_drop (d := noPt) hi, ew, show (i + 1).toNat = i.toNat + 1 by omega]; rfl
    have ih := ih n (IntKind.i64.wrap (i + 1)) en (by rw [ew]; omega) (by rw [ew]; omega)
    rw [hr]
    rcases Bool.eq_false_or_eq_true (decide (i < n)) with hb1 | hb1
    · skip
      rcases Bool.eq_false_or_eq_true ((ps.getD i.toNat noPt).cl == c.cl) with hb2 | hb2
      · skip
        rcases Bool.eq_false_or_eq_true ((ps.getD i.toNat noPt).n == c.n) with hb3 | hb3
        · skip
          exact go_ret (OrcOK.none _) rfl rfl Tryd.func28 (sr' := ⟨0, [.d (.raw (.int .i64 (i)))], []⟩) (cs := [_, ((0 : Int) ≤ i ∧ i < (↑ps.length : Int)), _, _]) [true, true, true] true (by kernel_rfl) (by kernel_rfl) ⟨hb1, (by omega), hb2, hb3, trivial⟩ (by first | exact absurd (of_decide_eq_false hb1) (by omega) | (rw [if_pos (by { clear hsim ih hr; simp_all })]; done) | (rw [if_pos (by { clear hsim ih hr; simp_all })]; rfl)) hsim
        · skip
          refine go_head (OrcOK.none _) rfl rfl (k' := loopAt Tryd.f28 0) (s' := mk 0 28 [(2, .ref 0 0), (7, .d (.list 5 (ps.length) (ptEl ps))), (8, .d (.raw (.int .i64 (n)))), (9, .d (.raw (.int .i64 (IntKind.i64.wrap (i + (1 : Int))))))] [(0, .obj 51 [.d (.raw (.int .i64 (c.cl))), .d (.raw (.int .i64 (c.n))), .d (.raw (.int .i64 (c.o.fst))), .d (.raw (.string (c.o.snd.fst))), .d (.raw (.string (c.o.snd.snd.fst))), .d (.raw (.string (c.o.snd.snd.snd))), .d (.raw (.int .i64 (c.fr))), .d (.raw (.int .i64 (c.to))), .d (.raw (.int .i64 (c.a.fst))), .d (.raw (.string (c.a.snd)))])]) (cs := [_, ((0 : Int) ≤ i ∧ i < (↑ps.length : Int)), _, _]) [true, true, false] [2,7,8,9] (by kernel_rfl) (by kernel_rfl) ⟨hb1, (by omega), hb2, hb3, trivial⟩ hsim fun E a w hsim => ?_
          rw [if_neg (by { clear hsim ih hr; simp_all })]
          exact ih E a w hsim
      · skip
        refine go_head (OrcOK.none _) rfl rfl (k' := loopAt Tryd.f28 0) (s' := mk 0 28 [(2, .ref 0 0), (7, .d (.list 5 (ps.length) (ptEl ps))), (8, .d (.raw (.int .i64 (n)))), (9, .d (.raw (.int .i64 (IntKind.i64.wrap (i + (1 : Int))))))] [(0, .obj 51 [.d (.raw (.int .i64 (c.cl))), .d (.raw (.int .i64 (c.n))), .d (.raw (.int .i64 (c.o.fst))), .d (.raw (.string (c.o.snd.fst))), .d (.raw (.string (c.o.snd.snd.fst))), .d (.raw (.string (c.o.snd.snd.snd))), .d (.raw (.int .i64 (c.fr))), .d (.raw (.int .i64 (c.to))), .d (.raw (.int .i64 (c.a.fst))), .d (.raw (.string (c.a.snd)))])]) (cs := [_, ((0 : Int) ≤ i ∧ i < (↑ps.length : Int)), _]) [true, false] [2,7,8,9] (by kernel_rfl) (by kernel_rfl) ⟨hb1, (by omega), hb2, trivial⟩ hsim fun E a w hsim => ?_
        rw [if_neg (by { clear hsim ih hr; simp_all })]
        exact ih E a w hsim
    · skip
      exact go_ret (OrcOK.none _) rfl rfl Tryd.func28 (sr' := ⟨0, [.d (.raw (.int .i64 ((-1 : Int))))], []⟩) (cs := [_]) [false] true (by kernel_rfl) (by kernel_rfl) ⟨hb1, trivial⟩ (by first | exact absurd (of_decide_eq_false hb1) (by omega) | (rw [if_pos (by { clear hsim ih hr; simp_all })]; done) | (rw [if_pos (by { clear hsim ih hr; simp_all })]; rfl)) hsim
theorem at_ok (c : Ca) (ps : List Pt) (hl : ps.length ≤ 1099511627776) : Eng.Spec Tryd.prog (fun _ => none) 28 [.d (caD c), .d (.list 5 ps.length (ptEl ps))] [] (.d (.raw (.int .i64 (atF c.cl c.n ps 0)))) [] := by
  refine spec_fn Tryd.func28 rfl fun {w N E act} hsim => ?_
  refine go_head (OrcOK.none _) rfl rfl (k' := loopAt Tryd.f28 0) (s' := mk 0 28 [(2, .ref 0 0), (7, .d (.list 5 (ps.length) (ptEl ps))), (8, .d (.raw (.int .i64 ((↑ps.length : Int))))), (9, .d (.raw (.int .i64 ((0 : Int)))))] [(0, .obj 51 [.d (.raw (.int .i64 (c.cl))), .d (.raw (.int .i64 (c.n))), .d (.raw (.int .i64 (c.o.fst))), .d (.raw (.string (c.o.snd.fst))), .d (.raw (.string (c.o.snd.snd.fst))), .d (.raw (.string (c.o.snd.snd.snd))), .d (.raw (.int .i64 (c.fr))), .d (.raw (.int .i64 (c.to))), .d (.raw (.int .i64 (c.a.fst))), .d (.raw (.string (c.a.snd)))])]) (cs := []) [] [2,7,8,9] (by kernel_rfl) (by kernel_rfl) trivial hsim fun E a w hsim => ?_
  exact at_go c ps hl ps.length (ps.length : Int) 0 rfl (by omega) (by omega) E a w hsim
end Go.Prf
