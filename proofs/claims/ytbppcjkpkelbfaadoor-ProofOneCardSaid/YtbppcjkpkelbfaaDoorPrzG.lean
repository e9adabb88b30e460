/-
  Contracts of given functions, or plain laws that they need. No condition.
-/
import Derived.Test.YtbppcjkpkelbfaaDoorPrfJ
import Derived.Test.YtbppcjkpkelbfaaDoorRmB
namespace Go.Prf
open Go Go.Eng Go.Tab Go.Plc
set_option linter.unusedVariables false
def mChkP (cs : List Ca) (ps : List Pt) (r : Int × Int × Int) : Mo
  | [.d (.list s k el), .d (.list s2 k2 el2)], [] => some (.tup [.d (.raw (.int .i64 r.1)), .d (.raw (.int .i64 r.2.1)), .d (.raw (.int .i64 r.2.2))], [], [s = 10, k = cs.length, el = caEl cs, s2 = 5, k2 = ps.length, el2 = ptEl ps, cs.length ≤ 1099511627776 ∧ r = checkP cs ps])
  | _, _ => none
def mReads : Mo
  | [], [] => some (.d (.raw (.bool true)), [], [])
  | _, _ => none
def atF (cl n : Int) : List Pt → Int → Int
  | [], _ => -1
  | p :: r, i => if (p.cl == cl && p.n == n) = true then i else atF cl n r (i + 1)
def mAtF (ps : List Pt) : Mo
  | [.d (.agg [.raw (.int .i64 c), .raw (.int .i64 n), .raw (.int .i64 k), .raw (.string key), .raw (.string val), .raw (.string old), .raw (.int .i64 fr), .raw (.int .i64 to), .raw (.int .i64 er), .raw (.string v)]), .d (.list s2 k2 el2)], [] => some (.d (.raw (.int .i64 (atF c n ps 0))), [], [s2 = 5, k2 = ps.length, el2 = ptEl ps, ps.length ≤ 1099511627776])
  | _, _ => none
def mReplay (os : List OpT) (an : List An) : Mo
  | [.d (.list s k el)], [] => some (.d (.list 2 an.length (anEl an)), [], [s = 4, k = os.length, el = opEl os, Small os ∧ os.length ≤ 1099511627776 ∧ an = repF T0 os])
  | _, _ => none
def rdC : List Ca := [⟨0, 1, (2, ⟨#[107]⟩, ⟨#[97]⟩, ⟨#[]⟩), 0, 3, (0, ⟨#[]⟩)⟩, ⟨0, 2, (1, ⟨#[107]⟩, ⟨#[]⟩, ⟨#[]⟩), 4, 6, (0, ⟨#[97]⟩)⟩]
def rdP : List Pt := [⟨2, 0, 1, (0, ⟨#[]⟩)⟩, ⟨5, 0, 2, (0, ⟨#[97]⟩)⟩]
def rdQ : List Pt := [⟨5, 0, 1, (0, ⟨#[]⟩)⟩]
def mChkR : Mo
  | [.d (.list s k el), .d (.list s2 2 el2)], [] => some (.tup [.d (.raw (.int .i64 0)), .d (.raw (.int .i64 0)), .d (.raw (.int .i64 0))], [], [s = 10 ∧ k = 2 ∧ s2 = 5, el 0 = caEl rdC 0, el 1 = caEl rdC 1, el2 0 = ptEl rdP 0, el2 1 = ptEl rdP 1])
  | [.d (.list s k el), .d (.list s2 1 el2)], [] => some (.tup [.d (.raw (.int .i64 2)), .d (.raw (.int .i64 0)), .d (.raw (.int .i64 0))], [], [s = 10 ∧ k = 2 ∧ s2 = 5, el 0 = caEl rdC 0, el 1 = caEl rdC 1, el2 0 = ptEl rdQ 0])
  | _, _ => none
def C0 (cs : List Ca) (ps : List Pt) (r : Int × Int × Int) (os : List OpT) (an : List An) : Orc := ((((Orc.none gB).add 19 false (mChkP cs ps r)).add 18 false mReads).add 28 false (mAtF ps)).add 26 true (mReplay os an)
end Go.Prf

namespace Go.Prf
open Go Go.Eng Go.Tab Go.Plc
set_option linter.unusedVariables false
def op1 (l acc : List OpT) (n i : Int) : St := mk 0 26 [(3, .own 0), (6, .d (.list 4 l.length (opEl l))), (7, .d (.raw (.int .i64 n))), (8, .d (.raw (.int .i64 i)))] [(0, .row 41 4 acc.length (opEl acc))]
def mOps (l : List OpT) : Mo
  | [.d (.list s k el)], [] => some (.d (.list 4 l.length (opEl l)), [], [s = 4, k = l.length, el = opEl l, l.length ≤ 1000000])
  | _, _ => none
def mRepl (l : List OpT) (an : List An) : Mo
  | [.d (.list s k el)], [] => some (.d (.list 2 an.length (anEl an)), [], [s = 4, k = l.length, el = opEl l, Small l ∧ l.length ≤ 1000000 ∧ an = repF T0 l])
  | _, _ => none
end Go.Prf

namespace Go.Prf
open Go Go.Eng Go.Tab Go.Plc
set_option linter.unusedVariables false
def caAV (c : Ca) : List AV := [.d (.raw (.int .i64 c.cl)), .d (.raw (.int .i64 c.n)), .d (.raw (.int .i64 c.o.1)), .d (.raw (.string c.o.2.1)), .d (.raw (.string c.o.2.2.1)), .d (.raw (.string c.o.2.2.2)), .d (.raw (.int .i64 c.fr)), .d (.raw (.int .i64 c.to)), .d (.raw (.int .i64 c.a.1)), .d (.raw (.string c.a.2))]
def at1 (c : Ca) (ps : List Pt) (n i : Int) : St := mk 0 28 [(2, .ref 0 0), (7, .d (.list 5 ps.length (ptEl ps))), (8, .d (.raw (.int .i64 n))), (9, .d (.raw (.int .i64 i)))] [(0, .obj 51 (caAV c))]
end Go.Prf

namespace Go.Prf
open Go Go.Eng Go.Proofs Go.RowKit Go.Tab Go.Plc
set_option linter.unusedVariables false
set_option linter.unusedSimpArgs false
set_option maxRecDepth 100000
set_option maxHeartbeats 4000000
theorem rd_chk1 : checkP rdC rdP = (0, 0, 0) := by kernel_rfl
theorem rd_chk2 : checkP rdC rdQ = (2, 0, 0) := by kernel_rfl
theorem two_eq {el el' : Nat → D} (h0 : el 0 = el' 0) (h1 : el 1 = el' 1) (i : Nat) (hi : i < 2) : el' i = el i := by
  rcases i with _ | _ | i
  · exact h0.symm
  · exact h1.symm
  · omega
theorem one_eq {el el' : Nat → D} (h0 : el 0 = el' 0) (i : Nat) (hi : i < 1) : el' i = el i := by
  rcases i with _ | i
  · exact h0.symm
  · omega
theorem va_lists {x x' y y' : D} (hx : SaysD x x') (hy : SaysD y y') {E : Env} {w : World} {N : Nat → Prop} {vs : List Value} (h : VAs E w N [.d x, .d y] vs) : VAs E w N [.d x', .d y'] vs := VAs_imp_cons (x := .d x) (y := .d x') (fun v hv => hx.out w N v hv) (fun vs h => VAs_imp_cons (x := .d y) (y := .d y') (fun v hv => hy.out w N v hv) (fun _ h => h) h) h
theorem mChkR_ok : MoOK Tryd.prog gB 19 mChkR := fun args H ret H' cs h hc => by
  unfold mChkR at h
  split at h
  · cases h
    obtain ⟨⟨rfl, rfl, rfl⟩, h0, h1, h2, h3, -⟩ := hc
    have hs := check_ok rdC rdP (by decide)
    rw [rd_chk1] at hs
    exact hs.args (va_lists (SaysD.list (two_eq h0 h1)) (SaysD.list (two_eq h2 h3)))
  · cases h
    obtain ⟨⟨rfl, rfl, rfl⟩, h0, h1, h2, -⟩ := hc
    have hs := check_ok rdC rdQ (by decide)
    rw [rd_chk2] at hs
    exact hs.args (va_lists (SaysD.list (two_eq h0 h1)) (SaysD.list (one_eq h2)))
  · cases h
theorem reads_ok : Eng.Spec Tryd.prog gB 18 [] [] (.d (.raw (.bool true))) [] := by
  refine spec_fn Tryd.func18 rfl fun {w N E act} hsim => ?_
  have q0_ : ((10 : Nat) = (10 : Nat) ∧ (2 : Nat) = (2 : Nat) ∧ (5 : Nat) = (5 : Nat)) := (by first | kernel_rfl | decide)
  have q1_ : (D.agg [D.raw (Value.int IntKind.i64 (0 : Int)), D.raw (Value.int IntKind.i64 (1 : Int)), D.raw (Value.int IntKind.i64 (2 : Int)), D.raw (Value.string (ByteArray.mk #[(107 : UInt8)])), D.raw (Value.string (ByteArray.mk #[(97 : UInt8)])), D.raw (Value.string (ByteArray.mk #[])), D.raw (Value.int IntKind.i64 (0 : Int)), D.raw (Value.int IntKind.i64 (3 : Int)), D.raw (Value.int IntKind.i64 (0 : Int)), D.raw (Value.string (ByteArray.mk #[]))] = D.agg [D.raw (Value.int IntKind.i64 (0 : Int)), D.raw (Value.int IntKind.i64 (1 : Int)), D.raw (Value.int IntKind.i64 (2 : Int)), D.raw (Value.string (rdC.getD (0 : Nat) noCa).o.snd.fst), D.raw (Value.string (rdC.getD (0 : Nat) noCa).o.snd.snd.fst), D.raw (Value.string (rdC.getD (0 : Nat) noCa).o.snd.snd.snd), D.raw (Value.int IntKind.i64 (0 : Int)), D.raw (Value.int IntKind.i64 (3 : Int)), D.raw (Value.int IntKind.i64 (0 : Int)), D.raw (Value.string (rdC.getD (0 : Nat) noCa).a.snd)]) := (by first | kernel_rfl | decide)
  have q2_ : (D.agg [D.raw (Value.int IntKind.i64 (0 : Int)), D.raw (Value.int IntKind.i64 (2 : Int)), D.raw (Value.int IntKind.i64 (1 : Int)), D.raw (Value.string (ByteArray.mk #[(107 : UInt8)])), D.raw (Value.string (ByteArray.mk #[])), D.raw (Value.string (ByteArray.mk #[])), D.raw (Value.int IntKind.i64 (4 : Int)), D.raw (Value.int IntKind.i64 (6 : Int)), D.raw (Value.int IntKind.i64 (0 : Int)), D.raw (Value.string (ByteArray.mk #[(97 : UInt8)]))] = D.agg [D.raw (Value.int IntKind.i64 (0 : Int)), D.raw (Value.int IntKind.i64 (2 : Int)), D.raw (Value.int IntKind.i64 (1 : Int)), D.raw (Value.string (rdC.getD (1 : Nat) noCa).o.snd.fst), D.raw (Value.string (rdC.getD (1 : Nat) noCa).o.snd.snd.fst), D.raw (Value.string (rdC.getD (1 : Nat) noCa).o.snd.snd.snd), D.raw (Value.int IntKind.i64 (4 : Int)), D.raw (Value.int IntKind.i64 (6 : Int)), D.raw (Value.int IntKind.i64 (0 : Int)), D.raw (Value.string (rdC.getD (1 : Nat) noCa).a.snd)]) := (by first | kernel_rfl | decide)
  exact gr ((OrcOK.none _).add _ true mChkR mChkR_ok) Tryd.func18 (sr' := ⟨0, [vB true], []⟩) (cs := ((fun (c0 c1 c2 : Prop) => [c0, c1, c2, (D.agg [rI 2, rI 0, rI 1, rI 0, rS (ByteArray.mk #[])] = D.agg [rI 2, rI 0, rI 1, rI 0, rS (rdP.getD 0 noPt).a.snd]), (D.agg [rI 5, rI 0, rI 2, rI 0, rS (ByteArray.mk #[(97 : UInt8)])] = D.agg [rI 5, rI 0, rI 2, rI 0, rS (rdP.getD 1 noPt).a.snd]), c0, c1, c2, (D.agg [rI 5, rI 0, rI 1, rI 0, rS (ByteArray.mk #[])] = D.agg [rI 5, rI 0, rI 1, rI 0, rS (rdQ.getD 0 noPt).a.snd]), ((true) = true), ((true) = true), ((true) = true), ((true) = true)]) _ _ _)) ((List.replicate 4 true)) true ⟨q0_, q1_, q2_, (by first | kernel_rfl | decide), (by first | kernel_rfl | decide), q0_, q1_, q2_, (by first | kernel_rfl | decide), rfl, rfl, rfl, rfl, trivial⟩ (by rfl) hsim
end Go.Prf

namespace Go.Prf
open Go Go.Eng Go.Proofs Go.RowKit Go.Tab Go.Plc
set_option linter.unusedVariables false
set_option linter.unusedSimpArgs false
set_option maxRecDepth 100000
set_option maxHeartbeats 4000000
abbrev GoA (w0 : World) (N : Nat → Prop) (E0 : Env) (s : St) (r : Int) : Prop := ∀ (E : Env) (a : Act) (w : World), Sim (cx Tryd.prog gz0 w0 N E0 []) E s a w → Goes Tryd.prog 28 (loopAt Tryd.f28 0) (RSpec (cx Tryd.prog gz0 w0 N E0 []) ⟨0, [.d (.raw (.int .i64 r))], []⟩) a w
theorem at_go {w0 : World} {N : Nat → Prop} {E0 : Env} (c : Ca) (ps : List Pt) (hl : ps.length ≤ 1099511627776) : ∀ (d : Nat) (n i : Int), n = (ps.length : Int) → 0 ≤ i → i + d = n → GoA w0 N E0 (at1 c ps n i) (atF c.cl c.n (ps.drop i.toNat) i) := by
  intro d
  induction d with
  | zero =>
    intro n i en h0 hd E a w hsim
    have hr : atF c.cl c.n (ps.drop i.toNat) i = -1 := by rw [List.drop_eq_nil_of_le (by omega)]; rfl
    rw [hr]
    rcases bd (decide (i < n)) with hb1 | hb1
    ·
     rcases bd ((ps.getD i.toNat noPt).cl == c.cl) with hb2 | hb2
     ·
      rcases bd ((ps.getD i.toNat noPt).n == c.n) with hb3 | hb3
      ·
       exact gr (OrcOK.none _) Tryd.func28 (sr' := ⟨0, [vI i], []⟩) (cs := [_, ((0 : Int) ≤ i ∧ i < (↑ps.length : Int)), _, _]) [true, true, true] true ⟨hb1, (by exact absurd (of_decide_eq_true hb1) (by omega)), hb2, hb3, trivial⟩ (by first | exact absurd (of_decide_eq_true hb1) (by omega) | rfl) hsim
      ·
       exact absurd (of_decide_eq_true hb1) (by omega)
     ·
      exact absurd (of_decide_eq_true hb1) (by omega)
    ·
     exact gr (OrcOK.none _) Tryd.func28 (sr' := ⟨0, [vI ((-1 : Int))], []⟩) (cs := [_]) [false] true ⟨hb1, trivial⟩ (by first | exact absurd (of_decide_eq_true hb1) (by omega) | rfl) hsim
  | succ d ih =>
    intro n i en h0 hd E a w hsim
    have hi : i.toNat < ps.length := by omega
    have ew : IntKind.i64.wrap (i + 1) = i + 1 := wrapP (by omega)
    have hr : atF c.cl c.n (ps.drop i.toNat) i = if ((ps.getD i.toNat noPt).cl == c.cl && (ps.getD i.toNat noPt).n == c.n) = true then i else atF c.cl c.n (ps.drop (IntKind.i64.wrap (i + 1)).toNat) (IntKind.i64.wrap (i + 1)) := by
      rw [getD_drop (d := noPt) hi, ew, show (i + 1).toNat = i.toNat + 1 by omega]; rfl
    have ih := ih n (IntKind.i64.wrap (i + 1)) en (by rw [ew]; omega) (by rw [ew]; omega)
    rw [hr]
    rcases bd (decide (i < n)) with hb1 | hb1
    ·
     rcases bd ((ps.getD i.toNat noPt).cl == c.cl) with hb2 | hb2
     ·
      rcases bd ((ps.getD i.toNat noPt).n == c.n) with hb3 | hb3
      ·
       exact gr (OrcOK.none _) Tryd.func28 (sr' := ⟨0, [vI i], []⟩) (cs := [_, ((0 : Int) ≤ i ∧ i < (↑ps.length : Int)), _, _]) [true, true, true] true ⟨hb1, by omega, hb2, hb3, trivial⟩ (by first | exact absurd (of_decide_eq_false hb1) (by omega) | (rw [if_pos (by { clear hsim ih hr; simp_all })]; done) | (rw [if_pos (by { clear hsim ih hr; simp_all })]; rfl)) hsim
      ·
       refine gh (OrcOK.none _) (k' := loopAt Tryd.f28 0) (s' := mk 0 28 [(2, .ref 0 0), (7, .d (.list 5 ps.length (ptEl ps))), (8, vI n), (9, vI (IntKind.i64.wrap (i + 1)))] [(0, .obj 51 [vI c.cl, vI c.n, vI c.o.fst, vS c.o.snd.fst, vS c.o.snd.snd.fst, vS c.o.snd.snd.snd, vI c.fr, vI c.to, vI c.a.fst, vS c.a.snd])]) (cs := [_, ((0 : Int) ≤ i ∧ i < (↑ps.length : Int)), _, _]) [true, true, false] [2,7,8,9] ⟨hb1, by omega, hb2, hb3, trivial⟩ hsim fun E a w hsim => ?_
       rw [if_neg (by { clear hsim ih hr; simp_all })]
       exact ih E a w hsim
     ·
      refine gh (OrcOK.none _) (k' := loopAt Tryd.f28 0) (s' := mk 0 28 [(2, .ref 0 0), (7, .d (.list 5 ps.length (ptEl ps))), (8, vI n), (9, vI (IntKind.i64.wrap (i + 1)))] [(0, .obj 51 [vI c.cl, vI c.n, vI c.o.fst, vS c.o.snd.fst, vS c.o.snd.snd.fst, vS c.o.snd.snd.snd, vI c.fr, vI c.to, vI c.a.fst, vS c.a.snd])]) (cs := [_, ((0 : Int) ≤ i ∧ i < (↑ps.length : Int)), _]) [true, false] [2,7,8,9] ⟨hb1, by omega, hb2, trivial⟩ hsim fun E a w hsim => ?_
      rw [if_neg (by { clear hsim ih hr; simp_all })]
      exact ih E a w hsim
    ·
     exact gr (OrcOK.none _) Tryd.func28 (sr' := ⟨0, [vI ((-1 : Int))], []⟩) (cs := [_]) [false] true ⟨hb1, trivial⟩ (by first | exact absurd (of_decide_eq_false hb1) (by omega) | (rw [if_pos (by { clear hsim ih hr; simp_all })]; done) | (rw [if_pos (by { clear hsim ih hr; simp_all })]; rfl)) hsim
theorem at_ok (c : Ca) (ps : List Pt) (hl : ps.length ≤ 1099511627776) : Eng.Spec Tryd.prog (fun _ => none) 28 [.d (caD c), .d (.list 5 ps.length (ptEl ps))] [] (.d (.raw (.int .i64 (atF c.cl c.n ps 0)))) [] := by
  refine spec_fn Tryd.func28 rfl fun {w N E act} hsim => ?_
  refine gh (OrcOK.none _) (k' := loopAt Tryd.f28 0) (s' := mk 0 28 [(2, .ref 0 0), (7, .d (.list 5 ps.length (ptEl ps))), (8, vI (↑ps.length : Int)), (9, vI 0)] [(0, .obj 51 [vI c.cl, vI c.n, vI c.o.fst, vS c.o.snd.fst, vS c.o.snd.snd.fst, vS c.o.snd.snd.snd, vI c.fr, vI c.to, vI c.a.fst, vS c.a.snd])]) (cs := []) [] [2,7,8,9] trivial hsim fun E a w hsim => ?_
  exact at_go c ps hl ps.length (ps.length : Int) 0 rfl (by omega) (by omega) E a w hsim
end Go.Prf

namespace Go.Prf
open Go Go.Eng Go.Proofs Go.RowKit Go.Tab Go.Plc
set_option linter.unusedVariables false
set_option linter.unusedSimpArgs false
set_option maxRecDepth 100000
set_option maxHeartbeats 4000000
theorem mChkP_ok (cs : List Ca) (ps : List Pt) (r : Int × Int × Int) : MoOK Tryd.prog gB 19 (mChkP cs ps r) := fun args H ret H' c h hc => by
  unfold mChkP at h
  split at h
  · cases h; obtain ⟨rfl, rfl, rfl, rfl, rfl, rfl, ⟨hl, rfl⟩, -⟩ := hc; exact check_ok cs ps hl
  · cases h
theorem mReads_ok : MoOK Tryd.prog gB 18 mReads := fun args H ret H' c h hc => by
  unfold mReads at h
  split at h
  · cases h; exact reads_ok
  · cases h
theorem mAtF_ok (ps : List Pt) : MoOK Tryd.prog gB 28 (mAtF ps) := fun args H ret H' c h hc => by
  unfold mAtF at h
  split at h
  · rename_i c n k key val old fr to er v _ _ _
    cases h; obtain ⟨rfl, rfl, rfl, hl, -⟩ := hc; exact Spec.glAny (at_ok ⟨c, n, (k, key, val, old), fr, to, (er, v)⟩ ps hl)
  · cases h
theorem mReplay_ok (os : List OpT) (an : List An) : MoOK Tryd.prog gB 26 (mReplay os an) := fun args H ret H' c h hc => by
  unfold mReplay at h
  split at h
  · cases h; obtain ⟨rfl, rfl, rfl, ⟨hs, hl, rfl⟩, -⟩ := hc; exact replay_ok os hs hl
  · cases h
theorem C0_ok (cs : List Ca) (ps : List Pt) (r : Int × Int × Int) (os : List OpT) (an : List An) : OrcOK Tryd.prog (C0 cs ps r os an) := ((((OrcOK.none _).add _ false _ (mChkP_ok cs ps r)).add _ false _ mReads_ok).add _ false _ (mAtF_ok ps)).add _ true _ (mReplay_ok os an)
def opsF (p : Pt) : List Ca → List OpT
  | [] => []
  | c :: r => if (c.cl == p.cl && c.n == p.n) = true then c.o :: opsF p r else opsF p r
def allF (cs : List Ca) : List Pt → List OpT
  | [] => []
  | p :: r => opsF p cs ++ allF cs r
structure OrdOK (cs : List Ca) (ps : List Pt) : Prop where
  some : ∀ a ∈ cs, a.to ≠ -1 → 0 ≤ atF a.cl a.n ps 0
  ahead : ∀ a ∈ cs, ∀ b ∈ cs, a.to ≠ -1 → a.to < b.fr → 0 ≤ atF b.cl b.n ps 0 → atF b.cl b.n ps 0 ≤ atF a.cl a.n ps 0 → False
  small : Small (allF cs ps)
  told : repF T0 (allF cs ps) = ps.map Pt.a
theorem getD_mem {α : Type} {l : List α} {d : α} {k : Nat} (h : k < l.length) : l.getD k d ∈ l := by
  rw [List.getD_eq_getElem?_getD, List.getElem?_eq_getElem h]; exact List.getElem_mem h
abbrev GoY (w0 : World) (N : Nat → Prop) (E0 : Env) (k : List Item) (s : St) : Prop := ∀ (E : Env) (a : Act) (w : World), Sim (cx Tryd.prog gB w0 N E0 []) E s a w → Goes Tryd.prog 7 k (RSpec (cx Tryd.prog gB w0 N E0 []) ⟨0, [.d (.raw (.bool true))], []⟩) a w
variable {w0 : World} {N : Nat → Prop} {E0 : Env}
end Go.Prf

namespace Go.Prf
open Go Go.Eng Go.Proofs Go.RowKit Go.Tab Go.Plc
set_option linter.unusedVariables false
set_option linter.unusedSimpArgs false
theorem key_int (a b : Int) : keyEq (.raw (.int .i64 a)) (.raw (.int .i64 b)) = (a == b) := rfl
theorem key_nm (a b c d : Int) : keyEq (nmD a b) (nmD c d) = (a == c && b == d) := rfl
theorem str_eq {a b : ByteArray} (h : (a == b) = true) : a = b := by
  obtain ⟨x⟩ := a
  obtain ⟨y⟩ := b
  exact congrArg ByteArray.mk (eq_of_beq (h : (x == y) = true))
theorem eqcs_an {a b : An} (h : eqcs [.int .i64 a.1, .string a.2] [.int .i64 b.1, .string b.2] = true) : a = b := by
  simp only [eqcs, eqc, Bool.and_eq_true] at h
  exact Prod.ext (eq_of_beq h.1) (str_eq h.2)
def InvL (L : List Ca) : Prop := ∀ b ∈ L, b.n ≤ (getC L (.raw (.int .i64 b.cl))).n
theorem hasC_of {L : List Ca} {b : Ca} (hb : b ∈ L) {cl : Int} (h : b.cl = cl) : hasC L (.raw (.int .i64 cl)) = true := by
  unfold hasC
  rw [List.any_eq_true]
  exact ⟨b, hb, by rw [key_int, h]; exact beq_self_eq_true _⟩
theorem getC_cons (c : Ca) (L : List Ca) (cl : Int) : getC (c :: L) (.raw (.int .i64 cl)) = if cl = c.cl then c else getC L (.raw (.int .i64 cl)) := by
  unfold getC
  rw [List.find?_cons, key_int]
  by_cases h : cl = c.cl
  · rw [if_pos h, h, beq_self_eq_true]; rfl
  · rw [if_neg h, beq_eq_false_iff_ne.2 h]
theorem badL_lt {L : List Ca} {c : Ca} (hI : InvL L) (h : badL L c = false) {b : Ca} (hb : b ∈ L) (he : b.cl = c.cl) : b.n < c.n := by
  unfold badL at h
  rw [hasC_of hb he, Bool.true_and] at h
  simp only [Bool.or_eq_false_iff, decide_eq_false_iff_not] at h
  have h1 := hI b hb
  rw [he] at h1
  omega
theorem fm_pw : ∀ (cs L : List Ca) (i : Int), 0 ≤ i → InvL L → fmF L cs i < 0 → (∀ c ∈ cs, ∀ b ∈ L, b.cl = c.cl → b.n < c.n) ∧ cs.Pairwise (fun a b => a.cl = b.cl → a.n < b.n)
  | [], _, _, _, _, _ => ⟨fun c h => (by cases h), List.Pairwise.nil⟩
  | c :: r, L, i, h0, hI, h => by
    rw [fmF] at h
    split at h
    · omega
    · rename_i hb
      have hb2 : badL L c = false := by
        cases hc : badL L c with
        | false => rfl
        | true => rw [hc, Bool.or_true] at hb; exact absurd rfl hb
      have hlt := fun b hb e => badL_lt hI hb2 (b := b) hb e
      have hI2 : InvL (c :: L) := by
        intro b hm
        rw [getC_cons]
        split
        · rename_i e
          rcases List.mem_cons.1 hm with rfl | hm
          · exact Int.le_refl _
          · have := hlt b hm e; omega
        · rename_i e
          rcases List.mem_cons.1 hm with rfl | hm
          · exact absurd rfl e
          · exact hI b hm
      obtain ⟨h1, h2⟩ := fm_pw r (c :: L) (i + 1) (by omega) hI2 h
      refine ⟨fun c' hm b hbm e => ?_, List.Pairwise.cons (fun c' hm e => h1 c' hm c (List.mem_cons_self) e) h2⟩
      rcases List.mem_cons.1 hm with rfl | hm
      · exact hlt b hbm e
      · exact h1 c' hm b (List.mem_cons_of_mem _ hbm) e
theorem uniq : ∀ {cs : List Ca}, cs.Pairwise (fun a b => a.cl = b.cl → a.n < b.n) → ∀ {a b : Ca}, a ∈ cs → b ∈ cs → a.cl = b.cl → a.n = b.n → a = b
  | [], _, a, b, ha, _, _, _ => by cases ha
  | c :: r, h, a, b, ha, hb, e1, e2 => by
    obtain ⟨h1, h2⟩ := List.pairwise_cons.1 h
    rcases List.mem_cons.1 ha with ea | ha2 <;> rcases List.mem_cons.1 hb with eb | hb2
    · rw [ea, eb]
    · subst ea; have := h1 b hb2 e1; omega
    · subst eb; have := h1 a ha2 e1.symm; omega
    · exact uniq h2 ha2 hb2 e1 e2
theorem getN_has {L : List Ca} {d : D} (h : hasN L d = true) : getN L d ∈ L ∧ keyEq d (nmD (getN L d).cl (getN L d).n) = true := by
  unfold getN
  cases hf : L.find? (fun c => keyEq d (nmD c.cl c.n)) with
  | none =>
    unfold hasN at h
    rw [List.any_eq_true] at h
    obtain ⟨c, hc, hk⟩ := h
    exact absurd hk (List.find?_eq_none.1 hf c hc)
  | some c => exact ⟨List.mem_of_find?_eq_some hf, List.find?_some (p := fun (c : Ca) => keyEq d (nmD c.cl c.n)) hf⟩
theorem getN_name {L : List Ca} {cl n : Int} (h : hasN L (nmD cl n) = true) : getN L (nmD cl n) ∈ L ∧ (getN L (nmD cl n)).cl = cl ∧ (getN L (nmD cl n)).n = n := by
  obtain ⟨h1, h2⟩ := getN_has h
  rw [key_nm, Bool.and_eq_true] at h2
  exact ⟨h1, (eq_of_beq h2.1).symm, (eq_of_beq h2.2).symm⟩
theorem or_pw (L : List Ca) : ∀ (ps S : List Pt) (now i : Int), 0 ≤ i → orF L S now ps i < 0 →
    (∀ p ∈ ps, now ≤ p.at' ∧ hasN L (nmD p.cl p.n) = true ∧ (getN L (nmD p.cl p.n)).fr ≤ p.at' ∧ ((getN L (nmD p.cl p.n)).to ≠ -1 → p.at' ≤ (getN L (nmD p.cl p.n)).to)) ∧ ps.Pairwise (fun p q => p.at' ≤ q.at')
  | [], _, _, _, _, _ => ⟨fun p h => (by cases h), List.Pairwise.nil⟩
  | p :: r, S, now, i, h0, h => by
    rw [orF] at h
    split at h
    · omega
    · rename_i hb
      have hb : ordB L S now p = false := by
        cases hc : ordB L S now p with
        | false => rfl
        | true => exact absurd hc hb
      unfold ordB at hb
      simp only [Bool.or_eq_false_iff, decide_eq_false_iff_not, Bool.not_eq_false', Bool.and_eq_false_iff] at hb
      obtain ⟨⟨⟨⟨b1, b2⟩, b3⟩, b4⟩, b5⟩ := hb
      obtain ⟨h1, h2⟩ := or_pw L r (p :: S) p.at' (i + 1) (by omega) h
      refine ⟨fun q hm => ?_, List.Pairwise.cons (fun q hm => (h1 q hm).1) h2⟩
      rcases List.mem_cons.1 hm with rfl | hm
      · refine ⟨by omega, b2, by omega, fun hne => ?_⟩
        rcases b5 with b5 | b5
        · rw [bne_eq_false_iff_eq] at b5; exact absurd b5 hne
        · omega
      · obtain ⟨g1, g2⟩ := h1 q hm
        exact ⟨by omega, g2⟩
end Go.Prf
