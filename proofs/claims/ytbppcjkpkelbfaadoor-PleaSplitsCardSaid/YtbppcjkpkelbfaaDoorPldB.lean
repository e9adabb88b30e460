/-
  Contracts of given functions, or plain laws that they need. No condition.
-/
import Derived.Test.YtbppcjkpkelbfaaDoorPldA
namespace Go.Prf
open Go Go.Eng Go.Proofs Go.Tab Go.Plc
set_option linter.unusedVariables false
set_option linter.unusedSimpArgs false
set_option maxRecDepth 100000
set_option maxHeartbeats 4000000
theorem one_eqP {el el' : Nat → D} (h0 : el 0 = el' 0) (i : Nat) (hi : i < 1) : el' i = el i := by
  rcases i with _ | i
  · exact h0.symm
  · omega
theorem va_dat {x x' : D} (h : SaysD x x') {E : Env} {w : World} {N : Nat → Prop} {v : Value} (hv : VA E w N (.d x) v) : VA E w N (.d x') v := h.out w N v hv
theorem pC_small : SmallK [pC] := fun c hc => by rw [List.mem_singleton.1 hc]; decide
theorem O4_ok (l : List PartT) (c : Int) : OrcOK Tryd.prog (O4 l c) := ((((OrcOK.none _).add _ true (mSplP l) fun args H ret H' q h hc => by
  unfold mSplP at h
  split at h
  · cases h; obtain ⟨⟨rfl, rfl⟩, h0, rfl, -⟩ := hc
    have hs := split_ok [pC] [] (by decide) (by decide) pC_small
    exact hs.args fun h => VAs_imp_cons (x := .d _) (y := .d _) (fun v hv => va_dat (SaysD.list (one_eqP h0)) hv) (fun vs h => VAs_imp_cons (x := .d _) (y := .d _) (fun v hv => va_dat (SaysD.nil 5 (ptEl [])) hv) (fun _ h => h) h) h
  · cases h).add _ true mLgst fun args H ret H' q h hc => by
  unfold mLgst at h
  split at h
  · cases h; obtain ⟨⟨rfl, rfl, rfl⟩, h0, -⟩ := hc
    exact longest_ok.args fun h => VAs_imp_cons (x := .d _) (y := .d _) (fun v hv => va_dat (SaysD.list (one_eqP h0)) hv) (fun _ h => h) h
  · cases h).add _ true mOpen fun args H ret H' q h hc => by
  unfold mOpen at h
  split at h
  · cases h; obtain ⟨⟨rfl, rfl⟩, h0, -⟩ := hc
    exact open_ok.args fun h => VAs_imp_cons (x := .d _) (y := .d _) (fun v hv => va_dat (SaysD.list (one_eqP h0)) hv) (fun _ h => h) h
  · cases h).add _ false (mPlcV c) fun args H ret H' cs h hc => by
  unfold mPlcV at h
  split at h
  · cases h; obtain ⟨⟨rfl, hk⟩, -⟩ := hc; exact placeR_ok _ hk
  · cases h
theorem part_at (cs : List Ca) (ps : List Pt) (m : Pm) {c : Int} (h0 : 0 ≤ c) (h4 : c < 4) : (partsF cs ps m).getD c.toNat ([], []) = (cs.filter (inS c), ps.filter (inP m c)) := by
  unfold partsF
  rw [List.getD, List.getElem?_map, List.getElem?_range (by omega)]
  show (cs.filter (inS ((c.toNat : Nat) : Int)), ps.filter (inP m ((c.toNat : Nat) : Int))) = _
  rw [show ((c.toNat : Nat) : Int) = c by omega]
theorem parts_ok : Eng.Spec Tryd.prog gB 11 [] [] (.d (.raw (.bool (true)))) [] := by
  refine spec_fn Tryd.func11 rfl fun {w N E act} hsim => ?_
  obtain ⟨l, hl⟩ : ∃ l, l = partsF [pC] [] (pmOf [pC]) := ⟨_, rfl⟩
  have hp : plc ⟨#[107]⟩ = 1 := by kernel_rfl
  obtain ⟨c, hc⟩ : ∃ c : Int, 1 = c := ⟨_, rfl⟩
  have hb : 0 ≤ c ∧ c < 4 := by omega
  have hc2 : (1 : Int) = c ∧ (1 : Nat) ≤ 1073741824 := ⟨hc, by decide⟩
  have h1 : (((l.getD c.toNat ([], [])).1.length : Int) == 1) = true := by
    rw [hl, part_at _ _ _ hb.1 hb.2]
    show (((([pC].filter (inS c)).length : Nat) : Int) == 1) = true
    rw [List.filter_cons, if_pos (by unfold inS; rw [show plc pC.o.2.1 = c from hp.trans hc]; exact beq_self_eq_true _)]
    rfl
  rcases bd ((↑(l.getD c.toNat ([], [])).fst.length : Int) == (1 : Int)) with hb1 | hb1
  ·
   have q0_ : ((10 : Nat) = (10 : Nat) ∧ (1 : Nat) = (1 : Nat)) := (by exact ⟨rfl, rfl⟩)
   have q1_ : (D.agg [D.raw (Value.int IntKind.i64 (0 : Int)), D.raw (Value.int IntKind.i64 (1 : Int)), D.raw (Value.int IntKind.i64 (2 : Int)), D.raw (Value.string (ByteArray.mk #[(107 : UInt8)])), D.raw (Value.string (ByteArray.mk #[])), D.raw (Value.string (ByteArray.mk #[])), D.raw (Value.int IntKind.i64 (2 : Int)), D.raw (Value.int IntKind.i64 (-1 : Int)), D.raw (Value.int IntKind.i64 (0 : Int)), D.raw (Value.string (ByteArray.mk #[]))] = D.agg [D.raw (Value.int IntKind.i64 (0 : Int)), D.raw (Value.int IntKind.i64 (1 : Int)), D.raw (Value.int IntKind.i64 (2 : Int)), D.raw (Value.string pC.o.snd.fst), D.raw (Value.string pC.o.snd.snd.fst), D.raw (Value.string pC.o.snd.snd.snd), D.raw (Value.int IntKind.i64 (2 : Int)), D.raw (Value.int IntKind.i64 (-1 : Int)), D.raw (Value.int IntKind.i64 (0 : Int)), D.raw (Value.string pC.a.snd)]) := (by rfl)
   exact gr (O4_ok l c) Tryd.func11 (sr' := ⟨0, [vB true], []⟩) (cs := ((fun (c0 c1 : Prop) => [c0, c1, (l = [partF [pC] [] (pmOf [pC]) 0, partF [pC] [] (pmOf [pC]) 1, partF [pC] [] (pmOf [pC]) 2, partF [pC] [] (pmOf [pC]) 3]), (10 = 10 ∧ 1 = 1 ∧ (9 : Int) = (9 : Int)), c1, c0, c1, ((true) = true), ((true) = true), ((1 : Int) = c ∧ 1 ≤ 1073741824), ((0 : Int) ≤ c ∧ c < (4 : Int)), _, ((true) = true), ((true) = true)]) _ _)) ((List.replicate 5 true)) true ⟨q0_, q1_, (by exact hl), (by exact ⟨rfl, rfl, rfl⟩), q1_, q0_, q1_, rfl, rfl, (by exact hc2), (by exact hb), hb1, rfl, rfl, trivial⟩ (by rfl) hsim
  ·
   have q0_ : ((10 : Nat) = (10 : Nat) ∧ (1 : Nat) = (1 : Nat)) := (by exact ⟨rfl, rfl⟩)
   have q1_ : (D.agg [D.raw (Value.int IntKind.i64 (0 : Int)), D.raw (Value.int IntKind.i64 (1 : Int)), D.raw (Value.int IntKind.i64 (2 : Int)), D.raw (Value.string (ByteArray.mk #[(107 : UInt8)])), D.raw (Value.string (ByteArray.mk #[])), D.raw (Value.string (ByteArray.mk #[])), D.raw (Value.int IntKind.i64 (2 : Int)), D.raw (Value.int IntKind.i64 (-1 : Int)), D.raw (Value.int IntKind.i64 (0 : Int)), D.raw (Value.string (ByteArray.mk #[]))] = D.agg [D.raw (Value.int IntKind.i64 (0 : Int)), D.raw (Value.int IntKind.i64 (1 : Int)), D.raw (Value.int IntKind.i64 (2 : Int)), D.raw (Value.string pC.o.snd.fst), D.raw (Value.string pC.o.snd.snd.fst), D.raw (Value.string pC.o.snd.snd.snd), D.raw (Value.int IntKind.i64 (2 : Int)), D.raw (Value.int IntKind.i64 (-1 : Int)), D.raw (Value.int IntKind.i64 (0 : Int)), D.raw (Value.string pC.a.snd)]) := (by rfl)
   exact absurd (h1.symm.trans hb1) (by decide)
theorem O5_ok (cs : List Ca) (ps : List Pt) (l : List PartT) (r : Bool) : OrcOK Tryd.prog (O5 cs ps l r) := ((((((((OrcOK.none _).add _ false (mSpl cs ps l) fun args H ret H' q h hc => by
  unfold mSpl at h
  split at h
  · cases h; obtain ⟨rfl, rfl, rfl, rfl, rfl, rfl, ⟨hl, hl2, hs, rfl⟩, -⟩ := hc; rw [← parts_eq]; exact split_ok cs ps hl hl2 hs
  · cases h).add _ false (mRSpl cs ps l) fun args H ret H' q h hc => by
  unfold mRSpl at h
  split at h
  · cases h; obtain ⟨rfl, rfl, rfl, rfl, rfl, rfl, ⟨hl, hl2, hs, rfl⟩, -⟩ := hc; exact rsplit_ok cs ps (by omega) (by omega) hs
  · cases h).add _ false (mLarge cs ps r) fun args H ret H' q h hc => by
  unfold mLarge at h
  split at h
  · cases h; obtain ⟨rfl, rfl, rfl, rfl, rfl, rfl, ⟨hW, hl, rfl⟩, -⟩ := hc; exact large_ok cs ps hl hW
  · cases h).add _ false (mIdC2 cs) fun args H ret H' q h hc => by
  unfold mIdC2 at h
  split at h
  · cases h; obtain ⟨rfl, rfl, rfl, hl, -⟩ := hc; exact callsL_ok cs hl
  · cases h).add _ false (mIdP2 ps) fun args H ret H' q h hc => by
  unfold mIdP2 at h
  split at h
  · cases h; obtain ⟨rfl, rfl, rfl, hl, -⟩ := hc; exact pointsL_ok ps hl
  · cases h).add _ false mParts fun args H ret H' q h hc => by
  unfold mParts at h
  split at h
  · cases h; exact parts_ok
  · cases h).add _ false mCall mCall_ok).add _ false mPoint mPoint_ok
theorem eqcsC (c : Ca) : eqcs [.int .i64 c.cl, .int .i64 c.n, .int .i64 c.o.1, .string c.o.2.1, .string c.o.2.2.1, .string c.o.2.2.2, .int .i64 c.fr, .int .i64 c.to, .int .i64 c.a.1, .string c.a.2] [.int .i64 c.cl, .int .i64 c.n, .int .i64 c.o.1, .string c.o.2.1, .string c.o.2.2.1, .string c.o.2.2.2, .int .i64 c.fr, .int .i64 c.to, .int .i64 c.a.1, .string c.a.2] = true := by
  have hs : ∀ b : ByteArray, (b == b) = true := fun b => beq_self_eq_true (a := b.data)
  simp only [eqcs, eqc, beq_self_eq_true, hs, Bool.and_self]
theorem eqcsP (c : Pt) : eqcs [.int .i64 c.at', .int .i64 c.cl, .int .i64 c.n, .int .i64 c.a.1, .string c.a.2] [.int .i64 c.at', .int .i64 c.cl, .int .i64 c.n, .int .i64 c.a.1, .string c.a.2] = true := by
  have hs : ∀ b : ByteArray, (b == b) = true := fun b => beq_self_eq_true (a := b.data)
  simp only [eqcs, eqc, beq_self_eq_true, hs, Bool.and_self]
theorem lg_small {b : Bool} : ∀ (cs : List Ca) (m : Int), 0 ≤ m → lgF m cs b = false → SmallK cs ∧ b = false
  | [], _, _, h => ⟨fun c hc => (by cases hc), h⟩
  | c :: r, m, hm, h => by
    rw [lgF] at h
    split at h
    · cases h
    · obtain ⟨h1, h2⟩ := lg_small r _ (by omega) h
      refine ⟨fun x hx => ?_, h2⟩
      rcases List.mem_cons.1 hx with rfl | hx
      · omega
      · exact h1 x hx
abbrev GoL1 (w0 : World) (N : Nat → Prop) (E0 : Env)  (st : St) (r : Bool) : Prop := ∀ (E : Env) (a : Act) (w : World), Sim (cx Tryd.prog gB w0 N E0 []) E st a w → Goes Tryd.prog 3 (loopAt Tryd.f3 0) (RSpec (cx Tryd.prog gB w0 N E0 []) ⟨0, [.d (.raw (.bool r))], []⟩) a w
abbrev GoL2 (w0 : World) (N : Nat → Prop) (E0 : Env)  (st : St) (r : Bool) : Prop := ∀ (E : Env) (a : Act) (w : World), Sim (cx Tryd.prog gB w0 N E0 []) E st a w → Goes Tryd.prog 3 (loopAt Tryd.f3 1) (RSpec (cx Tryd.prog gB w0 N E0 []) ⟨0, [.d (.raw (.bool r))], []⟩) a w
abbrev GoL3 (w0 : World) (N : Nat → Prop) (E0 : Env)  (st : St) (r : Bool) : Prop := ∀ (E : Env) (a : Act) (w : World), Sim (cx Tryd.prog gB w0 N E0 []) E st a w → Goes Tryd.prog 3 (loopAt Tryd.f3 2) (RSpec (cx Tryd.prog gB w0 N E0 []) ⟨0, [.d (.raw (.bool r))], []⟩) a w
theorem ls3_go {w0 : World} {N : Nat → Prop} {E0 : Env} (l : List PartT) (i : Int) (h0i : 0 ≤ i) (h4 : i < 4) (hlen : (l.getD i.toNat ([], [])).2.length ≤ 1000000) (hn : GoL1 w0 N E0 (ls1 l (IntKind.i64.wrap (i + 1))) true) : ∀ (d : Nat) (m j : Int), m = ((l.getD i.toNat ([], [])).2.length : Int) → 0 ≤ j → j + d = m → GoL3 w0 N E0 (ls3 l i m j) true := by
  intro d
  let cs : List Ca := []
  let ps : List Pt := []
  let r : Bool := true
  induction d with
  | zero =>
    intro m j en h0 hd E a w hsim
    have hq := eqcsP ((l.getD i.toNat ([], [])).2.getD j.toNat noPt)
    rcases bd (decide (j < m)) with hb1 | hb1
    ·
     rcases bd (!eqcs [Value.int IntKind.i64 ((l.getD i.toNat ([], [])).snd.getD j.toNat noPt).at', Value.int IntKind.i64 ((l.getD i.toNat ([], [])).snd.getD j.toNat noPt).cl, Value.int IntKind.i64 ((l.getD i.toNat ([], [])).snd.getD j.toNat noPt).n, Value.int IntKind.i64 ((l.getD i.toNat ([], [])).snd.getD j.toNat noPt).a.fst, Value.string ((l.getD i.toNat ([], [])).snd.getD j.toNat noPt).a.snd] [Value.int IntKind.i64 ((l.getD i.toNat ([], [])).snd.getD j.toNat noPt).at', Value.int IntKind.i64 ((l.getD i.toNat ([], [])).snd.getD j.toNat noPt).cl, Value.int IntKind.i64 ((l.getD i.toNat ([], [])).snd.getD j.toNat noPt).n, Value.int IntKind.i64 ((l.getD i.toNat ([], [])).snd.getD j.toNat noPt).a.fst, Value.string ((l.getD i.toNat ([], [])).snd.getD j.toNat noPt).a.snd]) with hb2 | hb2
     ·
      have q0_ : ((0 : Int) ≤ i ∧ i < (4 : Int)) := (by omega)
      have q1_ : ((0 : Int) ≤ j ∧ j < (↑(l.getD i.toNat ([], [])).snd.length : Int)) := (by exact absurd (of_decide_eq_true hb1) (by omega))
      exact absurd (of_decide_eq_true hb1) (by omega)
     ·
      have q0_ : ((0 : Int) ≤ i ∧ i < (4 : Int)) := (by omega)
      have q1_ : ((0 : Int) ≤ j ∧ j < (↑(l.getD i.toNat ([], [])).snd.length : Int)) := (by exact absurd (of_decide_eq_true hb1) (by omega))
      exact absurd (of_decide_eq_true hb1) (by omega)
    ·
     refine gh (O5_ok cs ps l r) (k' := loopAt Tryd.f3 0) (s' := mk 0 124 [(5, .d (.list 2 4 (paEl l))), (7, .d (.list 2 4 (paEl l))), (8, vI i), (34, vI 4), (35, vI (IntKind.i64.wrap (i + 1))), (99, vI m), (100, vI j)] []) (cs := [_]) [false] [5,7,8,34,35,99,100] ⟨hb1, trivial⟩ hsim fun E a w hsim => ?_
     obtain ⟨E8, h8⟩ := hsim.keep [5, 7, 34, 35]
     exact hn E8 a w ((congrArg (fun s => Sim _ E8 s a w) (by kernel_rfl)).mp h8)
  | succ d ih =>
    intro m j en h0 hd E a w hsim
    have ew : IntKind.i64.wrap (j + 1) = j + 1 := wrapP (by omega)
    have hq := eqcsP ((l.getD i.toNat ([], [])).2.getD j.toNat noPt)
    have ih := ih m (IntKind.i64.wrap (j + 1)) en (by rw [ew]; omega) (by rw [ew]; omega)
    rcases bd (decide (j < m)) with hb1 | hb1
    ·
     rcases bd (!eqcs [Value.int IntKind.i64 ((l.getD i.toNat ([], [])).snd.getD j.toNat noPt).at', Value.int IntKind.i64 ((l.getD i.toNat ([], [])).snd.getD j.toNat noPt).cl, Value.int IntKind.i64 ((l.getD i.toNat ([], [])).snd.getD j.toNat noPt).n, Value.int IntKind.i64 ((l.getD i.toNat ([], [])).snd.getD j.toNat noPt).a.fst, Value.string ((l.getD i.toNat ([], [])).snd.getD j.toNat noPt).a.snd] [Value.int IntKind.i64 ((l.getD i.toNat ([], [])).snd.getD j.toNat noPt).at', Value.int IntKind.i64 ((l.getD i.toNat ([], [])).snd.getD j.toNat noPt).cl, Value.int IntKind.i64 ((l.getD i.toNat ([], [])).snd.getD j.toNat noPt).n, Value.int IntKind.i64 ((l.getD i.toNat ([], [])).snd.getD j.toNat noPt).a.fst, Value.string ((l.getD i.toNat ([], [])).snd.getD j.toNat noPt).a.snd]) with hb2 | hb2
     ·
      have q0_ : ((0 : Int) ≤ i ∧ i < (4 : Int)) := (by omega)
      have q1_ : ((0 : Int) ≤ j ∧ j < (↑(l.getD i.toNat ([], [])).snd.length : Int)) := (by omega)
      exact absurd ((congrArg (fun b => !b) hq).symm.trans hb2) (by decide)
     ·
      have q0_ : ((0 : Int) ≤ i ∧ i < (4 : Int)) := (by omega)
      have q1_ : ((0 : Int) ≤ j ∧ j < (↑(l.getD i.toNat ([], [])).snd.length : Int)) := (by omega)
      refine gh (O5_ok cs ps l r) (k' := loopAt Tryd.f3 2) (s' := mk 0 124 [(5, .d (.list 2 4 (paEl l))), (7, .d (.list 2 4 (paEl l))), (8, vI i), (34, vI 4), (35, vI i), (99, vI m), (100, vI (IntKind.i64.wrap (j + 1)))] []) (cs := ((fun (c0 c1 : Prop) => [_, c0, c1, c0, c1, _]) _ _)) [true, false] [5,7,8,34,35,99,100] ⟨hb1, q0_, q1_, q0_, q1_, hb2, trivial⟩ hsim fun E a w hsim => ?_
      exact ih E a w hsim
    ·
     exact absurd (of_decide_eq_false hb1) (by omega)
theorem ls2_go {w0 : World} {N : Nat → Prop} {E0 : Env} (l : List PartT) (i : Int) (h0i : 0 ≤ i) (h4 : i < 4) (hlen : (l.getD i.toNat ([], [])).1.length ≤ 1000000) (hlen2 : (l.getD i.toNat ([], [])).2.length ≤ 1000000) (hn : GoL1 w0 N E0 (ls1 l (IntKind.i64.wrap (i + 1))) true) : ∀ (d : Nat) (m j : Int), m = ((l.getD i.toNat ([], [])).1.length : Int) → 0 ≤ j → j + d = m → GoL2 w0 N E0 (ls2 l i m j) true := by
  intro d
  let cs : List Ca := []
  let ps : List Pt := []
  let r : Bool := true
  induction d with
  | zero =>
    intro m j en h0 hd E a w hsim
    have hq := eqcsC ((l.getD i.toNat ([], [])).1.getD j.toNat noCa)
    rcases bd (decide (j < m)) with hb1 | hb1
    ·
     rcases bd (!eqcs [Value.int IntKind.i64 ((l.getD i.toNat ([], [])).fst.getD j.toNat noCa).cl, Value.int IntKind.i64 ((l.getD i.toNat ([], [])).fst.getD j.toNat noCa).n, Value.int IntKind.i64 ((l.getD i.toNat ([], [])).fst.getD j.toNat noCa).o.fst, Value.string ((l.getD i.toNat ([], [])).fst.getD j.toNat noCa).o.snd.fst, Value.string ((l.getD i.toNat ([], [])).fst.getD j.toNat noCa).o.snd.snd.fst, Value.string ((l.getD i.toNat ([], [])).fst.getD j.toNat noCa).o.snd.snd.snd, Value.int IntKind.i64 ((l.getD i.toNat ([], [])).fst.getD j.toNat noCa).fr, Value.int IntKind.i64 ((l.getD i.toNat ([], [])).fst.getD j.toNat noCa).to, Value.int IntKind.i64 ((l.getD i.toNat ([], [])).fst.getD j.toNat noCa).a.fst, Value.string ((l.getD i.toNat ([], [])).fst.getD j.toNat noCa).a.snd] [Value.int IntKind.i64 ((l.getD i.toNat ([], [])).fst.getD j.toNat noCa).cl, Value.int IntKind.i64 ((l.getD i.toNat ([], [])).fst.getD j.toNat noCa).n, Value.int IntKind.i64 ((l.getD i.toNat ([], [])).fst.getD j.toNat noCa).o.fst, Value.string ((l.getD i.toNat ([], [])).fst.getD j.toNat noCa).o.snd.fst, Value.string ((l.getD i.toNat ([], [])).fst.getD j.toNat noCa).o.snd.snd.fst, Value.string ((l.getD i.toNat ([], [])).fst.getD j.toNat noCa).o.snd.snd.snd, Value.int IntKind.i64 ((l.getD i.toNat ([], [])).fst.getD j.toNat noCa).fr, Value.int IntKind.i64 ((l.getD i.toNat ([], [])).fst.getD j.toNat noCa).to, Value.int IntKind.i64 ((l.getD i.toNat ([], [])).fst.getD j.toNat noCa).a.fst, Value.string ((l.getD i.toNat ([], [])).fst.getD j.toNat noCa).a.snd]) with hb2 | hb2
     ·
      have q0_ : ((0 : Int) ≤ i ∧ i < (4 : Int)) := (by omega)
      have q1_ : ((0 : Int) ≤ j ∧ j < (↑(l.getD i.toNat ([], [])).fst.length : Int)) := (by exact absurd (of_decide_eq_true hb1) (by omega))
      exact absurd (of_decide_eq_true hb1) (by omega)
     ·
      have q0_ : ((0 : Int) ≤ i ∧ i < (4 : Int)) := (by omega)
      have q1_ : ((0 : Int) ≤ j ∧ j < (↑(l.getD i.toNat ([], [])).fst.length : Int)) := (by exact absurd (of_decide_eq_true hb1) (by omega))
      exact absurd (of_decide_eq_true hb1) (by omega)
    ·
     refine gh (O5_ok cs ps l r) (k' := loopAt Tryd.f3 2) (s' := mk 0 124 [(5, .d (.list 2 4 (paEl l))), (7, .d (.list 2 4 (paEl l))), (8, vI i), (34, vI 4), (35, vI i), (71, vI m), (72, vI j), (99, vI ((↑(l.getD i.toNat ([], [])).snd.length : Int))), (100, vI 0)] []) (cs := [_, ((0 : Int) ≤ i ∧ i < (4 : Int))]) [false] [5,7,8,34,35,71,72,99,100] ⟨hb1, by omega, trivial⟩ hsim fun E a w hsim => ?_
     obtain ⟨E8, h8⟩ := hsim.keep [5, 7, 8, 34, 35, 99, 100]
     exact ls3_go l i h0i h4 hlen2 hn (l.getD i.toNat ([], [])).2.length ((l.getD i.toNat ([], [])).2.length : Int) 0 rfl (by omega) (by omega) E8 a w ((congrArg (fun s => Sim _ E8 s a w) (by kernel_rfl)).mp h8)
  | succ d ih =>
    intro m j en h0 hd E a w hsim
    have ew : IntKind.i64.wrap (j + 1) = j + 1 := wrapP (by omega)
    have hq := eqcsC ((l.getD i.toNat ([], [])).1.getD j.toNat noCa)
    have ih := ih m (IntKind.i64.wrap (j + 1)) en (by rw [ew]; omega) (by rw [ew]; omega)
    rcases bd (decide (j < m)) with hb1 | hb1
    ·
     rcases bd (!eqcs [Value.int IntKind.i64 ((l.getD i.toNat ([], [])).fst.getD j.toNat noCa).cl, Value.int IntKind.i64 ((l.getD i.toNat ([], [])).fst.getD j.toNat noCa).n, Value.int IntKind.i64 ((l.getD i.toNat ([], [])).fst.getD j.toNat noCa).o.fst, Value.string ((l.getD i.toNat ([], [])).fst.getD j.toNat noCa).o.snd.fst, Value.string ((l.getD i.toNat ([], [])).fst.getD j.toNat noCa).o.snd.snd.fst, Value.string ((l.getD i.toNat ([], [])).fst.getD j.toNat noCa).o.snd.snd.snd, Value.int IntKind.i64 ((l.getD i.toNat ([], [])).fst.getD j.toNat noCa).fr, Value.int IntKind.i64 ((l.getD i.toNat ([], [])).fst.getD j.toNat noCa).to, Value.int IntKind.i64 ((l.getD i.toNat ([], [])).fst.getD j.toNat noCa).a.fst, Value.string ((l.getD i.toNat ([], [])).fst.getD j.toNat noCa).a.snd] [Value.int IntKind.i64 ((l.getD i.toNat ([], [])).fst.getD j.toNat noCa).cl, Value.int IntKind.i64 ((l.getD i.toNat ([], [])).fst.getD j.toNat noCa).n, Value.int IntKind.i64 ((l.getD i.toNat ([], [])).fst.getD j.toNat noCa).o.fst, Value.string ((l.getD i.toNat ([], [])).fst.getD j.toNat noCa).o.snd.fst, Value.string ((l.getD i.toNat ([], [])).fst.getD j.toNat noCa).o.snd.snd.fst, Value.string ((l.getD i.toNat ([], [])).fst.getD j.toNat noCa).o.snd.snd.snd, Value.int IntKind.i64 ((l.getD i.toNat ([], [])).fst.getD j.toNat noCa).fr, Value.int IntKind.i64 ((l.getD i.toNat ([], [])).fst.getD j.toNat noCa).to, Value.int IntKind.i64 ((l.getD i.toNat ([], [])).fst.getD j.toNat noCa).a.fst, Value.string ((l.getD i.toNat ([], [])).fst.getD j.toNat noCa).a.snd]) with hb2 | hb2
     ·
      have q0_ : ((0 : Int) ≤ i ∧ i < (4 : Int)) := (by omega)
      have q1_ : ((0 : Int) ≤ j ∧ j < (↑(l.getD i.toNat ([], [])).fst.length : Int)) := (by omega)
      exact absurd ((congrArg (fun b => !b) hq).symm.trans hb2) (by decide)
     ·
      have q0_ : ((0 : Int) ≤ i ∧ i < (4 : Int)) := (by omega)
      have q1_ : ((0 : Int) ≤ j ∧ j < (↑(l.getD i.toNat ([], [])).fst.length : Int)) := (by omega)
      refine gh (O5_ok cs ps l r) (k' := loopAt Tryd.f3 1) (s' := mk 0 124 [(5, .d (.list 2 4 (paEl l))), (7, .d (.list 2 4 (paEl l))), (8, vI i), (34, vI 4), (35, vI i), (71, vI m), (72, vI (IntKind.i64.wrap (j + 1)))] []) (cs := ((fun (c0 c1 : Prop) => [_, c0, c1, c0, c1, _]) _ _)) [true, false] [5,7,8,34,35,71,72,99,100] ⟨hb1, q0_, q1_, q0_, q1_, hb2, trivial⟩ hsim fun E a w hsim => ?_
      exact ih E a w hsim
    ·
     exact absurd (of_decide_eq_false hb1) (by omega)
theorem ls1_go {w0 : World} {N : Nat → Prop} {E0 : Env} (l : List PartT) (hl : ∀ k : Nat, (l.getD k ([], [])).1.length ≤ 1000000 ∧ (l.getD k ([], [])).2.length ≤ 1000000) : ∀ (d : Nat) (i : Int), 0 ≤ i → i + d = 4 → GoL1 w0 N E0 (ls1 l i) true := by
  intro d
  let cs : List Ca := []
  let ps : List Pt := []
  let r : Bool := true
  induction d with
  | zero =>
    intro i h0 hd E a w hsim
    rcases bd (decide (i < (4 : Int))) with hb1 | hb1
    ·
     rcases bd ((↑(l.getD i.toNat ([], [])).fst.length : Int) != (↑(l.getD i.toNat ([], [])).fst.length : Int)) with hb2 | hb2
     ·
      have q0_ : ((0 : Int) ≤ i ∧ i < (4 : Int)) := (by exact absurd (of_decide_eq_true hb1) (by omega))
      exact absurd (of_decide_eq_true hb1) (by omega)
     ·
      rcases bd ((↑(l.getD i.toNat ([], [])).snd.length : Int) != (↑(l.getD i.toNat ([], [])).snd.length : Int)) with hb3 | hb3
      ·
       have q0_ : ((0 : Int) ≤ i ∧ i < (4 : Int)) := (by exact absurd (of_decide_eq_true hb1) (by omega))
       exact absurd (of_decide_eq_true hb1) (by omega)
      ·
       have q0_ : ((0 : Int) ≤ i ∧ i < (4 : Int)) := (by exact absurd (of_decide_eq_true hb1) (by omega))
       exact absurd (of_decide_eq_true hb1) (by omega)
    ·
     exact gr (O5_ok cs ps l r) Tryd.func3 (sr' := ⟨0, [vB true], []⟩) (cs := [_]) [false] true ⟨hb1, trivial⟩ (by rfl) hsim
  | succ d ih =>
    intro i h0 hd E a w hsim
    have ew : IntKind.i64.wrap (i + 1) = i + 1 := wrapP (by omega)
    have ih := ih (IntKind.i64.wrap (i + 1)) (by rw [ew]; omega) (by rw [ew]; omega)
    have hq : ∀ x : Int, (x != x) = false := fun x => by rw [bne, beq_self_eq_true]; rfl
    rcases bd (decide (i < (4 : Int))) with hb1 | hb1
    ·
     rcases bd ((↑(l.getD i.toNat ([], [])).fst.length : Int) != (↑(l.getD i.toNat ([], [])).fst.length : Int)) with hb2 | hb2
     ·
      have q0_ : ((0 : Int) ≤ i ∧ i < (4 : Int)) := (by omega)
      exact absurd ((hq _).symm.trans hb2) (by decide)
     ·
      rcases bd ((↑(l.getD i.toNat ([], [])).snd.length : Int) != (↑(l.getD i.toNat ([], [])).snd.length : Int)) with hb3 | hb3
      ·
       have q0_ : ((0 : Int) ≤ i ∧ i < (4 : Int)) := (by omega)
       exact absurd ((hq _).symm.trans hb3) (by decide)
      ·
       have q0_ : ((0 : Int) ≤ i ∧ i < (4 : Int)) := (by omega)
       refine gh (O5_ok cs ps l r) (k' := loopAt Tryd.f3 1) (s' := mk 0 124 [(5, .d (.list 2 4 (paEl l))), (7, .d (.list 2 4 (paEl l))), (8, vI i), (34, vI 4), (35, vI i), (71, vI ((↑(l.getD i.toNat ([], [])).fst.length : Int))), (72, vI 0)] []) (cs := ((fun (c0 : Prop) => [_, c0, c0, _, c0, c0, _, c0]) _)) [true, false, false] [5,7,8,34,35,71,72] ⟨hb1, q0_, q0_, hb2, q0_, q0_, hb3, q0_, trivial⟩ hsim fun E a w hsim => ?_
       obtain ⟨E8, h8⟩ := hsim.keep [5, 7, 8, 34, 35, 71, 72]
       exact ls2_go l i h0 (by omega) (hl _).1 (hl _).2 ih (l.getD i.toNat ([], [])).1.length ((l.getD i.toNat ([], [])).1.length : Int) 0 rfl (by omega) (by omega) E8 a w ((congrArg (fun s => Sim _ E8 s a w) (by kernel_rfl)).mp h8)
    ·
     exact gr (O5_ok cs ps l r) Tryd.func3 (sr' := ⟨0, [vB true], []⟩) (cs := [_]) [false] true ⟨hb1, trivial⟩ (by rfl) hsim
theorem rpart_len (cs : List Ca) (ps : List Pt) (hl : cs.length ≤ 1000000) (hl2 : ps.length ≤ 1000000) (k : Nat) : ((rpartsF cs ps).getD k ([], [])).1.length ≤ 1000000 ∧ ((rpartsF cs ps).getD k ([], [])).2.length ≤ 1000000 := by
  unfold rpartsF
  rw [List.getD, List.getElem?_map]
  cases (List.range 4)[k]? with
  | none => exact ⟨Nat.zero_le _, Nat.zero_le _⟩
  | some s => exact ⟨Nat.le_trans (List.length_filter_le _ _) hl, Nat.le_trans (List.length_filter_le _ _) hl2⟩
theorem law_splits_ok (cs : List Ca) (ps : List Pt) (hl : cs.length ≤ 9223372036854775807) (hW : SmallW cs) : Eng.Spec Tryd.prog gB 3 [.d (.list 10 cs.length (caEl cs)), .d (.list 5 ps.length (ptEl ps))] [] (.d (.raw (.bool (true)))) [] := by
  refine spec_fn Tryd.func3 rfl fun {w N E act} hsim => ?_
  obtain ⟨l, hll⟩ : ∃ l, l = rpartsF cs ps := ⟨_, rfl⟩
  obtain ⟨r, hr⟩ : ∃ r, lgM cs ps = r := ⟨_, rfl⟩
  have hs : r = false → cs.length ≤ 80 ∧ ps.length ≤ 80 ∧ SmallK cs := fun h => by
    obtain ⟨h1, h2⟩ := lg_small cs 0 (by omega) (hr.trans h)
    rw [Bool.or_eq_false_iff] at h2
    have := of_decide_eq_false h2.1
    have := of_decide_eq_false h2.2
    exact ⟨by omega, by omega, h1⟩
  have hsp : r = false → cs.length ≤ 2000 ∧ ps.length ≤ 2000 ∧ SmallK cs ∧ l = rpartsF cs ps := fun h => ⟨by have := (hs h).1; omega, by have := (hs h).2.1; omega, (hs h).2.2, hll⟩
  have hc6 : r = false → cs.length ≤ 1000000 := fun h => by have := (hs h).1; omega
  have hp6 : r = false → ps.length ≤ 1000000 := fun h => by have := (hs h).2.1; omega
  rcases bd (r) with hb1 | hb1
  ·
   exact gr (O5_ok cs ps l r) Tryd.func3 (sr' := ⟨0, [vB true], []⟩) (cs := [(10 = 10), (cs.length = cs.length), (caEl cs = caEl cs), (5 = 5), (ps.length = ps.length), (ptEl ps = ptEl ps), (SmallW cs ∧ cs.length ≤ 9223372036854775807 ∧ lgM cs ps = r), _]) [true] true ⟨(by rfl), (by rfl), (by rfl), (by rfl), (by rfl), (by rfl), (by exact ⟨hW, hl, hr⟩), hb1, trivial⟩ (by rfl) hsim
  ·
   have q0_ : ((10 : Nat) = (10 : Nat)) := (by rfl)
   have q1_ : (cs.length = cs.length) := (by rfl)
   have q2_ : (caEl cs = caEl cs) := (by rfl)
   have q3_ : ((5 : Nat) = (5 : Nat)) := (by rfl)
   have q4_ : (ps.length = ps.length) := (by rfl)
   have q5_ : (ptEl ps = ptEl ps) := (by rfl)
   have q6_ : (cs.length ≤ (2000 : Nat) ∧ ps.length ≤ (2000 : Nat) ∧ SmallK cs ∧ l = [rpartF cs ps (0 : Nat), rpartF cs ps (1 : Nat), rpartF cs ps (2 : Nat), rpartF cs ps (3 : Nat)]) := (by exact hsp hb1)
   refine gh (O5_ok cs ps l r) (k' := loopAt Tryd.f3 0) (s' := mk 0 124 [(5, .d (.list 2 4 (paEl l))), (7, .d (.list 2 4 (paEl l))), (34, vI 4), (35, vI 0)] []) (cs := ((fun (c0 c1 c2 c3 c4 c5 c6 : Prop) => [c0, c1, c2, c3, c4, c5, (SmallW cs ∧ cs.length ≤ 9223372036854775807 ∧ lgM cs ps = r), _, c0, c1, c2, c3, c4, c5, c6, c0, c1, c2, (cs.length ≤ 1000000), c3, c4, c5, (ps.length ≤ 1000000), c0, c1, c2, c3, c4, c5, c6, ((false) = false), ((false) = false)]) _ _ _ _ _ _ _)) [false, false, false] [5,7,34,35] ⟨q0_, q1_, q2_, q3_, q4_, q5_, (by exact ⟨hW, hl, hr⟩), hb1, q0_, q1_, q2_, q3_, q4_, q5_, q6_, q0_, q1_, q2_, (by exact hc6 hb1), q3_, q4_, q5_, (by exact hp6 hb1), q0_, q1_, q2_, q3_, q4_, q5_, q6_, rfl, rfl, trivial⟩ hsim fun E a w hsim => ?_
   exact ls1_go l (hll ▸ rpart_len cs ps (hc6 hb1) (hp6 hb1)) 4 0 (by omega) (by omega) E a w hsim
end Go.Prf
