/-
  Contracts of given functions, or plain laws that they need. No condition.
-/
import Derived.Test.YtbppcjkpkelbfaaDoorPrfJ
import Derived.Test.YtbppcjkpkelbfaaDoorRmT
import Derived.Test.YtbppcjkpkelbfaaDoorRowK
import Derived.Test.YtbppcjkpkelbfaaDoorRowS
namespace Go.Prf
open Go Go.Eng Go.Tab Go.Plc
set_option linter.unusedVariables false
def caAV (c : Ca) : List AV := [.d (.raw (.int .i64 c.cl)), .d (.raw (.int .i64 c.n)), .d (.raw (.int .i64 c.o.1)), .d (.raw (.string c.o.2.1)), .d (.raw (.string c.o.2.2.1)), .d (.raw (.string c.o.2.2.2)), .d (.raw (.int .i64 c.fr)), .d (.raw (.int .i64 c.to)), .d (.raw (.int .i64 c.a.1)), .d (.raw (.string c.a.2))]
def at1 (c : Ca) (ps : List Pt) (n i : Int) : St := mk 0 28 [(2, .ref 0 0), (7, .d (.list 5 ps.length (ptEl ps))), (8, .d (.raw (.int .i64 n))), (9, .d (.raw (.int .i64 i)))] [(0, .obj 51 (caAV c))]
end Go.Prf

namespace Go.Prf
open Go Go.Eng Go.Proofs Go.RowKit Go.Tab Go.Plc
set_option linter.unusedVariables false
set_option linter.unusedSimpArgs false
set_option maxRecDepth 100000
set_option maxHeartbeats 4000000
abbrev GoA (w0 : World) (N : Nat → Prop) (E0 : Env) (s : St) (r : Int) : Prop := ∀ (E : Env) (a : Act) (w : World), Sim (cx Tryd.prog gz0 w0 N E0 []) E s a w → Goes Tryd.prog 28 (loopAt Tryd.f28 0) (RSpec (cx Tryd.prog gz0 w0 N E0 []) ⟨0, [.d (.raw (.int .i64 r))], []⟩) a w
theorem at_go {w0 : World} {N : Nat → Prop} {E0 : Env} (c : Ca) (ps : List Pt) (hl : ps.length ≤ 1099511627776) : ∀ (d : Nat) (n i : Int), n = (ps.length : Int) → 0 ≤ i → i + d = n → GoA w0 N E0 (at1 c ps n i) (atF c.cl c.n (ps.drop i.toNat) i) := by
  intro d
  induction d with
  | zero =>
    intro n i en h0 hd E a w hsim
    have hr : atF c.cl c.n (ps.drop i.toNat) i = -1 := by rw [List.drop_eq_nil_of_le (by omega)]; rfl
    rw [hr]
    rcases bd (decide (i < n)) with hb1 | hb1
    ·
     rcases bd ((ps.getD i.toNat noPt).cl == c.cl) with hb2 | hb2
     ·
      rcases bd ((ps.getD i.toNat noPt).n == c.n) with hb3 | hb3
      ·
       exact gr (OrcOK.none _) Tryd.func28 (sr' := ⟨0, [vI i], []⟩) (cs := [_, ((0 : Int) ≤ i ∧ i < (↑ps.length : Int)), _, _]) [true, true, true] true ⟨hb1, (by exact absurd (of_decide_eq_true hb1) (by omega)), hb2, hb3, trivial⟩ (by first | exact absurd (of_decide_eq_true hb1) (by omega) | rfl) hsim
      ·
       exact absurd (of_decide_eq_true hb1) (by omega)
     ·
      exact absurd (of_decide_eq_true hb1) (by omega)
    ·
     exact gr (OrcOK.none _) Tryd.func28 (sr' := ⟨0, [vI ((-1 : Int))], []⟩) (cs := [_]) [false] true ⟨hb1, trivial⟩ (by first | exact absurd (of_decide_eq_true hb1) (by omega) | rfl) hsim
  | succ d ih =>
    intro n i en h0 hd E a w hsim
    have hi : i.toNat < ps.length := by omega
    have ew : IntKind.i64.wrap (i + 1) = i + 1 := wrapP (by omega)
    have hr : atF c.cl c.n (ps.drop i.toNat) i = if ((ps.getD i.toNat noPt).cl == c.cl && (ps.getD i.toNat noPt).n == c.n) = true then i else atF c.cl c.n (ps.drop (IntKind.i64.wrap (i + 1)).toNat) (IntKind.i64.wrap (i + 1)) := by
      rw [getD_drop (d := noPt) hi, ew, show (i + 1).toNat = i.toNat + 1 by omega]; rfl
    have ih := ih n (IntKind.i64.wrap (i + 1)) en (by rw [ew]; omega) (by rw [ew]; omega)
    rw [hr]
    rcases bd (decide (i < n)) with hb1 | hb1
    ·
     rcases bd ((ps.getD i.toNat noPt).cl == c.cl) with hb2 | hb2
     ·
      rcases bd ((ps.getD i.toNat noPt).n == c.n) with hb3 | hb3
      ·
       exact gr (OrcOK.none _) Tryd.func28 (sr' := ⟨0, [vI i], []⟩) (cs := [_, ((0 : Int) ≤ i ∧ i < (↑ps.length : Int)), _, _]) [true, true, true] true ⟨hb1, by omega, hb2, hb3, trivial⟩ (by first | exact absurd (of_decide_eq_false hb1) (by omega) | (rw [if_pos (by { clear hsim ih hr; simp_all })]; done) | (rw [if_pos (by { clear hsim ih hr; simp_all })]; rfl)) hsim
      ·
       refine gh (OrcOK.none _) (k' := loopAt Tryd.f28 0) (s' := mk 0 28 [(2, .ref 0 0), (7, .d (.list 5 ps.length (ptEl ps))), (8, vI n), (9, vI (IntKind.i64.wrap (i + 1)))] [(0, .obj 51 [vI c.cl, vI c.n, vI c.o.fst, vS c.o.snd.fst, vS c.o.snd.snd.fst, vS c.o.snd.snd.snd, vI c.fr, vI c.to, vI c.a.fst, vS c.a.snd])]) (cs := [_, ((0 : Int) ≤ i ∧ i < (↑ps.length : Int)), _, _]) [true, true, false] [2,7,8,9] ⟨hb1, by omega, hb2, hb3, trivial⟩ hsim fun E a w hsim => ?_
       rw [if_neg (by { clear hsim ih hr; simp_all })]
       exact ih E a w hsim
     ·
      refine gh (OrcOK.none _) (k' := loopAt Tryd.f28 0) (s' := mk 0 28 [(2, .ref 0 0), (7, .d (.list 5 ps.length (ptEl ps))), (8, vI n), (9, vI (IntKind.i64.wrap (i + 1)))] [(0, .obj 51 [vI c.cl, vI c.n, vI c.o.fst, vS c.o.snd.fst, vS c.o.snd.snd.fst, vS c.o.snd.snd.snd, vI c.fr, vI c.to, vI c.a.fst, vS c.a.snd])]) (cs := [_, ((0 : Int) ≤ i ∧ i < (↑ps.length : Int)), _]) [true, false] [2,7,8,9] ⟨hb1, by omega, hb2, trivial⟩ hsim fun E a w hsim => ?_
      rw [if_neg (by { clear hsim ih hr; simp_all })]
      exact ih E a w hsim
    ·
     exact gr (OrcOK.none _) Tryd.func28 (sr' := ⟨0, [vI ((-1 : Int))], []⟩) (cs := [_]) [false] true ⟨hb1, trivial⟩ (by first | exact absurd (of_decide_eq_false hb1) (by omega) | (rw [if_pos (by { clear hsim ih hr; simp_all })]; done) | (rw [if_pos (by { clear hsim ih hr; simp_all })]; rfl)) hsim
theorem at_ok (c : Ca) (ps : List Pt) (hl : ps.length ≤ 1099511627776) : Eng.Spec Tryd.prog (fun _ => none) 28 [.d (caD c), .d (.list 5 ps.length (ptEl ps))] [] (.d (.raw (.int .i64 (atF c.cl c.n ps 0)))) [] := by
  refine spec_fn Tryd.func28 rfl fun {w N E act} hsim => ?_
  refine gh (OrcOK.none _) (k' := loopAt Tryd.f28 0) (s' := mk 0 28 [(2, .ref 0 0), (7, .d (.list 5 ps.length (ptEl ps))), (8, vI (↑ps.length : Int)), (9, vI 0)] [(0, .obj 51 [vI c.cl, vI c.n, vI c.o.fst, vS c.o.snd.fst, vS c.o.snd.snd.fst, vS c.o.snd.snd.snd, vI c.fr, vI c.to, vI c.a.fst, vS c.a.snd])]) (cs := []) [] [2,7,8,9] trivial hsim fun E a w hsim => ?_
  exact at_go c ps hl ps.length (ps.length : Int) 0 rfl (by omega) (by omega) E a w hsim
end Go.Prf

namespace Go.Prf
open Go Go.Eng Go.Proofs Go.RowKit Go.Tab Go.Plc
set_option linter.unusedVariables false
set_option linter.unusedSimpArgs false
set_option maxRecDepth 100000
set_option maxHeartbeats 4000000
theorem mChkP_ok (cs : List Ca) (ps : List Pt) (r : Int × Int × Int) : MoOK Tryd.prog gB 19 (mChkP cs ps r) := fun args H ret H' c h hc => by
  unfold mChkP at h
  split at h
  · cases h; obtain ⟨rfl, rfl, rfl, rfl, rfl, rfl, ⟨hl, rfl⟩, -⟩ := hc; exact check_ok cs ps hl
  · cases h
theorem mReads_ok : MoOK Tryd.prog gB 18 mReads := fun args H ret H' c h hc => by
  unfold mReads at h
  split at h
  · cases h; exact reads_ok
  · cases h
theorem mAtF_ok (ps : List Pt) : MoOK Tryd.prog gB 28 (mAtF ps) := fun args H ret H' c h hc => by
  unfold mAtF at h
  split at h
  · rename_i c n k key val old fr to er v _ _ _
    cases h; obtain ⟨rfl, rfl, rfl, hl, -⟩ := hc; exact Spec.glAny (at_ok ⟨c, n, (k, key, val, old), fr, to, (er, v)⟩ ps hl)
  · cases h
theorem mReplay_ok (os : List OpT) (an : List An) : MoOK Tryd.prog gB 26 (mReplay os an) := fun args H ret H' c h hc => by
  unfold mReplay at h
  split at h
  · cases h; obtain ⟨rfl, rfl, rfl, ⟨hs, hl, rfl⟩, -⟩ := hc; exact replay_ok os hs hl
  · cases h
theorem C0_ok (cs : List Ca) (ps : List Pt) (r : Int × Int × Int) (os : List OpT) (an : List An) : OrcOK Tryd.prog (C0 cs ps r os an) := ((((OrcOK.none _).add _ false _ (mChkP_ok cs ps r)).add _ false _ mReads_ok).add _ false _ (mAtF_ok ps)).add _ true _ (mReplay_ok os an)
def opsF (p : Pt) : List Ca → List OpT
  | [] => []
  | c :: r => if (c.cl == p.cl && c.n == p.n) = true then c.o :: opsF p r else opsF p r
def allF (cs : List Ca) : List Pt → List OpT
  | [] => []
  | p :: r => opsF p cs ++ allF cs r
structure OrdOK (cs : List Ca) (ps : List Pt) : Prop where
  some : ∀ a ∈ cs, a.to ≠ -1 → 0 ≤ atF a.cl a.n ps 0
  ahead : ∀ a ∈ cs, ∀ b ∈ cs, a.to ≠ -1 → a.to < b.fr → 0 ≤ atF b.cl b.n ps 0 → atF b.cl b.n ps 0 ≤ atF a.cl a.n ps 0 → False
  small : Small (allF cs ps)
  told : repF T0 (allF cs ps) = ps.map Pt.a
theorem eq_same {a b : An} (h : a = b) : eqcs [.int .i64 a.1, .string a.2] [.int .i64 b.1, .string b.2] = true := by
  subst h
  simp only [eqcs, eqc]
  obtain ⟨n, ⟨d⟩⟩ := a
  rw [beq_self_eq_true n]
  exact (beq_self_eq_true d : (d == d) = true)
theorem getD_mem {α : Type} {l : List α} {d : α} {k : Nat} (h : k < l.length) : l.getD k d ∈ l := by
  rw [List.getD_eq_getElem?_getD, List.getElem?_eq_getElem h]; exact List.getElem_mem h
abbrev GoY (w0 : World) (N : Nat → Prop) (E0 : Env) (k : List Item) (s : St) : Prop := ∀ (E : Env) (a : Act) (w : World), Sim (cx Tryd.prog gB w0 N E0 []) E s a w → Goes Tryd.prog 7 k (RSpec (cx Tryd.prog gB w0 N E0 []) ⟨0, [.d (.raw (.bool true))], []⟩) a w
variable {w0 : World} {N : Nat → Prop} {E0 : Env}
end Go.Prf

namespace Go.Prf
open Go Go.Eng Go.Proofs Go.Tab Go.Plc
set_option linter.unusedVariables false
set_option linter.unusedSimpArgs false
set_option maxRecDepth 100000
set_option maxHeartbeats 4000000
theorem D0_ok (l : List OpT) (an : List An) : OrcOK Tryd.prog (D0 l an) := (((((OrcOK.none _).add _ false (mRepl l an) fun args H r H' cs h hc => by
  unfold mRepl at h
  split at h
  · cases h; obtain ⟨rfl, rfl, rfl, ⟨hs, hl, rfl⟩, -⟩ := hc; exact replay_ok l hs (by omega)
  · cases h).add _ false (mRepl l an) fun args H r H' cs h hc => by
  unfold mRepl at h
  split at h
  · cases h; obtain ⟨rfl, rfl, rfl, ⟨hs, hl, rfl⟩, -⟩ := hc; exact replayR_ok l hs hl
  · cases h).add _ false (mOps l) fun args H r H' cs h hc => by
  unfold mOps at h
  split at h
  · cases h; obtain ⟨rfl, rfl, rfl, hl, -⟩ := hc; exact Spec.glAny (ops_ok l hl)
  · cases h).add _ false mAns fun args H r H' cs h hc => by
  unfold mAns at h
  split at h
  · rename_i e v
    cases h; exact Spec.glAny (ans_ok (e, v))
  · cases h).add _ false mReads mReads_ok
abbrev GoV (w0 : World) (N : Nat → Prop) (E0 : Env) (s : St) : Prop := ∀ (E : Env) (a : Act) (w : World), Sim (cx Tryd.prog gB w0 N E0 []) E s a w → Goes Tryd.prog 6 (loopAt Tryd.f6 0) (RSpec (cx Tryd.prog gB w0 N E0 []) ⟨0, [.d (.raw (.bool true))], []⟩) a w
theorem rv_go {w0 : World} {N : Nat → Prop} {E0 : Env} (l : List OpT) (an : List An) (hl : an.length ≤ 1000000) : ∀ (d : Nat) (n i : Int), n = (an.length : Int) → 0 ≤ i → i + d = n → GoV w0 N E0 (rv1 an n i) := by
  intro d
  induction d with
  | zero =>
    intro n i en h0 hd E a w hsim
    rcases bd (decide (i < n)) with hb1 | hb1
    ·
     rcases bd (!eqcs [Value.int IntKind.i64 (an.getD i.toNat ((0 : Int), ByteArray.empty)).fst, Value.string (an.getD i.toNat ((0 : Int), ByteArray.empty)).snd] [Value.int IntKind.i64 (an.getD i.toNat ((0 : Int), ByteArray.empty)).fst, Value.string (an.getD i.toNat ((0 : Int), ByteArray.empty)).snd]) with hb2 | hb2
     ·
      have q0_ : ((0 : Int) ≤ i ∧ i < (↑an.length : Int)) := (by exact absurd (of_decide_eq_true hb1) (by omega))
      exact gr (D0_ok l an) Tryd.func6 (sr' := ⟨0, [vB false], []⟩) (cs := ((fun (c0 : Prop) => [_, c0, c0, _]) _)) [true, true] true ⟨hb1, q0_, q0_, hb2, trivial⟩ (by first | rfl | exact absurd (of_decide_eq_true hb1) (by omega)) hsim
     ·
      have q0_ : ((0 : Int) ≤ i ∧ i < (↑an.length : Int)) := (by exact absurd (of_decide_eq_true hb1) (by omega))
      exact absurd (of_decide_eq_true hb1) (by omega)
    ·
     exact gr (D0_ok l an) Tryd.func6 (sr' := ⟨0, [vB true], []⟩) (cs := [_]) [false] true ⟨hb1, trivial⟩ (by first | rfl | exact absurd (of_decide_eq_true hb1) (by omega)) hsim
  | succ d ih =>
    intro n i en h0 hd E a w hsim
    have hi : i.toNat < an.length := by omega
    have ew : IntKind.i64.wrap (i + 1) = i + 1 := wrapP (by omega)
    have hq := eq_same (rfl : an.getD i.toNat ((0 : Int), ByteArray.empty) = an.getD i.toNat ((0 : Int), ByteArray.empty))
    have ih := ih n (IntKind.i64.wrap (i + 1)) en (by rw [ew]; omega) (by rw [ew]; omega)
    rcases bd (decide (i < n)) with hb1 | hb1
    ·
     rcases bd (!eqcs [Value.int IntKind.i64 (an.getD i.toNat ((0 : Int), ByteArray.empty)).fst, Value.string (an.getD i.toNat ((0 : Int), ByteArray.empty)).snd] [Value.int IntKind.i64 (an.getD i.toNat ((0 : Int), ByteArray.empty)).fst, Value.string (an.getD i.toNat ((0 : Int), ByteArray.empty)).snd]) with hb2 | hb2
     ·
      have q0_ : ((0 : Int) ≤ i ∧ i < (↑an.length : Int)) := (by first | omega | rfl)
      exact gr (D0_ok l an) Tryd.func6 (sr' := ⟨0, [vB false], []⟩) (cs := ((fun (c0 : Prop) => [_, c0, c0, _]) _)) [true, true] true ⟨hb1, q0_, q0_, hb2, trivial⟩ (by first | exact absurd (of_decide_eq_false hb1) (by omega) | (exfalso; clear hsim ih; simp_all; done)) hsim
     ·
      have q0_ : ((0 : Int) ≤ i ∧ i < (↑an.length : Int)) := (by first | omega | rfl)
      refine gh (D0_ok l an) (k' := loopAt Tryd.f6 0) (s' := mk 0 37 [(3, .d (.list 2 an.length (anEl an))), (4, .d (.list 2 an.length (anEl an))), (20, .d (.list 2 an.length (anEl an))), (21, vI n), (22, vI (IntKind.i64.wrap (i + 1)))] []) (cs := ((fun (c0 : Prop) => [_, c0, c0, _]) _)) [true, false] [3,4,20,21,22] ⟨hb1, q0_, q0_, hb2, trivial⟩ hsim fun E a w hsim => ?_
      exact ih E a w hsim
    ·
     exact gr (D0_ok l an) Tryd.func6 (sr' := ⟨0, [vB true], []⟩) (cs := [_]) [false] true ⟨hb1, trivial⟩ (by first | exact absurd (of_decide_eq_false hb1) (by omega) | (exfalso; clear hsim ih; simp_all; done)) hsim
theorem repF_len : ∀ (l : List OpT) (T : T4), (repF T l).length = l.length
  | [], _ => rfl
  | o :: r, T => congrArg (· + 1) (repF_len r (nextT T o))
theorem law_replays_ok (l : List OpT) (hs : Small l) : Eng.Spec Tryd.prog gB 6 [.d (.list 4 l.length (opEl l))] [] (.d (.raw (.bool (true)))) [] := by
  refine spec_fn Tryd.func6 rfl fun {w N E act} hsim => ?_
  obtain ⟨an, ha⟩ : ∃ an, an = repF T0 l := ⟨_, rfl⟩
  have hla : an.length = l.length := by rw [ha, repF_len]
  rcases bd (decide ((↑l.length : Int) > (300 : Int))) with hb1 | hb1
  ·
   exact gr (D0_ok l an) Tryd.func6 (sr' := ⟨0, [vB true], []⟩) (cs := [_]) [true] true ⟨hb1, trivial⟩ (by first | rfl | (exfalso; clear hsim; simp_all; done)) hsim
  ·
   rcases bd ((↑an.length : Int) != (↑an.length : Int)) with hb2 | hb2
   ·
    have q0_ : ((4 : Nat) = (4 : Nat)) := (by first | rfl | exact ⟨hs, by have := of_decide_eq_false hb1; omega, ha⟩ | (have := of_decide_eq_false hb1; omega))
    have q1_ : (l.length = l.length) := (by first | rfl | exact ⟨hs, by have := of_decide_eq_false hb1; omega, ha⟩ | (have := of_decide_eq_false hb1; omega))
    have q2_ : (opEl l = opEl l) := (by first | rfl | exact ⟨hs, by have := of_decide_eq_false hb1; omega, ha⟩ | (have := of_decide_eq_false hb1; omega))
    have q3_ : (Small l ∧ l.length ≤ (1000000 : Nat) ∧ an = repF T0 l) := (by first | rfl | exact ⟨hs, by have := of_decide_eq_false hb1; omega, ha⟩ | (have := of_decide_eq_false hb1; omega))
    exact gr (D0_ok l an) Tryd.func6 (sr' := ⟨0, [vB false], []⟩) (cs := ((fun (c0 c1 c2 c3 : Prop) => [_, c0, c1, c2, c3, c0, c1, c2, (l.length ≤ 1000000), c0, c1, c2, c3, _]) _ _ _ _)) [false, true] true ⟨hb1, q0_, q1_, q2_, q3_, q0_, q1_, q2_, (by first | rfl | exact ⟨hs, by have := of_decide_eq_false hb1; omega, ha⟩ | (have := of_decide_eq_false hb1; omega)), q0_, q1_, q2_, q3_, hb2, trivial⟩ (by first | rfl | (exfalso; clear hsim; simp_all; done)) hsim
   ·
    have q0_ : ((4 : Nat) = (4 : Nat)) := (by first | rfl | exact ⟨hs, by have := of_decide_eq_false hb1; omega, ha⟩ | (have := of_decide_eq_false hb1; omega))
    have q1_ : (l.length = l.length) := (by first | rfl | exact ⟨hs, by have := of_decide_eq_false hb1; omega, ha⟩ | (have := of_decide_eq_false hb1; omega))
    have q2_ : (opEl l = opEl l) := (by first | rfl | exact ⟨hs, by have := of_decide_eq_false hb1; omega, ha⟩ | (have := of_decide_eq_false hb1; omega))
    have q3_ : (Small l ∧ l.length ≤ (1000000 : Nat) ∧ an = repF T0 l) := (by first | rfl | exact ⟨hs, by have := of_decide_eq_false hb1; omega, ha⟩ | (have := of_decide_eq_false hb1; omega))
    refine gh (D0_ok l an) (k' := loopAt Tryd.f6 0) (s' := mk 0 37 [(3, .d (.list 2 an.length (anEl an))), (4, .d (.list 2 an.length (anEl an))), (20, .d (.list 2 an.length (anEl an))), (21, vI (↑an.length : Int)), (22, vI 0)] []) (cs := ((fun (c0 c1 c2 c3 : Prop) => [_, c0, c1, c2, c3, c0, c1, c2, (l.length ≤ 1000000), c0, c1, c2, c3, _]) _ _ _ _)) [false, false] [3,4,20,21,22] ⟨hb1, q0_, q1_, q2_, q3_, q0_, q1_, q2_, (by first | rfl | exact ⟨hs, by have := of_decide_eq_false hb1; omega, ha⟩ | (have := of_decide_eq_false hb1; omega)), q0_, q1_, q2_, q3_, hb2, trivial⟩ hsim fun E a w hsim => ?_
    exact rv_go l an (by have := of_decide_eq_false hb1; omega) an.length (an.length : Int) 0 rfl (by omega) (by omega) E a w hsim
end Go.Prf

namespace Go.Prf
open Go Go.Eng Go.Proofs Go.RowKit Go.Tab Go.Plc
set_option linter.unusedVariables false
set_option linter.unusedSimpArgs false
theorem uniq : ∀ {cs : List Ca}, cs.Pairwise (fun a b => a.cl = b.cl → a.n < b.n) → ∀ {a b : Ca}, a ∈ cs → b ∈ cs → a.cl = b.cl → a.n = b.n → a = b
  | [], _, a, b, ha, _, _, _ => by cases ha
  | c :: r, h, a, b, ha, hb, e1, e2 => by
    obtain ⟨h1, h2⟩ := List.pairwise_cons.1 h
    rcases List.mem_cons.1 ha with ea | ha2 <;> rcases List.mem_cons.1 hb with eb | hb2
    · rw [ea, eb]
    · subst ea; have := h1 b hb2 e1; omega
    · subst eb; have := h1 a ha2 e1.symm; omega
    · exact uniq h2 ha2 hb2 e1 e2
end Go.Prf

namespace Go.Prf
open Go Go.Eng Go.Proofs Go.RowKit Go.Tab Go.Plc
set_option linter.unusedVariables false
set_option maxRecDepth 100000
set_option maxHeartbeats 4000000
abbrev tyOp : Ty := .agg [.int .i64, .str, .str, .str]
abbrev tyAn : Ty := .agg [.int .i64, .str]
abbrev tyCa : Ty := .agg [.int .i64, .int .i64, tyOp, .int .i64, .int .i64, tyAn]
abbrev tyPt : Ty := .agg [.int .i64, .int .i64, .int .i64, tyAn]
theorem getD_map {α β : Type} (f : α → β) (l : List α) (a : α) (i : Nat) : f (l.getD i a) = (l.map f).getD i (f a) := by
  simp only [List.getD, List.getElem?_map]
  cases l[i]? <;> rfl
end Go.Prf

namespace Go.Prf
open Go Go.Eng Go.Proofs Go.RowKit Go.Tab Go.Plc
set_option linter.unusedVariables false
set_option maxRecDepth 100000
set_option maxHeartbeats 4000000
def toOp (x : tyOp.Val) : OpT := (x.1, x.2.1, x.2.2.1, x.2.2.2.1)
theorem opD_to (x : tyOp.Val) : tyOp.toD x = opD (toOp x) := rfl
theorem opsTo (l : List tyOp.Val) : (Ty.list tyOp).toD l = .list 4 (l.map toOp).length (opEl (l.map toOp)) := by
  have e : (fun i => tyOp.toD (List.getD (α := tyOp.Val) l i tyOp.dflt)) = opEl (l.map toOp) := by
    funext i
    exact (opD_to _).trans (congrArg opD (getD_map toOp l tyOp.dflt i))
  rw [← e, List.length_map]
  rfl
theorem small_strs (l : List tyOp.Val) (hk : (Ty.list tyOp).strs l) : Small (l.map toOp) := fun o ho => by
  obtain ⟨x, hx, rfl⟩ := List.mem_map.1 ho
  have h := hk x hx
  exact h.2.1
theorem law_replays_row (l : List tyOp.Val) (hk : (Ty.list tyOp).strs l) : Eng.Spec Tryd.prog Go.Bla.gl 6 [.d ((Ty.list tyOp).toD l)] [] (.d (.raw (.bool true))) [] := by
  rw [opsTo]
  exact law_replays_ok _ (small_strs l hk)
end Go.Prf
