/-
  Contracts of given functions, or plain laws that they need. No condition.
-/
import Derived.Test.YtbppcjkpkelbfaaDoorRkP
import Derived.Test.YtbppcjkpkelbfaaDoorRmT
namespace Go.Prf
open Go Go.Eng Go.Proofs Go.Tab Go.Plc
set_option linter.unusedVariables false
set_option linter.unusedSimpArgs false
set_option maxRecDepth 100000
set_option maxHeartbeats 4000000
theorem N0_ok (l : List OpT) (an : List An) (cs : List Ca) (ps : List Pt) (r : Int × Int × Int) : OrcOK Tryd.prog (N0 l an cs ps r) := (((((OrcOK.none _).add _ true (mChkP cs ps r) fun args H ret H' c h hc => by
  unfold mChkP at h
  split at h
  · cases h; obtain ⟨rfl, rfl, rfl, rfl, rfl, rfl, ⟨hl, rfl⟩, -⟩ := hc; exact check_ok cs ps hl
  · cases h).add _ false (mRepl l an) fun args H r H' cs h hc => by
  unfold mRepl at h
  split at h
  · cases h; obtain ⟨rfl, rfl, rfl, ⟨hs, hl, rfl⟩, -⟩ := hc; exact replayR_ok l hs hl
  · cases h).add _ false (mOps l) fun args H r H' cs h hc => by
  unfold mOps at h
  split at h
  · cases h; obtain ⟨rfl, rfl, rfl, hl, -⟩ := hc; exact Spec.glAny (ops_ok l hl)
  · cases h).add _ false mChk fun args H r H' cs h hc => Spec.glAny (mchk_ok args H r H' cs h hc)).add _ false mReads mReads_ok
abbrev GoN1 (w0 : World) (N : Nat → Prop) (E0 : Env) (s : St) (r : Bool) : Prop := ∀ (E : Env) (a : Act) (w : World), Sim (cx Tryd.prog gB w0 N E0 []) E s a w → Goes Tryd.prog 5 (loopAt Tryd.f5 0) (RSpec (cx Tryd.prog gB w0 N E0 []) ⟨0, [.d (.raw (.bool r))], []⟩) a w
abbrev GoN2 (w0 : World) (N : Nat → Prop) (E0 : Env) (s : St) (r : Bool) : Prop := ∀ (E : Env) (a : Act) (w : World), Sim (cx Tryd.prog gB w0 N E0 []) E s a w → Goes Tryd.prog 5 (loopAt Tryd.f5 1) (RSpec (cx Tryd.prog gB w0 N E0 []) ⟨0, [.d (.raw (.bool r))], []⟩) a w
abbrev GoN3 (w0 : World) (N : Nat → Prop) (E0 : Env) (s : St) (r : Bool) : Prop := ∀ (E : Env) (a : Act) (w : World), Sim (cx Tryd.prog gB w0 N E0 []) E s a w → Goes Tryd.prog 5 (loopAt Tryd.f5 2) (RSpec (cx Tryd.prog gB w0 N E0 []) ⟨0, [.d (.raw (.bool r))], []⟩) a w
theorem qo_rows {C : Cx} {E : Env} {a : Act} {w : World} (l : List OpT) (an : List An) (wr : Int) (ac : List Ca) (ap : List Pt) (n i k : Int) (o : OpT) (e : Int) (v : ByteArray) (x : Ca) (y : Pt) (f g : Nat → D) (hf : ∀ j, j < ac.length + 1 → f j = caEl (ac ++ [x]) j) (hg : ∀ j, j < ap.length + 1 → g j = ptEl (ap ++ [y]) j)
    (h : Sim C E (mk 0 142 [(0, .d (.list 4 l.length (opEl l))), (1, .d (.raw (.int .i64 wr))), (7, .d (.list 2 an.length (anEl an))), (8, .own 0), (9, .own 1), (10, .d (.raw (.int .i64 (i)))), (11, .ref 2 0), (12, .ref 3 0), (13, .d (.raw (.int .i64 (k)))), (35, .d (.list 4 l.length (opEl l))), (36, .d (.raw (.int .i64 (n)))), (37, .d (.raw (.int .i64 (IntKind.i64.wrap (i + 1)))))] [(0, .row 51 10 (ac.length + 1) f), (1, .row 56 5 (ap.length + 1) g), (2, .obj 47 [.d (.raw (.int .i64 o.1)), .d (.raw (.string o.2.1)), .d (.raw (.string o.2.2.1)), .d (.raw (.string o.2.2.2))]), (3, .obj 49 [.d (.raw (.int .i64 (e))), .d (.raw (.string (v)))])]) a w) : ∃ E', Sim C E' (qo2 l an wr (ac ++ [x]) (ap ++ [y]) n (IntKind.i64.wrap (i + 1))) a w := by
  obtain ⟨E1, h1⟩ := h.rowEq (k := 0) (T := 51) (sz := 10) (n := ac.length + 1) (el := f) rfl (caEl (ac ++ [x])) hf
  obtain ⟨E2, h2⟩ := h1.rowEq (k := 1) (T := 56) (sz := 5) (n := ap.length + 1) (el := g) rfl (ptEl (ap ++ [y])) hg
  obtain ⟨E3, h3⟩ := h2.keep [0, 1, 7, 8, 9, 35, 36, 37]
  refine ⟨E3, ?_⟩
  have e : qo2 l an wr (ac ++ [x]) (ap ++ [y]) n (IntKind.i64.wrap (i + 1)) = mk 0 142 [(0, .d (.list 4 l.length (opEl l))), (1, .d (.raw (.int .i64 wr))), (7, .d (.list 2 an.length (anEl an))), (8, .own 0), (9, .own 1), (35, .d (.list 4 l.length (opEl l))), (36, .d (.raw (.int .i64 (n)))), (37, .d (.raw (.int .i64 (IntKind.i64.wrap (i + 1)))))] [(0, .row 51 10 (ac.length + 1) (caEl (ac ++ [x]))), (1, .row 56 5 (ap.length + 1) (ptEl (ap ++ [y])))] := by
    unfold qo2; rw [List.length_append, List.length_append]; rfl
  rw [e]
  exact (congrArg (fun s => Sim _ E3 s a w) (by kernel_rfl)).mp h3
theorem qo3_go {w0 : World} {N : Nat → Prop} {E0 : Env} (l : List OpT) (an : List An) (wr : Int) (cs : List Ca) (ps : List Pt) (r : Int × Int × Int) (ac : List Ca) (ap : List Pt) (n i : Int) (x : An) (hx : an.getD i.toNat noAn = x) (o : OpT) (ho : l.getD i.toNat noOp = o) (v : ByteArray) (hv : x.2 = v) (hx0 : 0 ≤ x.1) (hx1 : x.1 ≤ 999) (h0 : 0 ≤ i) (hi : i.toNat < l.length) (hl : l.length ≤ 100) (hla : an.length = l.length) (hac : ac.length = i.toNat) (hap : ap.length = i.toNat) (hxs : v.size ≤ 1000000)
    (hnext : GoN2 w0 N E0 (qo2 l an wr (ac ++ [mkC l an wr i.toNat]) (ap ++ [mkQ l an wr i.toNat]) n (IntKind.i64.wrap (i + 1))) true) : ∀ (d : Nat) (k e : Int), e = k → 0 ≤ k → k + d = x.1 → GoN3 w0 N E0 (qo3 l an wr ac ap n i o e v k) true := by
  intro d
  have ei : ((i.toNat : Nat) : Int) = i := by omega
  have e1 : IntKind.i64.wrap (i + 1) = i + 1 := wrapP (by omega)
  have e3 : IntKind.i64.wrap (3 * i) = 3 * i := wrapP (by omega)
  have e4 : IntKind.i64.wrap (IntKind.i64.wrap (3 * i) + 2) = 3 * i + 2 := by rw [e3]; exact wrapP (by omega)
  have e5 : IntKind.i64.wrap (IntKind.i64.wrap (3 * i) + 1) = 3 * i + 1 := by rw [e3]; exact wrapP (by omega)
  have hx' : (an.getD i.toNat ((0 : Int), ByteArray.empty)).1 = x.1 := congrArg Prod.fst hx
  induction d with
  | zero =>
    intro k e he hk hd E a w hsim
    have ek : k = x.1 := by omega
    have hnk : ¬ k < (an.getD i.toNat ((0 : Int), ByteArray.empty)).1 := by rw [hx']; omega
    have hE : ∀ u : ByteArray, (i == wr) = true → u = v ++ ByteArray.mk #[33] → (mkC l an wr i.toNat = ⟨i.tmod 8, IntKind.i64.wrap (i + 1), o, IntKind.i64.wrap (3 * i), IntKind.i64.wrap (IntKind.i64.wrap (3 * i) + 2), (e, u)⟩ ∧ mkQ l an wr i.toNat = ⟨IntKind.i64.wrap (IntKind.i64.wrap (3 * i) + 1), i.tmod 8, IntKind.i64.wrap (i + 1), (e, u)⟩) := by
      intro u h hu
      rw [e4, e5, e3, e1, he, ek, hu, ← hv]
      unfold mkC mkQ wrA
      rw [ei, if_pos h, hx, ho]
      exact ⟨rfl, rfl⟩
    have hN : (i == wr) = false → (mkC l an wr i.toNat = ⟨i.tmod 8, IntKind.i64.wrap (i + 1), o, IntKind.i64.wrap (3 * i), IntKind.i64.wrap (IntKind.i64.wrap (3 * i) + 2), (e, v)⟩ ∧ mkQ l an wr i.toNat = ⟨IntKind.i64.wrap (IntKind.i64.wrap (3 * i) + 1), i.tmod 8, IntKind.i64.wrap (i + 1), (e, v)⟩) := by
      intro h
      rw [e4, e5, e3, e1, he, ek, ← hv]
      unfold mkC mkQ wrA
      rw [ei, if_neg (by rw [h]; decide), hx, ho]
      exact ⟨rfl, rfl⟩
    rcases bd (decide (k < (an.getD i.toNat ((0 : Int), ByteArray.empty)).fst)) with hb1 | hb1
    ·
     rcases bd (decide (k < (1000 : Int))) with hb2 | hb2
     ·
      exact absurd (of_decide_eq_true hb1) hnk
     ·
      rcases bd (i == wr) with hb3 | hb3
      ·
       refine gh (N0_ok l an cs ps r) (k' := loopAt Tryd.f5 1) (s' := let za := ByteArray.mk #[]; mk 0 142 [(0, .d (.list 4 l.length (opEl l))), (1, vI wr), (7, .d (.list 2 an.length (anEl an))), (8, .own 0), (9, .own 1), (10, vI i), (11, .ref 2 0), (12, .ref 3 0), (13, vI k), (35, .d (.list 4 l.length (opEl l))), (36, vI n), (37, vI (IntKind.i64.wrap (i + 1)))] [(0, .row 51 10 (ac.length + 1) (fun j => if j < ac.length then caEl ac j else segD true 10 (splice (List.map (fun j => (List.map D.raw (Value.agg #[Value.int IntKind.i64 (0 : Int), Value.int IntKind.i64 (0 : Int), Value.int IntKind.i64 (0 : Int), Value.string za, Value.string za, Value.string za, Value.int IntKind.i64 (0 : Int), Value.int IntKind.i64 (0 : Int), Value.int IntKind.i64 (0 : Int), Value.string za]).cells.toList).getD (j % 10) default) (List.range 10)) 0 (D.agg [rI (i.tmod (8 : Int)), rI (IntKind.i64.wrap (i + 1)), rI o.fst, rS o.snd.fst, rS o.snd.snd.fst, rS o.snd.snd.snd, rI (IntKind.i64.wrap ((3 : Int) * i)), rI (IntKind.i64.wrap (IntKind.i64.wrap ((3 : Int) * i) + 2)), rI e, rS (v ++ ByteArray.mk #[33])]).cells) (j - ac.length))), (1, .row 56 5 (ap.length + 1) (fun j => if j < ap.length then ptEl ap j else segD true 5 (splice (List.map (fun j => (List.map D.raw (Value.agg #[Value.int IntKind.i64 (0 : Int), Value.int IntKind.i64 (0 : Int), Value.int IntKind.i64 (0 : Int), Value.int IntKind.i64 (0 : Int), Value.string za]).cells.toList).getD (j % 5) default) (List.range 5)) 0 (D.agg [rI (IntKind.i64.wrap (IntKind.i64.wrap ((3 : Int) * i) + 1)), rI (i.tmod (8 : Int)), rI (IntKind.i64.wrap (i + 1)), rI e, rS (v ++ ByteArray.mk #[33])]).cells) (j - ap.length))), (2, .obj 47 [vI o.fst, vS o.snd.fst, vS o.snd.snd.fst, vS o.snd.snd.snd]), (3, .obj 49 [vI e, vS (v ++ ByteArray.mk #[33])])]) (cs := [((0 : Int) ≤ i ∧ i < (↑an.length : Int)), _, _, _, (v.size + 1 ≤ 9223372036854775807), (Nz 8), (ac.length + 1 ≤ 9223372036854775807 ∧ (ac.length + 1) * 112 ≤ 140737488355328), (Nz 8), (ap.length + 1 ≤ 9223372036854775807 ∧ (ap.length + 1) * 48 ≤ 140737488355328)]) [true, false, true] [0,1,7,8,9,10,11,12,13,35,36,37] ⟨by omega, hb1, hb2, hb3, by omega, (by decide), by omega, (by decide), by omega, trivial⟩ hsim fun E a w hsim => ?_
       first | exact absurd (of_decide_eq_true hb1) hnk | (have hq := hE _ hb4 rfl; rw [hq.1, hq.2] at hnext; obtain ⟨E2, h2⟩ := qo_rows l an wr ac ap n i k o e ((v ++ ByteArray.mk #[(33 : UInt8)])) ⟨i.tmod 8, IntKind.i64.wrap (i + 1), o, IntKind.i64.wrap (3 * i), IntKind.i64.wrap (IntKind.i64.wrap (3 * i) + 2), (e, (v ++ ByteArray.mk #[(33 : UInt8)]))⟩ ⟨IntKind.i64.wrap (IntKind.i64.wrap (3 * i) + 1), i.tmod 8, IntKind.i64.wrap (i + 1), (e, (v ++ ByteArray.mk #[(33 : UInt8)]))⟩ _ _ (fun j hj => app_Cr ac ⟨i.tmod 8, IntKind.i64.wrap (i + 1), o, IntKind.i64.wrap (3 * i), IntKind.i64.wrap (IntKind.i64.wrap (3 * i) + 2), (e, (v ++ ByteArray.mk #[(33 : UInt8)]))⟩ _ rfl j hj) (fun j hj => app_Pr ap ⟨IntKind.i64.wrap (IntKind.i64.wrap (3 * i) + 1), i.tmod 8, IntKind.i64.wrap (i + 1), (e, (v ++ ByteArray.mk #[(33 : UInt8)]))⟩ _ rfl j hj) hsim; exact hnext E2 a w h2) | (have hq := hN hb4; rw [hq.1, hq.2] at hnext; obtain ⟨E2, h2⟩ := qo_rows l an wr ac ap n i k o e (v) ⟨i.tmod 8, IntKind.i64.wrap (i + 1), o, IntKind.i64.wrap (3 * i), IntKind.i64.wrap (IntKind.i64.wrap (3 * i) + 2), (e, v)⟩ ⟨IntKind.i64.wrap (IntKind.i64.wrap (3 * i) + 1), i.tmod 8, IntKind.i64.wrap (i + 1), (e, v)⟩ _ _ (fun j hj => app_Cr ac ⟨i.tmod 8, IntKind.i64.wrap (i + 1), o, IntKind.i64.wrap (3 * i), IntKind.i64.wrap (IntKind.i64.wrap (3 * i) + 2), (e, v)⟩ _ rfl j hj) (fun j hj => app_Pr ap ⟨IntKind.i64.wrap (IntKind.i64.wrap (3 * i) + 1), i.tmod 8, IntKind.i64.wrap (i + 1), (e, v)⟩ _ rfl j hj) hsim; exact hnext E2 a w h2)
      ·
       refine gh (N0_ok l an cs ps r) (k' := loopAt Tryd.f5 1) (s' := let za := ByteArray.mk #[]; mk 0 142 [(0, .d (.list 4 l.length (opEl l))), (1, vI wr), (7, .d (.list 2 an.length (anEl an))), (8, .own 0), (9, .own 1), (10, vI i), (11, .ref 2 0), (12, .ref 3 0), (13, vI k), (35, .d (.list 4 l.length (opEl l))), (36, vI n), (37, vI (IntKind.i64.wrap (i + 1)))] [(0, .row 51 10 (ac.length + 1) (fun j => if j < ac.length then caEl ac j else segD true 10 (splice (List.map (fun j => (List.map D.raw (Value.agg #[Value.int IntKind.i64 (0 : Int), Value.int IntKind.i64 (0 : Int), Value.int IntKind.i64 (0 : Int), Value.string za, Value.string za, Value.string za, Value.int IntKind.i64 (0 : Int), Value.int IntKind.i64 (0 : Int), Value.int IntKind.i64 (0 : Int), Value.string za]).cells.toList).getD (j % 10) default) (List.range 10)) 0 (D.agg [rI (i.tmod (8 : Int)), rI (IntKind.i64.wrap (i + 1)), rI o.fst, rS o.snd.fst, rS o.snd.snd.fst, rS o.snd.snd.snd, rI (IntKind.i64.wrap ((3 : Int) * i)), rI (IntKind.i64.wrap (IntKind.i64.wrap ((3 : Int) * i) + 2)), rI e, rS v]).cells) (j - ac.length))), (1, .row 56 5 (ap.length + 1) (fun j => if j < ap.length then ptEl ap j else segD true 5 (splice (List.map (fun j => (List.map D.raw (Value.agg #[Value.int IntKind.i64 (0 : Int), Value.int IntKind.i64 (0 : Int), Value.int IntKind.i64 (0 : Int), Value.int IntKind.i64 (0 : Int), Value.string za]).cells.toList).getD (j % 5) default) (List.range 5)) 0 (D.agg [rI (IntKind.i64.wrap (IntKind.i64.wrap ((3 : Int) * i) + 1)), rI (i.tmod (8 : Int)), rI (IntKind.i64.wrap (i + 1)), rI e, rS v]).cells) (j - ap.length))), (2, .obj 47 [vI o.fst, vS o.snd.fst, vS o.snd.snd.fst, vS o.snd.snd.snd]), (3, .obj 49 [vI e, vS v])]) (cs := [((0 : Int) ≤ i ∧ i < (↑an.length : Int)), _, _, _, (Nz 8), (ac.length + 1 ≤ 9223372036854775807 ∧ (ac.length + 1) * 112 ≤ 140737488355328), (Nz 8), (ap.length + 1 ≤ 9223372036854775807 ∧ (ap.length + 1) * 48 ≤ 140737488355328)]) [true, false, false] [0,1,7,8,9,10,11,12,13,35,36,37] ⟨by omega, hb1, hb2, hb3, (by decide), by omega, (by decide), by omega, trivial⟩ hsim fun E a w hsim => ?_
       first | exact absurd (of_decide_eq_true hb1) hnk | (have hq := hE _ hb4 rfl; rw [hq.1, hq.2] at hnext; obtain ⟨E2, h2⟩ := qo_rows l an wr ac ap n i k o e ((v ++ ByteArray.mk #[(33 : UInt8)])) ⟨i.tmod 8, IntKind.i64.wrap (i + 1), o, IntKind.i64.wrap (3 * i), IntKind.i64.wrap (IntKind.i64.wrap (3 * i) + 2), (e, (v ++ ByteArray.mk #[(33 : UInt8)]))⟩ ⟨IntKind.i64.wrap (IntKind.i64.wrap (3 * i) + 1), i.tmod 8, IntKind.i64.wrap (i + 1), (e, (v ++ ByteArray.mk #[(33 : UInt8)]))⟩ _ _ (fun j hj => app_Cr ac ⟨i.tmod 8, IntKind.i64.wrap (i + 1), o, IntKind.i64.wrap (3 * i), IntKind.i64.wrap (IntKind.i64.wrap (3 * i) + 2), (e, (v ++ ByteArray.mk #[(33 : UInt8)]))⟩ _ rfl j hj) (fun j hj => app_Pr ap ⟨IntKind.i64.wrap (IntKind.i64.wrap (3 * i) + 1), i.tmod 8, IntKind.i64.wrap (i + 1), (e, (v ++ ByteArray.mk #[(33 : UInt8)]))⟩ _ rfl j hj) hsim; exact hnext E2 a w h2) | (have hq := hN hb4; rw [hq.1, hq.2] at hnext; obtain ⟨E2, h2⟩ := qo_rows l an wr ac ap n i k o e (v) ⟨i.tmod 8, IntKind.i64.wrap (i + 1), o, IntKind.i64.wrap (3 * i), IntKind.i64.wrap (IntKind.i64.wrap (3 * i) + 2), (e, v)⟩ ⟨IntKind.i64.wrap (IntKind.i64.wrap (3 * i) + 1), i.tmod 8, IntKind.i64.wrap (i + 1), (e, v)⟩ _ _ (fun j hj => app_Cr ac ⟨i.tmod 8, IntKind.i64.wrap (i + 1), o, IntKind.i64.wrap (3 * i), IntKind.i64.wrap (IntKind.i64.wrap (3 * i) + 2), (e, v)⟩ _ rfl j hj) (fun j hj => app_Pr ap ⟨IntKind.i64.wrap (IntKind.i64.wrap (3 * i) + 1), i.tmod 8, IntKind.i64.wrap (i + 1), (e, v)⟩ _ rfl j hj) hsim; exact hnext E2 a w h2)
    ·
     rcases bd (i == wr) with hb4 | hb4
     ·
      refine gh (N0_ok l an cs ps r) (k' := loopAt Tryd.f5 1) (s' := let za := ByteArray.mk #[]; mk 0 142 [(0, .d (.list 4 l.length (opEl l))), (1, vI wr), (7, .d (.list 2 an.length (anEl an))), (8, .own 0), (9, .own 1), (10, vI i), (11, .ref 2 0), (12, .ref 3 0), (13, vI k), (35, .d (.list 4 l.length (opEl l))), (36, vI n), (37, vI (IntKind.i64.wrap (i + 1)))] [(0, .row 51 10 (ac.length + 1) (fun j => if j < ac.length then caEl ac j else segD true 10 (splice (List.map (fun j => (List.map D.raw (Value.agg #[Value.int IntKind.i64 (0 : Int), Value.int IntKind.i64 (0 : Int), Value.int IntKind.i64 (0 : Int), Value.string za, Value.string za, Value.string za, Value.int IntKind.i64 (0 : Int), Value.int IntKind.i64 (0 : Int), Value.int IntKind.i64 (0 : Int), Value.string za]).cells.toList).getD (j % 10) default) (List.range 10)) 0 (D.agg [rI (i.tmod (8 : Int)), rI (IntKind.i64.wrap (i + 1)), rI o.fst, rS o.snd.fst, rS o.snd.snd.fst, rS o.snd.snd.snd, rI (IntKind.i64.wrap ((3 : Int) * i)), rI (IntKind.i64.wrap (IntKind.i64.wrap ((3 : Int) * i) + 2)), rI e, rS (v ++ ByteArray.mk #[33])]).cells) (j - ac.length))), (1, .row 56 5 (ap.length + 1) (fun j => if j < ap.length then ptEl ap j else segD true 5 (splice (List.map (fun j => (List.map D.raw (Value.agg #[Value.int IntKind.i64 (0 : Int), Value.int IntKind.i64 (0 : Int), Value.int IntKind.i64 (0 : Int), Value.int IntKind.i64 (0 : Int), Value.string za]).cells.toList).getD (j % 5) default) (List.range 5)) 0 (D.agg [rI (IntKind.i64.wrap (IntKind.i64.wrap ((3 : Int) * i) + 1)), rI (i.tmod (8 : Int)), rI (IntKind.i64.wrap (i + 1)), rI e, rS (v ++ ByteArray.mk #[33])]).cells) (j - ap.length))), (2, .obj 47 [vI o.fst, vS o.snd.fst, vS o.snd.snd.fst, vS o.snd.snd.snd]), (3, .obj 49 [vI e, vS (v ++ ByteArray.mk #[33])])]) (cs := [((0 : Int) ≤ i ∧ i < (↑an.length : Int)), _, _, (v.size + 1 ≤ 9223372036854775807), (Nz 8), (ac.length + 1 ≤ 9223372036854775807 ∧ (ac.length + 1) * 112 ≤ 140737488355328), (Nz 8), (ap.length + 1 ≤ 9223372036854775807 ∧ (ap.length + 1) * 48 ≤ 140737488355328)]) [false, true] [0,1,7,8,9,10,11,12,13,35,36,37] ⟨by omega, hb1, hb4, by omega, (by decide), by omega, (by decide), by omega, trivial⟩ hsim fun E a w hsim => ?_
      first | exact absurd (of_decide_eq_true hb1) hnk | (have hq := hE _ hb4 rfl; rw [hq.1, hq.2] at hnext; obtain ⟨E2, h2⟩ := qo_rows l an wr ac ap n i k o e ((v ++ ByteArray.mk #[(33 : UInt8)])) ⟨i.tmod 8, IntKind.i64.wrap (i + 1), o, IntKind.i64.wrap (3 * i), IntKind.i64.wrap (IntKind.i64.wrap (3 * i) + 2), (e, (v ++ ByteArray.mk #[(33 : UInt8)]))⟩ ⟨IntKind.i64.wrap (IntKind.i64.wrap (3 * i) + 1), i.tmod 8, IntKind.i64.wrap (i + 1), (e, (v ++ ByteArray.mk #[(33 : UInt8)]))⟩ _ _ (fun j hj => app_Cr ac ⟨i.tmod 8, IntKind.i64.wrap (i + 1), o, IntKind.i64.wrap (3 * i), IntKind.i64.wrap (IntKind.i64.wrap (3 * i) + 2), (e, (v ++ ByteArray.mk #[(33 : UInt8)]))⟩ _ rfl j hj) (fun j hj => app_Pr ap ⟨IntKind.i64.wrap (IntKind.i64.wrap (3 * i) + 1), i.tmod 8, IntKind.i64.wrap (i + 1), (e, (v ++ ByteArray.mk #[(33 : UInt8)]))⟩ _ rfl j hj) hsim; exact hnext E2 a w h2) | (have hq := hN hb4; rw [hq.1, hq.2] at hnext; obtain ⟨E2, h2⟩ := qo_rows l an wr ac ap n i k o e (v) ⟨i.tmod 8, IntKind.i64.wrap (i + 1), o, IntKind.i64.wrap (3 * i), IntKind.i64.wrap (IntKind.i64.wrap (3 * i) + 2), (e, v)⟩ ⟨IntKind.i64.wrap (IntKind.i64.wrap (3 * i) + 1), i.tmod 8, IntKind.i64.wrap (i + 1), (e, v)⟩ _ _ (fun j hj => app_Cr ac ⟨i.tmod 8, IntKind.i64.wrap (i + 1), o, IntKind.i64.wrap (3 * i), IntKind.i64.wrap (IntKind.i64.wrap (3 * i) + 2), (e, v)⟩ _ rfl j hj) (fun j hj => app_Pr ap ⟨IntKind.i64.wrap (IntKind.i64.wrap (3 * i) + 1), i.tmod 8, IntKind.i64.wrap (i + 1), (e, v)⟩ _ rfl j hj) hsim; exact hnext E2 a w h2)
     ·
      refine gh (N0_ok l an cs ps r) (k' := loopAt Tryd.f5 1) (s' := let za := ByteArray.mk #[]; mk 0 142 [(0, .d (.list 4 l.length (opEl l))), (1, vI wr), (7, .d (.list 2 an.length (anEl an))), (8, .own 0), (9, .own 1), (10, vI i), (11, .ref 2 0), (12, .ref 3 0), (13, vI k), (35, .d (.list 4 l.length (opEl l))), (36, vI n), (37, vI (IntKind.i64.wrap (i + 1)))] [(0, .row 51 10 (ac.length + 1) (fun j => if j < ac.length then caEl ac j else segD true 10 (splice (List.map (fun j => (List.map D.raw (Value.agg #[Value.int IntKind.i64 (0 : Int), Value.int IntKind.i64 (0 : Int), Value.int IntKind.i64 (0 : Int), Value.string za, Value.string za, Value.string za, Value.int IntKind.i64 (0 : Int), Value.int IntKind.i64 (0 : Int), Value.int IntKind.i64 (0 : Int), Value.string za]).cells.toList).getD (j % 10) default) (List.range 10)) 0 (D.agg [rI (i.tmod (8 : Int)), rI (IntKind.i64.wrap (i + 1)), rI o.fst, rS o.snd.fst, rS o.snd.snd.fst, rS o.snd.snd.snd, rI (IntKind.i64.wrap ((3 : Int) * i)), rI (IntKind.i64.wrap (IntKind.i64.wrap ((3 : Int) * i) + 2)), rI e, rS v]).cells) (j - ac.length))), (1, .row 56 5 (ap.length + 1) (fun j => if j < ap.length then ptEl ap j else segD true 5 (splice (List.map (fun j => (List.map D.raw (Value.agg #[Value.int IntKind.i64 (0 : Int), Value.int IntKind.i64 (0 : Int), Value.int IntKind.i64 (0 : Int), Value.int IntKind.i64 (0 : Int), Value.string za]).cells.toList).getD (j % 5) default) (List.range 5)) 0 (D.agg [rI (IntKind.i64.wrap (IntKind.i64.wrap ((3 : Int) * i) + 1)), rI (i.tmod (8 : Int)), rI (IntKind.i64.wrap (i + 1)), rI e, rS v]).cells) (j - ap.length))), (2, .obj 47 [vI o.fst, vS o.snd.fst, vS o.snd.snd.fst, vS o.snd.snd.snd]), (3, .obj 49 [vI e, vS v])]) (cs := [((0 : Int) ≤ i ∧ i < (↑an.length : Int)), _, _, (Nz 8), (ac.length + 1 ≤ 9223372036854775807 ∧ (ac.length + 1) * 112 ≤ 140737488355328), (Nz 8), (ap.length + 1 ≤ 9223372036854775807 ∧ (ap.length + 1) * 48 ≤ 140737488355328)]) [false, false] [0,1,7,8,9,10,11,12,13,35,36,37] ⟨by omega, hb1, hb4, (by decide), by omega, (by decide), by omega, trivial⟩ hsim fun E a w hsim => ?_
      first | exact absurd (of_decide_eq_true hb1) hnk | (have hq := hE _ hb4 rfl; rw [hq.1, hq.2] at hnext; obtain ⟨E2, h2⟩ := qo_rows l an wr ac ap n i k o e ((v ++ ByteArray.mk #[(33 : UInt8)])) ⟨i.tmod 8, IntKind.i64.wrap (i + 1), o, IntKind.i64.wrap (3 * i), IntKind.i64.wrap (IntKind.i64.wrap (3 * i) + 2), (e, (v ++ ByteArray.mk #[(33 : UInt8)]))⟩ ⟨IntKind.i64.wrap (IntKind.i64.wrap (3 * i) + 1), i.tmod 8, IntKind.i64.wrap (i + 1), (e, (v ++ ByteArray.mk #[(33 : UInt8)]))⟩ _ _ (fun j hj => app_Cr ac ⟨i.tmod 8, IntKind.i64.wrap (i + 1), o, IntKind.i64.wrap (3 * i), IntKind.i64.wrap (IntKind.i64.wrap (3 * i) + 2), (e, (v ++ ByteArray.mk #[(33 : UInt8)]))⟩ _ rfl j hj) (fun j hj => app_Pr ap ⟨IntKind.i64.wrap (IntKind.i64.wrap (3 * i) + 1), i.tmod 8, IntKind.i64.wrap (i + 1), (e, (v ++ ByteArray.mk #[(33 : UInt8)]))⟩ _ rfl j hj) hsim; exact hnext E2 a w h2) | (have hq := hN hb4; rw [hq.1, hq.2] at hnext; obtain ⟨E2, h2⟩ := qo_rows l an wr ac ap n i k o e (v) ⟨i.tmod 8, IntKind.i64.wrap (i + 1), o, IntKind.i64.wrap (3 * i), IntKind.i64.wrap (IntKind.i64.wrap (3 * i) + 2), (e, v)⟩ ⟨IntKind.i64.wrap (IntKind.i64.wrap (3 * i) + 1), i.tmod 8, IntKind.i64.wrap (i + 1), (e, v)⟩ _ _ (fun j hj => app_Cr ac ⟨i.tmod 8, IntKind.i64.wrap (i + 1), o, IntKind.i64.wrap (3 * i), IntKind.i64.wrap (IntKind.i64.wrap (3 * i) + 2), (e, v)⟩ _ rfl j hj) (fun j hj => app_Pr ap ⟨IntKind.i64.wrap (IntKind.i64.wrap (3 * i) + 1), i.tmod 8, IntKind.i64.wrap (i + 1), (e, v)⟩ _ rfl j hj) hsim; exact hnext E2 a w h2)
  | succ d ih =>
    intro k e he hk hd E a w hsim
    have hyk : ¬ ¬ k < (an.getD i.toNat ((0 : Int), ByteArray.empty)).1 := by rw [hx']; omega
    have hyk2 : ¬ ¬ k < 1000 := by omega
    have ew : IntKind.i64.wrap (k + 1) = k + 1 := wrapP (by omega)
    have ih := ih (IntKind.i64.wrap (k + 1)) (IntKind.i64.wrap (e + 1)) (by rw [he]) (by rw [ew]; omega) (by rw [ew]; omega)
    rcases bd (decide (k < (an.getD i.toNat ((0 : Int), ByteArray.empty)).fst)) with hb1 | hb1
    ·
     rcases bd (decide (k < (1000 : Int))) with hb2 | hb2
     ·
      refine gh (N0_ok l an cs ps r) (k' := loopAt Tryd.f5 2) (s' := mk 0 142 [(0, .d (.list 4 l.length (opEl l))), (1, vI wr), (7, .d (.list 2 an.length (anEl an))), (8, .own 0), (9, .own 1), (10, vI i), (11, .ref 2 0), (12, .ref 3 0), (13, vI (IntKind.i64.wrap (k + 1))), (35, .d (.list 4 l.length (opEl l))), (36, vI n), (37, vI i)] [(0, .row 51 10 ac.length (caEl ac)), (1, .row 56 5 ap.length (ptEl ap)), (2, .obj 47 [vI o.fst, vS o.snd.fst, vS o.snd.snd.fst, vS o.snd.snd.snd]), (3, .obj 49 [vI (IntKind.i64.wrap (e + 1)), vS v])]) (cs := [((0 : Int) ≤ i ∧ i < (↑an.length : Int)), _, _]) [true, true] [0,1,7,8,9,10,11,12,13,35,36,37] ⟨by omega, hb1, hb2, trivial⟩ hsim fun E a w hsim => ?_
      exact ih E a w hsim
     ·
      rcases bd (i == wr) with hb3 | hb3
      ·
       refine gh (N0_ok l an cs ps r) (k' := loopAt Tryd.f5 1) (s' := let za := ByteArray.mk #[]; mk 0 142 [(0, .d (.list 4 l.length (opEl l))), (1, vI wr), (7, .d (.list 2 an.length (anEl an))), (8, .own 0), (9, .own 1), (10, vI i), (11, .ref 2 0), (12, .ref 3 0), (13, vI k), (35, .d (.list 4 l.length (opEl l))), (36, vI n), (37, vI (IntKind.i64.wrap (i + 1)))] [(0, .row 51 10 (ac.length + 1) (fun j => if j < ac.length then caEl ac j else segD true 10 (splice (List.map (fun j => (List.map D.raw (Value.agg #[Value.int IntKind.i64 (0 : Int), Value.int IntKind.i64 (0 : Int), Value.int IntKind.i64 (0 : Int), Value.string za, Value.string za, Value.string za, Value.int IntKind.i64 (0 : Int), Value.int IntKind.i64 (0 : Int), Value.int IntKind.i64 (0 : Int), Value.string za]).cells.toList).getD (j % 10) default) (List.range 10)) 0 (D.agg [rI (i.tmod (8 : Int)), rI (IntKind.i64.wrap (i + 1)), rI o.fst, rS o.snd.fst, rS o.snd.snd.fst, rS o.snd.snd.snd, rI (IntKind.i64.wrap ((3 : Int) * i)), rI (IntKind.i64.wrap (IntKind.i64.wrap ((3 : Int) * i) + 2)), rI e, rS (v ++ ByteArray.mk #[33])]).cells) (j - ac.length))), (1, .row 56 5 (ap.length + 1) (fun j => if j < ap.length then ptEl ap j else segD true 5 (splice (List.map (fun j => (List.map D.raw (Value.agg #[Value.int IntKind.i64 (0 : Int), Value.int IntKind.i64 (0 : Int), Value.int IntKind.i64 (0 : Int), Value.int IntKind.i64 (0 : Int), Value.string za]).cells.toList).getD (j % 5) default) (List.range 5)) 0 (D.agg [rI (IntKind.i64.wrap (IntKind.i64.wrap ((3 : Int) * i) + 1)), rI (i.tmod (8 : Int)), rI (IntKind.i64.wrap (i + 1)), rI e, rS (v ++ ByteArray.mk #[33])]).cells) (j - ap.length))), (2, .obj 47 [vI o.fst, vS o.snd.fst, vS o.snd.snd.fst, vS o.snd.snd.snd]), (3, .obj 49 [vI e, vS (v ++ ByteArray.mk #[33])])]) (cs := [((0 : Int) ≤ i ∧ i < (↑an.length : Int)), _, _, _, (v.size + 1 ≤ 9223372036854775807), (Nz 8), (ac.length + 1 ≤ 9223372036854775807 ∧ (ac.length + 1) * 112 ≤ 140737488355328), (Nz 8), (ap.length + 1 ≤ 9223372036854775807 ∧ (ap.length + 1) * 48 ≤ 140737488355328)]) [true, false, true] [0,1,7,8,9,10,11,12,13,35,36,37] ⟨by omega, hb1, hb2, hb3, by omega, (by decide), by omega, (by decide), by omega, trivial⟩ hsim fun E a w hsim => ?_
       first | exact absurd (of_decide_eq_false hb1) hyk | exact absurd (of_decide_eq_false hb2) hyk2
      ·
       refine gh (N0_ok l an cs ps r) (k' := loopAt Tryd.f5 1) (s' := let za := ByteArray.mk #[]; mk 0 142 [(0, .d (.list 4 l.length (opEl l))), (1, vI wr), (7, .d (.list 2 an.length (anEl an))), (8, .own 0), (9, .own 1), (10, vI i), (11, .ref 2 0), (12, .ref 3 0), (13, vI k), (35, .d (.list 4 l.length (opEl l))), (36, vI n), (37, vI (IntKind.i64.wrap (i + 1)))] [(0, .row 51 10 (ac.length + 1) (fun j => if j < ac.length then caEl ac j else segD true 10 (splice (List.map (fun j => (List.map D.raw (Value.agg #[Value.int IntKind.i64 (0 : Int), Value.int IntKind.i64 (0 : Int), Value.int IntKind.i64 (0 : Int), Value.string za, Value.string za, Value.string za, Value.int IntKind.i64 (0 : Int), Value.int IntKind.i64 (0 : Int), Value.int IntKind.i64 (0 : Int), Value.string za]).cells.toList).getD (j % 10) default) (List.range 10)) 0 (D.agg [rI (i.tmod (8 : Int)), rI (IntKind.i64.wrap (i + 1)), rI o.fst, rS o.snd.fst, rS o.snd.snd.fst, rS o.snd.snd.snd, rI (IntKind.i64.wrap ((3 : Int) * i)), rI (IntKind.i64.wrap (IntKind.i64.wrap ((3 : Int) * i) + 2)), rI e, rS v]).cells) (j - ac.length))), (1, .row 56 5 (ap.length + 1) (fun j => if j < ap.length then ptEl ap j else segD true 5 (splice (List.map (fun j => (List.map D.raw (Value.agg #[Value.int IntKind.i64 (0 : Int), Value.int IntKind.i64 (0 : Int), Value.int IntKind.i64 (0 : Int), Value.int IntKind.i64 (0 : Int), Value.string za]).cells.toList).getD (j % 5) default) (List.range 5)) 0 (D.agg [rI (IntKind.i64.wrap (IntKind.i64.wrap ((3 : Int) * i) + 1)), rI (i.tmod (8 : Int)), rI (IntKind.i64.wrap (i + 1)), rI e, rS v]).cells) (j - ap.length))), (2, .obj 47 [vI o.fst, vS o.snd.fst, vS o.snd.snd.fst, vS o.snd.snd.snd]), (3, .obj 49 [vI e, vS v])]) (cs := [((0 : Int) ≤ i ∧ i < (↑an.length : Int)), _, _, _, (Nz 8), (ac.length + 1 ≤ 9223372036854775807 ∧ (ac.length + 1) * 112 ≤ 140737488355328), (Nz 8), (ap.length + 1 ≤ 9223372036854775807 ∧ (ap.length + 1) * 48 ≤ 140737488355328)]) [true, false, false] [0,1,7,8,9,10,11,12,13,35,36,37] ⟨by omega, hb1, hb2, hb3, (by decide), by omega, (by decide), by omega, trivial⟩ hsim fun E a w hsim => ?_
       first | exact absurd (of_decide_eq_false hb1) hyk | exact absurd (of_decide_eq_false hb2) hyk2
    ·
     rcases bd (i == wr) with hb4 | hb4
     ·
      refine gh (N0_ok l an cs ps r) (k' := loopAt Tryd.f5 1) (s' := let za := ByteArray.mk #[]; mk 0 142 [(0, .d (.list 4 l.length (opEl l))), (1, vI wr), (7, .d (.list 2 an.length (anEl an))), (8, .own 0), (9, .own 1), (10, vI i), (11, .ref 2 0), (12, .ref 3 0), (13, vI k), (35, .d (.list 4 l.length (opEl l))), (36, vI n), (37, vI (IntKind.i64.wrap (i + 1)))] [(0, .row 51 10 (ac.length + 1) (fun j => if j < ac.length then caEl ac j else segD true 10 (splice (List.map (fun j => (List.map D.raw (Value.agg #[Value.int IntKind.i64 (0 : Int), Value.int IntKind.i64 (0 : Int), Value.int IntKind.i64 (0 : Int), Value.string za, Value.string za, Value.string za, Value.int IntKind.i64 (0 : Int), Value.int IntKind.i64 (0 : Int), Value.int IntKind.i64 (0 : Int), Value.string za]).cells.toList).getD (j % 10) default) (List.range 10)) 0 (D.agg [rI (i.tmod (8 : Int)), rI (IntKind.i64.wrap (i + 1)), rI o.fst, rS o.snd.fst, rS o.snd.snd.fst, rS o.snd.snd.snd, rI (IntKind.i64.wrap ((3 : Int) * i)), rI (IntKind.i64.wrap (IntKind.i64.wrap ((3 : Int) * i) + 2)), rI e, rS (v ++ ByteArray.mk #[33])]).cells) (j - ac.length))), (1, .row 56 5 (ap.length + 1) (fun j => if j < ap.length then ptEl ap j else segD true 5 (splice (List.map (fun j => (List.map D.raw (Value.agg #[Value.int IntKind.i64 (0 : Int), Value.int IntKind.i64 (0 : Int), Value.int IntKind.i64 (0 : Int), Value.int IntKind.i64 (0 : Int), Value.string za]).cells.toList).getD (j % 5) default) (List.range 5)) 0 (D.agg [rI (IntKind.i64.wrap (IntKind.i64.wrap ((3 : Int) * i) + 1)), rI (i.tmod (8 : Int)), rI (IntKind.i64.wrap (i + 1)), rI e, rS (v ++ ByteArray.mk #[33])]).cells) (j - ap.length))), (2, .obj 47 [vI o.fst, vS o.snd.fst, vS o.snd.snd.fst, vS o.snd.snd.snd]), (3, .obj 49 [vI e, vS (v ++ ByteArray.mk #[33])])]) (cs := [((0 : Int) ≤ i ∧ i < (↑an.length : Int)), _, _, (v.size + 1 ≤ 9223372036854775807), (Nz 8), (ac.length + 1 ≤ 9223372036854775807 ∧ (ac.length + 1) * 112 ≤ 140737488355328), (Nz 8), (ap.length + 1 ≤ 9223372036854775807 ∧ (ap.length + 1) * 48 ≤ 140737488355328)]) [false, true] [0,1,7,8,9,10,11,12,13,35,36,37] ⟨by omega, hb1, hb4, by omega, (by decide), by omega, (by decide), by omega, trivial⟩ hsim fun E a w hsim => ?_
      first | exact absurd (of_decide_eq_false hb1) hyk | exact absurd (of_decide_eq_false hb2) hyk2
     ·
      refine gh (N0_ok l an cs ps r) (k' := loopAt Tryd.f5 1) (s' := let za := ByteArray.mk #[]; mk 0 142 [(0, .d (.list 4 l.length (opEl l))), (1, vI wr), (7, .d (.list 2 an.length (anEl an))), (8, .own 0), (9, .own 1), (10, vI i), (11, .ref 2 0), (12, .ref 3 0), (13, vI k), (35, .d (.list 4 l.length (opEl l))), (36, vI n), (37, vI (IntKind.i64.wrap (i + 1)))] [(0, .row 51 10 (ac.length + 1) (fun j => if j < ac.length then caEl ac j else segD true 10 (splice (List.map (fun j => (List.map D.raw (Value.agg #[Value.int IntKind.i64 (0 : Int), Value.int IntKind.i64 (0 : Int), Value.int IntKind.i64 (0 : Int), Value.string za, Value.string za, Value.string za, Value.int IntKind.i64 (0 : Int), Value.int IntKind.i64 (0 : Int), Value.int IntKind.i64 (0 : Int), Value.string za]).cells.toList).getD (j % 10) default) (List.range 10)) 0 (D.agg [rI (i.tmod (8 : Int)), rI (IntKind.i64.wrap (i + 1)), rI o.fst, rS o.snd.fst, rS o.snd.snd.fst, rS o.snd.snd.snd, rI (IntKind.i64.wrap ((3 : Int) * i)), rI (IntKind.i64.wrap (IntKind.i64.wrap ((3 : Int) * i) + 2)), rI e, rS v]).cells) (j - ac.length))), (1, .row 56 5 (ap.length + 1) (fun j => if j < ap.length then ptEl ap j else segD true 5 (splice (List.map (fun j => (List.map D.raw (Value.agg #[Value.int IntKind.i64 (0 : Int), Value.int IntKind.i64 (0 : Int), Value.int IntKind.i64 (0 : Int), Value.int IntKind.i64 (0 : Int), Value.string za]).cells.toList).getD (j % 5) default) (List.range 5)) 0 (D.agg [rI (IntKind.i64.wrap (IntKind.i64.wrap ((3 : Int) * i) + 1)), rI (i.tmod (8 : Int)), rI (IntKind.i64.wrap (i + 1)), rI e, rS v]).cells) (j - ap.length))), (2, .obj 47 [vI o.fst, vS o.snd.fst, vS o.snd.snd.fst, vS o.snd.snd.snd]), (3, .obj 49 [vI e, vS v])]) (cs := [((0 : Int) ≤ i ∧ i < (↑an.length : Int)), _, _, (Nz 8), (ac.length + 1 ≤ 9223372036854775807 ∧ (ac.length + 1) * 112 ≤ 140737488355328), (Nz 8), (ap.length + 1 ≤ 9223372036854775807 ∧ (ap.length + 1) * 48 ≤ 140737488355328)]) [false, false] [0,1,7,8,9,10,11,12,13,35,36,37] ⟨by omega, hb1, hb4, (by decide), by omega, (by decide), by omega, trivial⟩ hsim fun E a w hsim => ?_
      first | exact absurd (of_decide_eq_false hb1) hyk | exact absurd (of_decide_eq_false hb2) hyk2
theorem had_size {q : List Rw} (ht : Tidy q) (key : ByteArray) : (hadM q key).size ≤ 64 := by
  unfold hadM
  split
  · rw [List.getD]
    cases h : q[posM q key]? with
    | none => exact Nat.zero_le _
    | some r => exact (ht.sized r (List.mem_of_getElem? h)).2.2
  · exact Nat.zero_le _
theorem do_size {q : List Rw} (ht : Tidy q) (k : Int) (key val old : ByteArray) : (doM q k key val old).1.size ≤ 64 := by
  have h := had_size ht key
  unfold doM
  repeat' split
  all_goals first | exact h | assumption | exact Nat.zero_le _
theorem rep_size : ∀ (l : List OpT) (T : T4), TidyT T → ∀ a ∈ repF T l, a.2.size ≤ 64
  | [], _, _, _, h => by cases h
  | o :: r, T, ht, a, h => by
    rcases List.mem_cons.1 h with rfl | h
    · exact do_size (pick_tidy ht _) _ _ _ _
    · exact rep_size r _ (next_tidy ht o) a h
theorem small_chk {l : List OpT} (h : ∀ j, j < l.length → checkM (l.getD j noOp).1 (l.getD j noOp).2.1 (l.getD j noOp).2.2.1 (l.getD j noOp).2.2.2 = 0) : Small l := fun o ho => by
  obtain ⟨k, hk, rfl⟩ := List.getElem_of_mem ho
  have h2 := h k hk
  rw [List.getD, List.getElem?_eq_getElem hk, Option.getD_some] at h2
  unfold checkM at h2
  repeat' split at h2
  all_goals first | omega | exact absurd h2 (by decide) | skip
theorem qo2_go {w0 : World} {N : Nat → Prop} {E0 : Env} (l : List OpT) (wr : Int) (an : List An) (hl : l.length ≤ 100) (hc : ∀ j, j < l.length → checkM (l.getD j noOp).1 (l.getD j noOp).2.1 (l.getD j noOp).2.2.1 (l.getD j noOp).2.2.2 = 0) (ha : an = repF T0 l) : ∀ (d : Nat) (n i : Int), n = (l.length : Int) → 0 ≤ i → i + d = n → GoN2 w0 N E0 (qo2 l an wr (accC l an wr i.toNat) (accP l an wr i.toNat) n i) true := by
  intro d
  have hla : an.length = l.length := by rw [ha, repF_len]
  induction d with
  | zero =>
    intro n i en h0 hd E a w hsim
    have ei : i.toNat = l.length := by omega
    rw [ei] at hsim
    obtain ⟨cs, hcs⟩ : ∃ cs, cs = accC l an wr l.length := ⟨_, rfl⟩
    obtain ⟨ps, hps⟩ : ∃ ps, ps = accP l an wr l.length := ⟨_, rfl⟩
    have hcl : cs.length = l.length := by rw [hcs, accC_len]
    obtain ⟨r, hr⟩ : ∃ r, r = checkP cs ps := ⟨_, rfl⟩
    have hck : cs.length ≤ 1099511627776 ∧ r = checkP cs ps := ⟨by omega, hr⟩
    have hq : r = if 0 ≤ wr ∧ wr < l.length then (4, wr, 0) else (0, 0, 0) := by rw [hr, hcs, hps]; exact one_law wr hl hc ha
    have hr1 : (r.2.2 == 0) = true := by rw [hq]; split <;> rfl
    have hr2 : decide (wr ≥ 0) = true → decide (wr < (l.length : Int)) = true → (r.1 == 4) = true ∧ (r.2.1 == wr) = true := fun h1 h2 => by
      rw [hq, if_pos ⟨of_decide_eq_true h1, of_decide_eq_true h2⟩]; exact ⟨rfl, beq_self_eq_true _⟩
    have hr3 : decide (wr ≥ 0) = false → (r.1 == 0) = true ∧ (r.2.1 == 0) = true := fun h1 => by
      rw [hq, if_neg (fun h => of_decide_eq_false h1 h.1)]; exact ⟨rfl, rfl⟩
    have hr4 : decide (wr < (l.length : Int)) = false → (r.1 == 0) = true ∧ (r.2.1 == 0) = true := fun h1 => by
      rw [hq, if_neg (fun h => of_decide_eq_false h1 h.2)]; exact ⟨rfl, rfl⟩
    rw [← hcs, ← hps] at hsim
    clear hr hq hcs hps
    generalize hac : cs = ac at hsim
    generalize hap : ps = ap at hsim
    have hac1 : ac.length = cs.length := by rw [hac]
    have hac2 : caEl ac = caEl cs := by rw [hac]
    have hap1 : ap.length = ps.length := by rw [hap]
    have hap2 : ptEl ap = ptEl ps := by rw [hap]
    rcases bd (decide (i < n)) with hb1 | hb1
    ·
     exact absurd (of_decide_eq_true hb1) (by omega)
    ·
     rcases bd (decide (wr ≥ (0 : Int))) with hb2 | hb2
     ·
      rcases bd (decide (wr < (↑l.length : Int))) with hb3 | hb3
      ·
       rcases bd (r.snd.snd == (0 : Int)) with hb4 | hb4
       ·
        rcases bd (r.fst == (4 : Int)) with hb5 | hb5
        ·
         rcases bd (r.snd.fst == wr) with hb6 | hb6
         ·
          exact gr (N0_ok l an cs ps r) Tryd.func5 (sr' := ⟨0, [vB true], []⟩) (cs := [_, (10 = 10), (ac.length = cs.length), (caEl ac = caEl cs), (5 = 5), (ap.length = ps.length), (ptEl ap = ptEl ps), (cs.length ≤ 1099511627776 ∧ r = checkP cs ps), _, _, _, _, _]) ([false] ++ (List.replicate 5 true)) true ⟨hb1, (by rfl), (by assumption), (by assumption), (by rfl), (by assumption), (by assumption), (by exact hck), hb2, hb3, hb4, hb5, hb6, trivial⟩ (by rfl) hsim
         ·
          (exfalso; clear hsim; simp_all; done)
        ·
         (exfalso; clear hsim; simp_all; done)
       ·
        (exfalso; clear hsim; simp_all; done)
      ·
       rcases bd (r.snd.snd == (0 : Int)) with hb7 | hb7
       ·
        rcases bd (r.fst == (0 : Int)) with hb8 | hb8
        ·
         rcases bd (r.snd.fst == (0 : Int)) with hb9 | hb9
         ·
          exact gr (N0_ok l an cs ps r) Tryd.func5 (sr' := ⟨0, [vB true], []⟩) (cs := [_, (10 = 10), (ac.length = cs.length), (caEl ac = caEl cs), (5 = 5), (ap.length = ps.length), (ptEl ap = ptEl ps), (cs.length ≤ 1099511627776 ∧ r = checkP cs ps), _, _, _, _, _]) [false, true, false, true, true, true] true ⟨hb1, (by rfl), (by assumption), (by assumption), (by rfl), (by assumption), (by assumption), (by exact hck), hb2, hb3, hb7, hb8, hb9, trivial⟩ (by rfl) hsim
         ·
          (exfalso; clear hsim; simp_all; done)
        ·
         (exfalso; clear hsim; simp_all; done)
       ·
        (exfalso; clear hsim; simp_all; done)
     ·
      rcases bd (r.snd.snd == (0 : Int)) with hb10 | hb10
      ·
       rcases bd (r.fst == (0 : Int)) with hb11 | hb11
       ·
        rcases bd (r.snd.fst == (0 : Int)) with hb12 | hb12
        ·
         exact gr (N0_ok l an cs ps r) Tryd.func5 (sr' := ⟨0, [vB true], []⟩) (cs := [_, (10 = 10), (ac.length = cs.length), (caEl ac = caEl cs), (5 = 5), (ap.length = ps.length), (ptEl ap = ptEl ps), (cs.length ≤ 1099511627776 ∧ r = checkP cs ps), _, _, _, _]) [false, false, true, true, true] true ⟨hb1, (by rfl), (by assumption), (by assumption), (by rfl), (by assumption), (by assumption), (by exact hck), hb2, hb10, hb11, hb12, trivial⟩ (by rfl) hsim
        ·
         (exfalso; clear hsim; simp_all; done)
       ·
        (exfalso; clear hsim; simp_all; done)
      ·
       (exfalso; clear hsim; simp_all; done)
  | succ d ih =>
    intro n i en h0 hd E a w hsim
    have hi : i.toNat < l.length := by omega
    have ew : IntKind.i64.wrap (i + 1) = i + 1 := wrapP (by omega)
    have ih := ih n (IntKind.i64.wrap (i + 1)) en (by rw [ew]; omega) (by rw [ew]; omega)
    rw [show (IntKind.i64.wrap (i + 1)).toNat = i.toNat + 1 by rw [ew]; omega, accC_succ, accP_succ] at ih
    have hm : an.getD i.toNat noAn ∈ an := by rw [List.getD_eq_getElem?_getD, List.getElem?_eq_getElem (by omega)]; exact List.getElem_mem (by omega)
    have hm2 : an.getD i.toNat noAn ∈ repF T0 l := by rw [← ha]; exact hm
    have hx := rep_err l T0 _ hm2
    have hz := rep_size l T0 tidyT0 _ hm2
    have hac : (accC l an wr i.toNat).length = i.toNat := accC_len
    have hap : (accP l an wr i.toNat).length = i.toNat := accP_len
    obtain ⟨ac, hac0⟩ : ∃ ac, ac = accC l an wr i.toNat := ⟨_, rfl⟩
    obtain ⟨ap, hap0⟩ : ∃ ap, ap = accP l an wr i.toNat := ⟨_, rfl⟩
    rw [← hac0, ← hap0] at hsim ih
    rw [← hac0] at hac
    rw [← hap0] at hap
    let cs : List Ca := []
    let ps : List Pt := []
    let r : Int × Int × Int := (0, 0, 0)
    rcases bd (decide (i < n)) with hb1 | hb1
    ·
     refine gh (N0_ok l an cs ps r) (k' := loopAt Tryd.f5 2) (s' := let za := l.getD i.toNat noOp; mk 0 142 [(0, .d (.list 4 l.length (opEl l))), (1, vI wr), (7, .d (.list 2 an.length (anEl an))), (8, .own 0), (9, .own 1), (10, vI i), (11, .ref 2 0), (12, .ref 3 0), (13, vI 0), (35, .d (.list 4 l.length (opEl l))), (36, vI n), (37, vI i)] [(0, .row 51 10 ac.length (caEl ac)), (1, .row 56 5 ap.length (ptEl ap)), (2, .obj 47 [vI (za.fst), vS (za.snd.fst), vS (za.snd.snd.fst), vS (za.snd.snd.snd)]), (3, .obj 49 [vI 0, vS ((an.getD i.toNat ((0 : Int), ByteArray.empty)).snd)])]) (cs := [_, ((0 : Int) ≤ i ∧ i < (↑l.length : Int)), ((0 : Int) ≤ i ∧ i < (↑an.length : Int))]) [true] [0,1,7,8,9,10,11,12,13,35,36,37] ⟨hb1, by omega, by omega, trivial⟩ hsim fun E a w hsim => ?_
     exact qo3_go l an wr cs ps r ac ap n i (an.getD i.toNat noAn) rfl (l.getD i.toNat noOp) rfl (an.getD i.toNat noAn).2 rfl hx.1 hx.2 h0 hi hl hla hac hap (by omega) ih (an.getD i.toNat noAn).1.toNat 0 0 rfl (by omega) (by omega) E a w hsim
    ·
     rcases bd (decide (wr ≥ (0 : Int))) with hb2 | hb2
     ·
      rcases bd (decide (wr < (↑l.length : Int))) with hb3 | hb3
      ·
       rcases bd (r.snd.snd == (0 : Int)) with hb4 | hb4
       ·
        rcases bd (r.fst == (4 : Int)) with hb5 | hb5
        ·
         rcases bd (r.snd.fst == wr) with hb6 | hb6
         ·
          exact absurd (of_decide_eq_false hb1) (by omega)
         ·
          exact absurd (of_decide_eq_false hb1) (by omega)
        ·
         exact absurd (of_decide_eq_false hb1) (by omega)
       ·
        exact absurd (of_decide_eq_false hb1) (by omega)
      ·
       rcases bd (r.snd.snd == (0 : Int)) with hb7 | hb7
       ·
        rcases bd (r.fst == (0 : Int)) with hb8 | hb8
        ·
         rcases bd (r.snd.fst == (0 : Int)) with hb9 | hb9
         ·
          exact absurd (of_decide_eq_false hb1) (by omega)
         ·
          exact absurd (of_decide_eq_false hb1) (by omega)
        ·
         exact absurd (of_decide_eq_false hb1) (by omega)
       ·
        exact absurd (of_decide_eq_false hb1) (by omega)
     ·
      rcases bd (r.snd.snd == (0 : Int)) with hb10 | hb10
      ·
       rcases bd (r.fst == (0 : Int)) with hb11 | hb11
       ·
        rcases bd (r.snd.fst == (0 : Int)) with hb12 | hb12
        ·
         exact absurd (of_decide_eq_false hb1) (by omega)
        ·
         exact absurd (of_decide_eq_false hb1) (by omega)
       ·
        exact absurd (of_decide_eq_false hb1) (by omega)
      ·
       exact absurd (of_decide_eq_false hb1) (by omega)
theorem qo1_go {w0 : World} {N : Nat → Prop} {E0 : Env} (l : List OpT) (wr : Int) (hl : l.length ≤ 100) : ∀ (d : Nat) (n i : Int), n = (l.length : Int) → 0 ≤ i → i + d = n → (∀ j, j < i.toNat → checkM (l.getD j noOp).1 (l.getD j noOp).2.1 (l.getD j noOp).2.2.1 (l.getD j noOp).2.2.2 = 0) → GoN1 w0 N E0 (qo1 l wr n i) true := by
  intro d
  obtain ⟨an, ha⟩ : ∃ an, an = repF T0 l := ⟨_, rfl⟩
  let cs : List Ca := []
  let ps : List Pt := []
  let r : Int × Int × Int := (0, 0, 0)
  induction d with
  | zero =>
    intro n i en h0 hd hall E a w hsim
    have hc : ∀ j, j < l.length → checkM (l.getD j noOp).1 (l.getD j noOp).2.1 (l.getD j noOp).2.2.1 (l.getD j noOp).2.2.2 = 0 := fun j hj => hall j (by omega)
    have hs := small_chk hc
    have hl6 : l.length ≤ 1000000 := by omega
    rcases bd (decide (i < n)) with hb1 | hb1
    ·
     rcases bd (checkM (l.getD i.toNat noOp).fst (l.getD i.toNat noOp).snd.fst (l.getD i.toNat noOp).snd.snd.fst (l.getD i.toNat noOp).snd.snd.snd != (0 : Int)) with hb2 | hb2
     ·
      exact gr (N0_ok l an cs ps r) Tryd.func5 (sr' := ⟨0, [vB true], []⟩) (cs := [_, ((0 : Int) ≤ i ∧ i < (↑l.length : Int)), _]) [true, true] true ⟨hb1, (by exact absurd (of_decide_eq_true hb1) (by omega)), hb2, trivial⟩ (by rfl) hsim
     ·
      exact absurd (of_decide_eq_true hb1) (by omega)
    ·
     have q0_ : ((4 : Nat) = (4 : Nat)) := (by rfl)
     have q1_ : (l.length = l.length) := (by rfl)
     have q2_ : (opEl l = opEl l) := (by rfl)
     refine gh (N0_ok l an cs ps r) (k' := loopAt Tryd.f5 1) (s' := mk 0 142 [(0, .d (.list 4 l.length (opEl l))), (1, vI wr), (7, .d (.list 2 an.length (anEl an))), (8, .d (.raw (Value.slice none 0 0))), (9, .d (.raw (Value.slice none 0 0))), (21, .d (.list 4 l.length (opEl l))), (22, vI n), (23, vI i), (35, .d (.list 4 l.length (opEl l))), (36, vI (↑l.length : Int)), (37, vI 0)] []) (cs := ((fun (c0 c1 c2 : Prop) => [_, c0, c1, c2, (l.length ≤ 1000000), c0, c1, c2, (Small l ∧ l.length ≤ 1000000 ∧ an = repF T0 l)]) _ _ _)) [false] [0,1,7,8,9,21,22,23,35,36,37] ⟨hb1, q0_, q1_, q2_, (by exact hl6), q0_, q1_, q2_, (by exact ⟨hs, hl6, ha⟩), trivial⟩ hsim fun E a w hsim => ?_
     obtain ⟨E1, h1⟩ := hsim.keep [0, 1, 7, 8, 9, 35, 36, 37]
     obtain ⟨E2, h2⟩ := h1.nilRow (t := 8) (by kernel_rfl) 51 10 (caEl [])
     obtain ⟨E3, h3⟩ := h2.nilRow (t := 9) (by kernel_rfl) 56 5 (ptEl [])
     exact qo2_go l wr an hl hc ha l.length (l.length : Int) 0 rfl (by omega) (by omega) E3 a w ((congrArg (fun s => Sim _ E3 s a w) (by kernel_rfl)).mp h3)
  | succ d ih =>
    intro n i en h0 hd hall E a w hsim
    have hi : i.toNat < l.length := by omega
    have ew : IntKind.i64.wrap (i + 1) = i + 1 := wrapP (by omega)
    have ih := ih n (IntKind.i64.wrap (i + 1)) en (by rw [ew]; omega) (by rw [ew]; omega)
    rcases bd (decide (i < n)) with hb1 | hb1
    ·
     rcases bd (checkM (l.getD i.toNat noOp).fst (l.getD i.toNat noOp).snd.fst (l.getD i.toNat noOp).snd.snd.fst (l.getD i.toNat noOp).snd.snd.snd != (0 : Int)) with hb2 | hb2
     ·
      exact gr (N0_ok l an cs ps r) Tryd.func5 (sr' := ⟨0, [vB true], []⟩) (cs := [_, ((0 : Int) ≤ i ∧ i < (↑l.length : Int)), _]) [true, true] true ⟨hb1, by omega, hb2, trivial⟩ (by rfl) hsim
     ·
      refine gh (N0_ok l an cs ps r) (k' := loopAt Tryd.f5 0) (s' := mk 0 142 [(0, .d (.list 4 l.length (opEl l))), (1, vI wr), (21, .d (.list 4 l.length (opEl l))), (22, vI n), (23, vI (IntKind.i64.wrap (i + 1)))] []) (cs := [_, ((0 : Int) ≤ i ∧ i < (↑l.length : Int)), _]) [true, false] [0,1,7,8,9,21,22,23,35,36,37] ⟨hb1, by omega, hb2, trivial⟩ hsim fun E a w hsim => ?_
      exact ih (fun j hj => by { rw [ew] at hj; exact (Nat.lt_or_ge j i.toNat).elim (fun h => hall j h) (fun h => by { have e : j = i.toNat := (by omega); rw [e]; exact bne_eq_false_iff_eq.1 hb2 }) }) E a w hsim
    ·
     have q0_ : ((4 : Nat) = (4 : Nat)) := (by omega)
     have q1_ : (l.length = l.length) := (by omega)
     have q2_ : (opEl l = opEl l) := (by exact absurd (of_decide_eq_false hb1) (by omega))
     exact absurd (of_decide_eq_false hb1) (by omega)
theorem law_one_ok (l : List OpT) (wr : Int) : Eng.Spec Tryd.prog gB 5 [.d (.list 4 l.length (opEl l)), .d (.raw (.int .i64 wr))] [] (.d (.raw (.bool (true)))) [] := by
  refine spec_fn Tryd.func5 rfl fun {w N E act} hsim => ?_
  let an : List An := []
  let cs : List Ca := []
  let ps : List Pt := []
  let r : Int × Int × Int := (0, 0, 0)
  rcases bd (decide ((↑l.length : Int) > (100 : Int))) with hb1 | hb1
  ·
   exact gr (N0_ok l an cs ps r) Tryd.func5 (sr' := ⟨0, [vB true], []⟩) (cs := [_]) [true] true ⟨hb1, trivial⟩ (by rfl) hsim
  ·
   refine gh (N0_ok l an cs ps r) (k' := loopAt Tryd.f5 0) (s' := mk 0 142 [(0, .d (.list 4 l.length (opEl l))), (1, vI wr), (21, .d (.list 4 l.length (opEl l))), (22, vI (↑l.length : Int)), (23, vI 0)] []) (cs := [_]) [false] [0,1,21,22,23] ⟨hb1, trivial⟩ hsim fun E a w hsim => ?_
   exact qo1_go l wr (by have := of_decide_eq_false hb1; omega) l.length (l.length : Int) 0 rfl (by omega) (by omega) (fun j hj => absurd hj (by simp)) E a w hsim
end Go.Prf
