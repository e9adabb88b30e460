/-
  Contracts of given functions, or plain laws that they need. No condition.
-/
import Derived.Test.YtbppcjkpkelbfaaDoorPrzG
namespace Go.Prf
open Go Go.Eng Go.Proofs Go.RowKit Go.Tab Go.Plc
set_option linter.unusedVariables false
set_option linter.unusedSimpArgs false
set_option maxRecDepth 100000
set_option maxHeartbeats 4000000
theorem mChkP_ok (cs : List Ca) (ps : List Pt) (r : Int × Int × Int) : MoOK Tryd.prog gB 19 (mChkP cs ps r) := fun args H ret H' c h hc => by
  unfold mChkP at h
  split at h
  · cases h; obtain ⟨rfl, rfl, rfl, rfl, rfl, rfl, ⟨hl, rfl⟩, -⟩ := hc; exact check_ok cs ps hl
  · cases h
theorem mReads_ok : MoOK Tryd.prog gB 18 mReads := fun args H ret H' c h hc => by
  unfold mReads at h
  split at h
  · cases h; exact reads_ok
  · cases h
theorem mAtF_ok (ps : List Pt) : MoOK Tryd.prog gB 28 (mAtF ps) := fun args H ret H' c h hc => by
  unfold mAtF at h
  split at h
  · rename_i c n k key val old fr to er v _ _ _
    cases h; obtain ⟨rfl, rfl, rfl, hl, -⟩ := hc; exact Spec.glAny (at_ok ⟨c, n, (k, key, val, old), fr, to, (er, v)⟩ ps hl)
  · cases h
theorem mReplay_ok (os : List OpT) (an : List An) : MoOK Tryd.prog gB 26 (mReplay os an) := fun args H ret H' c h hc => by
  unfold mReplay at h
  split at h
  · cases h; obtain ⟨rfl, rfl, rfl, ⟨hs, hl, rfl⟩, -⟩ := hc; exact replay_ok os hs hl
  · cases h
theorem C0_ok (cs : List Ca) (ps : List Pt) (r : Int × Int × Int) (os : List OpT) (an : List An) : OrcOK Tryd.prog (C0 cs ps r os an) := ((((OrcOK.none _).add _ false _ (mChkP_ok cs ps r)).add _ false _ mReads_ok).add _ false _ (mAtF_ok ps)).add _ true _ (mReplay_ok os an)
def opsF (p : Pt) : List Ca → List OpT
  | [] => []
  | c :: r => if (c.cl == p.cl && c.n == p.n) = true then c.o :: opsF p r else opsF p r
theorem opsF_len (p : Pt) : ∀ cs, (opsF p cs).length ≤ cs.length
  | [] => Nat.le_refl _
  | c :: r => by
    have := opsF_len p r
    unfold opsF
    split <;> simp only [List.length_cons] <;> omega
def allF (cs : List Ca) : List Pt → List OpT
  | [] => []
  | p :: r => opsF p cs ++ allF cs r
structure OrdOK (cs : List Ca) (ps : List Pt) : Prop where
  some : ∀ a ∈ cs, a.to ≠ -1 → 0 ≤ atF a.cl a.n ps 0
  ahead : ∀ a ∈ cs, ∀ b ∈ cs, a.to ≠ -1 → a.to < b.fr → 0 ≤ atF b.cl b.n ps 0 → atF b.cl b.n ps 0 ≤ atF a.cl a.n ps 0 → False
  small : Small (allF cs ps)
  told : repF T0 (allF cs ps) = ps.map Pt.a
theorem eq_same {a b : An} (h : a = b) : eqcs [.int .i64 a.1, .string a.2] [.int .i64 b.1, .string b.2] = true := by
  subst h
  simp only [eqcs, eqc]
  obtain ⟨n, ⟨d⟩⟩ := a
  rw [beq_self_eq_true n]
  exact (beq_self_eq_true d : (d == d) = true)
theorem getD_mem {α : Type} {l : List α} {d : α} {k : Nat} (h : k < l.length) : l.getD k d ∈ l := by
  rw [List.getD_eq_getElem?_getD, List.getElem?_eq_getElem h]; exact List.getElem_mem h
theorem op_app (os : List OpT) (x : OpT) (g : Nat → D) (hg : g 0 = opD x) (j : Nat) (hj : j < os.length + 1) : (if j < os.length then opEl os j else g (j - os.length)) = opEl (os ++ [x]) j := by
  unfold opEl
  by_cases h : j < os.length
  · rw [if_pos h]
    congr 1
    simp [List.getD, List.getElem?_append_left h]
  · rw [if_neg h]
    obtain rfl : j = os.length := by omega
    rw [Nat.sub_self, hg]
    congr 1
    simp [List.getD]
abbrev GoY (w0 : World) (N : Nat → Prop) (E0 : Env) (k : List Item) (s : St) : Prop := ∀ (E : Env) (a : Act) (w : World), Sim (cx Tryd.prog gB w0 N E0 []) E s a w → Goes Tryd.prog 7 k (RSpec (cx Tryd.prog gB w0 N E0 []) ⟨0, [.d (.raw (.bool true))], []⟩) a w
variable {w0 : World} {N : Nat → Prop} {E0 : Env}
theorem y4 (cs : List Ca) (ps : List Pt) (an : List An) (ha : an = ps.map Pt.a) (hl2 : ps.length ≤ 100) : ∀ (d : Nat) (n i : Int), n = (ps.length : Int) → 0 ≤ i → i + d = n → GoY w0 N E0 (loopAt Tryd.f7 4) (po5 an ps n i) := by
  intro d
  have hla : an.length = ps.length := by rw [ha, List.length_map]
  let r : Int × Int × Int := (0, 0, 0)
  let os : List OpT := []
  induction d with
  | zero =>
    intro n i en h0 hd E a w hsim
    rcases Bool.eq_false_or_eq_true (decide (i < n)) with hb1 | hb1
    · skip
      rcases Bool.eq_false_or_eq_true (!eqcs [Value.int IntKind.i64 (an.getD i.toNat ((0 : Int), ByteArray.empty)).fst, Value.string (an.getD i.toNat ((0 : Int), ByteArray.empty)).snd] [Value.int IntKind.i64 (ps.getD i.toNat noPt).a.fst, Value.string (ps.getD i.toNat noPt).a.snd]) with hb2 | hb2
      · skip
        exact go_ret (C0_ok cs ps r os an) rfl rfl Tryd.func7 (sr' := ⟨0, [.d (.raw (.bool (false)))], []⟩) (cs := [_, ((0 : Int) ≤ i ∧ i < (↑ps.length : Int)), ((0 : Int) ≤ i ∧ i < (↑an.length : Int)), _]) [true, true] true (by kernel_rfl) (by kernel_rfl) ⟨hb1, (by exact absurd (of_decide_eq_true hb1) (by omega)), (by exact absurd (of_decide_eq_true hb1) (by omega)), hb2, trivial⟩ (by exact absurd (of_decide_eq_true hb1) (by omega)) hsim
      · skip
        refine go_head (C0_ok cs ps r os an) rfl rfl (k' := loopAt Tryd.f7 4) (s' := mk 0 145 [(19, .d (.list 2 (an.length) (anEl an))), (129, .d (.list 5 (ps.length) (ptEl ps))), (130, .d (.raw (.int .i64 (n)))), (131, .d (.raw (.int .i64 (IntKind.i64.wrap (i + (1 : Int))))))] []) (cs := [_, ((0 : Int) ≤ i ∧ i < (↑ps.length : Int)), ((0 : Int) ≤ i ∧ i < (↑an.length : Int)), _]) [true, false] [19,129,130,131] (by kernel_rfl) (by kernel_rfl) ⟨hb1, (by exact absurd (of_decide_eq_true hb1) (by omega)), (by exact absurd (of_decide_eq_true hb1) (by omega)), hb2, trivial⟩ hsim fun E a w hsim => ?_
        exact absurd (of_decide_eq_true hb1) (by omega)
    · skip
      exact go_ret (C0_ok cs ps r os an) rfl rfl Tryd.func7 (sr' := ⟨0, [.d (.raw (.bool (true)))], []⟩) (cs := [_]) [false] true (by kernel_rfl) (by kernel_rfl) ⟨hb1, trivial⟩ (by rfl) hsim
  | succ d ih =>
    intro n i en h0 hd E a w hsim
    have hi : i.toNat < ps.length := by omega
    have ew : IntKind.i64.wrap (i + 1) = i + 1 := wrapP (by omega)
    have he : an.getD i.toNat ((0 : Int), ByteArray.empty) = (ps.getD i.toNat noPt).a := by
      rw [ha]; simp [List.getD, hi]
    have hq := eq_same he
    have ih := ih n (IntKind.i64.wrap (i + 1)) en (by rw [ew]; omega) (by rw [ew]; omega)
    rcases Bool.eq_false_or_eq_true (decide (i < n)) with hb1 | hb1
    · skip
      rcases Bool.eq_false_or_eq_true (!eqcs [Value.int IntKind.i64 (an.getD i.toNat ((0 : Int), ByteArray.empty)).fst, Value.string (an.getD i.toNat ((0 : Int), ByteArray.empty)).snd] [Value.int IntKind.i64 (ps.getD i.toNat noPt).a.fst, Value.string (ps.getD i.toNat noPt).a.snd]) with hb2 | hb2
      · skip
        exact go_ret (C0_ok cs ps r os an) rfl rfl Tryd.func7 (sr' := ⟨0, [.d (.raw (.bool (false)))], []⟩) (cs := [_, ((0 : Int) ≤ i ∧ i < (↑ps.length : Int)), ((0 : Int) ≤ i ∧ i < (↑an.length : Int)), _]) [true, true] true (by kernel_rfl) (by kernel_rfl) ⟨hb1, (by omega), (by omega), hb2, trivial⟩ (by (exfalso; clear hsim ih; simp_all; done)) hsim
      · skip
        refine go_head (C0_ok cs ps r os an) rfl rfl (k' := loopAt Tryd.f7 4) (s' := mk 0 145 [(19, .d (.list 2 (an.length) (anEl an))), (129, .d (.list 5 (ps.length) (ptEl ps))), (130, .d (.raw (.int .i64 (n)))), (131, .d (.raw (.int .i64 (IntKind.i64.wrap (i + (1 : Int))))))] []) (cs := [_, ((0 : Int) ≤ i ∧ i < (↑ps.length : Int)), ((0 : Int) ≤ i ∧ i < (↑an.length : Int)), _]) [true, false] [19,129,130,131] (by kernel_rfl) (by kernel_rfl) ⟨hb1, (by omega), (by omega), hb2, trivial⟩ hsim fun E a w hsim => ?_
        exact ih E a w hsim
    · skip
      exact go_ret (C0_ok cs ps r os an) rfl rfl Tryd.func7 (sr' := ⟨0, [.d (.raw (.bool (true)))], []⟩) (cs := [_]) [false] true (by kernel_rfl) (by kernel_rfl) ⟨hb1, trivial⟩ (by exact absurd (of_decide_eq_false hb1) (by omega)) hsim
theorem y3x (cs : List Ca) (ps : List Pt) (p : Pt) (n i n2 j : Int) (os : List OpT) {E : Env} {a : Act} {w : World} {f : Nat → D} {R : Prop} {x : OpT} (hf : ∀ q, q < os.length + 1 → f q = opEl (os ++ [x]) q)
    (h : Sim (cx Tryd.prog gB w0 N E0 []) E (mk 0 145 [(0, .d (.list 10 cs.length (caEl cs))), (1, .d (.list 5 ps.length (ptEl ps))), (14, .own 0), (16, .ref 1 0), (91, .d (.list 5 ps.length (ptEl ps))), (92, .d (.raw (.int .i64 n))), (93, .d (.raw (.int .i64 i))), (97, .d (.list 10 cs.length (caEl cs))), (98, .d (.raw (.int .i64 n2))), (99, .d (.raw (.int .i64 j)))] [(0, .row 47 4 (os.length + 1) f), (1, .obj 56 (ptAV p))]) a w)
    (K : ∀ E, Sim (cx Tryd.prog gB w0 N E0 []) E (po4 cs ps (os ++ [x]) p n i n2 j) a w → R) : R := by
  obtain ⟨E', h1⟩ := h.rowEq (k := 0) (T := 47) (sz := 4) (n := os.length + 1) (el := f) rfl (opEl (os ++ [x])) hf
  refine K E' ?_
  have e : po4 cs ps (os ++ [x]) p n i n2 j = mk 0 145 [(0, .d (.list 10 cs.length (caEl cs))), (1, .d (.list 5 ps.length (ptEl ps))), (14, .own 0), (16, .ref 1 0), (91, .d (.list 5 ps.length (ptEl ps))), (92, .d (.raw (.int .i64 n))), (93, .d (.raw (.int .i64 i))), (97, .d (.list 10 cs.length (caEl cs))), (98, .d (.raw (.int .i64 n2))), (99, .d (.raw (.int .i64 j)))] [(0, .row 47 4 (os.length + 1) (opEl (os ++ [x]))), (1, .obj 56 (ptAV p))] := by
    unfold po4; rw [List.length_append]; rfl
  rw [e]
  exact h1
theorem y3 (cs : List Ca) (ps : List Pt) (p : Pt) (n i : Int) (hl : cs.length ≤ 100) : ∀ (d : Nat) (n2 j : Int), n2 = (cs.length : Int) → 0 ≤ j → j + d = n2 → ∀ (os : List OpT), os.length + d ≤ 100000 → GoY w0 N E0 (loopAt Tryd.f7 2) (po3 cs ps (os ++ opsF p (cs.drop j.toNat)) n (IntKind.i64.wrap (i + 1))) → GoY w0 N E0 (loopAt Tryd.f7 3) (po4 cs ps os p n i n2 j) := by
  intro d
  let r : Int × Int × Int := (0, 0, 0)
  let an : List An := []
  induction d with
  | zero =>
    intro n2 j en h0 hd os ho K E a w hsim
    have hr : os ++ opsF p (cs.drop j.toNat) = os := by rw [List.drop_eq_nil_of_le (by omega)]; simp [opsF]
    rw [hr] at K
    rcases Bool.eq_false_or_eq_true (decide (j < n2)) with hb1 | hb1
    · skip
      rcases Bool.eq_false_or_eq_true ((cs.getD j.toNat noCa).cl == p.cl) with hb2 | hb2
      · skip
        rcases Bool.eq_false_or_eq_true ((cs.getD j.toNat noCa).n == p.n) with hb3 | hb3
        · skip
          refine go_head (C0_ok cs ps r os an) rfl rfl (k' := loopAt Tryd.f7 3) (s' := mk 0 145 [(0, .d (.list 10 (cs.length) (caEl cs))), (1, .d (.list 5 (ps.length) (ptEl ps))), (14, .own 0), (16, .ref 1 0), (91, .d (.list 5 (ps.length) (ptEl ps))), (92, .d (.raw (.int .i64 (n)))), (93, .d (.raw (.int .i64 (i)))), (97, .d (.list 10 (cs.length) (caEl cs))), (98, .d (.raw (.int .i64 (n2)))), (99, .d (.raw (.int .i64 (IntKind.i64.wrap (j + (1 : Int))))))] [(0, .row 47 4 (os.length + (1 : Nat)) (fun j_1 => if j_1 < os.length then opEl os j_1 else segD true (4 : Nat) (splice (List.map (fun j => (List.map D.raw (Value.agg #[Value.int IntKind.i64 (0 : Int), Value.string (ByteArray.mk #[]), Value.string (ByteArray.mk #[]), Value.string (ByteArray.mk #[])]).cells.toList).getD (j % (4 : Nat)) default) (List.range (4 : Nat))) (0 : Nat) (D.agg [D.raw (Value.int IntKind.i64 (cs.getD j.toNat noCa).o.fst), D.raw (Value.string (cs.getD j.toNat noCa).o.snd.fst), D.raw (Value.string (cs.getD j.toNat noCa).o.snd.snd.fst), D.raw (Value.string (cs.getD j.toNat noCa).o.snd.snd.snd)]).cells) (j_1 - os.length))), (1, .obj 56 [.d (.raw (.int .i64 (p.at'))), .d (.raw (.int .i64 (p.cl))), .d (.raw (.int .i64 (p.n))), .d (.raw (.int .i64 (p.a.fst))), .d (.raw (.string (p.a.snd)))])]) (cs := [_, ((0 : Int) ≤ j ∧ j < (↑cs.length : Int)), _, _, (os.length + (1 : Nat) ≤ (9223372036854775807 : Nat) ∧ (os.length + (1 : Nat)) * (56 : Nat) ≤ (140737488355328 : Nat))]) [true, true, true] [0,1,14,16,91,92,93,97,98,99] (by kernel_rfl) (by kernel_rfl) ⟨hb1, (by exact absurd (of_decide_eq_true hb1) (by omega)), hb2, hb3, (by exact absurd (of_decide_eq_true hb1) (by omega)), trivial⟩ hsim fun E a w hsim => ?_
          exact absurd (of_decide_eq_true hb1) (by omega)
        · skip
          refine go_head (C0_ok cs ps r os an) rfl rfl (k' := loopAt Tryd.f7 3) (s' := mk 0 145 [(0, .d (.list 10 (cs.length) (caEl cs))), (1, .d (.list 5 (ps.length) (ptEl ps))), (14, .own 0), (16, .ref 1 0), (91, .d (.list 5 (ps.length) (ptEl ps))), (92, .d (.raw (.int .i64 (n)))), (93, .d (.raw (.int .i64 (i)))), (97, .d (.list 10 (cs.length) (caEl cs))), (98, .d (.raw (.int .i64 (n2)))), (99, .d (.raw (.int .i64 (IntKind.i64.wrap (j + (1 : Int))))))] [(0, .row 47 4 (os.length) (opEl os)), (1, .obj 56 [.d (.raw (.int .i64 (p.at'))), .d (.raw (.int .i64 (p.cl))), .d (.raw (.int .i64 (p.n))), .d (.raw (.int .i64 (p.a.fst))), .d (.raw (.string (p.a.snd)))])]) (cs := [_, ((0 : Int) ≤ j ∧ j < (↑cs.length : Int)), _, _]) [true, true, false] [0,1,14,16,91,92,93,97,98,99] (by kernel_rfl) (by kernel_rfl) ⟨hb1, (by exact absurd (of_decide_eq_true hb1) (by omega)), hb2, hb3, trivial⟩ hsim fun E a w hsim => ?_
          exact absurd (of_decide_eq_true hb1) (by omega)
      · skip
        refine go_head (C0_ok cs ps r os an) rfl rfl (k' := loopAt Tryd.f7 3) (s' := mk 0 145 [(0, .d (.list 10 (cs.length) (caEl cs))), (1, .d (.list 5 (ps.length) (ptEl ps))), (14, .own 0), (16, .ref 1 0), (91, .d (.list 5 (ps.length) (ptEl ps))), (92, .d (.raw (.int .i64 (n)))), (93, .d (.raw (.int .i64 (i)))), (97, .d (.list 10 (cs.length) (caEl cs))), (98, .d (.raw (.int .i64 (n2)))), (99, .d (.raw (.int .i64 (IntKind.i64.wrap (j + (1 : Int))))))] [(0, .row 47 4 (os.length) (opEl os)), (1, .obj 56 [.d (.raw (.int .i64 (p.at'))), .d (.raw (.int .i64 (p.cl))), .d (.raw (.int .i64 (p.n))), .d (.raw (.int .i64 (p.a.fst))), .d (.raw (.string (p.a.snd)))])]) (cs := [_, ((0 : Int) ≤ j ∧ j < (↑cs.length : Int)), _]) [true, false] [0,1,14,16,91,92,93,97,98,99] (by kernel_rfl) (by kernel_rfl) ⟨hb1, (by exact absurd (of_decide_eq_true hb1) (by omega)), hb2, trivial⟩ hsim fun E a w hsim => ?_
        exact absurd (of_decide_eq_true hb1) (by omega)
    · skip
      refine go_head (C0_ok cs ps r os an) rfl rfl (k' := loopAt Tryd.f7 2) (s' := mk 0 145 [(0, .d (.list 10 (cs.length) (caEl cs))), (1, .d (.list 5 (ps.length) (ptEl ps))), (14, .own 0), (16, .ref 1 0), (91, .d (.list 5 (ps.length) (ptEl ps))), (92, .d (.raw (.int .i64 (n)))), (93, .d (.raw (.int .i64 (IntKind.i64.wrap (i + (1 : Int)))))), (97, .d (.list 10 (cs.length) (caEl cs))), (98, .d (.raw (.int .i64 (n2)))), (99, .d (.raw (.int .i64 (j))))] [(0, .row 47 4 (os.length) (opEl os)), (1, .obj 56 [.d (.raw (.int .i64 (p.at'))), .d (.raw (.int .i64 (p.cl))), .d (.raw (.int .i64 (p.n))), .d (.raw (.int .i64 (p.a.fst))), .d (.raw (.string (p.a.snd)))])]) (cs := [_]) [false] [0,1,14,16,91,92,93,97,98,99] (by kernel_rfl) (by kernel_rfl) ⟨hb1, trivial⟩ hsim fun E a w hsim => ?_
      obtain ⟨E2, h1⟩ := hsim.keep [0,1,14,91,92,93]
      exact K E2 a w ((congrArg (fun s => Sim _ E2 s a w) (by kernel_rfl)).mp h1)
  | succ d ih =>
    intro n2 j en h0 hd os ho K E a w hsim
    have hi : j.toNat < cs.length := by omega
    have ew : IntKind.i64.wrap (j + 1) = j + 1 := wrapP (by omega)
    have hr : opsF p (cs.drop j.toNat) = if ((cs.getD j.toNat noCa).cl == p.cl && (cs.getD j.toNat noCa).n == p.n) = true then (cs.getD j.toNat noCa).o :: opsF p (cs.drop (IntKind.i64.wrap (j + 1)).toNat) else opsF p (cs.drop (IntKind.i64.wrap (j + 1)).toNat) := by
      rw [getD_drop (d := noCa) hi, ew, show (j + 1).toNat = j.toNat + 1 by omega]; rfl
    have ih := ih n2 (IntKind.i64.wrap (j + 1)) en (by rw [ew]; omega) (by rw [ew]; omega)
    rw [hr] at K
    rcases Bool.eq_false_or_eq_true (decide (j < n2)) with hb1 | hb1
    · skip
      rcases Bool.eq_false_or_eq_true ((cs.getD j.toNat noCa).cl == p.cl) with hb2 | hb2
      · skip
        rcases Bool.eq_false_or_eq_true ((cs.getD j.toNat noCa).n == p.n) with hb3 | hb3
        · skip
          refine go_head (C0_ok cs ps r os an) rfl rfl (k' := loopAt Tryd.f7 3) (s' := mk 0 145 [(0, .d (.list 10 (cs.length) (caEl cs))), (1, .d (.list 5 (ps.length) (ptEl ps))), (14, .own 0), (16, .ref 1 0), (91, .d (.list 5 (ps.length) (ptEl ps))), (92, .d (.raw (.int .i64 (n)))), (93, .d (.raw (.int .i64 (i)))), (97, .d (.list 10 (cs.length) (caEl cs))), (98, .d (.raw (.int .i64 (n2)))), (99, .d (.raw (.int .i64 (IntKind.i64.wrap (j + (1 : Int))))))] [(0, .row 47 4 (os.length + (1 : Nat)) (fun j_1 => if j_1 < os.length then opEl os j_1 else segD true (4 : Nat) (splice (List.map (fun j => (List.map D.raw (Value.agg #[Value.int IntKind.i64 (0 : Int), Value.string (ByteArray.mk #[]), Value.string (ByteArray.mk #[]), Value.string (ByteArray.mk #[])]).cells.toList).getD (j % (4 : Nat)) default) (List.range (4 : Nat))) (0 : Nat) (D.agg [D.raw (Value.int IntKind.i64 (cs.getD j.toNat noCa).o.fst), D.raw (Value.string (cs.getD j.toNat noCa).o.snd.fst), D.raw (Value.string (cs.getD j.toNat noCa).o.snd.snd.fst), D.raw (Value.string (cs.getD j.toNat noCa).o.snd.snd.snd)]).cells) (j_1 - os.length))), (1, .obj 56 [.d (.raw (.int .i64 (p.at'))), .d (.raw (.int .i64 (p.cl))), .d (.raw (.int .i64 (p.n))), .d (.raw (.int .i64 (p.a.fst))), .d (.raw (.string (p.a.snd)))])]) (cs := [_, ((0 : Int) ≤ j ∧ j < (↑cs.length : Int)), _, _, (os.length + (1 : Nat) ≤ (9223372036854775807 : Nat) ∧ (os.length + (1 : Nat)) * (56 : Nat) ≤ (140737488355328 : Nat))]) [true, true, true] [0,1,14,16,91,92,93,97,98,99] (by kernel_rfl) (by kernel_rfl) ⟨hb1, (by omega), hb2, hb3, (by omega), trivial⟩ hsim fun E a w hsim => ?_
          first | (rw [if_neg (by { clear hsim ih hr K; simp_all })] at K; exact ih os (by omega) K E a w hsim) | (rw [if_pos (by { clear hsim ih hr K; simp_all })] at K; exact y3x cs ps p n i n2 (IntKind.i64.wrap (j + 1)) os (fun q hq => op_app os (cs.getD j.toNat noCa).o _ rfl q hq) hsim (fun E => ih (os ++ [(cs.getD j.toNat noCa).o]) (by rw [List.length_append]; simp only [List.length_cons, List.length_nil]; omega) (by rw [List.append_assoc]; exact K) E a w))
        · skip
          refine go_head (C0_ok cs ps r os an) rfl rfl (k' := loopAt Tryd.f7 3) (s' := mk 0 145 [(0, .d (.list 10 (cs.length) (caEl cs))), (1, .d (.list 5 (ps.length) (ptEl ps))), (14, .own 0), (16, .ref 1 0), (91, .d (.list 5 (ps.length) (ptEl ps))), (92, .d (.raw (.int .i64 (n)))), (93, .d (.raw (.int .i64 (i)))), (97, .d (.list 10 (cs.length) (caEl cs))), (98, .d (.raw (.int .i64 (n2)))), (99, .d (.raw (.int .i64 (IntKind.i64.wrap (j + (1 : Int))))))] [(0, .row 47 4 (os.length) (opEl os)), (1, .obj 56 [.d (.raw (.int .i64 (p.at'))), .d (.raw (.int .i64 (p.cl))), .d (.raw (.int .i64 (p.n))), .d (.raw (.int .i64 (p.a.fst))), .d (.raw (.string (p.a.snd)))])]) (cs := [_, ((0 : Int) ≤ j ∧ j < (↑cs.length : Int)), _, _]) [true, true, false] [0,1,14,16,91,92,93,97,98,99] (by kernel_rfl) (by kernel_rfl) ⟨hb1, (by omega), hb2, hb3, trivial⟩ hsim fun E a w hsim => ?_
          first | (rw [if_neg (by { clear hsim ih hr K; simp_all })] at K; exact ih os (by omega) K E a w hsim) | (rw [if_pos (by { clear hsim ih hr K; simp_all })] at K; exact y3x cs ps p n i n2 (IntKind.i64.wrap (j + 1)) os (fun q hq => op_app os (cs.getD j.toNat noCa).o _ rfl q hq) hsim (fun E => ih (os ++ [(cs.getD j.toNat noCa).o]) (by rw [List.length_append]; simp only [List.length_cons, List.length_nil]; omega) (by rw [List.append_assoc]; exact K) E a w))
      · skip
        refine go_head (C0_ok cs ps r os an) rfl rfl (k' := loopAt Tryd.f7 3) (s' := mk 0 145 [(0, .d (.list 10 (cs.length) (caEl cs))), (1, .d (.list 5 (ps.length) (ptEl ps))), (14, .own 0), (16, .ref 1 0), (91, .d (.list 5 (ps.length) (ptEl ps))), (92, .d (.raw (.int .i64 (n)))), (93, .d (.raw (.int .i64 (i)))), (97, .d (.list 10 (cs.length) (caEl cs))), (98, .d (.raw (.int .i64 (n2)))), (99, .d (.raw (.int .i64 (IntKind.i64.wrap (j + (1 : Int))))))] [(0, .row 47 4 (os.length) (opEl os)), (1, .obj 56 [.d (.raw (.int .i64 (p.at'))), .d (.raw (.int .i64 (p.cl))), .d (.raw (.int .i64 (p.n))), .d (.raw (.int .i64 (p.a.fst))), .d (.raw (.string (p.a.snd)))])]) (cs := [_, ((0 : Int) ≤ j ∧ j < (↑cs.length : Int)), _]) [true, false] [0,1,14,16,91,92,93,97,98,99] (by kernel_rfl) (by kernel_rfl) ⟨hb1, (by omega), hb2, trivial⟩ hsim fun E a w hsim => ?_
        first | (rw [if_neg (by { clear hsim ih hr K; simp_all })] at K; exact ih os (by omega) K E a w hsim) | (rw [if_pos (by { clear hsim ih hr K; simp_all })] at K; exact y3x cs ps p n i n2 (IntKind.i64.wrap (j + 1)) os (fun q hq => op_app os (cs.getD j.toNat noCa).o _ rfl q hq) hsim (fun E => ih (os ++ [(cs.getD j.toNat noCa).o]) (by rw [List.length_append]; simp only [List.length_cons, List.length_nil]; omega) (by rw [List.append_assoc]; exact K) E a w))
    · skip
      refine go_head (C0_ok cs ps r os an) rfl rfl (k' := loopAt Tryd.f7 2) (s' := mk 0 145 [(0, .d (.list 10 (cs.length) (caEl cs))), (1, .d (.list 5 (ps.length) (ptEl ps))), (14, .own 0), (16, .ref 1 0), (91, .d (.list 5 (ps.length) (ptEl ps))), (92, .d (.raw (.int .i64 (n)))), (93, .d (.raw (.int .i64 (IntKind.i64.wrap (i + (1 : Int)))))), (97, .d (.list 10 (cs.length) (caEl cs))), (98, .d (.raw (.int .i64 (n2)))), (99, .d (.raw (.int .i64 (j))))] [(0, .row 47 4 (os.length) (opEl os)), (1, .obj 56 [.d (.raw (.int .i64 (p.at'))), .d (.raw (.int .i64 (p.cl))), .d (.raw (.int .i64 (p.n))), .d (.raw (.int .i64 (p.a.fst))), .d (.raw (.string (p.a.snd)))])]) (cs := [_]) [false] [0,1,14,16,91,92,93,97,98,99] (by kernel_rfl) (by kernel_rfl) ⟨hb1, trivial⟩ hsim fun E a w hsim => ?_
      exact absurd (of_decide_eq_false hb1) (by omega)
theorem y2 (cs : List Ca) (ps : List Pt) (hO : OrdOK cs ps) (hl : cs.length ≤ 100) (hl2 : ps.length ≤ 100) : ∀ (d : Nat) (n i : Int), n = (ps.length : Int) → 0 ≤ i → i + d = n → ∀ (os : List OpT), os.length ≤ 100 * i.toNat → os ++ allF cs (ps.drop i.toNat) = allF cs ps → GoY w0 N E0 (loopAt Tryd.f7 2) (po3 cs ps os n i) := by
  intro d
  let r : Int × Int × Int := (0, 0, 0)
  induction d with
  | zero =>
    intro n i en h0 hd os ho hos E a w hsim
    rw [List.drop_eq_nil_of_le (by omega)] at hos
    have hos : os = allF cs ps := by rw [← hos]; simp [allF]
    obtain ⟨an, ha⟩ : ∃ an, an = repF T0 os := ⟨_, rfl⟩
    have ha2 : an = ps.map Pt.a := by rw [ha, hos, hO.told]
    have hla : an.length = ps.length := by rw [ha2, List.length_map]
    have hsm : Small os := hos ▸ hO.small
    rcases Bool.eq_false_or_eq_true (decide (i < n)) with hb1 | hb1
    · skip
      refine go_head (C0_ok cs ps r os an) rfl rfl (k' := loopAt Tryd.f7 3) (s' := mk 0 145 [(0, .d (.list 10 (cs.length) (caEl cs))), (1, .d (.list 5 (ps.length) (ptEl ps))), (14, .own 0), (16, .ref 1 0), (91, .d (.list 5 (ps.length) (ptEl ps))), (92, .d (.raw (.int .i64 (n)))), (93, .d (.raw (.int .i64 (i)))), (97, .d (.list 10 (cs.length) (caEl cs))), (98, .d (.raw (.int .i64 ((↑cs.length : Int))))), (99, .d (.raw (.int .i64 ((0 : Int)))))] [(0, .row 47 4 (os.length) (opEl os)), (1, .obj 56 [.d (.raw (.int .i64 ((ps.getD i.toNat noPt).at'))), .d (.raw (.int .i64 ((ps.getD i.toNat noPt).cl))), .d (.raw (.int .i64 ((ps.getD i.toNat noPt).n))), .d (.raw (.int .i64 ((ps.getD i.toNat noPt).a.fst))), .d (.raw (.string ((ps.getD i.toNat noPt).a.snd)))])]) (cs := [_, ((0 : Int) ≤ i ∧ i < (↑ps.length : Int))]) [true] [0,1,14,16,19,91,92,93,97,98,99,129,130,131] (by kernel_rfl) (by kernel_rfl) ⟨hb1, (by exact absurd (of_decide_eq_true hb1) (by omega)), trivial⟩ hsim fun E a w hsim => ?_
      exact absurd (of_decide_eq_true hb1) (by omega)
    · skip
      rcases Bool.eq_false_or_eq_true ((↑an.length : Int) != (↑ps.length : Int)) with hb2 | hb2
      · skip
        exact go_ret (C0_ok cs ps r os an) rfl rfl Tryd.func7 (sr' := ⟨0, [.d (.raw (.bool (false)))], []⟩) (cs := [_, ((4 : Nat) = (4 : Nat)), (os.length = os.length), (opEl os = opEl os), (Small os ∧ os.length ≤ (1099511627776 : Nat) ∧ an = repF T0 os), _]) [false, true] true (by kernel_rfl) (by kernel_rfl) ⟨hb1, (by rfl), (by rfl), (by rfl), (by exact ⟨hsm, by omega, ha⟩), hb2, trivial⟩ (by (exfalso; clear hsim; simp_all; done)) hsim
      · skip
        refine go_head (C0_ok cs ps r os an) rfl rfl (k' := loopAt Tryd.f7 4) (s' := mk 0 145 [(0, .d (.list 10 (cs.length) (caEl cs))), (1, .d (.list 5 (ps.length) (ptEl ps))), (14, .d (.list 4 (os.length) (opEl os))), (19, .d (.list 2 (an.length) (anEl an))), (91, .d (.list 5 (ps.length) (ptEl ps))), (92, .d (.raw (.int .i64 (n)))), (93, .d (.raw (.int .i64 (i)))), (129, .d (.list 5 (ps.length) (ptEl ps))), (130, .d (.raw (.int .i64 ((↑ps.length : Int))))), (131, .d (.raw (.int .i64 ((0 : Int)))))] []) (cs := [_, ((4 : Nat) = (4 : Nat)), (os.length = os.length), (opEl os = opEl os), (Small os ∧ os.length ≤ (1099511627776 : Nat) ∧ an = repF T0 os), _]) [false, false] [0,1,14,16,19,91,92,93,97,98,99,129,130,131] (by kernel_rfl) (by kernel_rfl) ⟨hb1, (by rfl), (by rfl), (by rfl), (by exact ⟨hsm, by omega, ha⟩), hb2, trivial⟩ hsim fun E a w hsim => ?_
        obtain ⟨E2, h1⟩ := hsim.keep [19,129,130,131]
        exact y4 cs ps an ha2 hl2 ps.length (ps.length : Int) 0 rfl (by omega) (by omega) E2 a w ((congrArg (fun s => Sim _ E2 s a w) (by kernel_rfl)).mp h1)
  | succ d ih =>
    intro n i en h0 hd os ho hos E a w hsim
    let an : List An := []
    have hi : i.toNat < ps.length := by omega
    have ew : IntKind.i64.wrap (i + 1) = i + 1 := wrapP (by omega)
    rw [getD_drop (d := noPt) hi] at hos
    have hn := opsF_len (ps.getD i.toNat noPt) cs
    have ih := ih n (IntKind.i64.wrap (i + 1)) en (by rw [ew]; omega) (by rw [ew]; omega) (os ++ opsF (ps.getD i.toNat noPt) cs) (by rw [ew, List.length_append]; omega) (by rw [ew, show (i + 1).toNat = i.toNat + 1 by omega, List.append_assoc]; exact hos)
    rcases Bool.eq_false_or_eq_true (decide (i < n)) with hb1 | hb1
    · skip
      refine go_head (C0_ok cs ps r os an) rfl rfl (k' := loopAt Tryd.f7 3) (s' := mk 0 145 [(0, .d (.list 10 (cs.length) (caEl cs))), (1, .d (.list 5 (ps.length) (ptEl ps))), (14, .own 0), (16, .ref 1 0), (91, .d (.list 5 (ps.length) (ptEl ps))), (92, .d (.raw (.int .i64 (n)))), (93, .d (.raw (.int .i64 (i)))), (97, .d (.list 10 (cs.length) (caEl cs))), (98, .d (.raw (.int .i64 ((↑cs.length : Int))))), (99, .d (.raw (.int .i64 ((0 : Int)))))] [(0, .row 47 4 (os.length) (opEl os)), (1, .obj 56 [.d (.raw (.int .i64 ((ps.getD i.toNat noPt).at'))), .d (.raw (.int .i64 ((ps.getD i.toNat noPt).cl))), .d (.raw (.int .i64 ((ps.getD i.toNat noPt).n))), .d (.raw (.int .i64 ((ps.getD i.toNat noPt).a.fst))), .d (.raw (.string ((ps.getD i.toNat noPt).a.snd)))])]) (cs := [_, ((0 : Int) ≤ i ∧ i < (↑ps.length : Int))]) [true] [0,1,14,16,19,91,92,93,97,98,99,129,130,131] (by kernel_rfl) (by kernel_rfl) ⟨hb1, (by omega), trivial⟩ hsim fun E a w hsim => ?_
      exact y3 cs ps (ps.getD i.toNat noPt) n i hl cs.length (cs.length : Int) 0 rfl (by omega) (by omega) os (by omega) ih E a w hsim
    · skip
      rcases Bool.eq_false_or_eq_true ((↑an.length : Int) != (↑ps.length : Int)) with hb2 | hb2
      · skip
        exact go_ret (C0_ok cs ps r os an) rfl rfl Tryd.func7 (sr' := ⟨0, [.d (.raw (.bool (false)))], []⟩) (cs := [_, ((4 : Nat) = (4 : Nat)), (os.length = os.length), (opEl os = opEl os), (Small os ∧ os.length ≤ (1099511627776 : Nat) ∧ an = repF T0 os), _]) [false, true] true (by kernel_rfl) (by kernel_rfl) ⟨hb1, (by omega), (by omega), (by exact absurd (of_decide_eq_false hb1) (by omega)), (by exact absurd (of_decide_eq_false hb1) (by omega)), hb2, trivial⟩ (by exact absurd (of_decide_eq_false hb1) (by omega)) hsim
      · skip
        refine go_head (C0_ok cs ps r os an) rfl rfl (k' := loopAt Tryd.f7 4) (s' := mk 0 145 [(0, .d (.list 10 (cs.length) (caEl cs))), (1, .d (.list 5 (ps.length) (ptEl ps))), (14, .d (.list 4 (os.length) (opEl os))), (19, .d (.list 2 (an.length) (anEl an))), (91, .d (.list 5 (ps.length) (ptEl ps))), (92, .d (.raw (.int .i64 (n)))), (93, .d (.raw (.int .i64 (i)))), (129, .d (.list 5 (ps.length) (ptEl ps))), (130, .d (.raw (.int .i64 ((↑ps.length : Int))))), (131, .d (.raw (.int .i64 ((0 : Int)))))] []) (cs := [_, ((4 : Nat) = (4 : Nat)), (os.length = os.length), (opEl os = opEl os), (Small os ∧ os.length ≤ (1099511627776 : Nat) ∧ an = repF T0 os), _]) [false, false] [0,1,14,16,19,91,92,93,97,98,99,129,130,131] (by kernel_rfl) (by kernel_rfl) ⟨hb1, (by omega), (by omega), (by exact absurd (of_decide_eq_false hb1) (by omega)), (by exact absurd (of_decide_eq_false hb1) (by omega)), hb2, trivial⟩ hsim fun E a w hsim => ?_
        exact absurd (of_decide_eq_false hb1) (by omega)
theorem y1 (cs : List Ca) (ps : List Pt) (hO : OrdOK cs ps) (hl : cs.length ≤ 100) (hl2 : ps.length ≤ 100) (c : Ca) (hc : c ∈ cs) (k : Int) (hk : k = atF c.cl c.n ps 0) (n i : Int) (K : GoY w0 N E0 (loopAt Tryd.f7 0) (po1 cs ps n (IntKind.i64.wrap (i + 1)))) : ∀ (d : Nat) (n2 j : Int), n2 = (cs.length : Int) → 0 ≤ j → j + d = n2 → GoY w0 N E0 (loopAt Tryd.f7 1) (po2 cs ps c k n i n2 j) := by
  intro d
  let r : Int × Int × Int := (0, 0, 0)
  let an : List An := []
  let os : List OpT := []
  induction d with
  | zero =>
    intro n2 j en h0 hd E a w hsim
    rcases Bool.eq_false_or_eq_true (decide (j < n2)) with hb1 | hb1
    · skip
      rcases Bool.eq_false_or_eq_true (c.to != (-1 : Int)) with hb2 | hb2
      · skip
        rcases Bool.eq_false_or_eq_true (decide (c.to < (cs.getD j.toNat noCa).fr)) with hb3 | hb3
        · skip
          rcases Bool.eq_false_or_eq_true (decide (atF (cs.getD j.toNat noCa).cl (cs.getD j.toNat noCa).n ps (0 : Int) ≥ (0 : Int))) with hb4 | hb4
          · skip
            rcases Bool.eq_false_or_eq_true (decide (atF (cs.getD j.toNat noCa).cl (cs.getD j.toNat noCa).n ps (0 : Int) ≤ k)) with hb5 | hb5
            · skip
              exact go_ret (C0_ok cs ps r os an) rfl rfl Tryd.func7 (sr' := ⟨0, [.d (.raw (.bool (false)))], []⟩) (cs := [_, ((0 : Int) ≤ j ∧ j < (↑cs.length : Int)), ((5 : Nat) = (5 : Nat)), (ps.length = ps.length), (ptEl ps = ptEl ps), (ps.length ≤ (1099511627776 : Nat)), _, _, _, _]) ((List.replicate 5 true)) true (by kernel_rfl) (by kernel_rfl) ⟨hb1, (by exact absurd (of_decide_eq_true hb1) (by omega)), (by exact absurd (of_decide_eq_true hb1) (by omega)), (by exact absurd (of_decide_eq_true hb1) (by omega)), (by exact absurd (of_decide_eq_true hb1) (by omega)), (by exact absurd (of_decide_eq_true hb1) (by omega)), hb2, hb3, hb4, hb5, trivial⟩ (by exact absurd (of_decide_eq_true hb1) (by omega)) hsim
            · skip
              refine go_head (C0_ok cs ps r os an) rfl rfl (k' := loopAt Tryd.f7 1) (s' := mk 0 145 [(0, .d (.list 10 (cs.length) (caEl cs))), (1, .d (.list 5 (ps.length) (ptEl ps))), (9, .ref 0 0), (10, .d (.raw (.int .i64 (k)))), (45, .d (.list 10 (cs.length) (caEl cs))), (46, .d (.raw (.int .i64 (n)))), (47, .d (.raw (.int .i64 (i)))), (61, .d (.list 10 (cs.length) (caEl cs))), (62, .d (.raw (.int .i64 (n2)))), (63, .d (.raw (.int .i64 (IntKind.i64.wrap (j + (1 : Int))))))] [(0, .obj 51 [.d (.raw (.int .i64 (c.cl))), .d (.raw (.int .i64 (c.n))), .d (.raw (.int .i64 (c.o.fst))), .d (.raw (.string (c.o.snd.fst))), .d (.raw (.string (c.o.snd.snd.fst))), .d (.raw (.string (c.o.snd.snd.snd))), .d (.raw (.int .i64 (c.fr))), .d (.raw (.int .i64 (c.to))), .d (.raw (.int .i64 (c.a.fst))), .d (.raw (.string (c.a.snd)))])]) (cs := [_, ((0 : Int) ≤ j ∧ j < (↑cs.length : Int)), ((5 : Nat) = (5 : Nat)), (ps.length = ps.length), (ptEl ps = ptEl ps), (ps.length ≤ (1099511627776 : Nat)), _, _, _, _]) ((List.replicate 4 true) ++ [false]) [0,1,9,10,45,46,47,61,62,63] (by kernel_rfl) (by kernel_rfl) ⟨hb1, (by exact absurd (of_decide_eq_true hb1) (by omega)), (by exact absurd (of_decide_eq_true hb1) (by omega)), (by exact absurd (of_decide_eq_true hb1) (by omega)), (by exact absurd (of_decide_eq_true hb1) (by omega)), (by exact absurd (of_decide_eq_true hb1) (by omega)), hb2, hb3, hb4, hb5, trivial⟩ hsim fun E a w hsim => ?_
              exact absurd (of_decide_eq_true hb1) (by omega)
          · skip
            refine go_head (C0_ok cs ps r os an) rfl rfl (k' := loopAt Tryd.f7 1) (s' := mk 0 145 [(0, .d (.list 10 (cs.length) (caEl cs))), (1, .d (.list 5 (ps.length) (ptEl ps))), (9, .ref 0 0), (10, .d (.raw (.int .i64 (k)))), (45, .d (.list 10 (cs.length) (caEl cs))), (46, .d (.raw (.int .i64 (n)))), (47, .d (.raw (.int .i64 (i)))), (61, .d (.list 10 (cs.length) (caEl cs))), (62, .d (.raw (.int .i64 (n2)))), (63, .d (.raw (.int .i64 (IntKind.i64.wrap (j + (1 : Int))))))] [(0, .obj 51 [.d (.raw (.int .i64 (c.cl))), .d (.raw (.int .i64 (c.n))), .d (.raw (.int .i64 (c.o.fst))), .d (.raw (.string (c.o.snd.fst))), .d (.raw (.string (c.o.snd.snd.fst))), .d (.raw (.string (c.o.snd.snd.snd))), .d (.raw (.int .i64 (c.fr))), .d (.raw (.int .i64 (c.to))), .d (.raw (.int .i64 (c.a.fst))), .d (.raw (.string (c.a.snd)))])]) (cs := [_, ((0 : Int) ≤ j ∧ j < (↑cs.length : Int)), ((5 : Nat) = (5 : Nat)), (ps.length = ps.length), (ptEl ps = ptEl ps), (ps.length ≤ (1099511627776 : Nat)), _, _, _]) [true, true, true, false] [0,1,9,10,45,46,47,61,62,63] (by kernel_rfl) (by kernel_rfl) ⟨hb1, (by exact absurd (of_decide_eq_true hb1) (by omega)), (by exact absurd (of_decide_eq_true hb1) (by omega)), (by exact absurd (of_decide_eq_true hb1) (by omega)), (by exact absurd (of_decide_eq_true hb1) (by omega)), (by exact absurd (of_decide_eq_true hb1) (by omega)), hb2, hb3, hb4, trivial⟩ hsim fun E a w hsim => ?_
            exact absurd (of_decide_eq_true hb1) (by omega)
        · skip
          refine go_head (C0_ok cs ps r os an) rfl rfl (k' := loopAt Tryd.f7 1) (s' := mk 0 145 [(0, .d (.list 10 (cs.length) (caEl cs))), (1, .d (.list 5 (ps.length) (ptEl ps))), (9, .ref 0 0), (10, .d (.raw (.int .i64 (k)))), (45, .d (.list 10 (cs.length) (caEl cs))), (46, .d (.raw (.int .i64 (n)))), (47, .d (.raw (.int .i64 (i)))), (61, .d (.list 10 (cs.length) (caEl cs))), (62, .d (.raw (.int .i64 (n2)))), (63, .d (.raw (.int .i64 (IntKind.i64.wrap (j + (1 : Int))))))] [(0, .obj 51 [.d (.raw (.int .i64 (c.cl))), .d (.raw (.int .i64 (c.n))), .d (.raw (.int .i64 (c.o.fst))), .d (.raw (.string (c.o.snd.fst))), .d (.raw (.string (c.o.snd.snd.fst))), .d (.raw (.string (c.o.snd.snd.snd))), .d (.raw (.int .i64 (c.fr))), .d (.raw (.int .i64 (c.to))), .d (.raw (.int .i64 (c.a.fst))), .d (.raw (.string (c.a.snd)))])]) (cs := [_, ((0 : Int) ≤ j ∧ j < (↑cs.length : Int)), ((5 : Nat) = (5 : Nat)), (ps.length = ps.length), (ptEl ps = ptEl ps), (ps.length ≤ (1099511627776 : Nat)), _, _]) [true, true, false] [0,1,9,10,45,46,47,61,62,63] (by kernel_rfl) (by kernel_rfl) ⟨hb1, (by exact absurd (of_decide_eq_true hb1) (by omega)), (by exact absurd (of_decide_eq_true hb1) (by omega)), (by exact absurd (of_decide_eq_true hb1) (by omega)), (by exact absurd (of_decide_eq_true hb1) (by omega)), (by exact absurd (of_decide_eq_true hb1) (by omega)), hb2, hb3, trivial⟩ hsim fun E a w hsim => ?_
          exact absurd (of_decide_eq_true hb1) (by omega)
      · skip
        refine go_head (C0_ok cs ps r os an) rfl rfl (k' := loopAt Tryd.f7 1) (s' := mk 0 145 [(0, .d (.list 10 (cs.length) (caEl cs))), (1, .d (.list 5 (ps.length) (ptEl ps))), (9, .ref 0 0), (10, .d (.raw (.int .i64 (k)))), (45, .d (.list 10 (cs.length) (caEl cs))), (46, .d (.raw (.int .i64 (n)))), (47, .d (.raw (.int .i64 (i)))), (61, .d (.list 10 (cs.length) (caEl cs))), (62, .d (.raw (.int .i64 (n2)))), (63, .d (.raw (.int .i64 (IntKind.i64.wrap (j + (1 : Int))))))] [(0, .obj 51 [.d (.raw (.int .i64 (c.cl))), .d (.raw (.int .i64 (c.n))), .d (.raw (.int .i64 (c.o.fst))), .d (.raw (.string (c.o.snd.fst))), .d (.raw (.string (c.o.snd.snd.fst))), .d (.raw (.string (c.o.snd.snd.snd))), .d (.raw (.int .i64 (c.fr))), .d (.raw (.int .i64 (c.to))), .d (.raw (.int .i64 (c.a.fst))), .d (.raw (.string (c.a.snd)))])]) (cs := [_, ((0 : Int) ≤ j ∧ j < (↑cs.length : Int)), ((5 : Nat) = (5 : Nat)), (ps.length = ps.length), (ptEl ps = ptEl ps), (ps.length ≤ (1099511627776 : Nat)), _]) [true, false] [0,1,9,10,45,46,47,61,62,63] (by kernel_rfl) (by kernel_rfl) ⟨hb1, (by exact absurd (of_decide_eq_true hb1) (by omega)), (by exact absurd (of_decide_eq_true hb1) (by omega)), (by exact absurd (of_decide_eq_true hb1) (by omega)), (by exact absurd (of_decide_eq_true hb1) (by omega)), (by exact absurd (of_decide_eq_true hb1) (by omega)), hb2, trivial⟩ hsim fun E a w hsim => ?_
        exact absurd (of_decide_eq_true hb1) (by omega)
    · skip
      refine go_head (C0_ok cs ps r os an) rfl rfl (k' := loopAt Tryd.f7 0) (s' := mk 0 145 [(0, .d (.list 10 (cs.length) (caEl cs))), (1, .d (.list 5 (ps.length) (ptEl ps))), (9, .ref 0 0), (10, .d (.raw (.int .i64 (k)))), (45, .d (.list 10 (cs.length) (caEl cs))), (46, .d (.raw (.int .i64 (n)))), (47, .d (.raw (.int .i64 (IntKind.i64.wrap (i + (1 : Int)))))), (61, .d (.list 10 (cs.length) (caEl cs))), (62, .d (.raw (.int .i64 (n2)))), (63, .d (.raw (.int .i64 (j))))] [(0, .obj 51 [.d (.raw (.int .i64 (c.cl))), .d (.raw (.int .i64 (c.n))), .d (.raw (.int .i64 (c.o.fst))), .d (.raw (.string (c.o.snd.fst))), .d (.raw (.string (c.o.snd.snd.fst))), .d (.raw (.string (c.o.snd.snd.snd))), .d (.raw (.int .i64 (c.fr))), .d (.raw (.int .i64 (c.to))), .d (.raw (.int .i64 (c.a.fst))), .d (.raw (.string (c.a.snd)))])]) (cs := [_]) [false] [0,1,9,10,45,46,47,61,62,63] (by kernel_rfl) (by kernel_rfl) ⟨hb1, trivial⟩ hsim fun E a w hsim => ?_
      obtain ⟨E2, h1⟩ := hsim.keep [0,1,45,46,47]
      exact K E2 a w ((congrArg (fun s => Sim _ E2 s a w) (by kernel_rfl)).mp h1)
  | succ d ih =>
    intro n2 j en h0 hd E a w hsim
    have hi : j.toNat < cs.length := by omega
    have ew : IntKind.i64.wrap (j + 1) = j + 1 := wrapP (by omega)
    have ih := ih n2 (IntKind.i64.wrap (j + 1)) en (by rw [ew]; omega) (by rw [ew]; omega)
    have hah := hO.ahead c hc _ (getD_mem (d := noCa) hi)
    rcases Bool.eq_false_or_eq_true (decide (j < n2)) with hb1 | hb1
    · skip
      rcases Bool.eq_false_or_eq_true (c.to != (-1 : Int)) with hb2 | hb2
      · skip
        rcases Bool.eq_false_or_eq_true (decide (c.to < (cs.getD j.toNat noCa).fr)) with hb3 | hb3
        · skip
          rcases Bool.eq_false_or_eq_true (decide (atF (cs.getD j.toNat noCa).cl (cs.getD j.toNat noCa).n ps (0 : Int) ≥ (0 : Int))) with hb4 | hb4
          · skip
            rcases Bool.eq_false_or_eq_true (decide (atF (cs.getD j.toNat noCa).cl (cs.getD j.toNat noCa).n ps (0 : Int) ≤ k)) with hb5 | hb5
            · skip
              exact go_ret (C0_ok cs ps r os an) rfl rfl Tryd.func7 (sr' := ⟨0, [.d (.raw (.bool (false)))], []⟩) (cs := [_, ((0 : Int) ≤ j ∧ j < (↑cs.length : Int)), ((5 : Nat) = (5 : Nat)), (ps.length = ps.length), (ptEl ps = ptEl ps), (ps.length ≤ (1099511627776 : Nat)), _, _, _, _]) ((List.replicate 5 true)) true (by kernel_rfl) (by kernel_rfl) ⟨hb1, (by omega), (by omega), (by omega), (by rfl), (by omega), hb2, hb3, hb4, hb5, trivial⟩ (by (exfalso; clear hsim ih; have g2 := of_decide_eq_true hb3; have g3 := of_decide_eq_true hb4; have g4 := of_decide_eq_true hb5; exact hah (by simpa using hb2) g2 g3 (by rw [← hk]; exact g4))) hsim
            · skip
              refine go_head (C0_ok cs ps r os an) rfl rfl (k' := loopAt Tryd.f7 1) (s' := mk 0 145 [(0, .d (.list 10 (cs.length) (caEl cs))), (1, .d (.list 5 (ps.length) (ptEl ps))), (9, .ref 0 0), (10, .d (.raw (.int .i64 (k)))), (45, .d (.list 10 (cs.length) (caEl cs))), (46, .d (.raw (.int .i64 (n)))), (47, .d (.raw (.int .i64 (i)))), (61, .d (.list 10 (cs.length) (caEl cs))), (62, .d (.raw (.int .i64 (n2)))), (63, .d (.raw (.int .i64 (IntKind.i64.wrap (j + (1 : Int))))))] [(0, .obj 51 [.d (.raw (.int .i64 (c.cl))), .d (.raw (.int .i64 (c.n))), .d (.raw (.int .i64 (c.o.fst))), .d (.raw (.string (c.o.snd.fst))), .d (.raw (.string (c.o.snd.snd.fst))), .d (.raw (.string (c.o.snd.snd.snd))), .d (.raw (.int .i64 (c.fr))), .d (.raw (.int .i64 (c.to))), .d (.raw (.int .i64 (c.a.fst))), .d (.raw (.string (c.a.snd)))])]) (cs := [_, ((0 : Int) ≤ j ∧ j < (↑cs.length : Int)), ((5 : Nat) = (5 : Nat)), (ps.length = ps.length), (ptEl ps = ptEl ps), (ps.length ≤ (1099511627776 : Nat)), _, _, _, _]) ((List.replicate 4 true) ++ [false]) [0,1,9,10,45,46,47,61,62,63] (by kernel_rfl) (by kernel_rfl) ⟨hb1, (by omega), (by omega), (by omega), (by rfl), (by omega), hb2, hb3, hb4, hb5, trivial⟩ hsim fun E a w hsim => ?_
              exact ih E a w hsim
          · skip
            refine go_head (C0_ok cs ps r os an) rfl rfl (k' := loopAt Tryd.f7 1) (s' := mk 0 145 [(0, .d (.list 10 (cs.length) (caEl cs))), (1, .d (.list 5 (ps.length) (ptEl ps))), (9, .ref 0 0), (10, .d (.raw (.int .i64 (k)))), (45, .d (.list 10 (cs.length) (caEl cs))), (46, .d (.raw (.int .i64 (n)))), (47, .d (.raw (.int .i64 (i)))), (61, .d (.list 10 (cs.length) (caEl cs))), (62, .d (.raw (.int .i64 (n2)))), (63, .d (.raw (.int .i64 (IntKind.i64.wrap (j + (1 : Int))))))] [(0, .obj 51 [.d (.raw (.int .i64 (c.cl))), .d (.raw (.int .i64 (c.n))), .d (.raw (.int .i64 (c.o.fst))), .d (.raw (.string (c.o.snd.fst))), .d (.raw (.string (c.o.snd.snd.fst))), .d (.raw (.string (c.o.snd.snd.snd))), .d (.raw (.int .i64 (c.fr))), .d (.raw (.int .i64 (c.to))), .d (.raw (.int .i64 (c.a.fst))), .d (.raw (.string (c.a.snd)))])]) (cs := [_, ((0 : Int) ≤ j ∧ j < (↑cs.length : Int)), ((5 : Nat) = (5 : Nat)), (ps.length = ps.length), (ptEl ps = ptEl ps), (ps.length ≤ (1099511627776 : Nat)), _, _, _]) [true, true, true, false] [0,1,9,10,45,46,47,61,62,63] (by kernel_rfl) (by kernel_rfl) ⟨hb1, (by omega), (by omega), (by omega), (by rfl), (by omega), hb2, hb3, hb4, trivial⟩ hsim fun E a w hsim => ?_
            exact ih E a w hsim
        · skip
          refine go_head (C0_ok cs ps r os an) rfl rfl (k' := loopAt Tryd.f7 1) (s' := mk 0 145 [(0, .d (.list 10 (cs.length) (caEl cs))), (1, .d (.list 5 (ps.length) (ptEl ps))), (9, .ref 0 0), (10, .d (.raw (.int .i64 (k)))), (45, .d (.list 10 (cs.length) (caEl cs))), (46, .d (.raw (.int .i64 (n)))), (47, .d (.raw (.int .i64 (i)))), (61, .d (.list 10 (cs.length) (caEl cs))), (62, .d (.raw (.int .i64 (n2)))), (63, .d (.raw (.int .i64 (IntKind.i64.wrap (j + (1 : Int))))))] [(0, .obj 51 [.d (.raw (.int .i64 (c.cl))), .d (.raw (.int .i64 (c.n))), .d (.raw (.int .i64 (c.o.fst))), .d (.raw (.string (c.o.snd.fst))), .d (.raw (.string (c.o.snd.snd.fst))), .d (.raw (.string (c.o.snd.snd.snd))), .d (.raw (.int .i64 (c.fr))), .d (.raw (.int .i64 (c.to))), .d (.raw (.int .i64 (c.a.fst))), .d (.raw (.string (c.a.snd)))])]) (cs := [_, ((0 : Int) ≤ j ∧ j < (↑cs.length : Int)), ((5 : Nat) = (5 : Nat)), (ps.length = ps.length), (ptEl ps = ptEl ps), (ps.length ≤ (1099511627776 : Nat)), _, _]) [true, true, false] [0,1,9,10,45,46,47,61,62,63] (by kernel_rfl) (by kernel_rfl) ⟨hb1, (by omega), (by omega), (by omega), (by rfl), (by omega), hb2, hb3, trivial⟩ hsim fun E a w hsim => ?_
          exact ih E a w hsim
      · skip
        refine go_head (C0_ok cs ps r os an) rfl rfl (k' := loopAt Tryd.f7 1) (s' := mk 0 145 [(0, .d (.list 10 (cs.length) (caEl cs))), (1, .d (.list 5 (ps.length) (ptEl ps))), (9, .ref 0 0), (10, .d (.raw (.int .i64 (k)))), (45, .d (.list 10 (cs.length) (caEl cs))), (46, .d (.raw (.int .i64 (n)))), (47, .d (.raw (.int .i64 (i)))), (61, .d (.list 10 (cs.length) (caEl cs))), (62, .d (.raw (.int .i64 (n2)))), (63, .d (.raw (.int .i64 (IntKind.i64.wrap (j + (1 : Int))))))] [(0, .obj 51 [.d (.raw (.int .i64 (c.cl))), .d (.raw (.int .i64 (c.n))), .d (.raw (.int .i64 (c.o.fst))), .d (.raw (.string (c.o.snd.fst))), .d (.raw (.string (c.o.snd.snd.fst))), .d (.raw (.string (c.o.snd.snd.snd))), .d (.raw (.int .i64 (c.fr))), .d (.raw (.int .i64 (c.to))), .d (.raw (.int .i64 (c.a.fst))), .d (.raw (.string (c.a.snd)))])]) (cs := [_, ((0 : Int) ≤ j ∧ j < (↑cs.length : Int)), ((5 : Nat) = (5 : Nat)), (ps.length = ps.length), (ptEl ps = ptEl ps), (ps.length ≤ (1099511627776 : Nat)), _]) [true, false] [0,1,9,10,45,46,47,61,62,63] (by kernel_rfl) (by kernel_rfl) ⟨hb1, (by omega), (by omega), (by omega), (by rfl), (by omega), hb2, trivial⟩ hsim fun E a w hsim => ?_
        exact ih E a w hsim
    · skip
      refine go_head (C0_ok cs ps r os an) rfl rfl (k' := loopAt Tryd.f7 0) (s' := mk 0 145 [(0, .d (.list 10 (cs.length) (caEl cs))), (1, .d (.list 5 (ps.length) (ptEl ps))), (9, .ref 0 0), (10, .d (.raw (.int .i64 (k)))), (45, .d (.list 10 (cs.length) (caEl cs))), (46, .d (.raw (.int .i64 (n)))), (47, .d (.raw (.int .i64 (IntKind.i64.wrap (i + (1 : Int)))))), (61, .d (.list 10 (cs.length) (caEl cs))), (62, .d (.raw (.int .i64 (n2)))), (63, .d (.raw (.int .i64 (j))))] [(0, .obj 51 [.d (.raw (.int .i64 (c.cl))), .d (.raw (.int .i64 (c.n))), .d (.raw (.int .i64 (c.o.fst))), .d (.raw (.string (c.o.snd.fst))), .d (.raw (.string (c.o.snd.snd.fst))), .d (.raw (.string (c.o.snd.snd.snd))), .d (.raw (.int .i64 (c.fr))), .d (.raw (.int .i64 (c.to))), .d (.raw (.int .i64 (c.a.fst))), .d (.raw (.string (c.a.snd)))])]) (cs := [_]) [false] [0,1,9,10,45,46,47,61,62,63] (by kernel_rfl) (by kernel_rfl) ⟨hb1, trivial⟩ hsim fun E a w hsim => ?_
      exact absurd (of_decide_eq_false hb1) (by omega)
theorem y0 (cs : List Ca) (ps : List Pt) (hO : OrdOK cs ps) (hl : cs.length ≤ 100) (hl2 : ps.length ≤ 100) : ∀ (d : Nat) (n i : Int), n = (cs.length : Int) → 0 ≤ i → i + d = n → GoY w0 N E0 (loopAt Tryd.f7 0) (po1 cs ps n i) := by
  intro d
  let r : Int × Int × Int := (0, 0, 0)
  let an : List An := []
  let os : List OpT := []
  induction d with
  | zero =>
    intro n i en h0 hd E a w hsim
    rcases Bool.eq_false_or_eq_true (decide (i < n)) with hb1 | hb1
    · skip
      rcases Bool.eq_false_or_eq_true ((cs.getD i.toNat noCa).to != (-1 : Int)) with hb2 | hb2
      · skip
        rcases Bool.eq_false_or_eq_true (decide (atF (cs.getD i.toNat noCa).cl (cs.getD i.toNat noCa).n ps (0 : Int) < (0 : Int))) with hb3 | hb3
        · skip
          exact go_ret (C0_ok cs ps r os an) rfl rfl Tryd.func7 (sr' := ⟨0, [.d (.raw (.bool (false)))], []⟩) (cs := [_, ((0 : Int) ≤ i ∧ i < (↑cs.length : Int)), ((5 : Nat) = (5 : Nat)), (ps.length = ps.length), (ptEl ps = ptEl ps), (ps.length ≤ (1099511627776 : Nat)), _, _]) [true, true, true] true (by kernel_rfl) (by kernel_rfl) ⟨hb1, (by exact absurd (of_decide_eq_true hb1) (by omega)), (by exact absurd (of_decide_eq_true hb1) (by omega)), (by exact absurd (of_decide_eq_true hb1) (by omega)), (by exact absurd (of_decide_eq_true hb1) (by omega)), (by exact absurd (of_decide_eq_true hb1) (by omega)), hb2, hb3, trivial⟩ (by exact absurd (of_decide_eq_true hb1) (by omega)) hsim
        · skip
          refine go_head (C0_ok cs ps r os an) rfl rfl (k' := loopAt Tryd.f7 1) (s' := mk 0 145 [(0, .d (.list 10 (cs.length) (caEl cs))), (1, .d (.list 5 (ps.length) (ptEl ps))), (9, .ref 0 0), (10, .d (.raw (.int .i64 (atF (cs.getD i.toNat noCa).cl (cs.getD i.toNat noCa).n ps (0 : Int))))), (45, .d (.list 10 (cs.length) (caEl cs))), (46, .d (.raw (.int .i64 (n)))), (47, .d (.raw (.int .i64 (i)))), (61, .d (.list 10 (cs.length) (caEl cs))), (62, .d (.raw (.int .i64 ((↑cs.length : Int))))), (63, .d (.raw (.int .i64 ((0 : Int)))))] [(0, .obj 51 [.d (.raw (.int .i64 ((cs.getD i.toNat noCa).cl))), .d (.raw (.int .i64 ((cs.getD i.toNat noCa).n))), .d (.raw (.int .i64 ((cs.getD i.toNat noCa).o.fst))), .d (.raw (.string ((cs.getD i.toNat noCa).o.snd.fst))), .d (.raw (.string ((cs.getD i.toNat noCa).o.snd.snd.fst))), .d (.raw (.string ((cs.getD i.toNat noCa).o.snd.snd.snd))), .d (.raw (.int .i64 ((cs.getD i.toNat noCa).fr))), .d (.raw (.int .i64 ((cs.getD i.toNat noCa).to))), .d (.raw (.int .i64 ((cs.getD i.toNat noCa).a.fst))), .d (.raw (.string ((cs.getD i.toNat noCa).a.snd)))])]) (cs := [_, ((0 : Int) ≤ i ∧ i < (↑cs.length : Int)), ((5 : Nat) = (5 : Nat)), (ps.length = ps.length), (ptEl ps = ptEl ps), (ps.length ≤ (1099511627776 : Nat)), _, _]) [true, true, false] [0,1,9,10,14,45,46,47,61,62,63,91,92,93] (by kernel_rfl) (by kernel_rfl) ⟨hb1, (by exact absurd (of_decide_eq_true hb1) (by omega)), (by exact absurd (of_decide_eq_true hb1) (by omega)), (by exact absurd (of_decide_eq_true hb1) (by omega)), (by exact absurd (of_decide_eq_true hb1) (by omega)), (by exact absurd (of_decide_eq_true hb1) (by omega)), hb2, hb3, trivial⟩ hsim fun E a w hsim => ?_
          exact absurd (of_decide_eq_true hb1) (by omega)
      · skip
        refine go_head (C0_ok cs ps r os an) rfl rfl (k' := loopAt Tryd.f7 1) (s' := mk 0 145 [(0, .d (.list 10 (cs.length) (caEl cs))), (1, .d (.list 5 (ps.length) (ptEl ps))), (9, .ref 0 0), (10, .d (.raw (.int .i64 (atF (cs.getD i.toNat noCa).cl (cs.getD i.toNat noCa).n ps (0 : Int))))), (45, .d (.list 10 (cs.length) (caEl cs))), (46, .d (.raw (.int .i64 (n)))), (47, .d (.raw (.int .i64 (i)))), (61, .d (.list 10 (cs.length) (caEl cs))), (62, .d (.raw (.int .i64 ((↑cs.length : Int))))), (63, .d (.raw (.int .i64 ((0 : Int)))))] [(0, .obj 51 [.d (.raw (.int .i64 ((cs.getD i.toNat noCa).cl))), .d (.raw (.int .i64 ((cs.getD i.toNat noCa).n))), .d (.raw (.int .i64 ((cs.getD i.toNat noCa).o.fst))), .d (.raw (.string ((cs.getD i.toNat noCa).o.snd.fst))), .d (.raw (.string ((cs.getD i.toNat noCa).o.snd.snd.fst))), .d (.raw (.string ((cs.getD i.toNat noCa).o.snd.snd.snd))), .d (.raw (.int .i64 ((cs.getD i.toNat noCa).fr))), .d (.raw (.int .i64 ((cs.getD i.toNat noCa).to))), .d (.raw (.int .i64 ((cs.getD i.toNat noCa).a.fst))), .d (.raw (.string ((cs.getD i.toNat noCa).a.snd)))])]) (cs := [_, ((0 : Int) ≤ i ∧ i < (↑cs.length : Int)), ((5 : Nat) = (5 : Nat)), (ps.length = ps.length), (ptEl ps = ptEl ps), (ps.length ≤ (1099511627776 : Nat)), _]) [true, false] [0,1,9,10,14,45,46,47,61,62,63,91,92,93] (by kernel_rfl) (by kernel_rfl) ⟨hb1, (by exact absurd (of_decide_eq_true hb1) (by omega)), (by exact absurd (of_decide_eq_true hb1) (by omega)), (by exact absurd (of_decide_eq_true hb1) (by omega)), (by exact absurd (of_decide_eq_true hb1) (by omega)), (by exact absurd (of_decide_eq_true hb1) (by omega)), hb2, trivial⟩ hsim fun E a w hsim => ?_
        exact absurd (of_decide_eq_true hb1) (by omega)
    · skip
      refine go_head (C0_ok cs ps r os an) rfl rfl (k' := loopAt Tryd.f7 2) (s' := mk 0 145 [(0, .d (.list 10 (cs.length) (caEl cs))), (1, .d (.list 5 (ps.length) (ptEl ps))), (14, .d (.raw (Value.slice none (0 : Nat) (0 : Nat)))), (45, .d (.list 10 (cs.length) (caEl cs))), (46, .d (.raw (.int .i64 (n)))), (47, .d (.raw (.int .i64 (i)))), (91, .d (.list 5 (ps.length) (ptEl ps))), (92, .d (.raw (.int .i64 ((↑ps.length : Int))))), (93, .d (.raw (.int .i64 ((0 : Int)))))] []) (cs := [_]) [false] [0,1,9,10,14,45,46,47,61,62,63,91,92,93] (by kernel_rfl) (by kernel_rfl) ⟨hb1, trivial⟩ hsim fun E a w hsim => ?_
      obtain ⟨E1, h0⟩ := hsim.nilRow (t := 14) rfl 47 4 (opEl [])
      obtain ⟨E2, h1⟩ := h0.keep [0,1,14,91,92,93]
      exact y2 cs ps hO hl hl2 ps.length (ps.length : Int) 0 rfl (by omega) (by omega) [] (by simp) rfl E2 a w ((congrArg (fun s => Sim _ E2 s a w) (by kernel_rfl)).mp h1)
  | succ d ih =>
    intro n i en h0 hd E a w hsim
    have hi : i.toNat < cs.length := by omega
    have ew : IntKind.i64.wrap (i + 1) = i + 1 := wrapP (by omega)
    have ih := ih n (IntKind.i64.wrap (i + 1)) en (by rw [ew]; omega) (by rw [ew]; omega)
    have hso := hO.some _ (getD_mem (d := noCa) hi)
    rcases Bool.eq_false_or_eq_true (decide (i < n)) with hb1 | hb1
    · skip
      rcases Bool.eq_false_or_eq_true ((cs.getD i.toNat noCa).to != (-1 : Int)) with hb2 | hb2
      · skip
        rcases Bool.eq_false_or_eq_true (decide (atF (cs.getD i.toNat noCa).cl (cs.getD i.toNat noCa).n ps (0 : Int) < (0 : Int))) with hb3 | hb3
        · skip
          exact go_ret (C0_ok cs ps r os an) rfl rfl Tryd.func7 (sr' := ⟨0, [.d (.raw (.bool (false)))], []⟩) (cs := [_, ((0 : Int) ≤ i ∧ i < (↑cs.length : Int)), ((5 : Nat) = (5 : Nat)), (ps.length = ps.length), (ptEl ps = ptEl ps), (ps.length ≤ (1099511627776 : Nat)), _, _]) [true, true, true] true (by kernel_rfl) (by kernel_rfl) ⟨hb1, (by omega), (by omega), (by omega), (by rfl), (by omega), hb2, hb3, trivial⟩ (by (exfalso; clear hsim ih; have g2 := of_decide_eq_true hb3; have g3 := hso (by simpa using hb2); omega)) hsim
        · skip
          refine go_head (C0_ok cs ps r os an) rfl rfl (k' := loopAt Tryd.f7 1) (s' := mk 0 145 [(0, .d (.list 10 (cs.length) (caEl cs))), (1, .d (.list 5 (ps.length) (ptEl ps))), (9, .ref 0 0), (10, .d (.raw (.int .i64 (atF (cs.getD i.toNat noCa).cl (cs.getD i.toNat noCa).n ps (0 : Int))))), (45, .d (.list 10 (cs.length) (caEl cs))), (46, .d (.raw (.int .i64 (n)))), (47, .d (.raw (.int .i64 (i)))), (61, .d (.list 10 (cs.length) (caEl cs))), (62, .d (.raw (.int .i64 ((↑cs.length : Int))))), (63, .d (.raw (.int .i64 ((0 : Int)))))] [(0, .obj 51 [.d (.raw (.int .i64 ((cs.getD i.toNat noCa).cl))), .d (.raw (.int .i64 ((cs.getD i.toNat noCa).n))), .d (.raw (.int .i64 ((cs.getD i.toNat noCa).o.fst))), .d (.raw (.string ((cs.getD i.toNat noCa).o.snd.fst))), .d (.raw (.string ((cs.getD i.toNat noCa).o.snd.snd.fst))), .d (.raw (.string ((cs.getD i.toNat noCa).o.snd.snd.snd))), .d (.raw (.int .i64 ((cs.getD i.toNat noCa).fr))), .d (.raw (.int .i64 ((cs.getD i.toNat noCa).to))), .d (.raw (.int .i64 ((cs.getD i.toNat noCa).a.fst))), .d (.raw (.string ((cs.getD i.toNat noCa).a.snd)))])]) (cs := [_, ((0 : Int) ≤ i ∧ i < (↑cs.length : Int)), ((5 : Nat) = (5 : Nat)), (ps.length = ps.length), (ptEl ps = ptEl ps), (ps.length ≤ (1099511627776 : Nat)), _, _]) [true, true, false] [0,1,9,10,14,45,46,47,61,62,63,91,92,93] (by kernel_rfl) (by kernel_rfl) ⟨hb1, (by omega), (by omega), (by omega), (by rfl), (by omega), hb2, hb3, trivial⟩ hsim fun E a w hsim => ?_
          exact y1 cs ps hO hl hl2 _ (getD_mem (d := noCa) hi) _ rfl n i ih cs.length (cs.length : Int) 0 rfl (by omega) (by omega) E a w hsim
      · skip
        refine go_head (C0_ok cs ps r os an) rfl rfl (k' := loopAt Tryd.f7 1) (s' := mk 0 145 [(0, .d (.list 10 (cs.length) (caEl cs))), (1, .d (.list 5 (ps.length) (ptEl ps))), (9, .ref 0 0), (10, .d (.raw (.int .i64 (atF (cs.getD i.toNat noCa).cl (cs.getD i.toNat noCa).n ps (0 : Int))))), (45, .d (.list 10 (cs.length) (caEl cs))), (46, .d (.raw (.int .i64 (n)))), (47, .d (.raw (.int .i64 (i)))), (61, .d (.list 10 (cs.length) (caEl cs))), (62, .d (.raw (.int .i64 ((↑cs.length : Int))))), (63, .d (.raw (.int .i64 ((0 : Int)))))] [(0, .obj 51 [.d (.raw (.int .i64 ((cs.getD i.toNat noCa).cl))), .d (.raw (.int .i64 ((cs.getD i.toNat noCa).n))), .d (.raw (.int .i64 ((cs.getD i.toNat noCa).o.fst))), .d (.raw (.string ((cs.getD i.toNat noCa).o.snd.fst))), .d (.raw (.string ((cs.getD i.toNat noCa).o.snd.snd.fst))), .d (.raw (.string ((cs.getD i.toNat noCa).o.snd.snd.snd))), .d (.raw (.int .i64 ((cs.getD i.toNat noCa).fr))), .d (.raw (.int .i64 ((cs.getD i.toNat noCa).to))), .d (.raw (.int .i64 ((cs.getD i.toNat noCa).a.fst))), .d (.raw (.string ((cs.getD i.toNat noCa).a.snd)))])]) (cs := [_, ((0 : Int) ≤ i ∧ i < (↑cs.length : Int)), ((5 : Nat) = (5 : Nat)), (ps.length = ps.length), (ptEl ps = ptEl ps), (ps.length ≤ (1099511627776 : Nat)), _]) [true, false] [0,1,9,10,14,45,46,47,61,62,63,91,92,93] (by kernel_rfl) (by kernel_rfl) ⟨hb1, (by omega), (by omega), (by omega), (by rfl), (by omega), hb2, trivial⟩ hsim fun E a w hsim => ?_
        exact y1 cs ps hO hl hl2 _ (getD_mem (d := noCa) hi) _ rfl n i ih cs.length (cs.length : Int) 0 rfl (by omega) (by omega) E a w hsim
    · skip
      refine go_head (C0_ok cs ps r os an) rfl rfl (k' := loopAt Tryd.f7 2) (s' := mk 0 145 [(0, .d (.list 10 (cs.length) (caEl cs))), (1, .d (.list 5 (ps.length) (ptEl ps))), (14, .d (.raw (Value.slice none (0 : Nat) (0 : Nat)))), (45, .d (.list 10 (cs.length) (caEl cs))), (46, .d (.raw (.int .i64 (n)))), (47, .d (.raw (.int .i64 (i)))), (91, .d (.list 5 (ps.length) (ptEl ps))), (92, .d (.raw (.int .i64 ((↑ps.length : Int))))), (93, .d (.raw (.int .i64 ((0 : Int)))))] []) (cs := [_]) [false] [0,1,9,10,14,45,46,47,61,62,63,91,92,93] (by kernel_rfl) (by kernel_rfl) ⟨hb1, trivial⟩ hsim fun E a w hsim => ?_
      exact absurd (of_decide_eq_false hb1) (by omega)
theorem law_order_ok (cs : List Ca) (ps : List Pt) (hP : ∀ i, cs.length ≤ 100 → ps.length ≤ 100 → checkP cs ps = (0, i, 0) → OrdOK cs ps) : Eng.Spec Tryd.prog gB 7 [.d (.list 10 cs.length (caEl cs)), .d (.list 5 ps.length (ptEl ps))] [] (.d (.raw (.bool (true)))) [] := by
  refine spec_fn Tryd.func7 rfl fun {w N E act} hsim => ?_
  obtain ⟨r, hr⟩ : ∃ r, r = checkP cs ps := ⟨_, rfl⟩
  let an : List An := []
  let os : List OpT := []
  rcases Bool.eq_false_or_eq_true (decide ((↑cs.length : Int) > (100 : Int))) with hb1 | hb1
  · skip
    exact go_ret (C0_ok cs ps r os an) rfl rfl Tryd.func7 (sr' := ⟨0, [.d (.raw (.bool (true)))], []⟩) (cs := [_]) [true] true (by kernel_rfl) (by kernel_rfl) ⟨hb1, trivial⟩ (by rfl) hsim
  · skip
    rcases Bool.eq_false_or_eq_true (decide ((↑ps.length : Int) > (100 : Int))) with hb2 | hb2
    · skip
      exact go_ret (C0_ok cs ps r os an) rfl rfl Tryd.func7 (sr' := ⟨0, [.d (.raw (.bool (true)))], []⟩) (cs := [_, _]) [false, true] true (by kernel_rfl) (by kernel_rfl) ⟨hb1, hb2, trivial⟩ (by rfl) hsim
    · skip
      rcases Bool.eq_false_or_eq_true (r.snd.snd != (0 : Int)) with hb3 | hb3
      · skip
        exact go_ret (C0_ok cs ps r os an) rfl rfl Tryd.func7 (sr' := ⟨0, [.d (.raw (.bool (true)))], []⟩) (cs := [_, _, ((10 : Nat) = (10 : Nat)), (cs.length = cs.length), (caEl cs = caEl cs), ((5 : Nat) = (5 : Nat)), (ps.length = ps.length), (ptEl ps = ptEl ps), (cs.length ≤ (1099511627776 : Nat) ∧ r = checkP cs ps), _]) [false, false, true] true (by kernel_rfl) (by kernel_rfl) ⟨hb1, hb2, (by rfl), (by rfl), (by rfl), (by rfl), (by rfl), (by rfl), (by exact ⟨by have := of_decide_eq_false hb1; omega, hr⟩), hb3, trivial⟩ (by rfl) hsim
      · skip
        rcases Bool.eq_false_or_eq_true (r.fst != (0 : Int)) with hb4 | hb4
        · skip
          exact go_ret (C0_ok cs ps r os an) rfl rfl Tryd.func7 (sr' := ⟨0, [.d (.raw (.bool (true)))], []⟩) (cs := [_, _, ((10 : Nat) = (10 : Nat)), (cs.length = cs.length), (caEl cs = caEl cs), ((5 : Nat) = (5 : Nat)), (ps.length = ps.length), (ptEl ps = ptEl ps), (cs.length ≤ (1099511627776 : Nat) ∧ r = checkP cs ps), _, _]) [false, false, false, true] true (by kernel_rfl) (by kernel_rfl) ⟨hb1, hb2, (by rfl), (by rfl), (by rfl), (by rfl), (by rfl), (by rfl), (by exact ⟨by have := of_decide_eq_false hb1; omega, hr⟩), hb3, hb4, trivial⟩ (by rfl) hsim
        · skip
          refine go_head (C0_ok cs ps r os an) rfl rfl (k' := loopAt Tryd.f7 0) (s' := mk 0 145 [(0, .d (.list 10 (cs.length) (caEl cs))), (1, .d (.list 5 (ps.length) (ptEl ps))), (45, .d (.list 10 (cs.length) (caEl cs))), (46, .d (.raw (.int .i64 ((↑cs.length : Int))))), (47, .d (.raw (.int .i64 ((0 : Int)))))] []) (cs := [_, _, ((10 : Nat) = (10 : Nat)), (cs.length = cs.length), (caEl cs = caEl cs), ((5 : Nat) = (5 : Nat)), (ps.length = ps.length), (ptEl ps = ptEl ps), (cs.length ≤ (1099511627776 : Nat) ∧ r = checkP cs ps), _, _]) ((List.replicate 4 false)) [0,1,45,46,47] (by kernel_rfl) (by kernel_rfl) ⟨hb1, hb2, (by rfl), (by rfl), (by rfl), (by rfl), (by rfl), (by rfl), (by exact ⟨by have := of_decide_eq_false hb1; omega, hr⟩), hb3, hb4, trivial⟩ hsim fun E a w hsim => ?_
          have g1 := of_decide_eq_false hb1
          have g2 := of_decide_eq_false hb2
          have g3 : r.2.2 = 0 := by simpa using hb3
          have g4 : r.1 = 0 := by simpa using hb4
          exact y0 cs ps (hP r.2.1 (by omega) (by omega) (hr.symm.trans (Prod.ext g4 (Prod.ext rfl g3)))) (by omega) (by omega) cs.length (cs.length : Int) 0 rfl (by omega) (by omega) E a w hsim
end Go.Prf
