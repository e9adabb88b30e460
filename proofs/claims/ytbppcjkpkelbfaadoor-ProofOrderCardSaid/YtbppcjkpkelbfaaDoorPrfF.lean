/-
  Contracts of given functions, or plain laws that they need. No condition.
-/
import Derived.Test.YtbppcjkpkelbfaaDoorPrfJ
namespace Go.Prf
open Go Go.Eng Go.Proofs Go.RowKit Go.Tab Go.Plc
set_option linter.unusedVariables false
set_option linter.unusedSimpArgs false
set_option maxRecDepth 100000
set_option maxHeartbeats 4000000
def checkP (cs : List Ca) (ps : List Pt) : Int × Int × Int :=
  if 2000 < cs.length ∨ 2000 < ps.length then (0, 0, 2)
  else if 0 ≤ fmF [] cs 0 then (1, fmF [] cs 0, 0)
  else if 0 ≤ orF cs.reverse [] 0 ps 0 then (2, orF cs.reverse [] 0 ps 0, 0)
  else if 0 ≤ awF (ps.reverse ++ []) cs 0 then (3, awF (ps.reverse ++ []) cs 0, 0)
  else if 0 ≤ tdF cs.reverse T0 ps 0 then (4, tdF cs.reverse T0 ps 0, 0) else (0, 0, 0)
theorem K0_ok (cs L : List Ca) (ps : List Pt) (r1 r2 r3 r4 : Int) : OrcOK Tryd.prog (K0 cs L ps r1 r2 r3 r4) := (((((OrcOK.none _).add _ false (mFormed cs r1) fun args H ret H' c h hc => by
  unfold mFormed at h
  split at h
  · cases h; obtain ⟨rfl, rfl, rfl, ⟨hl, rfl⟩, -⟩ := hc; exact Spec.glAny (formed_ok cs hl)
  · cases h).add _ false (mOrdered L ps r2) fun args H ret H' c h hc => by
  unfold mOrdered at h
  split at h
  · cases h; obtain ⟨rfl, rfl, rfl, rfl, ⟨hl, rfl⟩, -⟩ := hc; exact Spec.glAny (ordered_ok L ps hl)
  · cases h).add _ false (mAnswered cs ps r3) fun args H ret H' c h hc => by
  unfold mAnswered at h
  split at h
  · cases h; obtain ⟨rfl, rfl, rfl, rfl, rfl, rfl, ⟨hl, hl2, rfl⟩, -⟩ := hc; exact Spec.glAny (answered_ok cs ps hl hl2)
  · cases h).add _ false (mTold L ps r4) fun args H ret H' c h hc => by
  unfold mTold at h
  split at h
  · cases h; obtain ⟨rfl, rfl, rfl, rfl, ⟨hl, hL, rfl⟩, -⟩ := hc; exact told_ok L hL ps hl
  · cases h).add _ false mNmC fun args H r H' c h hc => Spec.glAny (mNmC_ok args H r H' c h hc)
abbrev GoC (w0 : World) (N : Nat → Prop) (E0 : Env) (s : St) (r : Int × Int × Int) : Prop := ∀ (E : Env) (a : Act) (w : World), Sim (cx Tryd.prog Go.Bla.gl w0 N E0 []) E s a w → Goes Tryd.prog 19 (loopAt Tryd.f19 0) (RSpec (cx Tryd.prog Go.Bla.gl w0 N E0 []) ⟨0, [.tup [.d (.raw (.int .i64 r.1)), .d (.raw (.int .i64 r.2.1)), .d (.raw (.int .i64 r.2.2))]], []⟩) a w
theorem fmF_good : ∀ (cs L : List Ca) (i : Int), 0 ≤ i → fmF L cs i < 0 → ∀ c ∈ cs, badC c = false
  | [], _, _, _, _, _, h => by cases h
  | c :: r, L, i, h0, h, c', hm => by
    rw [fmF] at h
    split at h
    · omega
    · rename_i hb
      rcases List.mem_cons.1 hm with rfl | hm
      · cases hc : badC c' with
        | false => rfl
        | true => rw [hc] at hb; exact absurd rfl hb
      · exact fmF_good r (c :: L) (i + 1) (by omega) h c' hm
theorem good_small {c : Ca} (h : badC c = false) : c.o.2.1.size ≤ 16 := by
  unfold badC at h
  have h2 : checkM c.o.1 c.o.2.1 c.o.2.2.1 c.o.2.2.2 = 0 := by
    simp only [Bool.or_eq_false_iff] at h
    have := h.1.1.1.2
    simpa using this
  unfold checkM at h2
  repeat' split at h2
  all_goals first | omega | exact absurd h2 (by decide) | skip
theorem small_of {cs : List Ca} (h : fmF [] cs 0 < 0) : SmallC cs := fun c hc => Nat.le_trans (good_small (fmF_good cs [] 0 (by omega) h c hc)) (by decide)
theorem smallC_rev {cs : List Ca} (h : SmallC cs) : SmallC cs.reverse := fun c hc => h c (List.mem_reverse.1 hc)
theorem ck_go {w0 : World} {N : Nat → Prop} {E0 : Env} (cs : List Ca) (ps : List Pt) (hC : SmallC cs) (hl : cs.length ≤ 2000) (hl2 : ps.length ≤ 2000) (hf : fmF [] cs 0 < 0) : ∀ (d : Nat) (n i : Int), n = (cs.length : Int) → 0 ≤ i → i + d = n → ∀ (L : List Ca), (cs.drop i.toNat).reverse ++ L = cs.reverse → GoC w0 N E0 (ck1 cs L ps n i) (checkP cs ps) := by
  intro d
  induction d with
  | zero =>
    intro n i en h0 hd L hL E a w hsim
    have hLr : L = cs.reverse := by rw [List.drop_eq_nil_of_le (by omega)] at hL; exact hL
    obtain ⟨r1, h1⟩ : ∃ r, r = fmF [] cs 0 := ⟨_, rfl⟩
    obtain ⟨r2, h2⟩ : ∃ r, r = orF L [] 0 ps 0 := ⟨_, rfl⟩
    obtain ⟨r3, h3⟩ : ∃ r, r = awF (ps.reverse ++ []) cs 0 := ⟨_, rfl⟩
    obtain ⟨r4, h4⟩ : ∃ r, r = tdF L T0 ps 0 := ⟨_, rfl⟩
    have hS : SmallC L := hLr ▸ smallC_rev hC
    have hr : checkP cs ps = if 0 ≤ r2 then (2, r2, 0) else if 0 ≤ r3 then (3, r3, 0) else if 0 ≤ r4 then (4, r4, 0) else (0, 0, 0) := by
      unfold checkP; rw [if_neg (by omega), if_neg (by omega), h2, h3, h4, hLr]
    rw [hr]
    clear hr
    rcases Bool.eq_false_or_eq_true (decide (i < n)) with hb1 | hb1
    · skip
      refine go_head (K0_ok cs L ps r1 r2 r3 r4) rfl rfl (k' := loopAt Tryd.f19 0) (s' := mk 0 57 [(0, .d (.list 10 (cs.length) (caEl cs))), (1, .d (.list 5 (ps.length) (ptEl ps))), (8, .mp 0), (28, .d (.list 10 (cs.length) (caEl cs))), (29, .d (.raw (.int .i64 (n)))), (30, .d (.raw (.int .i64 (IntKind.i64.wrap (i + (1 : Int))))))] [(0, .mp ⟨95, fun x => keyEq x (D.agg [D.raw (Value.int IntKind.i64 (cs.getD i.toNat noCa).cl), D.raw (Value.int IntKind.i64 (cs.getD i.toNat noCa).n)]) || (MapD.mk (95 : Nat) (fun d => hasN L d) (fun d => caD (getN L d)) (lenN L)).has x, fun x =>   match keyEq x (D.agg [D.raw (Value.int IntKind.i64 (cs.getD i.toNat noCa).cl), D.raw (Value.int IntKind.i64 (cs.getD i.toNat noCa).n)]) with   | true => D.agg [D.raw (Value.int IntKind.i64 (cs.getD i.toNat noCa).cl), D.raw (Value.int IntKind.i64 (cs.getD i.toNat noCa).n), D.raw (Value.int IntKind.i64 (cs.getD i.toNat noCa).o.fst), D.raw (Value.string (cs.getD i.toNat noCa).o.snd.fst), D.raw (Value.string (cs.getD i.toNat noCa).o.snd.snd.fst), D.raw (Value.string (cs.getD i.toNat noCa).o.snd.snd.snd), D.raw (Value.int IntKind.i64 (cs.getD i.toNat noCa).fr), D.raw (Value.int IntKind.i64 (cs.getD i.toNat noCa).to), D.raw (Value.int IntKind.i64 (cs.getD i.toNat noCa).a.fst), D.raw (Value.string (cs.getD i.toNat noCa).a.snd)]   | false => (MapD.mk (95 : Nat) (fun d => hasN L d) (fun d => caD (getN L d)) (lenN L)).val x, (match (MapD.mk (95 : Nat) (fun d => hasN L d) (fun d => caD (getN L d)) (lenN L)).has (D.agg [D.raw (Value.int IntKind.i64 (cs.getD i.toNat noCa).cl), D.raw (Value.int IntKind.i64 (cs.getD i.toNat noCa).n)]) with | true => (MapD.mk (95 : Nat) (fun d => hasN L d) (fun d => caD (getN L d)) (lenN L)).n | false => (MapD.mk (95 : Nat) (fun d => hasN L d) (fun d => caD (getN L d)) (lenN L)).n + (1 : Nat))⟩)]) (cs := [_, ((0 : Int) ≤ i ∧ i < (↑cs.length : Int))]) [true] [0,1,8,28,29,30] (by kernel_rfl) (by kernel_rfl) ⟨hb1, (by exact absurd (of_decide_eq_true hb1) (by omega)), trivial⟩ hsim fun E a w hsim => ?_
      exact absurd (of_decide_eq_true hb1) (by omega)
    · skip
      rcases Bool.eq_false_or_eq_true (decide (r2 ≥ (0 : Int))) with hb2 | hb2
      · skip
        exact go_ret (K0_ok cs L ps r1 r2 r3 r4) rfl rfl Tryd.func19 (sr' := ⟨0, [.tup [.d (.raw (.int .i64 ((2 : Int)))), .d (.raw (.int .i64 (r2))), .d (.raw (.int .i64 ((0 : Int))))]], []⟩) (cs := [_, ((5 : Nat) = (5 : Nat)), (ps.length = ps.length), (ptEl ps = ptEl ps), (MapD.mk (95 : Nat) (fun d => hasN L d) (fun d => caD (getN L d)) (lenN L) = knowMp L), (ps.length ≤ (1099511627776 : Nat) ∧ r2 = orF L [] (0 : Int) ps (0 : Int)), _]) [false, true] true (by kernel_rfl) (by kernel_rfl) ⟨hb1, (by exact rfl), (by exact rfl), (by exact rfl), (by exact rfl), (by exact ⟨by omega, h2⟩), hb2, trivial⟩ (by (rw [if_pos (of_decide_eq_true hb2)]; done)) hsim
      · skip
        rcases Bool.eq_false_or_eq_true (decide (r3 ≥ (0 : Int))) with hb3 | hb3
        · skip
          have q0_ : ((5 : Nat) = (5 : Nat)) := (by exact rfl)
          have q1_ : (ps.length = ps.length) := (by exact rfl)
          have q2_ : (ptEl ps = ptEl ps) := (by exact rfl)
          exact go_ret (K0_ok cs L ps r1 r2 r3 r4) rfl rfl Tryd.func19 (sr' := ⟨0, [.tup [.d (.raw (.int .i64 ((3 : Int)))), .d (.raw (.int .i64 (r3))), .d (.raw (.int .i64 ((0 : Int))))]], []⟩) (cs := ((fun (c0 c1 c2 : Prop) => [_, c0, c1, c2, (MapD.mk (95 : Nat) (fun d => hasN L d) (fun d => caD (getN L d)) (lenN L) = knowMp L), (ps.length ≤ (1099511627776 : Nat) ∧ r2 = orF L [] (0 : Int) ps (0 : Int)), _, ((10 : Nat) = (10 : Nat)), (cs.length = cs.length), (caEl cs = caEl cs), c0, c1, c2, (cs.length ≤ (1099511627776 : Nat) ∧ ps.length ≤ (1099511627776 : Nat) ∧ r3 = awF (ps.reverse ++ []) cs (0 : Int)), _]) _ _ _)) [false, false, true] true (by kernel_rfl) (by kernel_rfl) ⟨hb1, q0_, q1_, q2_, (by exact rfl), (by exact ⟨by omega, h2⟩), hb2, (by exact rfl), (by exact rfl), (by exact rfl), q0_, q1_, q2_, (by exact ⟨by omega, by omega, h3⟩), hb3, trivial⟩ (by (rw [if_neg (of_decide_eq_false hb2), if_pos (of_decide_eq_true hb3)]; done)) hsim
        · skip
          rcases Bool.eq_false_or_eq_true (decide (r4 ≥ (0 : Int))) with hb4 | hb4
          · skip
            have q0_ : ((5 : Nat) = (5 : Nat)) := (by exact rfl)
            have q1_ : (ps.length = ps.length) := (by exact rfl)
            have q2_ : (ptEl ps = ptEl ps) := (by exact rfl)
            have q3_ : (MapD.mk (95 : Nat) (fun d => hasN L d) (fun d => caD (getN L d)) (lenN L) = knowMp L) := (by exact rfl)
            exact go_ret (K0_ok cs L ps r1 r2 r3 r4) rfl rfl Tryd.func19 (sr' := ⟨0, [.tup [.d (.raw (.int .i64 ((4 : Int)))), .d (.raw (.int .i64 (r4))), .d (.raw (.int .i64 ((0 : Int))))]], []⟩) (cs := ((fun (c0 c1 c2 c3 : Prop) => [_, c0, c1, c2, c3, (ps.length ≤ (1099511627776 : Nat) ∧ r2 = orF L [] (0 : Int) ps (0 : Int)), _, ((10 : Nat) = (10 : Nat)), (cs.length = cs.length), (caEl cs = caEl cs), c0, c1, c2, (cs.length ≤ (1099511627776 : Nat) ∧ ps.length ≤ (1099511627776 : Nat) ∧ r3 = awF (ps.reverse ++ []) cs (0 : Int)), _, c0, c1, c2, c3, (ps.length ≤ (1099511627776 : Nat) ∧ SmallC L ∧ r4 = tdF L T0 ps (0 : Int)), _]) _ _ _ _)) [false, false, false, true] true (by kernel_rfl) (by kernel_rfl) ⟨hb1, q0_, q1_, q2_, q3_, (by exact ⟨by omega, h2⟩), hb2, (by exact rfl), (by exact rfl), (by exact rfl), q0_, q1_, q2_, (by exact ⟨by omega, by omega, h3⟩), hb3, q0_, q1_, q2_, q3_, (by exact ⟨by omega, hS, h4⟩), hb4, trivial⟩ (by (rw [if_neg (of_decide_eq_false hb2), if_neg (of_decide_eq_false hb3), if_pos (of_decide_eq_true hb4)]; done)) hsim
          · skip
            have q0_ : ((5 : Nat) = (5 : Nat)) := (by exact rfl)
            have q1_ : (ps.length = ps.length) := (by exact rfl)
            have q2_ : (ptEl ps = ptEl ps) := (by exact rfl)
            have q3_ : (MapD.mk (95 : Nat) (fun d => hasN L d) (fun d => caD (getN L d)) (lenN L) = knowMp L) := (by exact rfl)
            exact go_ret (K0_ok cs L ps r1 r2 r3 r4) rfl rfl Tryd.func19 (sr' := ⟨0, [.tup [.d (.raw (.int .i64 ((0 : Int)))), .d (.raw (.int .i64 ((0 : Int)))), .d (.raw (.int .i64 ((0 : Int))))]], []⟩) (cs := ((fun (c0 c1 c2 c3 : Prop) => [_, c0, c1, c2, c3, (ps.length ≤ (1099511627776 : Nat) ∧ r2 = orF L [] (0 : Int) ps (0 : Int)), _, ((10 : Nat) = (10 : Nat)), (cs.length = cs.length), (caEl cs = caEl cs), c0, c1, c2, (cs.length ≤ (1099511627776 : Nat) ∧ ps.length ≤ (1099511627776 : Nat) ∧ r3 = awF (ps.reverse ++ []) cs (0 : Int)), _, c0, c1, c2, c3, (ps.length ≤ (1099511627776 : Nat) ∧ SmallC L ∧ r4 = tdF L T0 ps (0 : Int)), _]) _ _ _ _)) ((List.replicate 4 false)) true (by kernel_rfl) (by kernel_rfl) ⟨hb1, q0_, q1_, q2_, q3_, (by exact ⟨by omega, h2⟩), hb2, (by exact rfl), (by exact rfl), (by exact rfl), q0_, q1_, q2_, (by exact ⟨by omega, by omega, h3⟩), hb3, q0_, q1_, q2_, q3_, (by exact ⟨by omega, hS, h4⟩), hb4, trivial⟩ (by (rw [if_neg (of_decide_eq_false hb2), if_neg (of_decide_eq_false hb3), if_neg (of_decide_eq_false hb4)]; done)) hsim
  | succ d ih =>
    intro n i en h0 hd L hL E a w hsim
    have hi : i.toNat < cs.length := by omega
    have ew : IntKind.i64.wrap (i + 1) = i + 1 := wrapP (by omega)
    have ih := ih n (IntKind.i64.wrap (i + 1)) en (by rw [ew]; omega) (by rw [ew]; omega) (cs.getD i.toNat noCa :: L) (by
      rw [← hL, getD_drop (d := noCa) hi, ew, show (i + 1).toNat = i.toNat + 1 by omega, List.reverse_cons, List.append_assoc]; rfl)
    let r1 : Int := 0
    let r2 : Int := 0
    let r3 : Int := 0
    let r4 : Int := 0
    rcases Bool.eq_false_or_eq_true (decide (i < n)) with hb1 | hb1
    · skip
      refine go_head (K0_ok cs L ps r1 r2 r3 r4) rfl rfl (k' := loopAt Tryd.f19 0) (s' := mk 0 57 [(0, .d (.list 10 (cs.length) (caEl cs))), (1, .d (.list 5 (ps.length) (ptEl ps))), (8, .mp 0), (28, .d (.list 10 (cs.length) (caEl cs))), (29, .d (.raw (.int .i64 (n)))), (30, .d (.raw (.int .i64 (IntKind.i64.wrap (i + (1 : Int))))))] [(0, .mp ⟨95, fun x => keyEq x (D.agg [D.raw (Value.int IntKind.i64 (cs.getD i.toNat noCa).cl), D.raw (Value.int IntKind.i64 (cs.getD i.toNat noCa).n)]) || (MapD.mk (95 : Nat) (fun d => hasN L d) (fun d => caD (getN L d)) (lenN L)).has x, fun x =>   match keyEq x (D.agg [D.raw (Value.int IntKind.i64 (cs.getD i.toNat noCa).cl), D.raw (Value.int IntKind.i64 (cs.getD i.toNat noCa).n)]) with   | true => D.agg [D.raw (Value.int IntKind.i64 (cs.getD i.toNat noCa).cl), D.raw (Value.int IntKind.i64 (cs.getD i.toNat noCa).n), D.raw (Value.int IntKind.i64 (cs.getD i.toNat noCa).o.fst), D.raw (Value.string (cs.getD i.toNat noCa).o.snd.fst), D.raw (Value.string (cs.getD i.toNat noCa).o.snd.snd.fst), D.raw (Value.string (cs.getD i.toNat noCa).o.snd.snd.snd), D.raw (Value.int IntKind.i64 (cs.getD i.toNat noCa).fr), D.raw (Value.int IntKind.i64 (cs.getD i.toNat noCa).to), D.raw (Value.int IntKind.i64 (cs.getD i.toNat noCa).a.fst), D.raw (Value.string (cs.getD i.toNat noCa).a.snd)]   | false => (MapD.mk (95 : Nat) (fun d => hasN L d) (fun d => caD (getN L d)) (lenN L)).val x, (match (MapD.mk (95 : Nat) (fun d => hasN L d) (fun d => caD (getN L d)) (lenN L)).has (D.agg [D.raw (Value.int IntKind.i64 (cs.getD i.toNat noCa).cl), D.raw (Value.int IntKind.i64 (cs.getD i.toNat noCa).n)]) with | true => (MapD.mk (95 : Nat) (fun d => hasN L d) (fun d => caD (getN L d)) (lenN L)).n | false => (MapD.mk (95 : Nat) (fun d => hasN L d) (fun d => caD (getN L d)) (lenN L)).n + (1 : Nat))⟩)]) (cs := [_, ((0 : Int) ≤ i ∧ i < (↑cs.length : Int))]) [true] [0,1,8,28,29,30] (by kernel_rfl) (by kernel_rfl) ⟨hb1, (by omega), trivial⟩ hsim fun E a w hsim => ?_
      have h2 : Sim _ E (ck1M cs ps ((knowMp L).put (nmD (cs.getD i.toNat noCa).cl (cs.getD i.toNat noCa).n) (caD (cs.getD i.toNat noCa))) n (IntKind.i64.wrap (i + 1))) a w := hsim
      rw [knowMp_put] at h2
      exact ih E a w h2
    · skip
      rcases Bool.eq_false_or_eq_true (decide (r2 ≥ (0 : Int))) with hb2 | hb2
      · skip
        exact go_ret (K0_ok cs L ps r1 r2 r3 r4) rfl rfl Tryd.func19 (sr' := ⟨0, [.tup [.d (.raw (.int .i64 ((2 : Int)))), .d (.raw (.int .i64 (r2))), .d (.raw (.int .i64 ((0 : Int))))]], []⟩) (cs := [_, ((5 : Nat) = (5 : Nat)), (ps.length = ps.length), (ptEl ps = ptEl ps), (MapD.mk (95 : Nat) (fun d => hasN L d) (fun d => caD (getN L d)) (lenN L) = knowMp L), (ps.length ≤ (1099511627776 : Nat) ∧ r2 = orF L [] (0 : Int) ps (0 : Int)), _]) [false, true] true (by kernel_rfl) (by kernel_rfl) ⟨hb1, (by omega), (by omega), (by exact rfl), (by exact rfl), (by exact absurd (of_decide_eq_false hb1) (by omega)), hb2, trivial⟩ (by exact absurd (of_decide_eq_false hb1) (by omega)) hsim
      · skip
        rcases Bool.eq_false_or_eq_true (decide (r3 ≥ (0 : Int))) with hb3 | hb3
        · skip
          have q0_ : ((5 : Nat) = (5 : Nat)) := (by omega)
          have q1_ : (ps.length = ps.length) := (by omega)
          have q2_ : (ptEl ps = ptEl ps) := (by exact rfl)
          exact go_ret (K0_ok cs L ps r1 r2 r3 r4) rfl rfl Tryd.func19 (sr' := ⟨0, [.tup [.d (.raw (.int .i64 ((3 : Int)))), .d (.raw (.int .i64 (r3))), .d (.raw (.int .i64 ((0 : Int))))]], []⟩) (cs := ((fun (c0 c1 c2 : Prop) => [_, c0, c1, c2, (MapD.mk (95 : Nat) (fun d => hasN L d) (fun d => caD (getN L d)) (lenN L) = knowMp L), (ps.length ≤ (1099511627776 : Nat) ∧ r2 = orF L [] (0 : Int) ps (0 : Int)), _, ((10 : Nat) = (10 : Nat)), (cs.length = cs.length), (caEl cs = caEl cs), c0, c1, c2, (cs.length ≤ (1099511627776 : Nat) ∧ ps.length ≤ (1099511627776 : Nat) ∧ r3 = awF (ps.reverse ++ []) cs (0 : Int)), _]) _ _ _)) [false, false, true] true (by kernel_rfl) (by kernel_rfl) ⟨hb1, q0_, q1_, q2_, (by exact rfl), (by exact absurd (of_decide_eq_false hb1) (by omega)), hb2, (by omega), (by omega), (by exact rfl), q0_, q1_, q2_, (by exact absurd (of_decide_eq_false hb1) (by omega)), hb3, trivial⟩ (by exact absurd (of_decide_eq_false hb1) (by omega)) hsim
        · skip
          rcases Bool.eq_false_or_eq_true (decide (r4 ≥ (0 : Int))) with hb4 | hb4
          · skip
            have q0_ : ((5 : Nat) = (5 : Nat)) := (by omega)
            have q1_ : (ps.length = ps.length) := (by omega)
            have q2_ : (ptEl ps = ptEl ps) := (by exact rfl)
            have q3_ : (MapD.mk (95 : Nat) (fun d => hasN L d) (fun d => caD (getN L d)) (lenN L) = knowMp L) := (by exact rfl)
            exact go_ret (K0_ok cs L ps r1 r2 r3 r4) rfl rfl Tryd.func19 (sr' := ⟨0, [.tup [.d (.raw (.int .i64 ((4 : Int)))), .d (.raw (.int .i64 (r4))), .d (.raw (.int .i64 ((0 : Int))))]], []⟩) (cs := ((fun (c0 c1 c2 c3 : Prop) => [_, c0, c1, c2, c3, (ps.length ≤ (1099511627776 : Nat) ∧ r2 = orF L [] (0 : Int) ps (0 : Int)), _, ((10 : Nat) = (10 : Nat)), (cs.length = cs.length), (caEl cs = caEl cs), c0, c1, c2, (cs.length ≤ (1099511627776 : Nat) ∧ ps.length ≤ (1099511627776 : Nat) ∧ r3 = awF (ps.reverse ++ []) cs (0 : Int)), _, c0, c1, c2, c3, (ps.length ≤ (1099511627776 : Nat) ∧ SmallC L ∧ r4 = tdF L T0 ps (0 : Int)), _]) _ _ _ _)) [false, false, false, true] true (by kernel_rfl) (by kernel_rfl) ⟨hb1, q0_, q1_, q2_, q3_, (by exact absurd (of_decide_eq_false hb1) (by omega)), hb2, (by omega), (by omega), (by exact rfl), q0_, q1_, q2_, (by exact absurd (of_decide_eq_false hb1) (by omega)), hb3, q0_, q1_, q2_, q3_, (by exact absurd (of_decide_eq_false hb1) (by omega)), hb4, trivial⟩ (by exact absurd (of_decide_eq_false hb1) (by omega)) hsim
          · skip
            have q0_ : ((5 : Nat) = (5 : Nat)) := (by omega)
            have q1_ : (ps.length = ps.length) := (by omega)
            have q2_ : (ptEl ps = ptEl ps) := (by exact rfl)
            have q3_ : (MapD.mk (95 : Nat) (fun d => hasN L d) (fun d => caD (getN L d)) (lenN L) = knowMp L) := (by exact rfl)
            exact go_ret (K0_ok cs L ps r1 r2 r3 r4) rfl rfl Tryd.func19 (sr' := ⟨0, [.tup [.d (.raw (.int .i64 ((0 : Int)))), .d (.raw (.int .i64 ((0 : Int)))), .d (.raw (.int .i64 ((0 : Int))))]], []⟩) (cs := ((fun (c0 c1 c2 c3 : Prop) => [_, c0, c1, c2, c3, (ps.length ≤ (1099511627776 : Nat) ∧ r2 = orF L [] (0 : Int) ps (0 : Int)), _, ((10 : Nat) = (10 : Nat)), (cs.length = cs.length), (caEl cs = caEl cs), c0, c1, c2, (cs.length ≤ (1099511627776 : Nat) ∧ ps.length ≤ (1099511627776 : Nat) ∧ r3 = awF (ps.reverse ++ []) cs (0 : Int)), _, c0, c1, c2, c3, (ps.length ≤ (1099511627776 : Nat) ∧ SmallC L ∧ r4 = tdF L T0 ps (0 : Int)), _]) _ _ _ _)) ((List.replicate 4 false)) true (by kernel_rfl) (by kernel_rfl) ⟨hb1, q0_, q1_, q2_, q3_, (by exact absurd (of_decide_eq_false hb1) (by omega)), hb2, (by omega), (by omega), (by exact rfl), q0_, q1_, q2_, (by exact absurd (of_decide_eq_false hb1) (by omega)), hb3, q0_, q1_, q2_, q3_, (by exact absurd (of_decide_eq_false hb1) (by omega)), hb4, trivial⟩ (by exact absurd (of_decide_eq_false hb1) (by omega)) hsim
theorem check_ok (cs : List Ca) (ps : List Pt) (hl : cs.length ≤ 1099511627776) : Eng.Spec Tryd.prog Go.Bla.gl 19 [.d (.list 10 cs.length (caEl cs)), .d (.list 5 ps.length (ptEl ps))] [] (.tup [.d (.raw (.int .i64 (checkP cs ps).1)), .d (.raw (.int .i64 (checkP cs ps).2.1)), .d (.raw (.int .i64 (checkP cs ps).2.2))]) [] := by
  refine spec_fn Tryd.func19 rfl fun {w N E act} hsim => ?_
  let L : List Ca := []
  obtain ⟨r1, h1⟩ : ∃ r, r = fmF [] cs 0 := ⟨_, rfl⟩
  let r2 : Int := 0
  let r3 : Int := 0
  let r4 : Int := 0
  have hr : checkP cs ps = if 2000 < cs.length ∨ 2000 < ps.length then (0, 0, 2) else if 0 ≤ r1 then (1, r1, 0) else checkP cs ps := by
    by_cases hA : 2000 < cs.length ∨ 2000 < ps.length
    · rw [if_pos hA]; unfold checkP; rw [if_pos hA]
    · rw [if_neg hA]
      by_cases hB : 0 ≤ r1
      · rw [if_pos hB]; unfold checkP; rw [if_neg hA, ← h1, if_pos hB]
      · rw [if_neg hB]
  rcases Bool.eq_false_or_eq_true (decide ((↑cs.length : Int) > (2000 : Int))) with hb1 | hb1
  · skip
    exact go_ret (K0_ok cs L ps r1 r2 r3 r4) rfl rfl Tryd.func19 (sr' := ⟨0, [.tup [.d (.raw (.int .i64 ((0 : Int)))), .d (.raw (.int .i64 ((0 : Int)))), .d (.raw (.int .i64 ((2 : Int))))]], []⟩) (cs := [_]) [true] true (by kernel_rfl) (by kernel_rfl) ⟨hb1, trivial⟩ (by (rw [hr, if_pos (.inl (by have := of_decide_eq_true hb1; omega))]; rfl)) hsim
  · skip
    rcases Bool.eq_false_or_eq_true (decide ((↑ps.length : Int) > (2000 : Int))) with hb2 | hb2
    · skip
      exact go_ret (K0_ok cs L ps r1 r2 r3 r4) rfl rfl Tryd.func19 (sr' := ⟨0, [.tup [.d (.raw (.int .i64 ((0 : Int)))), .d (.raw (.int .i64 ((0 : Int)))), .d (.raw (.int .i64 ((2 : Int))))]], []⟩) (cs := [_, _]) [false, true] true (by kernel_rfl) (by kernel_rfl) ⟨hb1, hb2, trivial⟩ (by (rw [hr, if_pos (.inr (by have := of_decide_eq_true hb2; omega))]; rfl)) hsim
    · skip
      rcases Bool.eq_false_or_eq_true (decide (r1 ≥ (0 : Int))) with hb3 | hb3
      · skip
        exact go_ret (K0_ok cs L ps r1 r2 r3 r4) rfl rfl Tryd.func19 (sr' := ⟨0, [.tup [.d (.raw (.int .i64 ((1 : Int)))), .d (.raw (.int .i64 (r1))), .d (.raw (.int .i64 ((0 : Int))))]], []⟩) (cs := [_, _, ((10 : Nat) = (10 : Nat)), (cs.length = cs.length), (caEl cs = caEl cs), (cs.length ≤ (1099511627776 : Nat) ∧ r1 = fmF [] cs (0 : Int)), _]) [false, false, true] true (by kernel_rfl) (by kernel_rfl) ⟨hb1, hb2, (by exact rfl), (by exact rfl), (by exact rfl), (by exact ⟨hl, h1⟩), hb3, trivial⟩ (by (rw [hr, if_neg (by have := of_decide_eq_false hb1;  have := of_decide_eq_false hb2; omega), if_pos (of_decide_eq_true hb3)]; rfl)) hsim
      · skip
        refine go_head (K0_ok cs L ps r1 r2 r3 r4) rfl rfl (k' := loopAt Tryd.f19 0) (s' := mk 0 57 [(0, .d (.list 10 (cs.length) (caEl cs))), (1, .d (.list 5 (ps.length) (ptEl ps))), (8, .mp 0), (28, .d (.list 10 (cs.length) (caEl cs))), (29, .d (.raw (.int .i64 ((↑cs.length : Int))))), (30, .d (.raw (.int .i64 ((0 : Int)))))] [(0, .mp ⟨95, fun x => false, fun x => default, 0⟩)]) (cs := [_, _, ((10 : Nat) = (10 : Nat)), (cs.length = cs.length), (caEl cs = caEl cs), (cs.length ≤ (1099511627776 : Nat) ∧ r1 = fmF [] cs (0 : Int)), _]) [false, false, false] [0,1,8,28,29,30] (by kernel_rfl) (by kernel_rfl) ⟨hb1, hb2, (by exact rfl), (by exact rfl), (by exact rfl), (by exact ⟨hl, h1⟩), hb3, trivial⟩ hsim fun E a w hsim => ?_
        obtain ⟨E2, h9⟩ := hsim.mapEq (k := 0) rfl (knowMp []) rfl rfl (fun _ => rfl) (fun _ h => by cases h)
        exact ck_go cs ps (small_of (by rw [← h1]; have := of_decide_eq_false hb3; omega)) (by have := of_decide_eq_false hb1; omega) (by have := of_decide_eq_false hb2; omega) (by rw [← h1]; have := of_decide_eq_false hb3; omega) cs.length (cs.length : Int) 0 rfl (by omega) (by omega) [] (by simp) E2 a w h9
end Go.Prf
