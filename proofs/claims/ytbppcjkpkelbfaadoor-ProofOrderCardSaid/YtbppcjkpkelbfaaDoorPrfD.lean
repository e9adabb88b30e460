/-
  Contracts of given functions, or plain laws that they need. No condition.
-/
import Derived.Test.YtbppcjkpkelbfaaDoorPrfC
namespace Go.Prf
open Go Go.Eng Go.Proofs Go.RowKit Go.Tab Go.Plc
set_option linter.unusedVariables false
set_option linter.unusedSimpArgs false
set_option maxRecDepth 100000
set_option maxHeartbeats 4000000
def awF (S : List Pt) : List Ca → Int → Int
  | [], _ => -1
  | c :: r, i => if (c.to != -1 && !hasS S (nmD c.cl c.n)) = true then i else awF S r (i + 1)
abbrev GoW (w0 : World) (N : Nat → Prop) (E0 : Env) (k : List Item) (s : St) (r : Int) : Prop := ∀ (E : Env) (a : Act) (w : World), Sim (cx Tryd.prog gz0 w0 N E0 []) E s a w → Goes Tryd.prog 43 k (RSpec (cx Tryd.prog gz0 w0 N E0 []) ⟨0, [.d (.raw (.int .i64 r))], []⟩) a w
theorem aw_go2 {w0 : World} {N : Nat → Prop} {E0 : Env} (cs : List Ca) (ps S : List Pt) (n i : Int) (hl : cs.length ≤ 1099511627776) : ∀ (d : Nat) (n2 j : Int), n2 = (cs.length : Int) → 0 ≤ j → j + d = n2 → GoW w0 N E0 (loopAt Tryd.f43 1) (aw2 cs ps S n i n2 j) (awF S (cs.drop j.toNat) j) := by
  intro d
  induction d with
  | zero =>
    intro n2 j en h0 hd E a w hsim
    have hr : awF S (cs.drop j.toNat) j = -1 := by rw [List.drop_eq_nil_of_le (by omega)]; rfl
    rw [hr]
    rcases Bool.eq_false_or_eq_true (decide (j < n2)) with hb1 | hb1
    · skip
      rcases Bool.eq_false_or_eq_true ((cs.getD j.toNat noCa).to != (-1 : Int)) with hb2 | hb2
      · skip
        rcases Bool.eq_false_or_eq_true ((MapD.mk (95 : Nat) (fun d => hasS S d) (fun x => D.raw (Value.bool true)) (lenS S)).has (nmD (cs.getD j.toNat noCa).cl (cs.getD j.toNat noCa).n)) with hb3 | hb3
        · skip
          refine go_head B1_ok rfl rfl (k' := loopAt Tryd.f43 1) (s' := mk 0 40 [(0, .d (.list 10 (cs.length) (caEl cs))), (5, .mp 0), (11, .d (.list 5 (ps.length) (ptEl ps))), (12, .d (.raw (.int .i64 (n)))), (13, .d (.raw (.int .i64 (i)))), (21, .d (.list 10 (cs.length) (caEl cs))), (22, .d (.raw (.int .i64 (n2)))), (23, .d (.raw (.int .i64 (IntKind.i64.wrap (j + (1 : Int))))))] [(0, .mp ⟨95, fun d => hasS S d, fun x => D.raw (Value.bool true), (lenS S)⟩)]) (cs := [_, ((0 : Int) ≤ j ∧ j < (↑cs.length : Int)), _, _, ((false) = false)]) [true, true, true, false] [0,5,11,12,13,21,22,23] (by kernel_rfl) (by kernel_rfl) ⟨hb1, (by exact absurd (of_decide_eq_true hb1) (by omega)), hb2, hb3, rfl, trivial⟩ hsim fun E a w hsim => ?_
          exact absurd (of_decide_eq_true hb1) (by omega)
        · skip
          exact go_ret B1_ok rfl rfl Tryd.func43 (sr' := ⟨0, [.d (.raw (.int .i64 (j)))], []⟩) (cs := [_, ((0 : Int) ≤ j ∧ j < (↑cs.length : Int)), _, _, ((true) = true)]) [true, true, false, true] true (by kernel_rfl) (by kernel_rfl) ⟨hb1, (by exact absurd (of_decide_eq_true hb1) (by omega)), hb2, hb3, rfl, trivial⟩ (by exact absurd (of_decide_eq_true hb1) (by omega)) hsim
      · skip
        refine go_head B1_ok rfl rfl (k' := loopAt Tryd.f43 1) (s' := mk 0 40 [(0, .d (.list 10 (cs.length) (caEl cs))), (5, .mp 0), (11, .d (.list 5 (ps.length) (ptEl ps))), (12, .d (.raw (.int .i64 (n)))), (13, .d (.raw (.int .i64 (i)))), (21, .d (.list 10 (cs.length) (caEl cs))), (22, .d (.raw (.int .i64 (n2)))), (23, .d (.raw (.int .i64 (IntKind.i64.wrap (j + (1 : Int))))))] [(0, .mp ⟨95, fun d => hasS S d, fun x => D.raw (Value.bool true), (lenS S)⟩)]) (cs := [_, ((0 : Int) ≤ j ∧ j < (↑cs.length : Int)), _]) [true, false] [0,5,11,12,13,21,22,23] (by kernel_rfl) (by kernel_rfl) ⟨hb1, (by exact absurd (of_decide_eq_true hb1) (by omega)), hb2, trivial⟩ hsim fun E a w hsim => ?_
        exact absurd (of_decide_eq_true hb1) (by omega)
    · skip
      exact go_ret B1_ok rfl rfl Tryd.func43 (sr' := ⟨0, [.d (.raw (.int .i64 ((-1 : Int))))], []⟩) (cs := [_]) [false] true (by kernel_rfl) (by kernel_rfl) ⟨hb1, trivial⟩ (by rfl) hsim
  | succ d ih =>
    intro n2 j en h0 hd E a w hsim
    have hi : j.toNat < cs.length := by omega
    have ew : IntKind.i64.wrap (j + 1) = j + 1 := wrapP (by omega)
    have hr : awF S (cs.drop j.toNat) j = if ((cs.getD j.toNat noCa).to != -1 && !hasS S (nmD (cs.getD j.toNat noCa).cl (cs.getD j.toNat noCa).n)) = true then j else awF S (cs.drop (IntKind.i64.wrap (j + 1)).toNat) (IntKind.i64.wrap (j + 1)) := by
      rw [getD_drop (d := noCa) hi, ew, show (j + 1).toNat = j.toNat + 1 by omega]; rfl
    have ih := ih n2 (IntKind.i64.wrap (j + 1)) en (by rw [ew]; omega) (by rw [ew]; omega)
    rw [hr]
    rcases Bool.eq_false_or_eq_true (decide (j < n2)) with hb1 | hb1
    · skip
      rcases Bool.eq_false_or_eq_true ((cs.getD j.toNat noCa).to != (-1 : Int)) with hb2 | hb2
      · skip
        rcases Bool.eq_false_or_eq_true ((MapD.mk (95 : Nat) (fun d => hasS S d) (fun x => D.raw (Value.bool true)) (lenS S)).has (nmD (cs.getD j.toNat noCa).cl (cs.getD j.toNat noCa).n)) with hb3 | hb3
        · skip
          refine go_head B1_ok rfl rfl (k' := loopAt Tryd.f43 1) (s' := mk 0 40 [(0, .d (.list 10 (cs.length) (caEl cs))), (5, .mp 0), (11, .d (.list 5 (ps.length) (ptEl ps))), (12, .d (.raw (.int .i64 (n)))), (13, .d (.raw (.int .i64 (i)))), (21, .d (.list 10 (cs.length) (caEl cs))), (22, .d (.raw (.int .i64 (n2)))), (23, .d (.raw (.int .i64 (IntKind.i64.wrap (j + (1 : Int))))))] [(0, .mp ⟨95, fun d => hasS S d, fun x => D.raw (Value.bool true), (lenS S)⟩)]) (cs := [_, ((0 : Int) ≤ j ∧ j < (↑cs.length : Int)), _, _, ((false) = false)]) [true, true, true, false] [0,5,11,12,13,21,22,23] (by kernel_rfl) (by kernel_rfl) ⟨hb1, (by omega), hb2, hb3, rfl, trivial⟩ hsim fun E a w hsim => ?_
          rw [if_neg (by { clear hsim ih hr; (try dsimp only at *); generalize cs.getD j.toNat noCa = c at *; simp_all })]
          exact ih E a w hsim
        · skip
          exact go_ret B1_ok rfl rfl Tryd.func43 (sr' := ⟨0, [.d (.raw (.int .i64 (j)))], []⟩) (cs := [_, ((0 : Int) ≤ j ∧ j < (↑cs.length : Int)), _, _, ((true) = true)]) [true, true, false, true] true (by kernel_rfl) (by kernel_rfl) ⟨hb1, (by omega), hb2, hb3, rfl, trivial⟩ (by (rw [if_pos (by { clear hsim ih hr; (try dsimp only at *); generalize cs.getD j.toNat noCa = c at *; simp_all })]; done)) hsim
      · skip
        refine go_head B1_ok rfl rfl (k' := loopAt Tryd.f43 1) (s' := mk 0 40 [(0, .d (.list 10 (cs.length) (caEl cs))), (5, .mp 0), (11, .d (.list 5 (ps.length) (ptEl ps))), (12, .d (.raw (.int .i64 (n)))), (13, .d (.raw (.int .i64 (i)))), (21, .d (.list 10 (cs.length) (caEl cs))), (22, .d (.raw (.int .i64 (n2)))), (23, .d (.raw (.int .i64 (IntKind.i64.wrap (j + (1 : Int))))))] [(0, .mp ⟨95, fun d => hasS S d, fun x => D.raw (Value.bool true), (lenS S)⟩)]) (cs := [_, ((0 : Int) ≤ j ∧ j < (↑cs.length : Int)), _]) [true, false] [0,5,11,12,13,21,22,23] (by kernel_rfl) (by kernel_rfl) ⟨hb1, (by omega), hb2, trivial⟩ hsim fun E a w hsim => ?_
        rw [if_neg (by { clear hsim ih hr; (try dsimp only at *); generalize cs.getD j.toNat noCa = c at *; simp_all })]
        exact ih E a w hsim
    · skip
      exact go_ret B1_ok rfl rfl Tryd.func43 (sr' := ⟨0, [.d (.raw (.int .i64 ((-1 : Int))))], []⟩) (cs := [_]) [false] true (by kernel_rfl) (by kernel_rfl) ⟨hb1, trivial⟩ (by exact absurd (of_decide_eq_false hb1) (by omega)) hsim
theorem aw_go1 {w0 : World} {N : Nat → Prop} {E0 : Env} (cs : List Ca) (ps : List Pt) (hl : cs.length ≤ 1099511627776) (hl2 : ps.length ≤ 1099511627776) : ∀ (d : Nat) (n i : Int), n = (ps.length : Int) → 0 ≤ i → i + d = n → ∀ (S : List Pt), GoW w0 N E0 (loopAt Tryd.f43 0) (aw1 cs ps S n i) (awF ((ps.drop i.toNat).reverse ++ S) cs 0) := by
  intro d
  induction d with
  | zero =>
    intro n i en h0 hd S E a w hsim
    have hr : awF ((ps.drop i.toNat).reverse ++ S) cs 0 = awF S cs 0 := by rw [List.drop_eq_nil_of_le (by omega)]; rfl
    rw [hr]
    rcases Bool.eq_false_or_eq_true (decide (i < n)) with hb1 | hb1
    · skip
      refine go_head B1_ok rfl rfl (k' := loopAt Tryd.f43 0) (s' := mk 0 40 [(0, .d (.list 10 (cs.length) (caEl cs))), (5, .mp 0), (11, .d (.list 5 (ps.length) (ptEl ps))), (12, .d (.raw (.int .i64 (n)))), (13, .d (.raw (.int .i64 (IntKind.i64.wrap (i + (1 : Int))))))] [(0, .mp ⟨95, fun x => keyEq x (nmD (ps.getD i.toNat noPt).cl (ps.getD i.toNat noPt).n) || (MapD.mk (95 : Nat) (fun d => hasS S d) (fun x => D.raw (Value.bool true)) (lenS S)).has x, fun x =>   match keyEq x (nmD (ps.getD i.toNat noPt).cl (ps.getD i.toNat noPt).n) with   | true => D.raw (Value.bool true)   | false => (MapD.mk (95 : Nat) (fun d => hasS S d) (fun x => D.raw (Value.bool true)) (lenS S)).val x, (match (MapD.mk (95 : Nat) (fun d => hasS S d) (fun x => D.raw (Value.bool true)) (lenS S)).has (nmD (ps.getD i.toNat noPt).cl (ps.getD i.toNat noPt).n) with | true => (MapD.mk (95 : Nat) (fun d => hasS S d) (fun x => D.raw (Value.bool true)) (lenS S)).n | false => (MapD.mk (95 : Nat) (fun d => hasS S d) (fun x => D.raw (Value.bool true)) (lenS S)).n + (1 : Nat))⟩)]) (cs := [_, ((0 : Int) ≤ i ∧ i < (↑ps.length : Int))]) [true] [0,5,11,12,13,21,22,23] (by kernel_rfl) (by kernel_rfl) ⟨hb1, (by exact absurd (of_decide_eq_true hb1) (by omega)), trivial⟩ hsim fun E a w hsim => ?_
      exact absurd (of_decide_eq_true hb1) (by omega)
    · skip
      refine go_head B1_ok rfl rfl (k' := loopAt Tryd.f43 1) (s' := mk 0 40 [(0, .d (.list 10 (cs.length) (caEl cs))), (5, .mp 0), (11, .d (.list 5 (ps.length) (ptEl ps))), (12, .d (.raw (.int .i64 (n)))), (13, .d (.raw (.int .i64 (i)))), (21, .d (.list 10 (cs.length) (caEl cs))), (22, .d (.raw (.int .i64 ((↑cs.length : Int))))), (23, .d (.raw (.int .i64 ((0 : Int)))))] [(0, .mp ⟨95, fun d => hasS S d, fun x => D.raw (Value.bool true), (lenS S)⟩)]) (cs := [_]) [false] [0,5,11,12,13,21,22,23] (by kernel_rfl) (by kernel_rfl) ⟨hb1, trivial⟩ hsim fun E a w hsim => ?_
      exact aw_go2 cs ps S n i hl cs.length (cs.length : Int) 0 rfl (by omega) (by omega) E a w hsim
  | succ d ih =>
    intro n i en h0 hd S E a w hsim
    have hi : i.toNat < ps.length := by omega
    have ew : IntKind.i64.wrap (i + 1) = i + 1 := wrapP (by omega)
    have hr : (ps.drop i.toNat).reverse ++ S = (ps.drop (IntKind.i64.wrap (i + 1)).toNat).reverse ++ (ps.getD i.toNat noPt :: S) := by
      rw [getD_drop (d := noPt) hi, ew, show (i + 1).toNat = i.toNat + 1 by omega, List.reverse_cons, List.append_assoc]; rfl
    have ih := ih n (IntKind.i64.wrap (i + 1)) en (by rw [ew]; omega) (by rw [ew]; omega) (ps.getD i.toNat noPt :: S)
    rw [hr]
    rcases Bool.eq_false_or_eq_true (decide (i < n)) with hb1 | hb1
    · skip
      refine go_head B1_ok rfl rfl (k' := loopAt Tryd.f43 0) (s' := mk 0 40 [(0, .d (.list 10 (cs.length) (caEl cs))), (5, .mp 0), (11, .d (.list 5 (ps.length) (ptEl ps))), (12, .d (.raw (.int .i64 (n)))), (13, .d (.raw (.int .i64 (IntKind.i64.wrap (i + (1 : Int))))))] [(0, .mp ⟨95, fun x => keyEq x (nmD (ps.getD i.toNat noPt).cl (ps.getD i.toNat noPt).n) || (MapD.mk (95 : Nat) (fun d => hasS S d) (fun x => D.raw (Value.bool true)) (lenS S)).has x, fun x =>   match keyEq x (nmD (ps.getD i.toNat noPt).cl (ps.getD i.toNat noPt).n) with   | true => D.raw (Value.bool true)   | false => (MapD.mk (95 : Nat) (fun d => hasS S d) (fun x => D.raw (Value.bool true)) (lenS S)).val x, (match (MapD.mk (95 : Nat) (fun d => hasS S d) (fun x => D.raw (Value.bool true)) (lenS S)).has (nmD (ps.getD i.toNat noPt).cl (ps.getD i.toNat noPt).n) with | true => (MapD.mk (95 : Nat) (fun d => hasS S d) (fun x => D.raw (Value.bool true)) (lenS S)).n | false => (MapD.mk (95 : Nat) (fun d => hasS S d) (fun x => D.raw (Value.bool true)) (lenS S)).n + (1 : Nat))⟩)]) (cs := [_, ((0 : Int) ≤ i ∧ i < (↑ps.length : Int))]) [true] [0,5,11,12,13,21,22,23] (by kernel_rfl) (by kernel_rfl) ⟨hb1, (by omega), trivial⟩ hsim fun E a w hsim => ?_
      have h2 : Sim _ E (aw1M cs ps ((seenMp S).put (nmD (ps.getD i.toNat noPt).cl (ps.getD i.toNat noPt).n) (.raw (.bool true))) n (IntKind.i64.wrap (i + 1))) a w := hsim
      rw [seenMp_put] at h2
      exact ih E a w h2
    · skip
      refine go_head B1_ok rfl rfl (k' := loopAt Tryd.f43 1) (s' := mk 0 40 [(0, .d (.list 10 (cs.length) (caEl cs))), (5, .mp 0), (11, .d (.list 5 (ps.length) (ptEl ps))), (12, .d (.raw (.int .i64 (n)))), (13, .d (.raw (.int .i64 (i)))), (21, .d (.list 10 (cs.length) (caEl cs))), (22, .d (.raw (.int .i64 ((↑cs.length : Int))))), (23, .d (.raw (.int .i64 ((0 : Int)))))] [(0, .mp ⟨95, fun d => hasS S d, fun x => D.raw (Value.bool true), (lenS S)⟩)]) (cs := [_]) [false] [0,5,11,12,13,21,22,23] (by kernel_rfl) (by kernel_rfl) ⟨hb1, trivial⟩ hsim fun E a w hsim => ?_
      exact absurd (of_decide_eq_false hb1) (by omega)
theorem answered_ok (cs : List Ca) (ps : List Pt) (hl : cs.length ≤ 1099511627776) (hl2 : ps.length ≤ 1099511627776) : Eng.Spec Tryd.prog (fun _ => none) 43 [.d (.list 10 cs.length (caEl cs)), .d (.list 5 ps.length (ptEl ps))] [] (.d (.raw (.int .i64 (awF (ps.reverse ++ []) cs 0)))) [] := by
  refine spec_fn Tryd.func43 rfl fun {w N E act} hsim => ?_
  refine go_head B1_ok rfl rfl (k' := loopAt Tryd.f43 0) (s' := mk 0 40 [(0, .d (.list 10 (cs.length) (caEl cs))), (5, .mp 0), (11, .d (.list 5 (ps.length) (ptEl ps))), (12, .d (.raw (.int .i64 ((↑ps.length : Int))))), (13, .d (.raw (.int .i64 ((0 : Int)))))] [(0, .mp ⟨95, fun x => false, fun x => default, 0⟩)]) (cs := []) [] [0,5,11,12,13,21,22,23] (by kernel_rfl) (by kernel_rfl) trivial hsim fun E a w hsim => ?_
  obtain ⟨E2, h1⟩ := hsim.mapEq (k := 0) rfl (seenMp []) rfl rfl (fun _ => rfl) (fun _ h => by cases h)
  exact aw_go1 cs ps hl hl2 ps.length (ps.length : Int) 0 rfl (by omega) (by omega) [] E2 a w h1
end Go.Prf
