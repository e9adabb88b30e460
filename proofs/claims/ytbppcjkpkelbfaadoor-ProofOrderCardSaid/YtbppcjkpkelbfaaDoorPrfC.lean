/-
  Contracts of given functions, or plain laws that they need. No condition.
-/
import Derived.Test.YtbppcjkpkelbfaaDoorPrfB
import Derived.Test.YtbppcjkpkelbfaaDoorBlaG
namespace Go.Prf
open Go Go.Eng Go.Proofs Go.RowKit Go.Tab Go.Plc
set_option linter.unusedVariables false
set_option linter.unusedSimpArgs false
set_option maxRecDepth 100000
set_option maxHeartbeats 4000000
theorem mNmC_ok : MoOK Tryd.prog gz0 41 mNmC := fun args H ret H' cs h hc => by
  unfold mNmC at h
  split at h
  · rename_i c n k key val old fr to er v
    cases h
    exact nameC_ok ⟨c, n, (k, key, val, old), fr, to, (er, v)⟩
  · cases h
theorem mNmP_ok : MoOK Tryd.prog gz0 55 mNmP := fun args H ret H' cs h hc => by
  unfold mNmP at h
  split at h
  · rename_i m c n er v
    cases h
    exact nameP_ok ⟨m, c, n, (er, v)⟩
  · cases h
theorem B1_ok : OrcOK Tryd.prog B1 := ((OrcOK.none _).add _ false _ mNmC_ok).add _ false _ mNmP_ok
theorem B2_ok (T T' : T4) (e : Int) (v : ByteArray) : OrcOK Tryd.prog (B2 T T' e v) := (A2_ok T T' e v).add _ false mNmP fun args H r H' cs h hc => Spec.glAny (mNmP_ok args H r H' cs h hc)
theorem seenMp_put (S : List Pt) (p : Pt) : (seenMp S).put (nmD p.cl p.n) (.raw (.bool true)) = seenMp (p :: S) := by
  unfold seenMp MapD.put
  congr 1
  funext x
  cases keyEq x (nmD p.cl p.n) <;> rfl
theorem knowMp_put (L : List Ca) (c : Ca) : (knowMp L).put (nmD c.cl c.n) (caD c) = knowMp (c :: L) := by
  unfold knowMp MapD.put
  congr 1
  funext x
  have : getN (c :: L) x = match keyEq x (nmD c.cl c.n) with | true => c | false => getN L x := by
    unfold getN; rw [List.find?_cons]; cases keyEq x (nmD c.cl c.n) <;> rfl
  simp only [this]
  cases keyEq x (nmD c.cl c.n) <;> rfl
def ordB (L : List Ca) (S : List Pt) (now : Int) (p : Pt) : Bool := decide (p.at' < now) || !hasN L (nmD p.cl p.n) || hasS S (nmD p.cl p.n) || decide (p.at' < (getN L (nmD p.cl p.n)).fr) || ((getN L (nmD p.cl p.n)).to != -1 && decide (p.at' > (getN L (nmD p.cl p.n)).to))
def orF (L : List Ca) : List Pt → Int → List Pt → Int → Int
  | _, _, [], _ => -1
  | S, now, p :: r, i => if ordB L S now p = true then i else orF L (p :: S) p.at' r (i + 1)
abbrev GoO (w0 : World) (N : Nat → Prop) (E0 : Env) (L : List Ca) (s : St) (r : Int) : Prop := ∀ (E : Env) (a : Act) (w : World), Sim (cx Tryd.prog gz0 w0 N E0 [(0, .mp (knowMp L))]) E s a w → Goes Tryd.prog 42 (loopAt Tryd.f42 0) (RSpec (cx Tryd.prog gz0 w0 N E0 [(0, .mp (knowMp L))]) ⟨1, [.d (.raw (.int .i64 r))], [(0, .mp (knowMp L))]⟩) a w
theorem or_go {w0 : World} {N : Nat → Prop} {E0 : Env} (L : List Ca) (ps : List Pt) (hl : ps.length ≤ 1099511627776) : ∀ (d : Nat) (n i : Int), n = (ps.length : Int) → 0 ≤ i → i + d = n → ∀ (S : List Pt) (now : Int), GoO w0 N E0 L (or1 L ps S now n i) (orF L S now (ps.drop i.toNat) i) := by
  intro d
  induction d with
  | zero =>
    intro n i en h0 hd S now E a w hsim
    have hr : orF L S now (ps.drop i.toNat) i = -1 := by rw [List.drop_eq_nil_of_le (by omega)]; rfl
    rw [hr]
    rcases Bool.eq_false_or_eq_true (decide (i < n)) with hb1 | hb1
    · skip
      rcases Bool.eq_false_or_eq_true ((MapD.mk (95 : Nat) (fun d => hasN L d) (fun d => caD (getN L d)) (lenN L)).has (nmD (ps.getD i.toNat noPt).cl (ps.getD i.toNat noPt).n)) with hb2 | hb2
      · skip
        rcases Bool.eq_false_or_eq_true (decide ((ps.getD i.toNat noPt).at' < now)) with hb3 | hb3
        · skip
          exact go_ret B1_ok rfl rfl Tryd.func42 (sr' := ⟨1, [.d (.raw (.int .i64 (i)))], [(0, .mp ⟨95, fun d => hasN L d, fun d => caD (getN L d), (lenN L)⟩)]⟩) (cs := [_, ((0 : Int) ≤ i ∧ i < (↑ps.length : Int)), _, _]) [true, true, true] true (by kernel_rfl) (by kernel_rfl) ⟨hb1, (by exact absurd (of_decide_eq_true hb1) (by omega)), hb2, hb3, trivial⟩ (by exact absurd (of_decide_eq_true hb1) (by omega)) hsim
        · skip
          rcases Bool.eq_false_or_eq_true ((MapD.mk (95 : Nat) (fun d => hasS S d) (fun x => D.raw (Value.bool true)) (lenS S)).has (nmD (ps.getD i.toNat noPt).cl (ps.getD i.toNat noPt).n)) with hb4 | hb4
          · skip
            exact go_ret B1_ok rfl rfl Tryd.func42 (sr' := ⟨1, [.d (.raw (.int .i64 (i)))], [(0, .mp ⟨95, fun d => hasN L d, fun d => caD (getN L d), (lenN L)⟩)]⟩) (cs := [_, ((0 : Int) ≤ i ∧ i < (↑ps.length : Int)), _, _, ((false) = false), _, ((true) = true)]) [true, true, false, false, true, true] true (by kernel_rfl) (by kernel_rfl) ⟨hb1, (by exact absurd (of_decide_eq_true hb1) (by omega)), hb2, hb3, rfl, hb4, rfl, trivial⟩ (by exact absurd (of_decide_eq_true hb1) (by omega)) hsim
          · skip
            rcases Bool.eq_false_or_eq_true (decide ((ps.getD i.toNat noPt).at' < (getN L (nmD (ps.getD i.toNat noPt).cl (ps.getD i.toNat noPt).n)).fr)) with hb5 | hb5
            · skip
              exact go_ret B1_ok rfl rfl Tryd.func42 (sr' := ⟨1, [.d (.raw (.int .i64 (i)))], [(0, .mp ⟨95, fun d => hasN L d, fun d => caD (getN L d), (lenN L)⟩)]⟩) (cs := [_, ((0 : Int) ≤ i ∧ i < (↑ps.length : Int)), _, _, ((false) = false), _, ((false) = false), _]) ([true, true] ++ (List.replicate 4 false) ++ [true]) true (by kernel_rfl) (by kernel_rfl) ⟨hb1, (by exact absurd (of_decide_eq_true hb1) (by omega)), hb2, hb3, rfl, hb4, rfl, hb5, trivial⟩ (by exact absurd (of_decide_eq_true hb1) (by omega)) hsim
            · skip
              rcases Bool.eq_false_or_eq_true ((getN L (nmD (ps.getD i.toNat noPt).cl (ps.getD i.toNat noPt).n)).to != (-1 : Int)) with hb6 | hb6
              · skip
                rcases Bool.eq_false_or_eq_true (decide ((ps.getD i.toNat noPt).at' > (getN L (nmD (ps.getD i.toNat noPt).cl (ps.getD i.toNat noPt).n)).to)) with hb7 | hb7
                · skip
                  exact go_ret B1_ok rfl rfl Tryd.func42 (sr' := ⟨1, [.d (.raw (.int .i64 (i)))], [(0, .mp ⟨95, fun d => hasN L d, fun d => caD (getN L d), (lenN L)⟩)]⟩) (cs := [_, ((0 : Int) ≤ i ∧ i < (↑ps.length : Int)), _, _, ((false) = false), _, ((false) = false), _, _, _]) ([true, true] ++ (List.replicate 5 false) ++ [true, true]) true (by kernel_rfl) (by kernel_rfl) ⟨hb1, (by exact absurd (of_decide_eq_true hb1) (by omega)), hb2, hb3, rfl, hb4, rfl, hb5, hb6, hb7, trivial⟩ (by exact absurd (of_decide_eq_true hb1) (by omega)) hsim
                · skip
                  refine go_head B1_ok rfl rfl (k' := loopAt Tryd.f42 0) (s' := mk 1 66 [(0, .mp 0), (5, .mp 1), (6, .d (.raw (.int .i64 ((ps.getD i.toNat noPt).at')))), (12, .d (.list 5 (ps.length) (ptEl ps))), (13, .d (.raw (.int .i64 (n)))), (14, .d (.raw (.int .i64 (IntKind.i64.wrap (i + (1 : Int))))))] [(0, .mp ⟨95, fun d => hasN L d, fun d => caD (getN L d), (lenN L)⟩), (1, .mp ⟨95, fun x => keyEq x (nmD (ps.getD i.toNat noPt).cl (ps.getD i.toNat noPt).n) || (MapD.mk (95 : Nat) (fun d => hasS S d) (fun x => D.raw (Value.bool true)) (lenS S)).has x, fun x =>   match keyEq x (nmD (ps.getD i.toNat noPt).cl (ps.getD i.toNat noPt).n) with   | true => D.raw (Value.bool true)   | false => (MapD.mk (95 : Nat) (fun d => hasS S d) (fun x => D.raw (Value.bool true)) (lenS S)).val x, (match (MapD.mk (95 : Nat) (fun d => hasS S d) (fun x => D.raw (Value.bool true)) (lenS S)).has (nmD (ps.getD i.toNat noPt).cl (ps.getD i.toNat noPt).n) with | true => (MapD.mk (95 : Nat) (fun d => hasS S d) (fun x => D.raw (Value.bool true)) (lenS S)).n | false => (MapD.mk (95 : Nat) (fun d => hasS S d) (fun x => D.raw (Value.bool true)) (lenS S)).n + (1 : Nat))⟩)]) (cs := [_, ((0 : Int) ≤ i ∧ i < (↑ps.length : Int)), _, _, ((false) = false), _, ((false) = false), _, _, _]) ([true, true] ++ (List.replicate 5 false) ++ [true, false]) [0,5,6,12,13,14] (by kernel_rfl) (by kernel_rfl) ⟨hb1, (by exact absurd (of_decide_eq_true hb1) (by omega)), hb2, hb3, rfl, hb4, rfl, hb5, hb6, hb7, trivial⟩ hsim fun E a w hsim => ?_
                  exact absurd (of_decide_eq_true hb1) (by omega)
              · skip
                refine go_head B1_ok rfl rfl (k' := loopAt Tryd.f42 0) (s' := mk 1 66 [(0, .mp 0), (5, .mp 1), (6, .d (.raw (.int .i64 ((ps.getD i.toNat noPt).at')))), (12, .d (.list 5 (ps.length) (ptEl ps))), (13, .d (.raw (.int .i64 (n)))), (14, .d (.raw (.int .i64 (IntKind.i64.wrap (i + (1 : Int))))))] [(0, .mp ⟨95, fun d => hasN L d, fun d => caD (getN L d), (lenN L)⟩), (1, .mp ⟨95, fun x => keyEq x (nmD (ps.getD i.toNat noPt).cl (ps.getD i.toNat noPt).n) || (MapD.mk (95 : Nat) (fun d => hasS S d) (fun x => D.raw (Value.bool true)) (lenS S)).has x, fun x =>   match keyEq x (nmD (ps.getD i.toNat noPt).cl (ps.getD i.toNat noPt).n) with   | true => D.raw (Value.bool true)   | false => (MapD.mk (95 : Nat) (fun d => hasS S d) (fun x => D.raw (Value.bool true)) (lenS S)).val x, (match (MapD.mk (95 : Nat) (fun d => hasS S d) (fun x => D.raw (Value.bool true)) (lenS S)).has (nmD (ps.getD i.toNat noPt).cl (ps.getD i.toNat noPt).n) with | true => (MapD.mk (95 : Nat) (fun d => hasS S d) (fun x => D.raw (Value.bool true)) (lenS S)).n | false => (MapD.mk (95 : Nat) (fun d => hasS S d) (fun x => D.raw (Value.bool true)) (lenS S)).n + (1 : Nat))⟩)]) (cs := [_, ((0 : Int) ≤ i ∧ i < (↑ps.length : Int)), _, _, ((false) = false), _, ((false) = false), _, _]) ([true, true] ++ (List.replicate 6 false)) [0,5,6,12,13,14] (by kernel_rfl) (by kernel_rfl) ⟨hb1, (by exact absurd (of_decide_eq_true hb1) (by omega)), hb2, hb3, rfl, hb4, rfl, hb5, hb6, trivial⟩ hsim fun E a w hsim => ?_
                exact absurd (of_decide_eq_true hb1) (by omega)
      · skip
        rcases Bool.eq_false_or_eq_true (decide ((ps.getD i.toNat noPt).at' < now)) with hb8 | hb8
        · skip
          exact go_ret B1_ok rfl rfl Tryd.func42 (sr' := ⟨1, [.d (.raw (.int .i64 (i)))], [(0, .mp ⟨95, fun d => hasN L d, fun d => caD (getN L d), (lenN L)⟩)]⟩) (cs := [_, ((0 : Int) ≤ i ∧ i < (↑ps.length : Int)), _, _]) [true, false, true] true (by kernel_rfl) (by kernel_rfl) ⟨hb1, (by exact absurd (of_decide_eq_true hb1) (by omega)), hb2, hb8, trivial⟩ (by exact absurd (of_decide_eq_true hb1) (by omega)) hsim
        · skip
          exact go_ret B1_ok rfl rfl Tryd.func42 (sr' := ⟨1, [.d (.raw (.int .i64 (i)))], [(0, .mp ⟨95, fun d => hasN L d, fun d => caD (getN L d), (lenN L)⟩)]⟩) (cs := [_, ((0 : Int) ≤ i ∧ i < (↑ps.length : Int)), _, _, ((true) = true)]) [true, false, false, true] true (by kernel_rfl) (by kernel_rfl) ⟨hb1, (by exact absurd (of_decide_eq_true hb1) (by omega)), hb2, hb8, rfl, trivial⟩ (by exact absurd (of_decide_eq_true hb1) (by omega)) hsim
    · skip
      exact go_ret B1_ok rfl rfl Tryd.func42 (sr' := ⟨1, [.d (.raw (.int .i64 ((-1 : Int))))], [(0, .mp ⟨95, fun d => hasN L d, fun d => caD (getN L d), (lenN L)⟩)]⟩) (cs := [_]) [false] true (by kernel_rfl) (by kernel_rfl) ⟨hb1, trivial⟩ (by rfl) hsim
  | succ d ih =>
    intro n i en h0 hd S now E a w hsim
    have hi : i.toNat < ps.length := by omega
    have ew : IntKind.i64.wrap (i + 1) = i + 1 := wrapP (by omega)
    have hr : orF L S now (ps.drop i.toNat) i = if ordB L S now (ps.getD i.toNat noPt) = true then i else orF L (ps.getD i.toNat noPt :: S) (ps.getD i.toNat noPt).at' (ps.drop (IntKind.i64.wrap (i + 1)).toNat) (IntKind.i64.wrap (i + 1)) := by
      rw [getD_drop (d := noPt) hi, ew, show (i + 1).toNat = i.toNat + 1 by omega]; rfl
    have ih := ih n (IntKind.i64.wrap (i + 1)) en (by rw [ew]; omega) (by rw [ew]; omega) (ps.getD i.toNat noPt :: S) (ps.getD i.toNat noPt).at'
    rw [hr]
    rcases Bool.eq_false_or_eq_true (decide (i < n)) with hb1 | hb1
    · skip
      rcases Bool.eq_false_or_eq_true ((MapD.mk (95 : Nat) (fun d => hasN L d) (fun d => caD (getN L d)) (lenN L)).has (nmD (ps.getD i.toNat noPt).cl (ps.getD i.toNat noPt).n)) with hb2 | hb2
      · skip
        rcases Bool.eq_false_or_eq_true (decide ((ps.getD i.toNat noPt).at' < now)) with hb3 | hb3
        · skip
          exact go_ret B1_ok rfl rfl Tryd.func42 (sr' := ⟨1, [.d (.raw (.int .i64 (i)))], [(0, .mp ⟨95, fun d => hasN L d, fun d => caD (getN L d), (lenN L)⟩)]⟩) (cs := [_, ((0 : Int) ≤ i ∧ i < (↑ps.length : Int)), _, _]) [true, true, true] true (by kernel_rfl) (by kernel_rfl) ⟨hb1, (by omega), hb2, hb3, trivial⟩ (by (rw [if_pos (by { clear hsim ih hr; (try dsimp only at *); generalize ps.getD i.toNat noPt = c at *; unfold ordB; first | (simp only [*, Bool.or_true, Bool.true_or, Bool.true_and, Bool.and_true, Bool.and_self]; done) | simp_all })]; rfl)) hsim
        · skip
          rcases Bool.eq_false_or_eq_true ((MapD.mk (95 : Nat) (fun d => hasS S d) (fun x => D.raw (Value.bool true)) (lenS S)).has (nmD (ps.getD i.toNat noPt).cl (ps.getD i.toNat noPt).n)) with hb4 | hb4
          · skip
            exact go_ret B1_ok rfl rfl Tryd.func42 (sr' := ⟨1, [.d (.raw (.int .i64 (i)))], [(0, .mp ⟨95, fun d => hasN L d, fun d => caD (getN L d), (lenN L)⟩)]⟩) (cs := [_, ((0 : Int) ≤ i ∧ i < (↑ps.length : Int)), _, _, ((false) = false), _, ((true) = true)]) [true, true, false, false, true, true] true (by kernel_rfl) (by kernel_rfl) ⟨hb1, (by omega), hb2, hb3, rfl, hb4, rfl, trivial⟩ (by (rw [if_pos (by { clear hsim ih hr; (try dsimp only at *); generalize ps.getD i.toNat noPt = c at *; unfold ordB; first | (simp only [*, Bool.or_true, Bool.true_or, Bool.true_and, Bool.and_true, Bool.and_self]; done) | simp_all })]; rfl)) hsim
          · skip
            rcases Bool.eq_false_or_eq_true (decide ((ps.getD i.toNat noPt).at' < (getN L (nmD (ps.getD i.toNat noPt).cl (ps.getD i.toNat noPt).n)).fr)) with hb5 | hb5
            · skip
              exact go_ret B1_ok rfl rfl Tryd.func42 (sr' := ⟨1, [.d (.raw (.int .i64 (i)))], [(0, .mp ⟨95, fun d => hasN L d, fun d => caD (getN L d), (lenN L)⟩)]⟩) (cs := [_, ((0 : Int) ≤ i ∧ i < (↑ps.length : Int)), _, _, ((false) = false), _, ((false) = false), _]) ([true, true] ++ (List.replicate 4 false) ++ [true]) true (by kernel_rfl) (by kernel_rfl) ⟨hb1, (by omega), hb2, hb3, rfl, hb4, rfl, hb5, trivial⟩ (by (rw [if_pos (by { clear hsim ih hr; (try dsimp only at *); generalize ps.getD i.toNat noPt = c at *; unfold ordB; first | (simp only [*, Bool.or_true, Bool.true_or, Bool.true_and, Bool.and_true, Bool.and_self]; done) | simp_all })]; rfl)) hsim
            · skip
              rcases Bool.eq_false_or_eq_true ((getN L (nmD (ps.getD i.toNat noPt).cl (ps.getD i.toNat noPt).n)).to != (-1 : Int)) with hb6 | hb6
              · skip
                rcases Bool.eq_false_or_eq_true (decide ((ps.getD i.toNat noPt).at' > (getN L (nmD (ps.getD i.toNat noPt).cl (ps.getD i.toNat noPt).n)).to)) with hb7 | hb7
                · skip
                  exact go_ret B1_ok rfl rfl Tryd.func42 (sr' := ⟨1, [.d (.raw (.int .i64 (i)))], [(0, .mp ⟨95, fun d => hasN L d, fun d => caD (getN L d), (lenN L)⟩)]⟩) (cs := [_, ((0 : Int) ≤ i ∧ i < (↑ps.length : Int)), _, _, ((false) = false), _, ((false) = false), _, _, _]) ([true, true] ++ (List.replicate 5 false) ++ [true, true]) true (by kernel_rfl) (by kernel_rfl) ⟨hb1, (by omega), hb2, hb3, rfl, hb4, rfl, hb5, hb6, hb7, trivial⟩ (by (rw [if_pos (by { clear hsim ih hr; (try dsimp only at *); generalize ps.getD i.toNat noPt = c at *; unfold ordB; first | (simp only [*, Bool.or_true, Bool.true_or, Bool.true_and, Bool.and_true, Bool.and_self]; done) | simp_all })]; rfl)) hsim
                · skip
                  refine go_head B1_ok rfl rfl (k' := loopAt Tryd.f42 0) (s' := mk 1 66 [(0, .mp 0), (5, .mp 1), (6, .d (.raw (.int .i64 ((ps.getD i.toNat noPt).at')))), (12, .d (.list 5 (ps.length) (ptEl ps))), (13, .d (.raw (.int .i64 (n)))), (14, .d (.raw (.int .i64 (IntKind.i64.wrap (i + (1 : Int))))))] [(0, .mp ⟨95, fun d => hasN L d, fun d => caD (getN L d), (lenN L)⟩), (1, .mp ⟨95, fun x => keyEq x (nmD (ps.getD i.toNat noPt).cl (ps.getD i.toNat noPt).n) || (MapD.mk (95 : Nat) (fun d => hasS S d) (fun x => D.raw (Value.bool true)) (lenS S)).has x, fun x =>   match keyEq x (nmD (ps.getD i.toNat noPt).cl (ps.getD i.toNat noPt).n) with   | true => D.raw (Value.bool true)   | false => (MapD.mk (95 : Nat) (fun d => hasS S d) (fun x => D.raw (Value.bool true)) (lenS S)).val x, (match (MapD.mk (95 : Nat) (fun d => hasS S d) (fun x => D.raw (Value.bool true)) (lenS S)).has (nmD (ps.getD i.toNat noPt).cl (ps.getD i.toNat noPt).n) with | true => (MapD.mk (95 : Nat) (fun d => hasS S d) (fun x => D.raw (Value.bool true)) (lenS S)).n | false => (MapD.mk (95 : Nat) (fun d => hasS S d) (fun x => D.raw (Value.bool true)) (lenS S)).n + (1 : Nat))⟩)]) (cs := [_, ((0 : Int) ≤ i ∧ i < (↑ps.length : Int)), _, _, ((false) = false), _, ((false) = false), _, _, _]) ([true, true] ++ (List.replicate 5 false) ++ [true, false]) [0,5,6,12,13,14] (by kernel_rfl) (by kernel_rfl) ⟨hb1, (by omega), hb2, hb3, rfl, hb4, rfl, hb5, hb6, hb7, trivial⟩ hsim fun E a w hsim => ?_
                  have e1 : ordB L S now (ps.getD i.toNat noPt) = false := by { clear hsim ih hr; (try dsimp only at *); generalize ps.getD i.toNat noPt = c at *; unfold ordB; simp_all }
                  rw [if_neg (by rw [e1]; decide)]
                  have h2 : Sim _ E (or1M L ps ((seenMp S).put (nmD (ps.getD i.toNat noPt).cl (ps.getD i.toNat noPt).n) (.raw (.bool true))) (ps.getD i.toNat noPt).at' n (IntKind.i64.wrap (i + 1))) a w := hsim
                  rw [seenMp_put] at h2
                  exact ih E a w h2
              · skip
                refine go_head B1_ok rfl rfl (k' := loopAt Tryd.f42 0) (s' := mk 1 66 [(0, .mp 0), (5, .mp 1), (6, .d (.raw (.int .i64 ((ps.getD i.toNat noPt).at')))), (12, .d (.list 5 (ps.length) (ptEl ps))), (13, .d (.raw (.int .i64 (n)))), (14, .d (.raw (.int .i64 (IntKind.i64.wrap (i + (1 : Int))))))] [(0, .mp ⟨95, fun d => hasN L d, fun d => caD (getN L d), (lenN L)⟩), (1, .mp ⟨95, fun x => keyEq x (nmD (ps.getD i.toNat noPt).cl (ps.getD i.toNat noPt).n) || (MapD.mk (95 : Nat) (fun d => hasS S d) (fun x => D.raw (Value.bool true)) (lenS S)).has x, fun x =>   match keyEq x (nmD (ps.getD i.toNat noPt).cl (ps.getD i.toNat noPt).n) with   | true => D.raw (Value.bool true)   | false => (MapD.mk (95 : Nat) (fun d => hasS S d) (fun x => D.raw (Value.bool true)) (lenS S)).val x, (match (MapD.mk (95 : Nat) (fun d => hasS S d) (fun x => D.raw (Value.bool true)) (lenS S)).has (nmD (ps.getD i.toNat noPt).cl (ps.getD i.toNat noPt).n) with | true => (MapD.mk (95 : Nat) (fun d => hasS S d) (fun x => D.raw (Value.bool true)) (lenS S)).n | false => (MapD.mk (95 : Nat) (fun d => hasS S d) (fun x => D.raw (Value.bool true)) (lenS S)).n + (1 : Nat))⟩)]) (cs := [_, ((0 : Int) ≤ i ∧ i < (↑ps.length : Int)), _, _, ((false) = false), _, ((false) = false), _, _]) ([true, true] ++ (List.replicate 6 false)) [0,5,6,12,13,14] (by kernel_rfl) (by kernel_rfl) ⟨hb1, (by omega), hb2, hb3, rfl, hb4, rfl, hb5, hb6, trivial⟩ hsim fun E a w hsim => ?_
                have e1 : ordB L S now (ps.getD i.toNat noPt) = false := by { clear hsim ih hr; (try dsimp only at *); generalize ps.getD i.toNat noPt = c at *; unfold ordB; simp_all }
                rw [if_neg (by rw [e1]; decide)]
                have h2 : Sim _ E (or1M L ps ((seenMp S).put (nmD (ps.getD i.toNat noPt).cl (ps.getD i.toNat noPt).n) (.raw (.bool true))) (ps.getD i.toNat noPt).at' n (IntKind.i64.wrap (i + 1))) a w := hsim
                rw [seenMp_put] at h2
                exact ih E a w h2
      · skip
        rcases Bool.eq_false_or_eq_true (decide ((ps.getD i.toNat noPt).at' < now)) with hb8 | hb8
        · skip
          exact go_ret B1_ok rfl rfl Tryd.func42 (sr' := ⟨1, [.d (.raw (.int .i64 (i)))], [(0, .mp ⟨95, fun d => hasN L d, fun d => caD (getN L d), (lenN L)⟩)]⟩) (cs := [_, ((0 : Int) ≤ i ∧ i < (↑ps.length : Int)), _, _]) [true, false, true] true (by kernel_rfl) (by kernel_rfl) ⟨hb1, (by omega), hb2, hb8, trivial⟩ (by (rw [if_pos (by { clear hsim ih hr; (try dsimp only at *); generalize ps.getD i.toNat noPt = c at *; unfold ordB; first | (simp only [*, Bool.or_true, Bool.true_or, Bool.true_and, Bool.and_true, Bool.and_self]; done) | simp_all })]; rfl)) hsim
        · skip
          exact go_ret B1_ok rfl rfl Tryd.func42 (sr' := ⟨1, [.d (.raw (.int .i64 (i)))], [(0, .mp ⟨95, fun d => hasN L d, fun d => caD (getN L d), (lenN L)⟩)]⟩) (cs := [_, ((0 : Int) ≤ i ∧ i < (↑ps.length : Int)), _, _, ((true) = true)]) [true, false, false, true] true (by kernel_rfl) (by kernel_rfl) ⟨hb1, (by omega), hb2, hb8, rfl, trivial⟩ (by (rw [if_pos (by { clear hsim ih hr; (try dsimp only at *); generalize ps.getD i.toNat noPt = c at *; unfold ordB; first | (simp only [*, Bool.or_true, Bool.true_or, Bool.true_and, Bool.and_true, Bool.and_self]; done) | simp_all })]; rfl)) hsim
    · skip
      exact go_ret B1_ok rfl rfl Tryd.func42 (sr' := ⟨1, [.d (.raw (.int .i64 ((-1 : Int))))], [(0, .mp ⟨95, fun d => hasN L d, fun d => caD (getN L d), (lenN L)⟩)]⟩) (cs := [_]) [false] true (by kernel_rfl) (by kernel_rfl) ⟨hb1, trivial⟩ (by exact absurd (of_decide_eq_false hb1) (by omega)) hsim
theorem ordered_ok (L : List Ca) (ps : List Pt) (hl : ps.length ≤ 1099511627776) : Eng.Spec Tryd.prog (fun _ => none) 42 [.mp 0, .d (.list 5 ps.length (ptEl ps))] [(0, .mp (knowMp L))] (.d (.raw (.int .i64 (orF L [] 0 ps 0)))) [(0, .mp (knowMp L))] := by
  refine spec_fn Tryd.func42 rfl fun {w N E act} hsim => ?_
  refine go_head B1_ok rfl rfl (k' := loopAt Tryd.f42 0) (s' := mk 1 66 [(0, .mp 0), (5, .mp 1), (6, .d (.raw (.int .i64 ((0 : Int))))), (12, .d (.list 5 (ps.length) (ptEl ps))), (13, .d (.raw (.int .i64 ((↑ps.length : Int))))), (14, .d (.raw (.int .i64 ((0 : Int)))))] [(0, .mp ⟨95, fun d => hasN L d, fun d => caD (getN L d), (lenN L)⟩), (1, .mp ⟨95, fun x => false, fun x => default, 0⟩)]) (cs := []) [] [0,5,6,12,13,14] (by kernel_rfl) (by kernel_rfl) trivial hsim fun E a w hsim => ?_
  obtain ⟨E2, h1⟩ := hsim.mapEq (k := 1) rfl (seenMp []) rfl rfl (fun _ => rfl) (fun _ h => by cases h)
  exact or_go L ps hl ps.length (ps.length : Int) 0 rfl (by omega) (by omega) [] 0 E2 a w h1
end Go.Prf
