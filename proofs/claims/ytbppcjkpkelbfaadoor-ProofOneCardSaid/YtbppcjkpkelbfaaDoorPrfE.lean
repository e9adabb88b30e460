/-
  Contracts of given functions, or plain laws that they need. No condition.
-/
import Derived.Test.YtbppcjkpkelbfaaDoorPrfC
namespace Go.Prf
open Go Go.Eng Go.Proofs Go.RowKit Go.Tab Go.Plc
set_option linter.unusedVariables false
set_option linter.unusedSimpArgs false
set_option maxRecDepth 100000
set_option maxHeartbeats 4000000
def wrongT (L : List Ca) (T : T4) (p : Pt) : Bool := !eqcs [.int .i64 (tellM T (getN L (nmD p.cl p.n)).o).1, .string (tellM T (getN L (nmD p.cl p.n)).o).2] [.int .i64 p.a.1, .string p.a.2] || ((getN L (nmD p.cl p.n)).to != -1 && !eqcs [.int .i64 (tellM T (getN L (nmD p.cl p.n)).o).1, .string (tellM T (getN L (nmD p.cl p.n)).o).2] [.int .i64 (getN L (nmD p.cl p.n)).a.1, .string (getN L (nmD p.cl p.n)).a.2])
def tdF (L : List Ca) : T4 → List Pt → Int → Int
  | _, [], _ => -1
  | T, p :: r, i => if wrongT L T p = true then i else tdF L (nextT T (getN L (nmD p.cl p.n)).o) r (i + 1)
theorem getN_none {L : List Ca} {d : D} (h : hasN L d = false) : getN L d = noCa := by
  unfold hasN at h
  unfold getN
  rw [List.find?_eq_none.2 (fun c hc hk => by
    have := List.any_eq_false.1 h c hc
    exact this hk)]
  rfl
def SmallC (L : List Ca) : Prop := ∀ c ∈ L, c.o.2.1.size ≤ 1073741824
theorem smallC_get {L : List Ca} (h : SmallC L) (d : D) : (getN L d).o.2.1.size ≤ 1073741824 := by
  unfold getN
  cases hf : L.find? (fun c => keyEq d (nmD c.cl c.n)) with
  | none => exact (by decide : (0 : Nat) ≤ 1073741824)
  | some c => exact h c (List.mem_of_find?_eq_some hf)
abbrev GoT (w0 : World) (N : Nat → Prop) (E0 : Env) (L : List Ca) (s : St) (r : Int) : Prop := ∀ (E : Env) (a : Act) (w : World), Sim (cx Tryd.prog Go.Bla.gl w0 N E0 [(0, .mp (knowMp L))]) E s a w → Goes Tryd.prog 44 (loopAt Tryd.f44 0) (RSpec (cx Tryd.prog Go.Bla.gl w0 N E0 [(0, .mp (knowMp L))]) ⟨1, [.d (.raw (.int .i64 r))], [(0, .mp (knowMp L))]⟩) a w
theorem td_go {w0 : World} {N : Nat → Prop} {E0 : Env} (L : List Ca) (hL : SmallC L) (ps : List Pt) (hl : ps.length ≤ 1099511627776) : ∀ (d : Nat) (n i : Int), n = (ps.length : Int) → 0 ≤ i → i + d = n → ∀ (T : T4), TidyT T → GoT w0 N E0 L (td1 L ps T n i) (tdF L T (ps.drop i.toNat) i) := by
  intro d
  induction d with
  | zero =>
    intro n i en h0 hd T ht E a w hsim
    have hr : tdF L T (ps.drop i.toNat) i = -1 := by rw [List.drop_eq_nil_of_le (by omega)]; rfl
    rw [hr]
    let T' : T4 := T
    let e : Int := 0
    let v : ByteArray := ByteArray.empty
    rcases bd (decide (i < n)) with hb1 | hb1
    ·
     rcases bd ((MapD.mk (95 : Nat) (fun d => hasN L d) (fun d => caD (getN L d)) (lenN L)).has (nmD (ps.getD i.toNat noPt).cl (ps.getD i.toNat noPt).n)) with hb2 | hb2
     ·
      rcases bd (!eqcs [Value.int IntKind.i64 e, Value.string v] [Value.int IntKind.i64 (ps.getD i.toNat noPt).a.fst, Value.string (ps.getD i.toNat noPt).a.snd]) with hb3 | hb3
      ·
       exact absurd (of_decide_eq_true hb1) (by omega)
      ·
       rcases bd ((getN L (nmD (ps.getD i.toNat noPt).cl (ps.getD i.toNat noPt).n)).to != (-1 : Int)) with hb4 | hb4
       ·
        rcases bd (!eqcs [Value.int IntKind.i64 e, Value.string v] [Value.int IntKind.i64 (getN L (nmD (ps.getD i.toNat noPt).cl (ps.getD i.toNat noPt).n)).a.fst, Value.string (getN L (nmD (ps.getD i.toNat noPt).cl (ps.getD i.toNat noPt).n)).a.snd]) with hb5 | hb5
        ·
         exact absurd (of_decide_eq_true hb1) (by omega)
        ·
         exact absurd (of_decide_eq_true hb1) (by omega)
       ·
        exact absurd (of_decide_eq_true hb1) (by omega)
     ·
      rcases bd (!eqcs [Value.int IntKind.i64 e, Value.string v] [Value.int IntKind.i64 (ps.getD i.toNat noPt).a.fst, Value.string (ps.getD i.toNat noPt).a.snd]) with hb6 | hb6
      ·
       exact absurd (of_decide_eq_true hb1) (by omega)
      ·
       rcases bd (!eqcs [Value.int IntKind.i64 e, Value.string v] [Value.int IntKind.i64 (0 : Int), Value.string (ByteArray.mk #[])]) with hb7 | hb7
       ·
        exact absurd (of_decide_eq_true hb1) (by omega)
       ·
        exact absurd (of_decide_eq_true hb1) (by omega)
    ·
     exact gr (B2_ok T T' e v) Tryd.func44 (sr' := ⟨1, [vI ((-1 : Int))], [(0, .mp ⟨95, fun d => hasN L d, fun d => caD (getN L d), (lenN L)⟩)]⟩) (cs := [_]) [false] true ⟨hb1, trivial⟩ (by rfl) hsim
  | succ d ih =>
    intro n i en h0 hd T ht E a w hsim
    have hi : i.toNat < ps.length := by omega
    have ew : IntKind.i64.wrap (i + 1) = i + 1 := wrapP (by omega)
    obtain ⟨c, hc⟩ : ∃ c, c = getN L (nmD (ps.getD i.toNat noPt).cl (ps.getD i.toNat noPt).n) := ⟨_, rfl⟩
    have hk := smallC_get hL (nmD (ps.getD i.toNat noPt).cl (ps.getD i.toNat noPt).n)
    obtain ⟨T', hT⟩ : ∃ T', T' = nextT T (getN L (nmD (ps.getD i.toNat noPt).cl (ps.getD i.toNat noPt).n)).o := ⟨_, rfl⟩
    obtain ⟨e, he⟩ : ∃ e, e = (tellM T (getN L (nmD (ps.getD i.toNat noPt).cl (ps.getD i.toNat noPt).n)).o).1 := ⟨_, rfl⟩
    obtain ⟨v, hv⟩ : ∃ v, v = (tellM T (getN L (nmD (ps.getD i.toNat noPt).cl (ps.getD i.toNat noPt).n)).o).2 := ⟨_, rfl⟩
    have hr : tdF L T (ps.drop i.toNat) i = if wrongT L T (ps.getD i.toNat noPt) = true then i else tdF L T' (ps.drop (IntKind.i64.wrap (i + 1)).toNat) (IntKind.i64.wrap (i + 1)) := by
      rw [getD_drop (d := noPt) hi, ew, show (i + 1).toNat = i.toNat + 1 by omega, hT]; rfl
    have hw : wrongT L T (ps.getD i.toNat noPt) = (!eqcs [.int .i64 e, .string v] [.int .i64 (ps.getD i.toNat noPt).a.1, .string (ps.getD i.toNat noPt).a.2] || (c.to != -1 && !eqcs [.int .i64 e, .string v] [.int .i64 c.a.1, .string c.a.2])) := by
      unfold wrongT; rw [← he, ← hv, hc]
    have ih := ih n (IntKind.i64.wrap (i + 1)) en (by rw [ew]; omega) (by rw [ew]; omega) T' (by rw [hT]; exact next_tidy ht _)
    rw [hr]
    have hob : TidyT T ∧ (e, v) = tellM T (getN L (nmD (ps.getD i.toNat noPt).cl (ps.getD i.toNat noPt).n)).o ∧ T' = nextT T (getN L (nmD (ps.getD i.toNat noPt).cl (ps.getD i.toNat noPt).n)).o ∧ (getN L (nmD (ps.getD i.toNat noPt).cl (ps.getD i.toNat noPt).n)).o.2.1.size ≤ 1073741824 := ⟨ht, by rw [he, hv], hT, hk⟩
    have hob2 : hasN L (nmD (ps.getD i.toNat noPt).cl (ps.getD i.toNat noPt).n) = false → TidyT T ∧ (e, v) = tellM T noOp ∧ T' = nextT T noOp ∧ ByteArray.size ByteArray.empty ≤ 1073741824 := fun h => by
      rw [getN_none h] at hob; exact hob
    have hnone : hasN L (nmD (ps.getD i.toNat noPt).cl (ps.getD i.toNat noPt).n) = false → c.to = 0 ∧ c.a.1 = 0 ∧ c.a.2 = ByteArray.mk #[] := fun h => by rw [hc, getN_none h]; exact ⟨rfl, rfl, rfl⟩
    clear he hv hT hk
    rcases bd (decide (i < n)) with hb1 | hb1
    ·
     rcases bd ((MapD.mk (95 : Nat) (fun d => hasN L d) (fun d => caD (getN L d)) (lenN L)).has (nmD (ps.getD i.toNat noPt).cl (ps.getD i.toNat noPt).n)) with hb2 | hb2
     ·
      rcases bd (!eqcs [Value.int IntKind.i64 e, Value.string v] [Value.int IntKind.i64 (ps.getD i.toNat noPt).a.fst, Value.string (ps.getD i.toNat noPt).a.snd]) with hb3 | hb3
      ·
       exact gr (B2_ok T T' e v) Tryd.func44 (sr' := ⟨1, [vI i], [(0, .mp ⟨95, fun d => hasN L d, fun d => caD (getN L d), (lenN L)⟩)]⟩) (cs := [_, ((0 : Int) ≤ i ∧ i < (↑ps.length : Int)), _, ((true) = true), (T.a.length = T.a.length), (rowEl T.a = rowEl T.a), (T.b.length = T.b.length), (rowEl T.b = rowEl T.b), (T.c.length = T.c.length), (rowEl T.c = rowEl T.c), (T.d.length = T.d.length), (rowEl T.d = rowEl T.d), (TidyT T ∧ (e, v) = tellM T ((getN L (nmD (ps.getD i.toNat noPt).cl (ps.getD i.toNat noPt).n)).o.fst, (getN L (nmD (ps.getD i.toNat noPt).cl (ps.getD i.toNat noPt).n)).o.snd.fst, (getN L (nmD (ps.getD i.toNat noPt).cl (ps.getD i.toNat noPt).n)).o.snd.snd.fst, (getN L (nmD (ps.getD i.toNat noPt).cl (ps.getD i.toNat noPt).n)).o.snd.snd.snd) ∧ T' = nextT T ((getN L (nmD (ps.getD i.toNat noPt).cl (ps.getD i.toNat noPt).n)).o.fst, (getN L (nmD (ps.getD i.toNat noPt).cl (ps.getD i.toNat noPt).n)).o.snd.fst, (getN L (nmD (ps.getD i.toNat noPt).cl (ps.getD i.toNat noPt).n)).o.snd.snd.fst, (getN L (nmD (ps.getD i.toNat noPt).cl (ps.getD i.toNat noPt).n)).o.snd.snd.snd) ∧ (getN L (nmD (ps.getD i.toNat noPt).cl (ps.getD i.toNat noPt).n)).o.snd.fst.size ≤ 1073741824), _]) [true, true, true] true ⟨hb1, by omega, hb2, rfl, by omega, (by rfl), by omega, (by rfl), by omega, (by rfl), by omega, (by rfl), by omega, hb3, trivial⟩ (by (rw [if_pos (by { rw [hw]; clear hw; clear hsim ih hr hob hob2; (try dsimp only at *); simp only [← hc] at *; clear hc; generalize hasN L (nmD (ps.getD i.toNat noPt).cl (ps.getD i.toNat noPt).n) = B at *; generalize ps.getD i.toNat noPt = p at *; simp_all })]; rfl)) hsim
      ·
       rcases bd ((getN L (nmD (ps.getD i.toNat noPt).cl (ps.getD i.toNat noPt).n)).to != (-1 : Int)) with hb4 | hb4
       ·
        rcases bd (!eqcs [Value.int IntKind.i64 e, Value.string v] [Value.int IntKind.i64 (getN L (nmD (ps.getD i.toNat noPt).cl (ps.getD i.toNat noPt).n)).a.fst, Value.string (getN L (nmD (ps.getD i.toNat noPt).cl (ps.getD i.toNat noPt).n)).a.snd]) with hb5 | hb5
        ·
         exact gr (B2_ok T T' e v) Tryd.func44 (sr' := ⟨1, [vI i], [(0, .mp ⟨95, fun d => hasN L d, fun d => caD (getN L d), (lenN L)⟩)]⟩) (cs := [_, ((0 : Int) ≤ i ∧ i < (↑ps.length : Int)), _, ((true) = true), (T.a.length = T.a.length), (rowEl T.a = rowEl T.a), (T.b.length = T.b.length), (rowEl T.b = rowEl T.b), (T.c.length = T.c.length), (rowEl T.c = rowEl T.c), (T.d.length = T.d.length), (rowEl T.d = rowEl T.d), (TidyT T ∧ (e, v) = tellM T ((getN L (nmD (ps.getD i.toNat noPt).cl (ps.getD i.toNat noPt).n)).o.fst, (getN L (nmD (ps.getD i.toNat noPt).cl (ps.getD i.toNat noPt).n)).o.snd.fst, (getN L (nmD (ps.getD i.toNat noPt).cl (ps.getD i.toNat noPt).n)).o.snd.snd.fst, (getN L (nmD (ps.getD i.toNat noPt).cl (ps.getD i.toNat noPt).n)).o.snd.snd.snd) ∧ T' = nextT T ((getN L (nmD (ps.getD i.toNat noPt).cl (ps.getD i.toNat noPt).n)).o.fst, (getN L (nmD (ps.getD i.toNat noPt).cl (ps.getD i.toNat noPt).n)).o.snd.fst, (getN L (nmD (ps.getD i.toNat noPt).cl (ps.getD i.toNat noPt).n)).o.snd.snd.fst, (getN L (nmD (ps.getD i.toNat noPt).cl (ps.getD i.toNat noPt).n)).o.snd.snd.snd) ∧ (getN L (nmD (ps.getD i.toNat noPt).cl (ps.getD i.toNat noPt).n)).o.snd.fst.size ≤ 1073741824), _, _, _]) [true, true, false, true, true] true ⟨hb1, by omega, hb2, rfl, by omega, (by rfl), by omega, (by rfl), by omega, (by rfl), by omega, (by rfl), by omega, hb3, hb4, hb5, trivial⟩ (by (rw [if_pos (by { rw [hw]; clear hw; clear hsim ih hr hob hob2; (try dsimp only at *); simp only [← hc] at *; clear hc; generalize hasN L (nmD (ps.getD i.toNat noPt).cl (ps.getD i.toNat noPt).n) = B at *; generalize ps.getD i.toNat noPt = p at *; simp_all })]; rfl)) hsim
        ·
         refine gh (B2_ok T T' e v) (k' := loopAt Tryd.f44 0) (s' := mk 1 43 [(0, .mp 0), (5, .ref 1 0), (11, .d (.list 5 ps.length (ptEl ps))), (12, vI n), (13, vI (IntKind.i64.wrap (i + 1)))] [(0, .mp ⟨95, fun d => hasN L d, fun d => caD (getN L d), (lenN L)⟩), (1, .obj 112 [.ref 2 0, .ref 4 0, .ref 6 0, .ref 8 0]), (2, .obj 145 [.own 3]), (3, .row 148 2 T'.a.length (rowEl T'.a)), (4, .obj 145 [.own 5]), (5, .row 148 2 T'.b.length (rowEl T'.b)), (6, .obj 145 [.own 7]), (7, .row 148 2 T'.c.length (rowEl T'.c)), (8, .obj 145 [.own 9]), (9, .row 148 2 T'.d.length (rowEl T'.d))]) (cs := [_, ((0 : Int) ≤ i ∧ i < (↑ps.length : Int)), _, ((true) = true), (T.a.length = T.a.length), (rowEl T.a = rowEl T.a), (T.b.length = T.b.length), (rowEl T.b = rowEl T.b), (T.c.length = T.c.length), (rowEl T.c = rowEl T.c), (T.d.length = T.d.length), (rowEl T.d = rowEl T.d), (TidyT T ∧ (e, v) = tellM T ((getN L (nmD (ps.getD i.toNat noPt).cl (ps.getD i.toNat noPt).n)).o.fst, (getN L (nmD (ps.getD i.toNat noPt).cl (ps.getD i.toNat noPt).n)).o.snd.fst, (getN L (nmD (ps.getD i.toNat noPt).cl (ps.getD i.toNat noPt).n)).o.snd.snd.fst, (getN L (nmD (ps.getD i.toNat noPt).cl (ps.getD i.toNat noPt).n)).o.snd.snd.snd) ∧ T' = nextT T ((getN L (nmD (ps.getD i.toNat noPt).cl (ps.getD i.toNat noPt).n)).o.fst, (getN L (nmD (ps.getD i.toNat noPt).cl (ps.getD i.toNat noPt).n)).o.snd.fst, (getN L (nmD (ps.getD i.toNat noPt).cl (ps.getD i.toNat noPt).n)).o.snd.snd.fst, (getN L (nmD (ps.getD i.toNat noPt).cl (ps.getD i.toNat noPt).n)).o.snd.snd.snd) ∧ (getN L (nmD (ps.getD i.toNat noPt).cl (ps.getD i.toNat noPt).n)).o.snd.fst.size ≤ 1073741824), _, _, _]) [true, true, false, true, false] [0,5,11,12,13] ⟨hb1, by omega, hb2, rfl, by omega, (by rfl), by omega, (by rfl), by omega, (by rfl), by omega, (by rfl), by omega, hb3, hb4, hb5, trivial⟩ hsim fun E a w hsim => ?_
         rw [if_neg (by { rw [hw]; clear hw; clear hsim ih hr hob hob2; (try dsimp only at *); simp only [← hc] at *; clear hc; generalize hasN L (nmD (ps.getD i.toNat noPt).cl (ps.getD i.toNat noPt).n) = B at *; generalize ps.getD i.toNat noPt = p at *; simp_all })]
         exact ih E a w hsim
       ·
        refine gh (B2_ok T T' e v) (k' := loopAt Tryd.f44 0) (s' := mk 1 43 [(0, .mp 0), (5, .ref 1 0), (11, .d (.list 5 ps.length (ptEl ps))), (12, vI n), (13, vI (IntKind.i64.wrap (i + 1)))] [(0, .mp ⟨95, fun d => hasN L d, fun d => caD (getN L d), (lenN L)⟩), (1, .obj 112 [.ref 2 0, .ref 4 0, .ref 6 0, .ref 8 0]), (2, .obj 145 [.own 3]), (3, .row 148 2 T'.a.length (rowEl T'.a)), (4, .obj 145 [.own 5]), (5, .row 148 2 T'.b.length (rowEl T'.b)), (6, .obj 145 [.own 7]), (7, .row 148 2 T'.c.length (rowEl T'.c)), (8, .obj 145 [.own 9]), (9, .row 148 2 T'.d.length (rowEl T'.d))]) (cs := [_, ((0 : Int) ≤ i ∧ i < (↑ps.length : Int)), _, ((true) = true), (T.a.length = T.a.length), (rowEl T.a = rowEl T.a), (T.b.length = T.b.length), (rowEl T.b = rowEl T.b), (T.c.length = T.c.length), (rowEl T.c = rowEl T.c), (T.d.length = T.d.length), (rowEl T.d = rowEl T.d), (TidyT T ∧ (e, v) = tellM T ((getN L (nmD (ps.getD i.toNat noPt).cl (ps.getD i.toNat noPt).n)).o.fst, (getN L (nmD (ps.getD i.toNat noPt).cl (ps.getD i.toNat noPt).n)).o.snd.fst, (getN L (nmD (ps.getD i.toNat noPt).cl (ps.getD i.toNat noPt).n)).o.snd.snd.fst, (getN L (nmD (ps.getD i.toNat noPt).cl (ps.getD i.toNat noPt).n)).o.snd.snd.snd) ∧ T' = nextT T ((getN L (nmD (ps.getD i.toNat noPt).cl (ps.getD i.toNat noPt).n)).o.fst, (getN L (nmD (ps.getD i.toNat noPt).cl (ps.getD i.toNat noPt).n)).o.snd.fst, (getN L (nmD (ps.getD i.toNat noPt).cl (ps.getD i.toNat noPt).n)).o.snd.snd.fst, (getN L (nmD (ps.getD i.toNat noPt).cl (ps.getD i.toNat noPt).n)).o.snd.snd.snd) ∧ (getN L (nmD (ps.getD i.toNat noPt).cl (ps.getD i.toNat noPt).n)).o.snd.fst.size ≤ 1073741824), _, _]) [true, true, false, false] [0,5,11,12,13] ⟨hb1, by omega, hb2, rfl, by omega, (by rfl), by omega, (by rfl), by omega, (by rfl), by omega, (by rfl), by omega, hb3, hb4, trivial⟩ hsim fun E a w hsim => ?_
        rw [if_neg (by { rw [hw]; clear hw; clear hsim ih hr hob hob2; (try dsimp only at *); simp only [← hc] at *; clear hc; generalize hasN L (nmD (ps.getD i.toNat noPt).cl (ps.getD i.toNat noPt).n) = B at *; generalize ps.getD i.toNat noPt = p at *; simp_all })]
        exact ih E a w hsim
     ·
      rcases bd (!eqcs [Value.int IntKind.i64 e, Value.string v] [Value.int IntKind.i64 (ps.getD i.toNat noPt).a.fst, Value.string (ps.getD i.toNat noPt).a.snd]) with hb6 | hb6
      ·
       exact gr (B2_ok T T' e v) Tryd.func44 (sr' := ⟨1, [vI i], [(0, .mp ⟨95, fun d => hasN L d, fun d => caD (getN L d), (lenN L)⟩)]⟩) (cs := [_, ((0 : Int) ≤ i ∧ i < (↑ps.length : Int)), _, ((true) = true), (T.a.length = T.a.length), (rowEl T.a = rowEl T.a), (T.b.length = T.b.length), (rowEl T.b = rowEl T.b), (T.c.length = T.c.length), (rowEl T.c = rowEl T.c), (T.d.length = T.d.length), (rowEl T.d = rowEl T.d), (TidyT T ∧ (e, v) = tellM T ((0 : Int), ByteArray.mk #[], ByteArray.mk #[], ByteArray.mk #[]) ∧ T' = nextT T ((0 : Int), ByteArray.mk #[], ByteArray.mk #[], ByteArray.mk #[]) ∧ 0 ≤ 1073741824), _]) [true, false, true] true ⟨hb1, by omega, hb2, rfl, by omega, (by rfl), by omega, (by rfl), by omega, (by rfl), by omega, (by rfl), (by exact hob2 hb2), hb6, trivial⟩ (by (rw [if_pos (by { rw [hw]; clear hw; clear hsim ih hr hob hob2; (try dsimp only at *); simp only [← hc] at *; clear hc; generalize hasN L (nmD (ps.getD i.toNat noPt).cl (ps.getD i.toNat noPt).n) = B at *; generalize ps.getD i.toNat noPt = p at *; simp_all })]; rfl)) hsim
      ·
       rcases bd (!eqcs [Value.int IntKind.i64 e, Value.string v] [Value.int IntKind.i64 (0 : Int), Value.string (ByteArray.mk #[])]) with hb7 | hb7
       ·
        exact gr (B2_ok T T' e v) Tryd.func44 (sr' := ⟨1, [vI i], [(0, .mp ⟨95, fun d => hasN L d, fun d => caD (getN L d), (lenN L)⟩)]⟩) (cs := [_, ((0 : Int) ≤ i ∧ i < (↑ps.length : Int)), _, ((true) = true), (T.a.length = T.a.length), (rowEl T.a = rowEl T.a), (T.b.length = T.b.length), (rowEl T.b = rowEl T.b), (T.c.length = T.c.length), (rowEl T.c = rowEl T.c), (T.d.length = T.d.length), (rowEl T.d = rowEl T.d), (TidyT T ∧ (e, v) = tellM T ((0 : Int), ByteArray.mk #[], ByteArray.mk #[], ByteArray.mk #[]) ∧ T' = nextT T ((0 : Int), ByteArray.mk #[], ByteArray.mk #[], ByteArray.mk #[]) ∧ 0 ≤ 1073741824), _, ((true) = true), _]) [true, false, false, true, true] true ⟨hb1, by omega, hb2, rfl, by omega, (by rfl), by omega, (by rfl), by omega, (by rfl), by omega, (by rfl), (by exact hob2 hb2), hb6, rfl, hb7, trivial⟩ (by (rw [if_pos (by { rw [hw]; clear hw; clear hsim ih hr hob hob2; (try dsimp only at *); simp only [← hc] at *; clear hc; generalize hasN L (nmD (ps.getD i.toNat noPt).cl (ps.getD i.toNat noPt).n) = B at *; generalize ps.getD i.toNat noPt = p at *; simp_all })]; rfl)) hsim
       ·
        refine gh (B2_ok T T' e v) (k' := loopAt Tryd.f44 0) (s' := mk 1 43 [(0, .mp 0), (5, .ref 1 0), (11, .d (.list 5 ps.length (ptEl ps))), (12, vI n), (13, vI (IntKind.i64.wrap (i + 1)))] [(0, .mp ⟨95, fun d => hasN L d, fun d => caD (getN L d), (lenN L)⟩), (1, .obj 112 [.ref 2 0, .ref 4 0, .ref 6 0, .ref 8 0]), (2, .obj 145 [.own 3]), (3, .row 148 2 T'.a.length (rowEl T'.a)), (4, .obj 145 [.own 5]), (5, .row 148 2 T'.b.length (rowEl T'.b)), (6, .obj 145 [.own 7]), (7, .row 148 2 T'.c.length (rowEl T'.c)), (8, .obj 145 [.own 9]), (9, .row 148 2 T'.d.length (rowEl T'.d))]) (cs := [_, ((0 : Int) ≤ i ∧ i < (↑ps.length : Int)), _, ((true) = true), (T.a.length = T.a.length), (rowEl T.a = rowEl T.a), (T.b.length = T.b.length), (rowEl T.b = rowEl T.b), (T.c.length = T.c.length), (rowEl T.c = rowEl T.c), (T.d.length = T.d.length), (rowEl T.d = rowEl T.d), (TidyT T ∧ (e, v) = tellM T ((0 : Int), ByteArray.mk #[], ByteArray.mk #[], ByteArray.mk #[]) ∧ T' = nextT T ((0 : Int), ByteArray.mk #[], ByteArray.mk #[], ByteArray.mk #[]) ∧ 0 ≤ 1073741824), _, ((true) = true), _]) [true, false, false, true, false] [0,5,11,12,13] ⟨hb1, by omega, hb2, rfl, by omega, (by rfl), by omega, (by rfl), by omega, (by rfl), by omega, (by rfl), (by exact hob2 hb2), hb6, rfl, hb7, trivial⟩ hsim fun E a w hsim => ?_
        rw [if_neg (by { rw [hw]; clear hw; clear hsim ih hr hob hob2; (try dsimp only at *); simp only [← hc] at *; clear hc; generalize hasN L (nmD (ps.getD i.toNat noPt).cl (ps.getD i.toNat noPt).n) = B at *; generalize ps.getD i.toNat noPt = p at *; simp_all })]
        exact ih E a w hsim
    ·
     exact absurd (of_decide_eq_false hb1) (by omega)
theorem told_ok (L : List Ca) (hL : SmallC L) (ps : List Pt) (hl : ps.length ≤ 1099511627776) : Eng.Spec Tryd.prog Go.Bla.gl 44 [.mp 0, .d (.list 5 ps.length (ptEl ps))] [(0, .mp (knowMp L))] (.d (.raw (.int .i64 (tdF L T0 ps 0)))) [(0, .mp (knowMp L))] := by
  refine spec_fn Tryd.func44 rfl fun {w N E act} hsim => ?_
  let T : T4 := T0
  let T' : T4 := T0
  let e : Int := 0
  let v : ByteArray := ByteArray.empty
  refine gh (B2_ok T T' e v) (k' := loopAt Tryd.f44 0) (s' := mk 1 43 [(0, .mp 0), (5, .ref 1 0), (11, .d (.list 5 ps.length (ptEl ps))), (12, vI (↑ps.length : Int)), (13, vI 0)] [(0, .mp ⟨95, fun d => hasN L d, fun d => caD (getN L d), (lenN L)⟩), (1, .obj 112 [.ref 2 0, .ref 4 0, .ref 6 0, .ref 8 0]), (2, .obj 145 [.own 3]), (3, .row 148 2 0 (rowEl T0.a)), (4, .obj 145 [.own 5]), (5, .row 148 2 0 (rowEl T0.b)), (6, .obj 145 [.own 7]), (7, .row 148 2 0 (rowEl T0.c)), (8, .obj 145 [.own 9]), (9, .row 148 2 0 (rowEl T0.d))]) (cs := []) [] [0,5,11,12,13] trivial hsim fun E a w hsim => ?_
  exact td_go L hL ps hl ps.length (ps.length : Int) 0 rfl (by omega) (by omega) T0 tidyT0 E a w hsim
end Go.Prf
