/-
  Contracts of given functions, plain laws. No condition.
-/
import Derived.Test.YtbppcjkpkelbfaaDoorPrfC
import Derived.Test.YtbppcjkpkelbfaaDoorMapE
namespace Go.Prf
open Go Go.Eng Go.Proofs Go.RowKit Go.Tab Go.Plc
set_option maxRecDepth 100000
set_option maxHeartbeats 4000000
def wrongT (L : List Ca) (T : T4) (p : Pt) : Bool := !eqcs [.int .i64 (tellM T (getN L (nmD p.cl p.n)).o).1, .string (tellM T (getN L (nmD p.cl p.n)).o).2] [.int .i64 p.a.1, .string p.a.2] || ((getN L (nmD p.cl p.n)).to != -1 && !eqcs [.int .i64 (tellM T (getN L (nmD p.cl p.n)).o).1, .string (tellM T (getN L (nmD p.cl p.n)).o).2] [.int .i64 (getN L (nmD p.cl p.n)).a.1, .string (getN L (nmD p.cl p.n)).a.2])
def tdF (L : List Ca) : T4 → List Pt → Int → Int
 | _, [], _ => -1
 | T, p :: r, i => if wrongT L T p = true then i else tdF L (nextT T (getN L (nmD p.cl p.n)).o) r (i + 1)
theorem getN_none {L : List Ca} {d : D} (h : hasN L d = false) : getN L d = noCa := by
 unfold hasN at h
 unfold getN
 rw [List.find?_eq_none.2 (fun c hc hk => by
  have := List.any_eq_false.1 h c hc
  exact this hk)]
 rfl
def SmallC (L : List Ca) : Prop := ∀ c ∈ L, c.o.2.1.size ≤ 1073741824
theorem smallC_get {L : List Ca} (h : SmallC L) (d : D) : (getN L d).o.2.1.size ≤ 1073741824 := by
 unfold getN
 cases hf : L.find? (fun c => keyEq d (nmD c.cl c.n)) with
 | none => exact (by decide : (0 : Nat) ≤ 1073741824)
 | some c => exact h c (List.mem_of_find?_eq_some hf)
abbrev GoT (w0 : World) (N : Nat → Prop) (E0 : Env) (L : List Ca) (s : St) (r : Int) : Prop := GoG Tryd.prog Go.Bla.gl 44 (loopAt Tryd.f44 0) [(0, .mp (knowMp L))] ⟨1, [.d (.raw (.int .i64 r))], [(0, .mp (knowMp L))]⟩ w0 N E0 s
theorem td_go {w0 : World} {N : Nat → Prop} {E0 : Env} (L : List Ca) (hL : SmallC L) (ps : List Pt) (hl : ps.length ≤ 1099511627776) : ∀ (d : Nat) (n i : Int), n = (ps.length : Int) → 0 ≤ i → i + d = n → ∀ (T : T4), TidyT T → GoT w0 N E0 L (td1 L ps T n i) (tdF L T (ps.drop i.toNat) i) := by
 intro d
 induction d with
 | zero =>
  intro n i en h0 hd T ht E a w hsim
  have hr : tdF L T (ps.drop i.toNat) i = -1 := by rw [List.drop_eq_nil_of_le (by omega)]; rfl
  rw [hr]
  let T' : T4 := T
  let e : Int := 0
  let v : ByteArray := ByteArray.empty
  rcases bd (decide (i < n)) with hb1 | hb1
  ·
   rcases bd ((MapD.mk (95 : Nat) (fun d => hasN L d) (fun d => caD (getN L d)) (lenN L)).has (nmD (ps.getD i.toNat noPt).cl (ps.getD i.toNat noPt).n)) with hb2 | hb2
   ·
    rcases bd (!eqcs [Value.int IntKind.i64 e, Value.string v] [Value.int IntKind.i64 (ps.getD i.toNat noPt).a.fst, Value.string (ps.getD i.toNat noPt).a.snd]) with hb3 | hb3
    ·
     exact absurd (of_decide_eq_true hb1) (by omega)
    ·
     rcases bd ((getN L (nmD (ps.getD i.toNat noPt).cl (ps.getD i.toNat noPt).n)).to != (-1 : Int)) with hb4 | hb4
     ·
      rcases bd (!eqcs [Value.int IntKind.i64 e, Value.string v] [Value.int IntKind.i64 (getN L (nmD (ps.getD i.toNat noPt).cl (ps.getD i.toNat noPt).n)).a.fst, Value.string (getN L (nmD (ps.getD i.toNat noPt).cl (ps.getD i.toNat noPt).n)).a.snd]) with hb5 | hb5
      ·
       exact absurd (of_decide_eq_true hb1) (by omega)
      ·
       exact absurd (of_decide_eq_true hb1) (by omega)
     ·
      exact absurd (of_decide_eq_true hb1) (by omega)
   ·
    rcases bd (!eqcs [Value.int IntKind.i64 e, Value.string v] [Value.int IntKind.i64 (ps.getD i.toNat noPt).a.fst, Value.string (ps.getD i.toNat noPt).a.snd]) with hb6 | hb6
    ·
     exact absurd (of_decide_eq_true hb1) (by omega)
    ·
     rcases bd (!eqcs [Value.int IntKind.i64 e, Value.string v] [Value.int IntKind.i64 (0 : Int), Value.string (ByteArray.mk #[])]) with hb7 | hb7
     ·
      exact absurd (of_decide_eq_true hb1) (by omega)
     ·
      exact absurd (of_decide_eq_true hb1) (by omega)
  ·
   exact gr (B2_ok T T' e v) Tryd.func44 (sr' := ⟨1, [vI ((-1 : Int))], [(0, .mp ⟨95, fun d => hasN L d, fun d => caD (getN L d), (lenN L)⟩)]⟩) (cs := [_]) [false] true ⟨hb1, trivial⟩ (by rfl) hsim
 | succ d ih =>
  intro n i en h0 hd T ht E a w hsim
  have hi : i.toNat < ps.length := by omega
  have ew : IntKind.i64.wrap (i + 1) = i + 1 := wrapP (by omega)
  obtain ⟨c, hc⟩ : ∃ c, c = getN L (nmD (ps.getD i.toNat noPt).cl (ps.getD i.toNat noPt).n) := ⟨_, rfl⟩
  have hk := smallC_get hL (nmD (ps.getD i.toNat noPt).cl (ps.getD i.toNat noPt).n)
  obtain ⟨T', hT⟩ : ∃ T', T' = nextT T (getN L (nmD (ps.getD i.toNat noPt).cl (ps.getD i.toNat noPt).n)).o := ⟨_, rfl⟩
  obtain ⟨e, he⟩ : ∃ e, e = (tellM T (getN L (nmD (ps.getD i.toNat noPt).cl (ps.getD i.toNat noPt).n)).o).1 := ⟨_, rfl⟩
  obtain ⟨v, hv⟩ : ∃ v, v = (tellM T (getN L (nmD (ps.getD i.toNat noPt).cl (ps.getD i.toNat noPt).n)).o).2 := ⟨_, rfl⟩
  have hr : tdF L T (ps.drop i.toNat) i = if wrongT L T (ps.getD i.toNat noPt) = true then i else tdF L T' (ps.drop (IntKind.i64.wrap (i + 1)).toNat) (IntKind.i64.wrap (i + 1)) := by
    rw [getD_drop (d := noPt) hi, ew, show (i + 1).toNat = i.toNat + 1 by omega, hT]; rfl
  have hw : wrongT L T (ps.getD i.toNat noPt) = (!eqcs [.int .i64 e, .string v] [.int .i64 (ps.getD i.toNat noPt).a.1, .string (ps.getD i.toNat noPt).a.2] || (c.to != -1 && !eqcs [.int .i64 e, .string v] [.int .i64 c.a.1, .string c.a.2])) := by
    unfold wrongT; rw [← he, ← hv, hc]
  have ih := ih n (IntKind.i64.wrap (i + 1)) en (by rw [ew]; omega) (by rw [ew]; omega) T' (by rw [hT]; exact next_tidy ht _)
  rw [hr]
  have hob : TidyT T ∧ (e, v) = tellM T (getN L (nmD (ps.getD i.toNat noPt).cl (ps.getD i.toNat noPt).n)).o ∧ T' = nextT T (getN L (nmD (ps.getD i.toNat noPt).cl (ps.getD i.toNat noPt).n)).o ∧ (getN L (nmD (ps.getD i.toNat noPt).cl (ps.getD i.toNat noPt).n)).o.2.1.size ≤ 1073741824 := ⟨ht, by rw [he, hv], hT, hk⟩
  have hob2 : hasN L (nmD (ps.getD i.toNat noPt).cl (ps.getD i.toNat noPt).n) = false → TidyT T ∧ (e, v) = tellM T noOp ∧ T' = nextT T noOp ∧ ByteArray.size ByteArray.empty ≤ 1073741824 := fun h => by
    rw [getN_none h] at hob; exact hob
  have hnone : hasN L (nmD (ps.getD i.toNat noPt).cl (ps.getD i.toNat noPt).n) = false → c.to = 0 ∧ c.a.1 = 0 ∧ c.a.2 = ByteArray.mk #[] := fun h => by rw [hc, getN_none h]; exact ⟨rfl, rfl, rfl⟩
  clear he hv hT hk
  rcases bd (decide (i < n)) with hb1 | hb1
  ·
   rcases bd ((MapD.mk (95 : Nat) (fun d => hasN L d) (fun d => caD (getN L d)) (lenN L)).has (nmD (ps.getD i.toNat noPt).cl (ps.getD i.toNat noPt).n)) with hb2 | hb2
   ·
    rcases bd (!eqcs [Value.int IntKind.i64 e, Value.string v] [Value.int IntKind.i64 (ps.getD i.toNat noPt).a.fst, Value.string (ps.getD i.toNat noPt).a.snd]) with hb3 | hb3
    ·
     exact gr (B2_ok T T' e v) Tryd.func44 (sr' := ⟨1, [vI i], [(0, .mp ⟨95, fun d => hasN L d, fun d => caD (getN L d), (lenN L)⟩)]⟩) (cs := [_, (0 ≤ i ∧ i < ps.length), _, ((true) = true), (T.a.length = T.a.length), (rowEl T.a = rowEl T.a), (T.b.length = T.b.length), (rowEl T.b = rowEl T.b), (T.c.length = T.c.length), (rowEl T.c = rowEl T.c), (T.d.length = T.d.length), (rowEl T.d = rowEl T.d), (TidyT T ∧ (e, v) = tellM T ((getN L (nmD (ps.getD i.toNat noPt).cl (ps.getD i.toNat noPt).n)).o.fst, (getN L (nmD (ps.getD i.toNat noPt).cl (ps.getD i.toNat noPt).n)).o.snd.fst, (getN L (nmD (ps.getD i.toNat noPt).cl (ps.getD i.toNat noPt).n)).o.snd.snd.fst, (getN L (nmD (ps.getD i.toNat noPt).cl (ps.getD i.toNat noPt).n)).o.snd.snd.snd) ∧ T' = nextT T ((getN L (nmD (ps.getD i.toNat noPt).cl (ps.getD i.toNat noPt).n)).o.fst, (getN L (nmD (ps.getD i.toNat noPt).cl (ps.getD i.toNat noPt).n)).o.snd.fst, (getN L (nmD (ps.getD i.toNat noPt).cl (ps.getD i.toNat noPt).n)).o.snd.snd.fst, (getN L (nmD (ps.getD i.toNat noPt).cl (ps.getD i.toNat noPt).n)).o.snd.snd.snd) ∧ (getN L (nmD (ps.getD i.toNat noPt).cl (ps.getD i.toNat noPt).n)).o.snd.fst.size ≤ 1073741824), _]) [true, true, true] true ⟨hb1, by omega, hb2, rfl, by omega, (by rfl), by omega, (by rfl), by omega, (by rfl), by omega, (by rfl), by omega, hb3, trivial⟩ (by (rw [if_pos (by { rw [hw]; clear hw; clear hsim ih hr hob hob2; (try dsimp only at *); simp only [← hc] at *; clear hc; generalize hasN L (nmD (ps.getD i.toNat noPt).cl (ps.getD i.toNat noPt).n) = B at *; generalize ps.getD i.toNat noPt = p at *; simp_all })]; rfl)) hsim
    ·
     rcases bd ((getN L (nmD (ps.getD i.toNat noPt).cl (ps.getD i.toNat noPt).n)).to != (-1 : Int)) with hb4 | hb4
     ·
      rcases bd (!eqcs [Value.int IntKind.i64 e, Value.string v] [Value.int IntKind.i64 (getN L (nmD (ps.getD i.toNat noPt).cl (ps.getD i.toNat noPt).n)).a.fst, Value.string (getN L (nmD (ps.getD i.toNat noPt).cl (ps.getD i.toNat noPt).n)).a.snd]) with hb5 | hb5
      ·
       exact gr (B2_ok T T' e v) Tryd.func44 (sr' := ⟨1, [vI i], [(0, .mp ⟨95, fun d => hasN L d, fun d => caD (getN L d), (lenN L)⟩)]⟩) (cs := [_, (0 ≤ i ∧ i < ps.length), _, ((true) = true), (T.a.length = T.a.length), (rowEl T.a = rowEl T.a), (T.b.length = T.b.length), (rowEl T.b = rowEl T.b), (T.c.length = T.c.length), (rowEl T.c = rowEl T.c), (T.d.length = T.d.length), (rowEl T.d = rowEl T.d), (TidyT T ∧ (e, v) = tellM T ((getN L (nmD (ps.getD i.toNat noPt).cl (ps.getD i.toNat noPt).n)).o.fst, (getN L (nmD (ps.getD i.toNat noPt).cl (ps.getD i.toNat noPt).n)).o.snd.fst, (getN L (nmD (ps.getD i.toNat noPt).cl (ps.getD i.toNat noPt).n)).o.snd.snd.fst, (getN L (nmD (ps.getD i.toNat noPt).cl (ps.getD i.toNat noPt).n)).o.snd.snd.snd) ∧ T' = nextT T ((getN L (nmD (ps.getD i.toNat noPt).cl (ps.getD i.toNat noPt).n)).o.fst, (getN L (nmD (ps.getD i.toNat noPt).cl (ps.getD i.toNat noPt).n)).o.snd.fst, (getN L (nmD (ps.getD i.toNat noPt).cl (ps.getD i.toNat noPt).n)).o.snd.snd.fst, (getN L (nmD (ps.getD i.toNat noPt).cl (ps.getD i.toNat noPt).n)).o.snd.snd.snd) ∧ (getN L (nmD (ps.getD i.toNat noPt).cl (ps.getD i.toNat noPt).n)).o.snd.fst.size ≤ 1073741824), _, _, _]) [true, true, false, true, true] true ⟨hb1, by omega, hb2, rfl, by omega, (by rfl), by omega, (by rfl), by omega, (by rfl), by omega, (by rfl), by omega, hb3, hb4, hb5, trivial⟩ (by (rw [if_pos (by { rw [hw]; clear hw; clear hsim ih hr hob hob2; (try dsimp only at *); simp only [← hc] at *; clear hc; generalize hasN L (nmD (ps.getD i.toNat noPt).cl (ps.getD i.toNat noPt).n) = B at *; generalize ps.getD i.toNat noPt = p at *; simp_all })]; rfl)) hsim
      ·
       refine gh (B2_ok T T' e v) (k' := loopAt Tryd.f44 0) (s' := mk 1 43 [(0, .mp 0), (5, .ref 1 0), (11, .d (.list 5 ps.length (ptEl ps))), (12, vI n), (13, vI (wI (i + 1)))] [(0, .mp ⟨95, fun d => hasN L d, fun d => caD (getN L d), (lenN L)⟩), (1, .obj 112 [.ref 2 0, .ref 4 0, .ref 6 0, .ref 8 0]), (2, .obj 145 [.own 3]), (3, .row 148 2 T'.a.length (rowEl T'.a)), (4, .obj 145 [.own 5]), (5, .row 148 2 T'.b.length (rowEl T'.b)), (6, .obj 145 [.own 7]), (7, .row 148 2 T'.c.length (rowEl T'.c)), (8, .obj 145 [.own 9]), (9, .row 148 2 T'.d.length (rowEl T'.d))]) (cs := [_, (0 ≤ i ∧ i < ps.length), _, ((true) = true), (T.a.length = T.a.length), (rowEl T.a = rowEl T.a), (T.b.length = T.b.length), (rowEl T.b = rowEl T.b), (T.c.length = T.c.length), (rowEl T.c = rowEl T.c), (T.d.length = T.d.length), (rowEl T.d = rowEl T.d), (TidyT T ∧ (e, v) = tellM T ((getN L (nmD (ps.getD i.toNat noPt).cl (ps.getD i.toNat noPt).n)).o.fst, (getN L (nmD (ps.getD i.toNat noPt).cl (ps.getD i.toNat noPt).n)).o.snd.fst, (getN L (nmD (ps.getD i.toNat noPt).cl (ps.getD i.toNat noPt).n)).o.snd.snd.fst, (getN L (nmD (ps.getD i.toNat noPt).cl (ps.getD i.toNat noPt).n)).o.snd.snd.snd) ∧ T' = nextT T ((getN L (nmD (ps.getD i.toNat noPt).cl (ps.getD i.toNat noPt).n)).o.fst, (getN L (nmD (ps.getD i.toNat noPt).cl (ps.getD i.toNat noPt).n)).o.snd.fst, (getN L (nmD (ps.getD i.toNat noPt).cl (ps.getD i.toNat noPt).n)).o.snd.snd.fst, (getN L (nmD (ps.getD i.toNat noPt).cl (ps.getD i.toNat noPt).n)).o.snd.snd.snd) ∧ (getN L (nmD (ps.getD i.toNat noPt).cl (ps.getD i.toNat noPt).n)).o.snd.fst.size ≤ 1073741824), _, _, _]) [true, true, false, true, false] [0,5,11,12,13] ⟨hb1, by omega, hb2, rfl, by omega, (by rfl), by omega, (by rfl), by omega, (by rfl), by omega, (by rfl), by omega, hb3, hb4, hb5, trivial⟩ hsim fun E a w hsim => ?_
       rw [if_neg (by { rw [hw]; clear hw; clear hsim ih hr hob hob2; (try dsimp only at *); simp only [← hc] at *; clear hc; generalize hasN L (nmD (ps.getD i.toNat noPt).cl (ps.getD i.toNat noPt).n) = B at *; generalize ps.getD i.toNat noPt = p at *; simp_all })]
       exact ih E a w hsim
     ·
      refine gh (B2_ok T T' e v) (k' := loopAt Tryd.f44 0) (s' := mk 1 43 [(0, .mp 0), (5, .ref 1 0), (11, .d (.list 5 ps.length (ptEl ps))), (12, vI n), (13, vI (wI (i + 1)))] [(0, .mp ⟨95, fun d => hasN L d, fun d => caD (getN L d), (lenN L)⟩), (1, .obj 112 [.ref 2 0, .ref 4 0, .ref 6 0, .ref 8 0]), (2, .obj 145 [.own 3]), (3, .row 148 2 T'.a.length (rowEl T'.a)), (4, .obj 145 [.own 5]), (5, .row 148 2 T'.b.length (rowEl T'.b)), (6, .obj 145 [.own 7]), (7, .row 148 2 T'.c.length (rowEl T'.c)), (8, .obj 145 [.own 9]), (9, .row 148 2 T'.d.length (rowEl T'.d))]) (cs := [_, (0 ≤ i ∧ i < ps.length), _, ((true) = true), (T.a.length = T.a.length), (rowEl T.a = rowEl T.a), (T.b.length = T.b.length), (rowEl T.b = rowEl T.b), (T.c.length = T.c.length), (rowEl T.c = rowEl T.c), (T.d.length = T.d.length), (rowEl T.d = rowEl T.d), (TidyT T ∧ (e, v) = tellM T ((getN L (nmD (ps.getD i.toNat noPt).cl (ps.getD i.toNat noPt).n)).o.fst, (getN L (nmD (ps.getD i.toNat noPt).cl (ps.getD i.toNat noPt).n)).o.snd.fst, (getN L (nmD (ps.getD i.toNat noPt).cl (ps.getD i.toNat noPt).n)).o.snd.snd.fst, (getN L (nmD (ps.getD i.toNat noPt).cl (ps.getD i.toNat noPt).n)).o.snd.snd.snd) ∧ T' = nextT T ((getN L (nmD (ps.getD i.toNat noPt).cl (ps.getD i.toNat noPt).n)).o.fst, (getN L (nmD (ps.getD i.toNat noPt).cl (ps.getD i.toNat noPt).n)).o.snd.fst, (getN L (nmD (ps.getD i.toNat noPt).cl (ps.getD i.toNat noPt).n)).o.snd.snd.fst, (getN L (nmD (ps.getD i.toNat noPt).cl (ps.getD i.toNat noPt).n)).o.snd.snd.snd) ∧ (getN L (nmD (ps.getD i.toNat noPt).cl (ps.getD i.toNat noPt).n)).o.snd.fst.size ≤ 1073741824), _, _]) [true, true, false, false] [0,5,11,12,13] ⟨hb1, by omega, hb2, rfl, by omega, (by rfl), by omega, (by rfl), by omega, (by rfl), by omega, (by rfl), by omega, hb3, hb4, trivial⟩ hsim fun E a w hsim => ?_
      rw [if_neg (by { rw [hw]; clear hw; clear hsim ih hr hob hob2; (try dsimp only at *); simp only [← hc] at *; clear hc; generalize hasN L (nmD (ps.getD i.toNat noPt).cl (ps.getD i.toNat noPt).n) = B at *; generalize ps.getD i.toNat noPt = p at *; simp_all })]
      exact ih E a w hsim
   ·
    rcases bd (!eqcs [Value.int IntKind.i64 e, Value.string v] [Value.int IntKind.i64 (ps.getD i.toNat noPt).a.fst, Value.string (ps.getD i.toNat noPt).a.snd]) with hb6 | hb6
    ·
     exact gr (B2_ok T T' e v) Tryd.func44 (sr' := ⟨1, [vI i], [(0, .mp ⟨95, fun d => hasN L d, fun d => caD (getN L d), (lenN L)⟩)]⟩) (cs := [_, (0 ≤ i ∧ i < ps.length), _, ((true) = true), (T.a.length = T.a.length), (rowEl T.a = rowEl T.a), (T.b.length = T.b.length), (rowEl T.b = rowEl T.b), (T.c.length = T.c.length), (rowEl T.c = rowEl T.c), (T.d.length = T.d.length), (rowEl T.d = rowEl T.d), (TidyT T ∧ (e, v) = tellM T ((0 : Int), ByteArray.mk #[], ByteArray.mk #[], ByteArray.mk #[]) ∧ T' = nextT T ((0 : Int), ByteArray.mk #[], ByteArray.mk #[], ByteArray.mk #[]) ∧ 0 ≤ 1073741824), _]) [true, false, true] true ⟨hb1, by omega, hb2, rfl, by omega, (by rfl), by omega, (by rfl), by omega, (by rfl), by omega, (by rfl), (by exact hob2 hb2), hb6, trivial⟩ (by (rw [if_pos (by { rw [hw]; clear hw; clear hsim ih hr hob hob2; (try dsimp only at *); simp only [← hc] at *; clear hc; generalize hasN L (nmD (ps.getD i.toNat noPt).cl (ps.getD i.toNat noPt).n) = B at *; generalize ps.getD i.toNat noPt = p at *; simp_all })]; rfl)) hsim
    ·
     rcases bd (!eqcs [Value.int IntKind.i64 e, Value.string v] [Value.int IntKind.i64 (0 : Int), Value.string (ByteArray.mk #[])]) with hb7 | hb7
     ·
      exact gr (B2_ok T T' e v) Tryd.func44 (sr' := ⟨1, [vI i], [(0, .mp ⟨95, fun d => hasN L d, fun d => caD (getN L d), (lenN L)⟩)]⟩) (cs := [_, (0 ≤ i ∧ i < ps.length), _, ((true) = true), (T.a.length = T.a.length), (rowEl T.a = rowEl T.a), (T.b.length = T.b.length), (rowEl T.b = rowEl T.b), (T.c.length = T.c.length), (rowEl T.c = rowEl T.c), (T.d.length = T.d.length), (rowEl T.d = rowEl T.d), (TidyT T ∧ (e, v) = tellM T ((0 : Int), ByteArray.mk #[], ByteArray.mk #[], ByteArray.mk #[]) ∧ T' = nextT T ((0 : Int), ByteArray.mk #[], ByteArray.mk #[], ByteArray.mk #[]) ∧ 0 ≤ 1073741824), _, ((true) = true), _]) [true, false, false, true, true] true ⟨hb1, by omega, hb2, rfl, by omega, (by rfl), by omega, (by rfl), by omega, (by rfl), by omega, (by rfl), (by exact hob2 hb2), hb6, rfl, hb7, trivial⟩ (by (rw [if_pos (by { rw [hw]; clear hw; clear hsim ih hr hob hob2; (try dsimp only at *); simp only [← hc] at *; clear hc; generalize hasN L (nmD (ps.getD i.toNat noPt).cl (ps.getD i.toNat noPt).n) = B at *; generalize ps.getD i.toNat noPt = p at *; simp_all })]; rfl)) hsim
     ·
      refine gh (B2_ok T T' e v) (k' := loopAt Tryd.f44 0) (s' := mk 1 43 [(0, .mp 0), (5, .ref 1 0), (11, .d (.list 5 ps.length (ptEl ps))), (12, vI n), (13, vI (wI (i + 1)))] [(0, .mp ⟨95, fun d => hasN L d, fun d => caD (getN L d), (lenN L)⟩), (1, .obj 112 [.ref 2 0, .ref 4 0, .ref 6 0, .ref 8 0]), (2, .obj 145 [.own 3]), (3, .row 148 2 T'.a.length (rowEl T'.a)), (4, .obj 145 [.own 5]), (5, .row 148 2 T'.b.length (rowEl T'.b)), (6, .obj 145 [.own 7]), (7, .row 148 2 T'.c.length (rowEl T'.c)), (8, .obj 145 [.own 9]), (9, .row 148 2 T'.d.length (rowEl T'.d))]) (cs := [_, (0 ≤ i ∧ i < ps.length), _, ((true) = true), (T.a.length = T.a.length), (rowEl T.a = rowEl T.a), (T.b.length = T.b.length), (rowEl T.b = rowEl T.b), (T.c.length = T.c.length), (rowEl T.c = rowEl T.c), (T.d.length = T.d.length), (rowEl T.d = rowEl T.d), (TidyT T ∧ (e, v) = tellM T ((0 : Int), ByteArray.mk #[], ByteArray.mk #[], ByteArray.mk #[]) ∧ T' = nextT T ((0 : Int), ByteArray.mk #[], ByteArray.mk #[], ByteArray.mk #[]) ∧ 0 ≤ 1073741824), _, ((true) = true), _]) [true, false, false, true, false] [0,5,11,12,13] ⟨hb1, by omega, hb2, rfl, by omega, (by rfl), by omega, (by rfl), by omega, (by rfl), by omega, (by rfl), (by exact hob2 hb2), hb6, rfl, hb7, trivial⟩ hsim fun E a w hsim => ?_
      rw [if_neg (by { rw [hw]; clear hw; clear hsim ih hr hob hob2; (try dsimp only at *); simp only [← hc] at *; clear hc; generalize hasN L (nmD (ps.getD i.toNat noPt).cl (ps.getD i.toNat noPt).n) = B at *; generalize ps.getD i.toNat noPt = p at *; simp_all })]
      exact ih E a w hsim
  ·
   exact absurd (of_decide_eq_false hb1) (by omega)
theorem told_ok (L : List Ca) (hL : SmallC L) (ps : List Pt) (hl : ps.length ≤ 1099511627776) : Eng.Spec Tryd.prog Go.Bla.gl 44 [.mp 0, .d (.list 5 ps.length (ptEl ps))] [(0, .mp (knowMp L))] (.d (.raw (.int .i64 (tdF L T0 ps 0)))) [(0, .mp (knowMp L))] := by
 refine spec_fn Tryd.func44 rfl fun {w N E act} hsim => ?_
 let T : T4 := T0
 let T' : T4 := T0
 let e : Int := 0
 let v : ByteArray := ByteArray.empty
 refine gh (B2_ok T T' e v) (k' := loopAt Tryd.f44 0) (s' := mk 1 43 [(0, .mp 0), (5, .ref 1 0), (11, .d (.list 5 ps.length (ptEl ps))), (12, vI (↑ps.length : Int)), (13, vI 0)] [(0, .mp ⟨95, fun d => hasN L d, fun d => caD (getN L d), (lenN L)⟩), (1, .obj 112 [.ref 2 0, .ref 4 0, .ref 6 0, .ref 8 0]), (2, .obj 145 [.own 3]), (3, .row 148 2 0 (rowEl T0.a)), (4, .obj 145 [.own 5]), (5, .row 148 2 0 (rowEl T0.b)), (6, .obj 145 [.own 7]), (7, .row 148 2 0 (rowEl T0.c)), (8, .obj 145 [.own 9]), (9, .row 148 2 0 (rowEl T0.d))]) (cs := []) [] [0,5,11,12,13] trivial hsim fun E a w hsim => ?_
 exact td_go L hL ps hl ps.length (ps.length : Int) 0 rfl (by omega) (by omega) T0 tidyT0 E a w hsim
end Go.Prf

namespace Go.Prf
open Go Go.Eng Go.Tab Go.Plc
def mFormed (cs : List Ca) (r : Int) : Mo
 | [.d (.list s k el)], [] => some (.d (.raw (.int .i64 r)), [], [s = 10, k = cs.length, el = caEl cs, cs.length ≤ 1099511627776 ∧ r = fmF [] cs 0])
 | _, _ => none
def mOrdered (L : List Ca) (ps : List Pt) (r : Int) : Mo
 | [.mp 0, .d (.list s k el)], [(0, .mp M)] => some (.d (.raw (.int .i64 r)), [(0, .mp (knowMp L))], [s = 5, k = ps.length, el = ptEl ps, M = knowMp L, ps.length ≤ 1099511627776 ∧ r = orF L [] 0 ps 0])
 | _, _ => none
def mTold (L : List Ca) (ps : List Pt) (r : Int) : Mo
 | [.mp 0, .d (.list s k el)], [(0, .mp M)] => some (.d (.raw (.int .i64 r)), [(0, .mp (knowMp L))], [s = 5, k = ps.length, el = ptEl ps, M = knowMp L, ps.length ≤ 1099511627776 ∧ SmallC L ∧ r = tdF L T0 ps 0])
 | _, _ => none
def mAnswered (cs : List Ca) (ps : List Pt) (r : Int) : Mo
 | [.d (.list s k el), .d (.list s2 k2 el2)], [] => some (.d (.raw (.int .i64 r)), [], [s = 10, k = cs.length, el = caEl cs, s2 = 5, k2 = ps.length, el2 = ptEl ps, cs.length ≤ 1099511627776 ∧ ps.length ≤ 1099511627776 ∧ r = awF (ps.reverse ++ []) cs 0])
 | _, _ => none
def K0 (cs L : List Ca) (ps : List Pt) (r1 r2 r3 r4 : Int) : Orc := ((((((Orc.none gB).add 40 false (mFormed cs r1)).add 42 false (mOrdered L ps r2)).add 43 false (mAnswered cs ps r3)).add 44 false (mTold L ps r4))).add 41 false mNmC
def ck1M (cs : List Ca) (ps : List Pt) (M : MapD) (n i : Int) : St := mk 0 57 [(0, .d (.list 10 cs.length (caEl cs))), (1, .d (.list 5 ps.length (ptEl ps))), (8, .mp 0), (28, .d (.list 10 cs.length (caEl cs))), (29, .d (.raw (.int .i64 n))), (30, .d (.raw (.int .i64 i)))] [(0, .mp M)]
def ck1 (cs L : List Ca) (ps : List Pt) (n i : Int) : St := ck1M cs ps (knowMp L) n i
end Go.Prf

namespace Go.Prf
open Go Go.Eng Go.Proofs Go.RowKit Go.Tab Go.Plc
set_option maxRecDepth 100000
set_option maxHeartbeats 4000000
def checkP (cs : List Ca) (ps : List Pt) : Int × Int × Int :=
 if 2000 < cs.length ∨ 2000 < ps.length then (0, 0, 2)
 else if 0 ≤ fmF [] cs 0 then (1, fmF [] cs 0, 0)
 else if 0 ≤ orF cs.reverse [] 0 ps 0 then (2, orF cs.reverse [] 0 ps 0, 0)
 else if 0 ≤ awF (ps.reverse ++ []) cs 0 then (3, awF (ps.reverse ++ []) cs 0, 0)
 else if 0 ≤ tdF cs.reverse T0 ps 0 then (4, tdF cs.reverse T0 ps 0, 0) else (0, 0, 0)
theorem K0_ok (cs L : List Ca) (ps : List Pt) (r1 r2 r3 r4 : Int) : OrcOK Tryd.prog (K0 cs L ps r1 r2 r3 r4) := (((((OrcOK.none _).add _ false (mFormed cs r1) fun args H ret H' c h hc => by
 unfold mFormed at h
 split at h
 · cases h; obtain ⟨rfl, rfl, rfl, ⟨hl, rfl⟩, -⟩ := hc; exact Spec.glAny (formed_ok cs hl)
 · cases h).add _ false (mOrdered L ps r2) fun args H ret H' c h hc => by
 unfold mOrdered at h
 split at h
 · cases h; obtain ⟨rfl, rfl, rfl, rfl, ⟨hl, rfl⟩, -⟩ := hc; exact Spec.glAny (ordered_ok L ps hl)
 · cases h).add _ false (mAnswered cs ps r3) fun args H ret H' c h hc => by
 unfold mAnswered at h
 split at h
 · cases h; obtain ⟨rfl, rfl, rfl, rfl, rfl, rfl, ⟨hl, hl2, rfl⟩, -⟩ := hc; exact Spec.glAny (answered_ok cs ps hl hl2)
 · cases h).add _ false (mTold L ps r4) fun args H ret H' c h hc => by
 unfold mTold at h
 split at h
 · cases h; obtain ⟨rfl, rfl, rfl, rfl, ⟨hl, hL, rfl⟩, -⟩ := hc; exact told_ok L hL ps hl
 · cases h).add _ false mNmC fun args H r H' c h hc => Spec.glAny (mNmC_ok args H r H' c h hc)
abbrev GoC (w0 : World) (N : Nat → Prop) (E0 : Env) (s : St) (r : Int × Int × Int) : Prop := GoG Tryd.prog Go.Bla.gl 19 (loopAt Tryd.f19 0) [] ⟨0, [.tup [.d (.raw (.int .i64 r.1)), .d (.raw (.int .i64 r.2.1)), .d (.raw (.int .i64 r.2.2))]], []⟩ w0 N E0 s
theorem fmF_good : ∀ (cs L : List Ca) (i : Int), 0 ≤ i → fmF L cs i < 0 → ∀ c ∈ cs, badC c = false
 | [], _, _, _, _, _, h => by cases h
 | c :: r, L, i, h0, h, c', hm => by
  rw [fmF] at h
  split at h
  · omega
  ·
   rename_i hb
   rcases List.mem_cons.1 hm with rfl | hm
   ·
    cases hc : badC c' with
    | false => rfl
    | true => rw [hc] at hb; exact absurd rfl hb
   · exact fmF_good r (c :: L) (i + 1) (by omega) h c' hm
theorem good_small {c : Ca} (h : badC c = false) : c.o.2.1.size ≤ 16 := by
 unfold badC at h
 have h2 : checkM c.o.1 c.o.2.1 c.o.2.2.1 c.o.2.2.2 = 0 := by
  simp only [Bool.or_eq_false_iff] at h
  have := h.1.1.1.2
  simpa using this
 unfold checkM at h2
 repeat' split at h2
 all_goals first | omega | exact absurd h2 (by decide) | skip
theorem small_of {cs : List Ca} (h : fmF [] cs 0 < 0) : SmallC cs := fun c hc => Nat.le_trans (good_small (fmF_good cs [] 0 (by omega) h c hc)) (by decide)
theorem smallC_rev {cs : List Ca} (h : SmallC cs) : SmallC cs.reverse := fun c hc => h c (List.mem_reverse.1 hc)
theorem ck_go {w0 : World} {N : Nat → Prop} {E0 : Env} (cs : List Ca) (ps : List Pt) (hC : SmallC cs) (hl : cs.length ≤ 2000) (hl2 : ps.length ≤ 2000) (hf : fmF [] cs 0 < 0) : ∀ (d : Nat) (n i : Int), n = (cs.length : Int) → 0 ≤ i → i + d = n → ∀ (L : List Ca), (cs.drop i.toNat).reverse ++ L = cs.reverse → GoC w0 N E0 (ck1 cs L ps n i) (checkP cs ps) := by
 intro d
 induction d with
 | zero =>
  intro n i en h0 hd L hL E a w hsim
  have hLr : L = cs.reverse := by rw [List.drop_eq_nil_of_le (by omega)] at hL; exact hL
  obtain ⟨r1, h1⟩ : ∃ r, r = fmF [] cs 0 := ⟨_, rfl⟩
  obtain ⟨r2, h2⟩ : ∃ r, r = orF L [] 0 ps 0 := ⟨_, rfl⟩
  obtain ⟨r3, h3⟩ : ∃ r, r = awF (ps.reverse ++ []) cs 0 := ⟨_, rfl⟩
  obtain ⟨r4, h4⟩ : ∃ r, r = tdF L T0 ps 0 := ⟨_, rfl⟩
  have hS : SmallC L := hLr ▸ smallC_rev hC
  have hr : checkP cs ps = if 0 ≤ r2 then (2, r2, 0) else if 0 ≤ r3 then (3, r3, 0) else if 0 ≤ r4 then (4, r4, 0) else (0, 0, 0) := by
    unfold checkP; rw [if_neg (by omega), if_neg (by omega), h2, h3, h4, hLr]
  rw [hr]
  clear hr
  rcases bd (decide (i < n)) with hb1 | hb1
  ·
   exact absurd (of_decide_eq_true hb1) (by omega)
  ·
   rcases bd (decide (r2 ≥ (0 : Int))) with hb2 | hb2
   ·
    exact gr (K0_ok cs L ps r1 r2 r3 r4) Tryd.func19 (sr' := ⟨0, [.tup [vI 2, vI r2, vI 0]], []⟩) (cs := [_, (5 = 5), (ps.length = ps.length), (ptEl ps = ptEl ps), (MapD.mk 95 (fun d => hasN L d) (fun d => caD (getN L d)) (lenN L) = knowMp L), (ps.length ≤ 1099511627776 ∧ r2 = orF L [] (0 : Int) ps (0 : Int)), _]) [false, true] true ⟨hb1, (by exact rfl), (by exact rfl), (by exact rfl), (by exact rfl), (by exact ⟨by omega, h2⟩), hb2, trivial⟩ (by (rw [if_pos (of_decide_eq_true hb2)]; done)) hsim
   ·
    rcases bd (decide (r3 ≥ (0 : Int))) with hb3 | hb3
    ·
     have q0_ : ((5 : Nat) = (5 : Nat)) := (by exact rfl)
     have q1_ : (ps.length = ps.length) := (by exact rfl)
     have q2_ : (ptEl ps = ptEl ps) := (by exact rfl)
     exact gr (K0_ok cs L ps r1 r2 r3 r4) Tryd.func19 (sr' := ⟨0, [.tup [vI 3, vI r3, vI 0]], []⟩) (cs := ((fun (c0 c1 c2 : Prop) => [_, c0, c1, c2, (MapD.mk 95 (fun d => hasN L d) (fun d => caD (getN L d)) (lenN L) = knowMp L), (ps.length ≤ 1099511627776 ∧ r2 = orF L [] (0 : Int) ps (0 : Int)), _, (10 = 10), (cs.length = cs.length), (caEl cs = caEl cs), c0, c1, c2, (cs.length ≤ 1099511627776 ∧ ps.length ≤ 1099511627776 ∧ r3 = awF (ps.reverse ++ []) cs (0 : Int)), _]) _ _ _)) [false, false, true] true ⟨hb1, q0_, q1_, q2_, (by exact rfl), (by exact ⟨by omega, h2⟩), hb2, (by exact rfl), (by exact rfl), (by exact rfl), q0_, q1_, q2_, (by exact ⟨by omega, by omega, h3⟩), hb3, trivial⟩ (by (rw [if_neg (of_decide_eq_false hb2), if_pos (of_decide_eq_true hb3)]; done)) hsim
    ·
     rcases bd (decide (r4 ≥ (0 : Int))) with hb4 | hb4
     ·
      have q0_ : ((5 : Nat) = (5 : Nat)) := (by exact rfl)
      have q1_ : (ps.length = ps.length) := (by exact rfl)
      have q2_ : (ptEl ps = ptEl ps) := (by exact rfl)
      have q3_ : (MapD.mk (95 : Nat) (fun d => hasN L d) (fun d => caD (getN L d)) (lenN L) = knowMp L) := (by exact rfl)
      exact gr (K0_ok cs L ps r1 r2 r3 r4) Tryd.func19 (sr' := ⟨0, [.tup [vI 4, vI r4, vI 0]], []⟩) (cs := ((fun (c0 c1 c2 c3 : Prop) => [_, c0, c1, c2, c3, (ps.length ≤ 1099511627776 ∧ r2 = orF L [] (0 : Int) ps (0 : Int)), _, (10 = 10), (cs.length = cs.length), (caEl cs = caEl cs), c0, c1, c2, (cs.length ≤ 1099511627776 ∧ ps.length ≤ 1099511627776 ∧ r3 = awF (ps.reverse ++ []) cs (0 : Int)), _, c0, c1, c2, c3, (ps.length ≤ 1099511627776 ∧ SmallC L ∧ r4 = tdF L T0 ps (0 : Int)), _]) _ _ _ _)) [false, false, false, true] true ⟨hb1, q0_, q1_, q2_, q3_, (by exact ⟨by omega, h2⟩), hb2, (by exact rfl), (by exact rfl), (by exact rfl), q0_, q1_, q2_, (by exact ⟨by omega, by omega, h3⟩), hb3, q0_, q1_, q2_, q3_, (by exact ⟨by omega, hS, h4⟩), hb4, trivial⟩ (by (rw [if_neg (of_decide_eq_false hb2), if_neg (of_decide_eq_false hb3), if_pos (of_decide_eq_true hb4)]; done)) hsim
     ·
      have q0_ : ((5 : Nat) = (5 : Nat)) := (by exact rfl)
      have q1_ : (ps.length = ps.length) := (by exact rfl)
      have q2_ : (ptEl ps = ptEl ps) := (by exact rfl)
      have q3_ : (MapD.mk (95 : Nat) (fun d => hasN L d) (fun d => caD (getN L d)) (lenN L) = knowMp L) := (by exact rfl)
      exact gr (K0_ok cs L ps r1 r2 r3 r4) Tryd.func19 (sr' := ⟨0, [.tup [vI 0, vI 0, vI 0]], []⟩) (cs := ((fun (c0 c1 c2 c3 : Prop) => [_, c0, c1, c2, c3, (ps.length ≤ 1099511627776 ∧ r2 = orF L [] (0 : Int) ps (0 : Int)), _, (10 = 10), (cs.length = cs.length), (caEl cs = caEl cs), c0, c1, c2, (cs.length ≤ 1099511627776 ∧ ps.length ≤ 1099511627776 ∧ r3 = awF (ps.reverse ++ []) cs (0 : Int)), _, c0, c1, c2, c3, (ps.length ≤ 1099511627776 ∧ SmallC L ∧ r4 = tdF L T0 ps (0 : Int)), _]) _ _ _ _)) ((List.replicate 4 false)) true ⟨hb1, q0_, q1_, q2_, q3_, (by exact ⟨by omega, h2⟩), hb2, (by exact rfl), (by exact rfl), (by exact rfl), q0_, q1_, q2_, (by exact ⟨by omega, by omega, h3⟩), hb3, q0_, q1_, q2_, q3_, (by exact ⟨by omega, hS, h4⟩), hb4, trivial⟩ (by (rw [if_neg (of_decide_eq_false hb2), if_neg (of_decide_eq_false hb3), if_neg (of_decide_eq_false hb4)]; done)) hsim
 | succ d ih =>
  intro n i en h0 hd L hL E a w hsim
  have hi : i.toNat < cs.length := by omega
  have ew : IntKind.i64.wrap (i + 1) = i + 1 := wrapP (by omega)
  have ih := ih n (IntKind.i64.wrap (i + 1)) en (by rw [ew]; omega) (by rw [ew]; omega) (cs.getD i.toNat noCa :: L) (by
    rw [← hL, getD_drop (d := noCa) hi, ew, show (i + 1).toNat = i.toNat + 1 by omega, List.reverse_cons, List.append_assoc]; rfl)
  let r1 : Int := 0
  let r2 : Int := 0
  let r3 : Int := 0
  let r4 : Int := 0
  rcases bd (decide (i < n)) with hb1 | hb1
  ·
   refine gh (K0_ok cs L ps r1 r2 r3 r4) (k' := loopAt Tryd.f19 0) (s' := let za := cs.getD i.toNat noCa; mk 0 57 [(0, .d (.list 10 cs.length (caEl cs))), (1, .d (.list 5 ps.length (ptEl ps))), (8, .mp 0), (28, .d (.list 10 cs.length (caEl cs))), (29, vI n), (30, vI (wI (i + 1)))] [(0, .mp ⟨95, fun x => keyEq x (D.agg [rI za.cl, rI za.n]) || (MapD.mk 95 (fun d => hasN L d) (fun d => caD (getN L d)) (lenN L)).has x, fun x =>   match keyEq x (D.agg [rI za.cl, rI za.n]) with   | true => D.agg [rI za.cl, rI za.n, rI za.o.fst, rS za.o.snd.fst, rS za.o.snd.snd.fst, rS za.o.snd.snd.snd, rI za.fr, rI za.to, rI za.a.fst, rS za.a.snd]   | false => (MapD.mk 95 (fun d => hasN L d) (fun d => caD (getN L d)) (lenN L)).val x, (match (MapD.mk 95 (fun d => hasN L d) (fun d => caD (getN L d)) (lenN L)).has (D.agg [rI za.cl, rI za.n]) with | true => (MapD.mk 95 (fun d => hasN L d) (fun d => caD (getN L d)) (lenN L)).n | false => (MapD.mk 95 (fun d => hasN L d) (fun d => caD (getN L d)) (lenN L)).n + 1)⟩)]) (cs := [_, (0 ≤ i ∧ i < cs.length)]) [true] [0,1,8,28,29,30] ⟨hb1, by omega, trivial⟩ hsim fun E a w hsim => ?_
   have h2 : Sim _ E (ck1M cs ps ((knowMp L).put (nmD (cs.getD i.toNat noCa).cl (cs.getD i.toNat noCa).n) (caD (cs.getD i.toNat noCa))) n (IntKind.i64.wrap (i + 1))) a w := hsim
   rw [knowMp_put] at h2
   exact ih E a w h2
  ·
   rcases bd (decide (r2 ≥ (0 : Int))) with hb2 | hb2
   ·
    exact absurd (of_decide_eq_false hb1) (by omega)
   ·
    rcases bd (decide (r3 ≥ (0 : Int))) with hb3 | hb3
    ·
     have q0_ : ((5 : Nat) = (5 : Nat)) := (by omega)
     have q1_ : (ps.length = ps.length) := (by omega)
     have q2_ : (ptEl ps = ptEl ps) := (by exact rfl)
     exact absurd (of_decide_eq_false hb1) (by omega)
    ·
     rcases bd (decide (r4 ≥ (0 : Int))) with hb4 | hb4
     ·
      have q0_ : ((5 : Nat) = (5 : Nat)) := (by omega)
      have q1_ : (ps.length = ps.length) := (by omega)
      have q2_ : (ptEl ps = ptEl ps) := (by exact rfl)
      have q3_ : (MapD.mk (95 : Nat) (fun d => hasN L d) (fun d => caD (getN L d)) (lenN L) = knowMp L) := (by exact rfl)
      exact absurd (of_decide_eq_false hb1) (by omega)
     ·
      have q0_ : ((5 : Nat) = (5 : Nat)) := (by omega)
      have q1_ : (ps.length = ps.length) := (by omega)
      have q2_ : (ptEl ps = ptEl ps) := (by exact rfl)
      have q3_ : (MapD.mk (95 : Nat) (fun d => hasN L d) (fun d => caD (getN L d)) (lenN L) = knowMp L) := (by exact rfl)
      exact absurd (of_decide_eq_false hb1) (by omega)
theorem check_ok (cs : List Ca) (ps : List Pt) (hl : cs.length ≤ 1099511627776) : Eng.Spec Tryd.prog Go.Bla.gl 19 [.d (.list 10 cs.length (caEl cs)), .d (.list 5 ps.length (ptEl ps))] [] (.tup [.d (.raw (.int .i64 (checkP cs ps).1)), .d (.raw (.int .i64 (checkP cs ps).2.1)), .d (.raw (.int .i64 (checkP cs ps).2.2))]) [] := by
 refine spec_fn Tryd.func19 rfl fun {w N E act} hsim => ?_
 let L : List Ca := []
 obtain ⟨r1, h1⟩ : ∃ r, r = fmF [] cs 0 := ⟨_, rfl⟩
 let r2 : Int := 0
 let r3 : Int := 0
 let r4 : Int := 0
 have hr : checkP cs ps = if 2000 < cs.length ∨ 2000 < ps.length then (0, 0, 2) else if 0 ≤ r1 then (1, r1, 0) else checkP cs ps := by
   by_cases hA : 2000 < cs.length ∨ 2000 < ps.length
   · rw [if_pos hA]; unfold checkP; rw [if_pos hA]
   ·
     rw [if_neg hA]
     by_cases hB : 0 ≤ r1
     · rw [if_pos hB]; unfold checkP; rw [if_neg hA, ← h1, if_pos hB]
     · rw [if_neg hB]
 rcases bd (decide ((↑cs.length : Int) > (2000 : Int))) with hb1 | hb1
 ·
  exact gr (K0_ok cs L ps r1 r2 r3 r4) Tryd.func19 (sr' := ⟨0, [.tup [vI 0, vI 0, vI 2]], []⟩) (cs := [_]) [true] true ⟨hb1, trivial⟩ (by (rw [hr, if_pos (.inl (by have := of_decide_eq_true hb1; omega))]; rfl)) hsim
 ·
  rcases bd (decide ((↑ps.length : Int) > (2000 : Int))) with hb2 | hb2
  ·
   exact gr (K0_ok cs L ps r1 r2 r3 r4) Tryd.func19 (sr' := ⟨0, [.tup [vI 0, vI 0, vI 2]], []⟩) (cs := [_, _]) [false, true] true ⟨hb1, hb2, trivial⟩ (by (rw [hr, if_pos (.inr (by have := of_decide_eq_true hb2; omega))]; rfl)) hsim
  ·
   rcases bd (decide (r1 ≥ (0 : Int))) with hb3 | hb3
   ·
    exact gr (K0_ok cs L ps r1 r2 r3 r4) Tryd.func19 (sr' := ⟨0, [.tup [vI 1, vI r1, vI 0]], []⟩) (cs := [_, _, (10 = 10), (cs.length = cs.length), (caEl cs = caEl cs), (cs.length ≤ 1099511627776 ∧ r1 = fmF [] cs (0 : Int)), _]) [false, false, true] true ⟨hb1, hb2, (by exact rfl), (by exact rfl), (by exact rfl), (by exact ⟨hl, h1⟩), hb3, trivial⟩ (by (rw [hr, if_neg (by have := of_decide_eq_false hb1;  have := of_decide_eq_false hb2; omega), if_pos (of_decide_eq_true hb3)]; rfl)) hsim
   ·
    refine gh (K0_ok cs L ps r1 r2 r3 r4) (k' := loopAt Tryd.f19 0) (s' := mk 0 57 [(0, .d (.list 10 cs.length (caEl cs))), (1, .d (.list 5 ps.length (ptEl ps))), (8, .mp 0), (28, .d (.list 10 cs.length (caEl cs))), (29, vI (↑cs.length : Int)), (30, vI 0)] [(0, .mp ⟨95, fun x => false, fun x => default, 0⟩)]) (cs := [_, _, (10 = 10), (cs.length = cs.length), (caEl cs = caEl cs), (cs.length ≤ 1099511627776 ∧ r1 = fmF [] cs (0 : Int)), _]) [false, false, false] [0,1,8,28,29,30] ⟨hb1, hb2, (by exact rfl), (by exact rfl), (by exact rfl), (by exact ⟨hl, h1⟩), hb3, trivial⟩ hsim fun E a w hsim => ?_
    obtain ⟨E2, h9⟩ := hsim.mapEq (k := 0) rfl (knowMp []) rfl rfl (fun _ => rfl) (fun _ h => by cases h)
    exact ck_go cs ps (small_of (by rw [← h1]; have := of_decide_eq_false hb3; omega)) (by have := of_decide_eq_false hb1; omega) (by have := of_decide_eq_false hb2; omega) (by rw [← h1]; have := of_decide_eq_false hb3; omega) cs.length (cs.length : Int) 0 rfl (by omega) (by omega) [] (by simp) E2 a w h9
end Go.Prf
