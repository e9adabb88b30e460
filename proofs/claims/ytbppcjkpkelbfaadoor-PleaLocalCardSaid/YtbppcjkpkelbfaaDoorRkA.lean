/-
  Contracts of given functions, plain laws. No condition.
-/
import Derived.Test.YtbppcjkpkelbfaaDoorRmB
import Derived.Test.YtbppcjkpkelbfaaDoorRmA
namespace Go.Prf
open Go Go.Eng Go.Proofs Go.Tab Go.Plc
set_option maxRecDepth 100000
set_option maxHeartbeats 4000000
theorem take_drop {α : Type} {l : List α} {d : α} {k j : Nat} (h : j < k) (hk : k ≤ l.length) : (l.take k).drop j = l.getD j d :: (l.take k).drop (j + 1) := by
 have hl : j < (l.take k).length := by rw [List.length_take]; omega
 rw [getD_drop (d := d) hl, List.getD, List.getD, List.getElem?_take_of_lt h]
theorem take_end {α : Type} {l : List α} {k j : Nat} (h : k ≤ j) : (l.take k).drop j = [] := List.drop_eq_nil_of_le (by rw [List.length_take]; omega)
abbrev GoOn (w0 : World) (N : Nat → Prop) (E0 : Env) (s : St) (r : Bool) : Prop := GoG Tryd.prog gz0 45 (loopAt Tryd.f45 0) [] ⟨0, [.d (.raw (.bool r))], []⟩ w0 N E0 s
theorem on_go {w0 : World} {N : Nat → Prop} {E0 : Env} (c : Ca) (cs : List Ca) (k : Int) (hl : cs.length ≤ 1000000) (hk : k ≤ cs.length) : ∀ (d : Nat) (j : Int), 0 ≤ j → j + d = k → GoOn w0 N E0 (on1 c cs k j) (!((cs.take k.toNat).drop j.toNat).any (badB c)) := by
 intro d
 induction d with
 | zero =>
  intro j h0 hd E a w hsim
  rw [take_end (by omega)]
  rcases bd (decide (j < k)) with hb1 | hb1
  ·
   rcases bd ((cs.getD j.toNat noCa).cl == c.cl) with hb2 | hb2
   ·
    rcases bd (decide ((cs.getD j.toNat noCa).n ≥ c.n)) with hb3 | hb3
    ·
     exact absurd (of_decide_eq_true hb1) (by omega)
    ·
     rcases bd ((cs.getD j.toNat noCa).to == (-1 : Int)) with hb4 | hb4
     ·
      exact absurd (of_decide_eq_true hb1) (by omega)
     ·
      rcases bd (decide ((cs.getD j.toNat noCa).to > c.fr)) with hb5 | hb5
      ·
       exact absurd (of_decide_eq_true hb1) (by omega)
      ·
       exact absurd (of_decide_eq_true hb1) (by omega)
   ·
    exact absurd (of_decide_eq_true hb1) (by omega)
  ·
   exact gr Q0_ok Tryd.func45 (sr' := ⟨0, [vB true], []⟩) (cs := [_]) [false] true ⟨hb1, trivial⟩ (by rfl) hsim
 | succ d ih =>
  intro j h0 hd E a w hsim
  have hi : j.toNat < cs.length := by omega
  have ew : IntKind.i64.wrap (j + 1) = j + 1 := wrapP (by omega)
  have ih := ih (IntKind.i64.wrap (j + 1)) (by rw [ew]; omega) (by rw [ew]; omega)
  rw [take_drop (d := noCa) (by omega) (by omega), List.any_cons]
  rw [ew, show (j + 1).toNat = j.toNat + 1 by omega, ← ew] at ih
  rcases bd (decide (j < k)) with hb1 | hb1
  ·
   rcases bd ((cs.getD j.toNat noCa).cl == c.cl) with hb2 | hb2
   ·
    rcases bd (decide ((cs.getD j.toNat noCa).n ≥ c.n)) with hb3 | hb3
    ·
     exact gr Q0_ok Tryd.func45 (sr' := ⟨0, [vB false], []⟩) (cs := [_, (0 ≤ j ∧ j < cs.length), _, _]) [true, true, true] true ⟨hb1, by omega, hb2, hb3, trivial⟩ (by (rw [show badB c (cs.getD j.toNat noCa) = true from by { clear hsim ih; (try dsimp only at *); generalize cs.getD j.toNat noCa = b at *; unfold badB; simp_all }]; rfl)) hsim
    ·
     rcases bd ((cs.getD j.toNat noCa).to == (-1 : Int)) with hb4 | hb4
     ·
      exact gr Q0_ok Tryd.func45 (sr' := ⟨0, [vB false], []⟩) (cs := [_, (0 ≤ j ∧ j < cs.length), _, _, _]) [true, true, false, true] true ⟨hb1, by omega, hb2, hb3, hb4, trivial⟩ (by (rw [show badB c (cs.getD j.toNat noCa) = true from by { clear hsim ih; (try dsimp only at *); generalize cs.getD j.toNat noCa = b at *; unfold badB; simp_all }]; rfl)) hsim
     ·
      rcases bd (decide ((cs.getD j.toNat noCa).to > c.fr)) with hb5 | hb5
      ·
       exact gr Q0_ok Tryd.func45 (sr' := ⟨0, [vB false], []⟩) (cs := [_, (0 ≤ j ∧ j < cs.length), _, _, _, _]) [true, true, false, false, true] true ⟨hb1, by omega, hb2, hb3, hb4, hb5, trivial⟩ (by (rw [show badB c (cs.getD j.toNat noCa) = true from by { clear hsim ih; (try dsimp only at *); generalize cs.getD j.toNat noCa = b at *; unfold badB; simp_all }]; rfl)) hsim
      ·
       refine gh Q0_ok (k' := loopAt Tryd.f45 0) (s' := mk 0 95 [(0, .d (.list 10 cs.length (caEl cs))), (1, vI k), (5, .ref 0 0), (6, vI (wI (j + 1)))] [(0, .obj 45 [vI c.cl, vI c.n, vI c.o.fst, vS c.o.snd.fst, vS c.o.snd.snd.fst, vS c.o.snd.snd.snd, vI c.fr, vI c.to, vI c.a.fst, vS c.a.snd])]) (cs := [_, (0 ≤ j ∧ j < cs.length), _, _, _, _]) [true, true, false, false, false] [0,1,5,6] ⟨hb1, by omega, hb2, hb3, hb4, hb5, trivial⟩ hsim fun E a w hsim => ?_
       rw [show badB c (cs.getD j.toNat noCa) = false from by { clear hsim ih; (try dsimp only at *); generalize cs.getD j.toNat noCa = b at *; unfold badB; simp_all }, Bool.false_or]
       exact ih E a w hsim
   ·
    refine gh Q0_ok (k' := loopAt Tryd.f45 0) (s' := mk 0 95 [(0, .d (.list 10 cs.length (caEl cs))), (1, vI k), (5, .ref 0 0), (6, vI (wI (j + 1)))] [(0, .obj 45 [vI c.cl, vI c.n, vI c.o.fst, vS c.o.snd.fst, vS c.o.snd.snd.fst, vS c.o.snd.snd.snd, vI c.fr, vI c.to, vI c.a.fst, vS c.a.snd])]) (cs := [_, (0 ≤ j ∧ j < cs.length), _]) [true, false] [0,1,5,6] ⟨hb1, by omega, hb2, trivial⟩ hsim fun E a w hsim => ?_
    rw [show badB c (cs.getD j.toNat noCa) = false from by { clear hsim ih; (try dsimp only at *); generalize cs.getD j.toNat noCa = b at *; unfold badB; simp_all }, Bool.false_or]
    exact ih E a w hsim
  ·
   exact absurd (of_decide_eq_false hb1) (by omega)
theorem one_ok (cs : List Ca) (k : Int) (hl : cs.length ≤ 1000000) (h0 : 0 ≤ k) (hk : k < cs.length) : Eng.Spec Tryd.prog gz0 45 [.d (.list 10 cs.length (caEl cs)), .d (.raw (.int .i64 k))] [] (.d (.raw (.bool (oneM cs k.toNat)))) [] := by
 refine spec_fn Tryd.func45 rfl fun {w N E act} hsim => ?_
 have hr : oneM cs k.toNat = (!badC (cs.getD k.toNat noCa) && !((cs.take k.toNat).drop (0 : Int).toNat).any (badB (cs.getD k.toNat noCa))) := rfl
 rw [hr]
 rcases bd (decide ((cs.getD k.toNat noCa).cl < (0 : Int))) with hb1 | hb1
 ·
  exact gr Q0_ok Tryd.func45 (sr' := ⟨0, [vB false], []⟩) (cs := [(0 ≤ k ∧ k < cs.length), _]) [true] true ⟨by omega, hb1, trivial⟩ (by (rw [show badC (cs.getD k.toNat noCa) = true from by { clear hsim hr; (try dsimp only at *); generalize cs.getD k.toNat noCa = c at *; unfold badC; (simp only [*, Bool.or_true, Bool.true_or, Bool.true_and, Bool.and_true, Bool.and_self]; done)}]; rfl)) hsim
 ·
  rcases bd (decide ((cs.getD k.toNat noCa).cl > (7 : Int))) with hb2 | hb2
  ·
   exact gr Q0_ok Tryd.func45 (sr' := ⟨0, [vB false], []⟩) (cs := [(0 ≤ k ∧ k < cs.length), _, _]) [false, true] true ⟨by omega, hb1, hb2, trivial⟩ (by (rw [show badC (cs.getD k.toNat noCa) = true from by { clear hsim hr; (try dsimp only at *); generalize cs.getD k.toNat noCa = c at *; unfold badC; (simp only [*, Bool.or_true, Bool.true_or, Bool.true_and, Bool.and_true, Bool.and_self]; done)}]; rfl)) hsim
  ·
   rcases bd (decide ((cs.getD k.toNat noCa).n < (1 : Int))) with hb3 | hb3
   ·
    exact gr Q0_ok Tryd.func45 (sr' := ⟨0, [vB false], []⟩) (cs := [(0 ≤ k ∧ k < cs.length), _, _, _]) [false, false, true] true ⟨by omega, hb1, hb2, hb3, trivial⟩ (by (rw [show badC (cs.getD k.toNat noCa) = true from by { clear hsim hr; (try dsimp only at *); generalize cs.getD k.toNat noCa = c at *; unfold badC; (simp only [*, Bool.or_true, Bool.true_or, Bool.true_and, Bool.and_true, Bool.and_self]; done)}]; rfl)) hsim
   ·
    rcases bd (decide ((cs.getD k.toNat noCa).n > (1099511627776 : Int))) with hb4 | hb4
    ·
     exact gr Q0_ok Tryd.func45 (sr' := ⟨0, [vB false], []⟩) (cs := [(0 ≤ k ∧ k < cs.length), _, _, _, _]) [false, false, false, true] true ⟨by omega, hb1, hb2, hb3, hb4, trivial⟩ (by (rw [show badC (cs.getD k.toNat noCa) = true from by { clear hsim hr; (try dsimp only at *); generalize cs.getD k.toNat noCa = c at *; unfold badC; (simp only [*, Bool.or_true, Bool.true_or, Bool.true_and, Bool.and_true, Bool.and_self]; done)}]; rfl)) hsim
    ·
     rcases bd (checkM (cs.getD k.toNat noCa).o.fst (cs.getD k.toNat noCa).o.snd.fst (cs.getD k.toNat noCa).o.snd.snd.fst (cs.getD k.toNat noCa).o.snd.snd.snd != (0 : Int)) with hb5 | hb5
     ·
      exact gr Q0_ok Tryd.func45 (sr' := ⟨0, [vB false], []⟩) (cs := [(0 ≤ k ∧ k < cs.length), _, _, _, _, _]) ((List.replicate 4 false) ++ [true]) true ⟨by omega, hb1, hb2, hb3, hb4, hb5, trivial⟩ (by (rw [show badC (cs.getD k.toNat noCa) = true from by { clear hsim hr; (try dsimp only at *); generalize cs.getD k.toNat noCa = c at *; unfold badC; (simp only [*, Bool.or_true, Bool.true_or, Bool.true_and, Bool.and_true, Bool.and_self]; done)}]; rfl)) hsim
     ·
      rcases bd (decide ((cs.getD k.toNat noCa).fr < (0 : Int))) with hb6 | hb6
      ·
       exact gr Q0_ok Tryd.func45 (sr' := ⟨0, [vB false], []⟩) (cs := [(0 ≤ k ∧ k < cs.length), _, _, _, _, _, _]) ((List.replicate 5 false) ++ [true]) true ⟨by omega, hb1, hb2, hb3, hb4, hb5, hb6, trivial⟩ (by (rw [show badC (cs.getD k.toNat noCa) = true from by { clear hsim hr; (try dsimp only at *); generalize cs.getD k.toNat noCa = c at *; unfold badC; (simp only [*, Bool.or_true, Bool.true_or, Bool.true_and, Bool.and_true, Bool.and_self]; done)}]; rfl)) hsim
      ·
       rcases bd ((cs.getD k.toNat noCa).to == (-1 : Int)) with hb7 | hb7
       ·
        rcases bd (!eqcs [Value.int IntKind.i64 (cs.getD k.toNat noCa).a.fst, Value.string (cs.getD k.toNat noCa).a.snd] [Value.int IntKind.i64 (0 : Int), Value.string (ByteArray.mk #[])]) with hb8 | hb8
        ·
         exact gr Q0_ok Tryd.func45 (sr' := ⟨0, [vB false], []⟩) (cs := [(0 ≤ k ∧ k < cs.length), _, _, _, _, _, _, _, _]) ((List.replicate 6 false) ++ [true, true]) true ⟨by omega, hb1, hb2, hb3, hb4, hb5, hb6, hb7, hb8, trivial⟩ (by (rw [show badC (cs.getD k.toNat noCa) = true from by { clear hsim hr; (try dsimp only at *); generalize cs.getD k.toNat noCa = c at *; unfold badC; (simp only [*, Bool.or_true, Bool.true_or, Bool.true_and, Bool.and_true, Bool.and_self]; done)}]; rfl)) hsim
        ·
         rcases bd ((cs.getD k.toNat noCa).to != (-1 : Int)) with hb9 | hb9
         ·
          rcases bd (decide ((cs.getD k.toNat noCa).to < (cs.getD k.toNat noCa).fr)) with hb10 | hb10
          ·
           exact gr Q0_ok Tryd.func45 (sr' := ⟨0, [vB false], []⟩) (cs := [(0 ≤ k ∧ k < cs.length), _, _, _, _, _, _, _, _, _, _]) ((List.replicate 6 false) ++ [true, false, true, true]) true ⟨by omega, hb1, hb2, hb3, hb4, hb5, hb6, hb7, hb8, hb9, hb10, trivial⟩ (by (rw [show badC (cs.getD k.toNat noCa) = true from by { clear hsim hr; (try dsimp only at *); generalize cs.getD k.toNat noCa = c at *; unfold badC; (simp only [*, Bool.or_true, Bool.true_or, Bool.true_and, Bool.and_true, Bool.and_self]; done)}]; rfl)) hsim
          ·
           refine gh Q0_ok (k' := loopAt Tryd.f45 0) (s' := let za := cs.getD k.toNat noCa; mk 0 95 [(0, .d (.list 10 cs.length (caEl cs))), (1, vI k), (5, .ref 0 0), (6, vI 0)] [(0, .obj 45 [vI (za.cl), vI (za.n), vI (za.o.fst), vS (za.o.snd.fst), vS (za.o.snd.snd.fst), vS (za.o.snd.snd.snd), vI (za.fr), vI (za.to), vI (za.a.fst), vS (za.a.snd)])]) (cs := [(0 ≤ k ∧ k < cs.length), _, _, _, _, _, _, _, _, _, _]) ((List.replicate 6 false) ++ [true, false, true, false]) [0,1,5,6] ⟨by omega, hb1, hb2, hb3, hb4, hb5, hb6, hb7, hb8, hb9, hb10, trivial⟩ hsim fun E a w hsim => ?_
           rw [show badC (cs.getD k.toNat noCa) = false from by { clear hsim hr; (try dsimp only at *); generalize cs.getD k.toNat noCa = c at *; unfold badC; simp_all }, Bool.not_false, Bool.true_and]
           exact on_go (cs.getD k.toNat noCa) cs k hl (by omega) k.toNat 0 (by omega) (by omega) E a w hsim
         ·
          refine gh Q0_ok (k' := loopAt Tryd.f45 0) (s' := let za := cs.getD k.toNat noCa; mk 0 95 [(0, .d (.list 10 cs.length (caEl cs))), (1, vI k), (5, .ref 0 0), (6, vI 0)] [(0, .obj 45 [vI (za.cl), vI (za.n), vI (za.o.fst), vS (za.o.snd.fst), vS (za.o.snd.snd.fst), vS (za.o.snd.snd.snd), vI (za.fr), vI (za.to), vI (za.a.fst), vS (za.a.snd)])]) (cs := [(0 ≤ k ∧ k < cs.length), _, _, _, _, _, _, _, _, _]) ((List.replicate 6 false) ++ [true, false, false]) [0,1,5,6] ⟨by omega, hb1, hb2, hb3, hb4, hb5, hb6, hb7, hb8, hb9, trivial⟩ hsim fun E a w hsim => ?_
          rw [show badC (cs.getD k.toNat noCa) = false from by { clear hsim hr; (try dsimp only at *); generalize cs.getD k.toNat noCa = c at *; unfold badC; simp_all }, Bool.not_false, Bool.true_and]
          exact on_go (cs.getD k.toNat noCa) cs k hl (by omega) k.toNat 0 (by omega) (by omega) E a w hsim
       ·
        rcases bd ((cs.getD k.toNat noCa).to != (-1 : Int)) with hb11 | hb11
        ·
         rcases bd (decide ((cs.getD k.toNat noCa).to < (cs.getD k.toNat noCa).fr)) with hb12 | hb12
         ·
          exact gr Q0_ok Tryd.func45 (sr' := ⟨0, [vB false], []⟩) (cs := [(0 ≤ k ∧ k < cs.length), _, _, _, _, _, _, _, _, _]) ((List.replicate 7 false) ++ [true, true]) true ⟨by omega, hb1, hb2, hb3, hb4, hb5, hb6, hb7, hb11, hb12, trivial⟩ (by (rw [show badC (cs.getD k.toNat noCa) = true from by { clear hsim hr; (try dsimp only at *); generalize cs.getD k.toNat noCa = c at *; unfold badC; (simp only [*, Bool.or_true, Bool.true_or, Bool.true_and, Bool.and_true, Bool.and_self]; done)}]; rfl)) hsim
         ·
          refine gh Q0_ok (k' := loopAt Tryd.f45 0) (s' := let za := cs.getD k.toNat noCa; mk 0 95 [(0, .d (.list 10 cs.length (caEl cs))), (1, vI k), (5, .ref 0 0), (6, vI 0)] [(0, .obj 45 [vI (za.cl), vI (za.n), vI (za.o.fst), vS (za.o.snd.fst), vS (za.o.snd.snd.fst), vS (za.o.snd.snd.snd), vI (za.fr), vI (za.to), vI (za.a.fst), vS (za.a.snd)])]) (cs := [(0 ≤ k ∧ k < cs.length), _, _, _, _, _, _, _, _, _]) ((List.replicate 7 false) ++ [true, false]) [0,1,5,6] ⟨by omega, hb1, hb2, hb3, hb4, hb5, hb6, hb7, hb11, hb12, trivial⟩ hsim fun E a w hsim => ?_
          rw [show badC (cs.getD k.toNat noCa) = false from by { clear hsim hr; (try dsimp only at *); generalize cs.getD k.toNat noCa = c at *; unfold badC; simp_all }, Bool.not_false, Bool.true_and]
          exact on_go (cs.getD k.toNat noCa) cs k hl (by omega) k.toNat 0 (by omega) (by omega) E a w hsim
        ·
         refine gh Q0_ok (k' := loopAt Tryd.f45 0) (s' := let za := cs.getD k.toNat noCa; mk 0 95 [(0, .d (.list 10 cs.length (caEl cs))), (1, vI k), (5, .ref 0 0), (6, vI 0)] [(0, .obj 45 [vI (za.cl), vI (za.n), vI (za.o.fst), vS (za.o.snd.fst), vS (za.o.snd.snd.fst), vS (za.o.snd.snd.snd), vI (za.fr), vI (za.to), vI (za.a.fst), vS (za.a.snd)])]) (cs := [(0 ≤ k ∧ k < cs.length), _, _, _, _, _, _, _, _]) ((List.replicate 8 false)) [0,1,5,6] ⟨by omega, hb1, hb2, hb3, hb4, hb5, hb6, hb7, hb11, trivial⟩ hsim fun E a w hsim => ?_
         rw [show badC (cs.getD k.toNat noCa) = false from by { clear hsim hr; (try dsimp only at *); generalize cs.getD k.toNat noCa = c at *; unfold badC; simp_all }, Bool.not_false, Bool.true_and]
         exact on_go (cs.getD k.toNat noCa) cs k hl (by omega) k.toNat 0 (by omega) (by omega) E a w hsim
abbrev GoFi (w0 : World) (N : Nat → Prop) (E0 : Env) (s : St) (r : Int) : Prop := GoG Tryd.prog gz0 47 (loopAt Tryd.f47 0) [] ⟨0, [.d (.raw (.int .i64 r))], []⟩ w0 N E0 s
theorem fi_go {w0 : World} {N : Nat → Prop} {E0 : Env} (p : Pt) (cs : List Ca) (hl : cs.length ≤ 1000000) : ∀ (d : Nat) (n i : Int), n = (cs.length : Int) → 0 ≤ i → i + d = n → GoFi w0 N E0 (fi1 p cs n i) (fnd p (cs.drop i.toNat) i) := by
 intro d
 induction d with
 | zero =>
  intro n i en h0 hd E a w hsim
  have hr : fnd p (cs.drop i.toNat) i = -1 := by rw [List.drop_eq_nil_of_le (by omega)]; rfl
  rw [hr]
  rcases bd (decide (i < n)) with hb1 | hb1
  ·
   rcases bd ((cs.getD i.toNat noCa).cl == p.cl) with hb2 | hb2
   ·
    rcases bd ((cs.getD i.toNat noCa).n == p.n) with hb3 | hb3
    ·
     exact absurd (of_decide_eq_true hb1) (by omega)
    ·
     exact absurd (of_decide_eq_true hb1) (by omega)
   ·
    exact absurd (of_decide_eq_true hb1) (by omega)
  ·
   exact gr (OrcOK.none _) Tryd.func47 (sr' := ⟨0, [vI ((-1 : Int))], []⟩) (cs := [_]) [false] true ⟨hb1, trivial⟩ (by rfl) hsim
 | succ d ih =>
  intro n i en h0 hd E a w hsim
  have hi : i.toNat < cs.length := by omega
  have ew : IntKind.i64.wrap (i + 1) = i + 1 := wrapP (by omega)
  have hr : fnd p (cs.drop i.toNat) i = if ((cs.getD i.toNat noCa).cl == p.cl && (cs.getD i.toNat noCa).n == p.n) = true then i else fnd p (cs.drop (IntKind.i64.wrap (i + 1)).toNat) (IntKind.i64.wrap (i + 1)) := by
    rw [getD_drop (d := noCa) hi, ew, show (i + 1).toNat = i.toNat + 1 by omega]; rfl
  have ih := ih n (IntKind.i64.wrap (i + 1)) en (by rw [ew]; omega) (by rw [ew]; omega)
  rw [hr]
  rcases bd (decide (i < n)) with hb1 | hb1
  ·
   rcases bd ((cs.getD i.toNat noCa).cl == p.cl) with hb2 | hb2
   ·
    rcases bd ((cs.getD i.toNat noCa).n == p.n) with hb3 | hb3
    ·
     exact gr (OrcOK.none _) Tryd.func47 (sr' := ⟨0, [vI i], []⟩) (cs := [_, (0 ≤ i ∧ i < cs.length), _, _]) [true, true, true] true ⟨hb1, by omega, hb2, hb3, trivial⟩ (by (rw [if_pos (by { clear hsim ih hr; (try dsimp only at *); generalize cs.getD i.toNat noCa = c at *; simp_all })]; done)) hsim
    ·
     refine gh (OrcOK.none _) (k' := loopAt Tryd.f47 0) (s' := mk 0 28 [(3, .ref 0 0), (7, .d (.list 10 cs.length (caEl cs))), (8, vI n), (9, vI (wI (i + 1)))] [(0, .obj 53 [vI p.at', vI p.cl, vI p.n, vI p.a.fst, vS p.a.snd])]) (cs := [_, (0 ≤ i ∧ i < cs.length), _, _]) [true, true, false] [3,7,8,9] ⟨hb1, by omega, hb2, hb3, trivial⟩ hsim fun E a w hsim => ?_
     rw [if_neg (by { clear hsim ih hr; (try dsimp only at *); generalize cs.getD i.toNat noCa = c at *; simp_all })]
     exact ih E a w hsim
   ·
    refine gh (OrcOK.none _) (k' := loopAt Tryd.f47 0) (s' := mk 0 28 [(3, .ref 0 0), (7, .d (.list 10 cs.length (caEl cs))), (8, vI n), (9, vI (wI (i + 1)))] [(0, .obj 53 [vI p.at', vI p.cl, vI p.n, vI p.a.fst, vS p.a.snd])]) (cs := [_, (0 ≤ i ∧ i < cs.length), _]) [true, false] [3,7,8,9] ⟨hb1, by omega, hb2, trivial⟩ hsim fun E a w hsim => ?_
    rw [if_neg (by { clear hsim ih hr; (try dsimp only at *); generalize cs.getD i.toNat noCa = c at *; simp_all })]
    exact ih E a w hsim
  ·
   exact absurd (of_decide_eq_false hb1) (by omega)
theorem find_ok (cs : List Ca) (p : Pt) (hl : cs.length ≤ 1000000) : Eng.Spec Tryd.prog gz0 47 [.d (.list 10 cs.length (caEl cs)), .d (ptD p)] [] (.d (.raw (.int .i64 (fnd p cs 0)))) [] := by
 refine spec_fn Tryd.func47 rfl fun {w N E act} hsim => ?_
 refine gh (OrcOK.none _) (k' := loopAt Tryd.f47 0) (s' := mk 0 28 [(3, .ref 0 0), (7, .d (.list 10 cs.length (caEl cs))), (8, vI (↑cs.length : Int)), (9, vI 0)] [(0, .obj 53 [vI p.at', vI p.cl, vI p.n, vI p.a.fst, vS p.a.snd])]) (cs := []) [] [3,7,8,9] trivial hsim fun E a w hsim => ?_
 exact fi_go p cs hl cs.length (cs.length : Int) 0 rfl (by omega) (by omega) E a w hsim
theorem mFind_ok (cs : List Ca) (f : Int) : MoOK Tryd.prog gz0 47 (mFind cs f) := fun args H ret H' c h hc => by
 unfold mFind at h
 split at h
 ·
  rename_i s k el m c n er v
  cases h; obtain ⟨rfl, rfl, rfl, ⟨hl, rfl⟩, -⟩ := hc; exact find_ok cs ⟨m, c, n, (er, v)⟩ hl
 · cases h
theorem J1_ok (cs : List Ca) (f : Int) : OrcOK Tryd.prog (J1 cs f) := (OrcOK.none _).add _ false _ (mFind_ok cs f)
abbrev GoTw (w0 : World) (N : Nat → Prop) (E0 : Env) (s : St) (r : Bool) : Prop := GoG Tryd.prog gz0 46 (loopAt Tryd.f46 0) [] ⟨0, [.d (.raw (.bool r))], []⟩ w0 N E0 s
theorem tw_go {w0 : World} {N : Nat → Prop} {E0 : Env} (cs : List Ca) (f : Int) (p : Pt) (ps : List Pt) (k : Int) (hl : ps.length ≤ 1000000) (hk : k ≤ ps.length) : ∀ (d : Nat) (j : Int), 0 ≤ j → j + d = k → GoTw w0 N E0 (tw1 p ps k j) (!((ps.take k.toNat).drop j.toNat).any (sameP p)) := by
 intro d
 induction d with
 | zero =>
  intro j h0 hd E a w hsim
  rw [take_end (by omega)]
  rcases bd (decide (j < k)) with hb1 | hb1
  ·
   rcases bd ((ps.getD j.toNat noPt).cl == p.cl) with hb2 | hb2
   ·
    rcases bd ((ps.getD j.toNat noPt).n == p.n) with hb3 | hb3
    ·
     have q0_ : ((0 : Int) ≤ j ∧ j < (↑ps.length : Int)) := (by exact absurd (of_decide_eq_true hb1) (by omega))
     exact absurd (of_decide_eq_true hb1) (by omega)
    ·
     have q0_ : ((0 : Int) ≤ j ∧ j < (↑ps.length : Int)) := (by exact absurd (of_decide_eq_true hb1) (by omega))
     exact absurd (of_decide_eq_true hb1) (by omega)
   ·
    exact absurd (of_decide_eq_true hb1) (by omega)
  ·
   exact gr (J1_ok cs f) Tryd.func46 (sr' := ⟨0, [vB true], []⟩) (cs := [_]) [false] true ⟨hb1, trivial⟩ (by rfl) hsim
 | succ d ih =>
  intro j h0 hd E a w hsim
  have hi : j.toNat < ps.length := by omega
  have ew : IntKind.i64.wrap (j + 1) = j + 1 := wrapP (by omega)
  have ih := ih (IntKind.i64.wrap (j + 1)) (by rw [ew]; omega) (by rw [ew]; omega)
  rw [take_drop (d := noPt) (by omega) (by omega), List.any_cons]
  rw [ew, show (j + 1).toNat = j.toNat + 1 by omega, ← ew] at ih
  rcases bd (decide (j < k)) with hb1 | hb1
  ·
   rcases bd ((ps.getD j.toNat noPt).cl == p.cl) with hb2 | hb2
   ·
    rcases bd ((ps.getD j.toNat noPt).n == p.n) with hb3 | hb3
    ·
     have q0_ : ((0 : Int) ≤ j ∧ j < (↑ps.length : Int)) := (by omega)
     exact gr (J1_ok cs f) Tryd.func46 (sr' := ⟨0, [vB false], []⟩) (cs := ((fun (c0 : Prop) => [_, c0, _, c0, _]) _)) [true, true, true] true ⟨hb1, q0_, hb2, q0_, hb3, trivial⟩ (by (rw [show sameP p (ps.getD j.toNat noPt) = true from by { clear hsim ih; (try dsimp only at *); generalize ps.getD j.toNat noPt = b at *; unfold sameP; simp_all }]; rfl)) hsim
    ·
     have q0_ : ((0 : Int) ≤ j ∧ j < (↑ps.length : Int)) := (by omega)
     refine gh (J1_ok cs f) (k' := loopAt Tryd.f46 0) (s' := mk 0 88 [(1, .d (.list 5 ps.length (ptEl ps))), (2, vI k), (7, .ref 0 0), (9, vI (wI (j + 1)))] [(0, .obj 53 [vI p.at', vI p.cl, vI p.n, vI p.a.fst, vS p.a.snd])]) (cs := ((fun (c0 : Prop) => [_, c0, _, c0, _]) _)) [true, true, false] [1,2,7,9] ⟨hb1, q0_, hb2, q0_, hb3, trivial⟩ hsim fun E a w hsim => ?_
     rw [show sameP p (ps.getD j.toNat noPt) = false from by { clear hsim ih; (try dsimp only at *); generalize ps.getD j.toNat noPt = b at *; unfold sameP; simp_all }, Bool.false_or]
     exact ih E a w hsim
   ·
    refine gh (J1_ok cs f) (k' := loopAt Tryd.f46 0) (s' := mk 0 88 [(1, .d (.list 5 ps.length (ptEl ps))), (2, vI k), (7, .ref 0 0), (9, vI (wI (j + 1)))] [(0, .obj 53 [vI p.at', vI p.cl, vI p.n, vI p.a.fst, vS p.a.snd])]) (cs := [_, (0 ≤ j ∧ j < ps.length), _]) [true, false] [1,2,7,9] ⟨hb1, by omega, hb2, trivial⟩ hsim fun E a w hsim => ?_
    rw [show sameP p (ps.getD j.toNat noPt) = false from by { clear hsim ih; (try dsimp only at *); generalize ps.getD j.toNat noPt = b at *; unfold sameP; simp_all }, Bool.false_or]
    exact ih E a w hsim
  ·
   exact absurd (of_decide_eq_false hb1) (by omega)
theorem two_ok (cs : List Ca) (ps : List Pt) (k : Int) (hl : cs.length ≤ 1000000) (hl2 : ps.length ≤ 1000000) (h0 : 0 ≤ k) (hk : k < ps.length) : Eng.Spec Tryd.prog gz0 46 [.d (.list 10 cs.length (caEl cs)), .d (.list 5 ps.length (ptEl ps)), .d (.raw (.int .i64 k))] [] (.d (.raw (.bool (twoM cs ps k.toNat)))) [] := by
 refine spec_fn Tryd.func46 rfl fun {w N E act} hsim => ?_
 obtain ⟨f, hf⟩ : ∃ f, f = fnd (ps.getD k.toNat noPt) cs 0 := ⟨_, rfl⟩
 have hfb := fnd_bd (ps.getD k.toNat noPt) cs
 rw [← hf] at hfb
 have hm : badM ps k.toNat = (decide ((ps.getD k.toNat noPt).at' < 0) || (decide (k > 0) && decide ((ps.getD (IntKind.i64.wrap (k - 1)).toNat noPt).at' > (ps.getD k.toNat noPt).at'))) := by
   unfold badM
   rw [show decide (0 < k.toNat) = decide (k > 0) by rw [decide_eq_decide]; omega]
   by_cases h : k > 0
   · rw [wrapP (by omega), show (k - 1).toNat = k.toNat - 1 by omega]
   · rw [decide_eq_false h]; rfl
 have hk1 : k > 0 → 0 ≤ IntKind.i64.wrap (k - 1) ∧ IntKind.i64.wrap (k - 1) < ps.length := fun h => by rw [wrapP (by omega)]; omega
 have ht : badT cs (ps.getD k.toNat noPt) = (decide (f < 0) || decide ((ps.getD k.toNat noPt).at' < (cs.getD f.toNat noCa).fr) || ((cs.getD f.toNat noCa).to != -1 && decide ((ps.getD k.toNat noPt).at' > (cs.getD f.toNat noCa).to))) := by rw [hf]; rfl
 have hr : twoM cs ps k.toNat = (!(badM ps k.toNat || badT cs (ps.getD k.toNat noPt)) && !((ps.take k.toNat).drop (0 : Int).toNat).any (sameP (ps.getD k.toNat noPt))) := by rw [Bool.not_or]; rfl
 rw [hr]
 rcases bd (decide ((ps.getD k.toNat noPt).at' < (0 : Int))) with hb1 | hb1
 ·
  exact gr (J1_ok cs f) Tryd.func46 (sr' := ⟨0, [vB false], []⟩) (cs := [(0 ≤ k ∧ k < ps.length), _]) [true] true ⟨by omega, hb1, trivial⟩ (by (rw [show (badM ps k.toNat || badT cs (ps.getD k.toNat noPt)) = true from by { clear hsim hr; rw [hm, ht]; clear hm ht hf; generalize ps.getD k.toNat noPt = p at *; generalize cs.getD f.toNat noCa = c at *; generalize ps.getD (IntKind.i64.wrap (k - 1)).toNat noPt = q at *; (simp only [*, Bool.or_true, Bool.true_or, Bool.true_and, Bool.and_true, Bool.and_self]; done)}]; rfl)) hsim
 ·
  rcases bd (decide (k > (0 : Int))) with hb2 | hb2
  ·
   rcases bd (decide ((ps.getD (IntKind.i64.wrap (k - (1 : Int))).toNat noPt).at' > (ps.getD k.toNat noPt).at')) with hb3 | hb3
   ·
    exact gr (J1_ok cs f) Tryd.func46 (sr' := ⟨0, [vB false], []⟩) (cs := [(0 ≤ k ∧ k < ps.length), _, _, ((0 : Int) ≤ IntKind.i64.wrap (k - 1) ∧ IntKind.i64.wrap (k - 1) < (↑ps.length : Int)), _]) [false, true, true] true ⟨by omega, hb1, hb2, (by exact hk1 (of_decide_eq_true hb2)), hb3, trivial⟩ (by (rw [show (badM ps k.toNat || badT cs (ps.getD k.toNat noPt)) = true from by { clear hsim hr; rw [hm, ht]; clear hm ht hf; generalize ps.getD k.toNat noPt = p at *; generalize cs.getD f.toNat noCa = c at *; generalize ps.getD (IntKind.i64.wrap (k - 1)).toNat noPt = q at *; (simp only [*, Bool.or_true, Bool.true_or, Bool.true_and, Bool.and_true, Bool.and_self]; done)}]; rfl)) hsim
   ·
    rcases bd (decide (f < (0 : Int))) with hb4 | hb4
    ·
     exact gr (J1_ok cs f) Tryd.func46 (sr' := ⟨0, [vB false], []⟩) (cs := [(0 ≤ k ∧ k < ps.length), _, _, ((0 : Int) ≤ IntKind.i64.wrap (k - 1) ∧ IntKind.i64.wrap (k - 1) < (↑ps.length : Int)), _, (10 = 10), (cs.length = cs.length), (caEl cs = caEl cs), (cs.length ≤ 1000000 ∧ f = fnd (Pt.mk (ps.getD k.toNat noPt).at' (ps.getD k.toNat noPt).cl (ps.getD k.toNat noPt).n ((ps.getD k.toNat noPt).a.fst, (ps.getD k.toNat noPt).a.snd)) cs (0 : Int)), _]) [false, true, false, true] true ⟨by omega, hb1, hb2, (by exact hk1 (of_decide_eq_true hb2)), hb3, by omega, by omega, (by rfl), (by exact ⟨hl, hf⟩), hb4, trivial⟩ (by (rw [show (badM ps k.toNat || badT cs (ps.getD k.toNat noPt)) = true from by { clear hsim hr; rw [hm, ht]; clear hm ht hf; generalize ps.getD k.toNat noPt = p at *; generalize cs.getD f.toNat noCa = c at *; generalize ps.getD (IntKind.i64.wrap (k - 1)).toNat noPt = q at *; (simp only [*, Bool.or_true, Bool.true_or, Bool.true_and, Bool.and_true, Bool.and_self]; done)}]; rfl)) hsim
    ·
     rcases bd (decide ((ps.getD k.toNat noPt).at' < (cs.getD f.toNat noCa).fr)) with hb5 | hb5
     ·
      exact gr (J1_ok cs f) Tryd.func46 (sr' := ⟨0, [vB false], []⟩) (cs := [(0 ≤ k ∧ k < ps.length), _, _, ((0 : Int) ≤ IntKind.i64.wrap (k - 1) ∧ IntKind.i64.wrap (k - 1) < (↑ps.length : Int)), _, (10 = 10), (cs.length = cs.length), (caEl cs = caEl cs), (cs.length ≤ 1000000 ∧ f = fnd (Pt.mk (ps.getD k.toNat noPt).at' (ps.getD k.toNat noPt).cl (ps.getD k.toNat noPt).n ((ps.getD k.toNat noPt).a.fst, (ps.getD k.toNat noPt).a.snd)) cs (0 : Int)), _, (0 ≤ f ∧ f < cs.length), _]) [false, true, false, false, true] true ⟨by omega, hb1, hb2, (by exact hk1 (of_decide_eq_true hb2)), hb3, by omega, by omega, (by rfl), (by exact ⟨hl, hf⟩), hb4, (by exact ⟨Int.not_lt.1 (of_decide_eq_false ‹decide (f < 0) = false›), hfb.2⟩), hb5, trivial⟩ (by (rw [show (badM ps k.toNat || badT cs (ps.getD k.toNat noPt)) = true from by { clear hsim hr; rw [hm, ht]; clear hm ht hf; generalize ps.getD k.toNat noPt = p at *; generalize cs.getD f.toNat noCa = c at *; generalize ps.getD (IntKind.i64.wrap (k - 1)).toNat noPt = q at *; (simp only [*, Bool.or_true, Bool.true_or, Bool.true_and, Bool.and_true, Bool.and_self]; done)}]; rfl)) hsim
     ·
      rcases bd ((cs.getD f.toNat noCa).to != (-1 : Int)) with hb6 | hb6
      ·
       rcases bd (decide ((ps.getD k.toNat noPt).at' > (cs.getD f.toNat noCa).to)) with hb7 | hb7
       ·
        have q0_ : ((0 : Int) ≤ f ∧ f < (↑cs.length : Int)) := (by exact ⟨Int.not_lt.1 (of_decide_eq_false ‹decide (f < 0) = false›), hfb.2⟩)
        exact gr (J1_ok cs f) Tryd.func46 (sr' := ⟨0, [vB false], []⟩) (cs := ((fun (c0 : Prop) => [(0 ≤ k ∧ k < ps.length), _, _, ((0 : Int) ≤ IntKind.i64.wrap (k - 1) ∧ IntKind.i64.wrap (k - 1) < (↑ps.length : Int)), _, (10 = 10), (cs.length = cs.length), (caEl cs = caEl cs), (cs.length ≤ 1000000 ∧ f = fnd (Pt.mk (ps.getD k.toNat noPt).at' (ps.getD k.toNat noPt).cl (ps.getD k.toNat noPt).n ((ps.getD k.toNat noPt).a.fst, (ps.getD k.toNat noPt).a.snd)) cs (0 : Int)), _, c0, _, c0, _, c0, _]) _)) [false, true, false, false, false, true, true] true ⟨by omega, hb1, hb2, (by exact hk1 (of_decide_eq_true hb2)), hb3, by omega, by omega, (by rfl), (by exact ⟨hl, hf⟩), hb4, q0_, hb5, q0_, hb6, q0_, hb7, trivial⟩ (by (rw [show (badM ps k.toNat || badT cs (ps.getD k.toNat noPt)) = true from by { clear hsim hr; rw [hm, ht]; clear hm ht hf; generalize ps.getD k.toNat noPt = p at *; generalize cs.getD f.toNat noCa = c at *; generalize ps.getD (IntKind.i64.wrap (k - 1)).toNat noPt = q at *; (simp only [*, Bool.or_true, Bool.true_or, Bool.true_and, Bool.and_true, Bool.and_self]; done)}]; rfl)) hsim
       ·
        have q0_ : ((0 : Int) ≤ f ∧ f < (↑cs.length : Int)) := (by exact ⟨Int.not_lt.1 (of_decide_eq_false ‹decide (f < 0) = false›), hfb.2⟩)
        refine gh (J1_ok cs f) (k' := loopAt Tryd.f46 0) (s' := let za := ps.getD k.toNat noPt; mk 0 88 [(1, .d (.list 5 ps.length (ptEl ps))), (2, vI k), (7, .ref 0 0), (9, vI 0)] [(0, .obj 53 [vI (za.at'), vI (za.cl), vI (za.n), vI (za.a.fst), vS (za.a.snd)])]) (cs := ((fun (c0 : Prop) => [(0 ≤ k ∧ k < ps.length), _, _, ((0 : Int) ≤ IntKind.i64.wrap (k - 1) ∧ IntKind.i64.wrap (k - 1) < (↑ps.length : Int)), _, (10 = 10), (cs.length = cs.length), (caEl cs = caEl cs), (cs.length ≤ 1000000 ∧ f = fnd (Pt.mk (ps.getD k.toNat noPt).at' (ps.getD k.toNat noPt).cl (ps.getD k.toNat noPt).n ((ps.getD k.toNat noPt).a.fst, (ps.getD k.toNat noPt).a.snd)) cs (0 : Int)), _, c0, _, c0, _, c0, _]) _)) [false, true, false, false, false, true, false] [1,2,7,9] ⟨by omega, hb1, hb2, (by exact hk1 (of_decide_eq_true hb2)), hb3, by omega, by omega, (by rfl), (by exact ⟨hl, hf⟩), hb4, q0_, hb5, q0_, hb6, q0_, hb7, trivial⟩ hsim fun E a w hsim => ?_
        rw [show (badM ps k.toNat || badT cs (ps.getD k.toNat noPt)) = false from by { clear hsim hr; rw [hm, ht]; clear hm ht hf; generalize ps.getD k.toNat noPt = p at *; generalize cs.getD f.toNat noCa = c at *; generalize ps.getD (IntKind.i64.wrap (k - 1)).toNat noPt = q at *; simp_all <;> (intros; omega) }, Bool.not_false, Bool.true_and]
        exact tw_go cs f (ps.getD k.toNat noPt) ps k hl2 (by omega) k.toNat 0 (by omega) (by omega) E a w hsim
      ·
       have q0_ : ((0 : Int) ≤ f ∧ f < (↑cs.length : Int)) := (by exact ⟨Int.not_lt.1 (of_decide_eq_false ‹decide (f < 0) = false›), hfb.2⟩)
       refine gh (J1_ok cs f) (k' := loopAt Tryd.f46 0) (s' := let za := ps.getD k.toNat noPt; mk 0 88 [(1, .d (.list 5 ps.length (ptEl ps))), (2, vI k), (7, .ref 0 0), (9, vI 0)] [(0, .obj 53 [vI (za.at'), vI (za.cl), vI (za.n), vI (za.a.fst), vS (za.a.snd)])]) (cs := ((fun (c0 : Prop) => [(0 ≤ k ∧ k < ps.length), _, _, ((0 : Int) ≤ IntKind.i64.wrap (k - 1) ∧ IntKind.i64.wrap (k - 1) < (↑ps.length : Int)), _, (10 = 10), (cs.length = cs.length), (caEl cs = caEl cs), (cs.length ≤ 1000000 ∧ f = fnd (Pt.mk (ps.getD k.toNat noPt).at' (ps.getD k.toNat noPt).cl (ps.getD k.toNat noPt).n ((ps.getD k.toNat noPt).a.fst, (ps.getD k.toNat noPt).a.snd)) cs (0 : Int)), _, c0, _, c0, _]) _)) ([false, true] ++ (List.replicate 4 false)) [1,2,7,9] ⟨by omega, hb1, hb2, (by exact hk1 (of_decide_eq_true hb2)), hb3, by omega, by omega, (by rfl), (by exact ⟨hl, hf⟩), hb4, q0_, hb5, q0_, hb6, trivial⟩ hsim fun E a w hsim => ?_
       rw [show (badM ps k.toNat || badT cs (ps.getD k.toNat noPt)) = false from by { clear hsim hr; rw [hm, ht]; clear hm ht hf; generalize ps.getD k.toNat noPt = p at *; generalize cs.getD f.toNat noCa = c at *; generalize ps.getD (IntKind.i64.wrap (k - 1)).toNat noPt = q at *; simp_all <;> (intros; omega) }, Bool.not_false, Bool.true_and]
       exact tw_go cs f (ps.getD k.toNat noPt) ps k hl2 (by omega) k.toNat 0 (by omega) (by omega) E a w hsim
  ·
   rcases bd (decide (f < (0 : Int))) with hb8 | hb8
   ·
    exact gr (J1_ok cs f) Tryd.func46 (sr' := ⟨0, [vB false], []⟩) (cs := [(0 ≤ k ∧ k < ps.length), _, _, (10 = 10), (cs.length = cs.length), (caEl cs = caEl cs), (cs.length ≤ 1000000 ∧ f = fnd (Pt.mk (ps.getD k.toNat noPt).at' (ps.getD k.toNat noPt).cl (ps.getD k.toNat noPt).n ((ps.getD k.toNat noPt).a.fst, (ps.getD k.toNat noPt).a.snd)) cs (0 : Int)), _]) [false, false, true] true ⟨by omega, hb1, hb2, by omega, by omega, (by rfl), (by exact ⟨hl, hf⟩), hb8, trivial⟩ (by (rw [show (badM ps k.toNat || badT cs (ps.getD k.toNat noPt)) = true from by { clear hsim hr; rw [hm, ht]; clear hm ht hf; generalize ps.getD k.toNat noPt = p at *; generalize cs.getD f.toNat noCa = c at *; generalize ps.getD (IntKind.i64.wrap (k - 1)).toNat noPt = q at *; (simp only [*, Bool.or_true, Bool.true_or, Bool.true_and, Bool.and_true, Bool.and_self]; done)}]; rfl)) hsim
   ·
    rcases bd (decide ((ps.getD k.toNat noPt).at' < (cs.getD f.toNat noCa).fr)) with hb9 | hb9
    ·
     exact gr (J1_ok cs f) Tryd.func46 (sr' := ⟨0, [vB false], []⟩) (cs := [(0 ≤ k ∧ k < ps.length), _, _, (10 = 10), (cs.length = cs.length), (caEl cs = caEl cs), (cs.length ≤ 1000000 ∧ f = fnd (Pt.mk (ps.getD k.toNat noPt).at' (ps.getD k.toNat noPt).cl (ps.getD k.toNat noPt).n ((ps.getD k.toNat noPt).a.fst, (ps.getD k.toNat noPt).a.snd)) cs (0 : Int)), _, (0 ≤ f ∧ f < cs.length), _]) [false, false, false, true] true ⟨by omega, hb1, hb2, by omega, by omega, (by rfl), (by exact ⟨hl, hf⟩), hb8, (by exact ⟨Int.not_lt.1 (of_decide_eq_false ‹decide (f < 0) = false›), hfb.2⟩), hb9, trivial⟩ (by (rw [show (badM ps k.toNat || badT cs (ps.getD k.toNat noPt)) = true from by { clear hsim hr; rw [hm, ht]; clear hm ht hf; generalize ps.getD k.toNat noPt = p at *; generalize cs.getD f.toNat noCa = c at *; generalize ps.getD (IntKind.i64.wrap (k - 1)).toNat noPt = q at *; (simp only [*, Bool.or_true, Bool.true_or, Bool.true_and, Bool.and_true, Bool.and_self]; done)}]; rfl)) hsim
    ·
     rcases bd ((cs.getD f.toNat noCa).to != (-1 : Int)) with hb10 | hb10
     ·
      rcases bd (decide ((ps.getD k.toNat noPt).at' > (cs.getD f.toNat noCa).to)) with hb11 | hb11
      ·
       have q0_ : ((0 : Int) ≤ f ∧ f < (↑cs.length : Int)) := (by exact ⟨Int.not_lt.1 (of_decide_eq_false ‹decide (f < 0) = false›), hfb.2⟩)
       exact gr (J1_ok cs f) Tryd.func46 (sr' := ⟨0, [vB false], []⟩) (cs := ((fun (c0 : Prop) => [(0 ≤ k ∧ k < ps.length), _, _, (10 = 10), (cs.length = cs.length), (caEl cs = caEl cs), (cs.length ≤ 1000000 ∧ f = fnd (Pt.mk (ps.getD k.toNat noPt).at' (ps.getD k.toNat noPt).cl (ps.getD k.toNat noPt).n ((ps.getD k.toNat noPt).a.fst, (ps.getD k.toNat noPt).a.snd)) cs (0 : Int)), _, c0, _, c0, _, c0, _]) _)) ((List.replicate 4 false) ++ [true, true]) true ⟨by omega, hb1, hb2, by omega, by omega, (by rfl), (by exact ⟨hl, hf⟩), hb8, q0_, hb9, q0_, hb10, q0_, hb11, trivial⟩ (by (rw [show (badM ps k.toNat || badT cs (ps.getD k.toNat noPt)) = true from by { clear hsim hr; rw [hm, ht]; clear hm ht hf; generalize ps.getD k.toNat noPt = p at *; generalize cs.getD f.toNat noCa = c at *; generalize ps.getD (IntKind.i64.wrap (k - 1)).toNat noPt = q at *; (simp only [*, Bool.or_true, Bool.true_or, Bool.true_and, Bool.and_true, Bool.and_self]; done)}]; rfl)) hsim
      ·
       have q0_ : ((0 : Int) ≤ f ∧ f < (↑cs.length : Int)) := (by exact ⟨Int.not_lt.1 (of_decide_eq_false ‹decide (f < 0) = false›), hfb.2⟩)
       refine gh (J1_ok cs f) (k' := loopAt Tryd.f46 0) (s' := let za := ps.getD k.toNat noPt; mk 0 88 [(1, .d (.list 5 ps.length (ptEl ps))), (2, vI k), (7, .ref 0 0), (9, vI 0)] [(0, .obj 53 [vI (za.at'), vI (za.cl), vI (za.n), vI (za.a.fst), vS (za.a.snd)])]) (cs := ((fun (c0 : Prop) => [(0 ≤ k ∧ k < ps.length), _, _, (10 = 10), (cs.length = cs.length), (caEl cs = caEl cs), (cs.length ≤ 1000000 ∧ f = fnd (Pt.mk (ps.getD k.toNat noPt).at' (ps.getD k.toNat noPt).cl (ps.getD k.toNat noPt).n ((ps.getD k.toNat noPt).a.fst, (ps.getD k.toNat noPt).a.snd)) cs (0 : Int)), _, c0, _, c0, _, c0, _]) _)) ((List.replicate 4 false) ++ [true, false]) [1,2,7,9] ⟨by omega, hb1, hb2, by omega, by omega, (by rfl), (by exact ⟨hl, hf⟩), hb8, q0_, hb9, q0_, hb10, q0_, hb11, trivial⟩ hsim fun E a w hsim => ?_
       rw [show (badM ps k.toNat || badT cs (ps.getD k.toNat noPt)) = false from by { clear hsim hr; rw [hm, ht]; clear hm ht hf; generalize ps.getD k.toNat noPt = p at *; generalize cs.getD f.toNat noCa = c at *; generalize ps.getD (IntKind.i64.wrap (k - 1)).toNat noPt = q at *; simp_all <;> (intros; omega) }, Bool.not_false, Bool.true_and]
       exact tw_go cs f (ps.getD k.toNat noPt) ps k hl2 (by omega) k.toNat 0 (by omega) (by omega) E a w hsim
     ·
      have q0_ : ((0 : Int) ≤ f ∧ f < (↑cs.length : Int)) := (by exact ⟨Int.not_lt.1 (of_decide_eq_false ‹decide (f < 0) = false›), hfb.2⟩)
      refine gh (J1_ok cs f) (k' := loopAt Tryd.f46 0) (s' := let za := ps.getD k.toNat noPt; mk 0 88 [(1, .d (.list 5 ps.length (ptEl ps))), (2, vI k), (7, .ref 0 0), (9, vI 0)] [(0, .obj 53 [vI (za.at'), vI (za.cl), vI (za.n), vI (za.a.fst), vS (za.a.snd)])]) (cs := ((fun (c0 : Prop) => [(0 ≤ k ∧ k < ps.length), _, _, (10 = 10), (cs.length = cs.length), (caEl cs = caEl cs), (cs.length ≤ 1000000 ∧ f = fnd (Pt.mk (ps.getD k.toNat noPt).at' (ps.getD k.toNat noPt).cl (ps.getD k.toNat noPt).n ((ps.getD k.toNat noPt).a.fst, (ps.getD k.toNat noPt).a.snd)) cs (0 : Int)), _, c0, _, c0, _]) _)) ((List.replicate 5 false)) [1,2,7,9] ⟨by omega, hb1, hb2, by omega, by omega, (by rfl), (by exact ⟨hl, hf⟩), hb8, q0_, hb9, q0_, hb10, trivial⟩ hsim fun E a w hsim => ?_
      rw [show (badM ps k.toNat || badT cs (ps.getD k.toNat noPt)) = false from by { clear hsim hr; rw [hm, ht]; clear hm ht hf; generalize ps.getD k.toNat noPt = p at *; generalize cs.getD f.toNat noCa = c at *; generalize ps.getD (IntKind.i64.wrap (k - 1)).toNat noPt = q at *; simp_all <;> (intros; omega) }, Bool.not_false, Bool.true_and]
      exact tw_go cs f (ps.getD k.toNat noPt) ps k hl2 (by omega) k.toNat 0 (by omega) (by omega) E a w hsim
end Go.Prf
