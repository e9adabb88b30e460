/-
  Contracts of given functions, plain laws. No condition.
-/
import Derived.Test.YtbppcjkpkelbfaaDoorTabN
import Derived.Test.YtbppcjkpkelbfaaDoorMapE
namespace Go.Prf
open Go Go.Eng Go.Proofs Go.RowKit Go.Tab Go.Plc
set_option maxRecDepth 100000
set_option maxHeartbeats 4000000
theorem getD_drop {α : Type} {l : List α} {d : α} {k : Nat} (h : k < l.length) : l.drop k = l.getD k d :: l.drop (k + 1) := by
 rw [List.drop_eq_getElem_cons h]; simp [List.getD, h]
def repF : T4 → List OpT → List An
 | _, [] => []
 | T, o :: r => tellM T o :: repF (nextT T o) r
def Small (l : List OpT) : Prop := ∀ o ∈ l, o.2.1.size ≤ 1073741824
def badC (c : Ca) : Bool := decide (c.cl < 0) || decide (c.cl > 7) || decide (c.n < 1) || decide (c.n > 1099511627776) || checkM c.o.1 c.o.2.1 c.o.2.2.1 c.o.2.2.2 != 0 || decide (c.fr < 0) || (c.to != -1 && decide (c.to < c.fr)) || (c.to == -1 && !eqcs [.int .i64 c.a.1, .string c.a.2] [.int .i64 0, .string (ByteArray.mk #[])])
def badL (L : List Ca) (c : Ca) : Bool := hasC L (.raw (.int .i64 c.cl)) && (decide ((getC L (.raw (.int .i64 c.cl))).n ≥ c.n) || (getC L (.raw (.int .i64 c.cl))).to == -1 || decide ((getC L (.raw (.int .i64 c.cl))).to > c.fr))
def fmF : List Ca → List Ca → Int → Int
 | _, [], _ => -1
 | L, c :: r, i => if (badC c || badL L c) = true then i else fmF (c :: L) r (i + 1)
theorem mchk_ok : MoOK Tryd.prog gz0 23 mChk := fun args H ret H' cs h hc => by
 unfold mChk at h
 split at h
 · cases h; exact Go.Tab.check_ok _ _ _ _
 · cases h
theorem B0_ok : OrcOK Tryd.prog B0 := (OrcOK.none _).add _ false _ mchk_ok
theorem lastMp_put (L : List Ca) (c : Ca) : (lastMp L).put (.raw (.int .i64 c.cl)) (caD c) = lastMp (c :: L) := by
 unfold lastMp MapD.put
 congr 1
 funext x
 have : getC (c :: L) x = match keyEq x (.raw (.int .i64 c.cl)) with | true => c | false => getC L x := by
  unfold getC; rw [List.find?_cons]; cases keyEq x (.raw (.int .i64 c.cl)) <;> rfl
 simp only [this]
 cases keyEq x (.raw (.int .i64 c.cl)) <;> rfl
def fm1M (M : MapD) (cs : List Ca) (n i : Int) : St := mk 0 102 [(3, .mp 0), (9, .d (.list 10 cs.length (caEl cs))), (10, .d (.raw (.int .i64 n))), (11, .d (.raw (.int .i64 i)))] [(0, .mp M)]
abbrev GoF (w0 : World) (N : Nat → Prop) (E0 : Env) (s : St) (r : Int) : Prop := GoG Tryd.prog gz0 40 (loopAt Tryd.f40 0) [] ⟨0, [.d (.raw (.int .i64 r))], []⟩ w0 N E0 s
theorem fm_go {w0 : World} {N : Nat → Prop} {E0 : Env} (cs : List Ca) (hl : cs.length ≤ 1099511627776) : ∀ (d : Nat) (n i : Int), n = (cs.length : Int) → 0 ≤ i → i + d = n → ∀ (L : List Ca), GoF w0 N E0 (fm1 L cs n i) (fmF L (cs.drop i.toNat) i) := by
 intro d
 induction d with
 | zero =>
  intro n i en h0 hd L E a w hsim
  have hr : fmF L (cs.drop i.toNat) i = -1 := by rw [List.drop_eq_nil_of_le (by omega)]; rfl
  rw [hr]
  rcases bd (decide (i < n)) with hb1 | hb1
  ·
   rcases bd (decide ((cs.getD i.toNat noCa).cl < (0 : Int))) with hb2 | hb2
   ·
    exact absurd (of_decide_eq_true hb1) (by omega)
   ·
    rcases bd (decide ((cs.getD i.toNat noCa).cl > (7 : Int))) with hb3 | hb3
    ·
     exact absurd (of_decide_eq_true hb1) (by omega)
    ·
     rcases bd (decide ((cs.getD i.toNat noCa).n < (1 : Int))) with hb4 | hb4
     ·
      exact absurd (of_decide_eq_true hb1) (by omega)
     ·
      rcases bd (decide ((cs.getD i.toNat noCa).n > (1099511627776 : Int))) with hb5 | hb5
      ·
       exact absurd (of_decide_eq_true hb1) (by omega)
      ·
       rcases bd (checkM (cs.getD i.toNat noCa).o.fst (cs.getD i.toNat noCa).o.snd.fst (cs.getD i.toNat noCa).o.snd.snd.fst (cs.getD i.toNat noCa).o.snd.snd.snd != (0 : Int)) with hb6 | hb6
       ·
        exact absurd (of_decide_eq_true hb1) (by omega)
       ·
        rcases bd (decide ((cs.getD i.toNat noCa).fr < (0 : Int))) with hb7 | hb7
        ·
         exact absurd (of_decide_eq_true hb1) (by omega)
        ·
         rcases bd ((cs.getD i.toNat noCa).to != (-1 : Int)) with hb8 | hb8
         ·
          rcases bd (decide ((cs.getD i.toNat noCa).to < (cs.getD i.toNat noCa).fr)) with hb9 | hb9
          ·
           exact absurd (of_decide_eq_true hb1) (by omega)
          ·
           rcases bd ((cs.getD i.toNat noCa).to == (-1 : Int)) with hb10 | hb10
           ·
            rcases bd (!eqcs [Value.int IntKind.i64 (cs.getD i.toNat noCa).a.fst, Value.string (cs.getD i.toNat noCa).a.snd] [Value.int IntKind.i64 (0 : Int), Value.string (ByteArray.mk #[])]) with hb11 | hb11
            ·
             exact absurd (of_decide_eq_true hb1) (by omega)
            ·
             rcases bd ((MapD.mk (3 : Nat) (fun d => hasC L d) (fun d => caD (getC L d)) (lenC L)).has (D.raw (Value.int IntKind.i64 (cs.getD i.toNat noCa).cl))) with hb12 | hb12
             ·
              rcases bd (decide ((getC L (D.raw (Value.int IntKind.i64 (cs.getD i.toNat noCa).cl))).n ≥ (cs.getD i.toNat noCa).n)) with hb13 | hb13
              ·
               exact absurd (of_decide_eq_true hb1) (by omega)
              ·
               rcases bd ((getC L (D.raw (Value.int IntKind.i64 (cs.getD i.toNat noCa).cl))).to == (-1 : Int)) with hb14 | hb14
               ·
                exact absurd (of_decide_eq_true hb1) (by omega)
               ·
                rcases bd (decide ((getC L (D.raw (Value.int IntKind.i64 (cs.getD i.toNat noCa).cl))).to > (cs.getD i.toNat noCa).fr)) with hb15 | hb15
                ·
                 exact absurd (of_decide_eq_true hb1) (by omega)
                ·
                 exact absurd (of_decide_eq_true hb1) (by omega)
             ·
              exact absurd (of_decide_eq_true hb1) (by omega)
           ·
            rcases bd ((MapD.mk (3 : Nat) (fun d => hasC L d) (fun d => caD (getC L d)) (lenC L)).has (D.raw (Value.int IntKind.i64 (cs.getD i.toNat noCa).cl))) with hb16 | hb16
            ·
             rcases bd (decide ((getC L (D.raw (Value.int IntKind.i64 (cs.getD i.toNat noCa).cl))).n ≥ (cs.getD i.toNat noCa).n)) with hb17 | hb17
             ·
              exact absurd (of_decide_eq_true hb1) (by omega)
             ·
              rcases bd ((getC L (D.raw (Value.int IntKind.i64 (cs.getD i.toNat noCa).cl))).to == (-1 : Int)) with hb18 | hb18
              ·
               exact absurd (of_decide_eq_true hb1) (by omega)
              ·
               rcases bd (decide ((getC L (D.raw (Value.int IntKind.i64 (cs.getD i.toNat noCa).cl))).to > (cs.getD i.toNat noCa).fr)) with hb19 | hb19
               ·
                exact absurd (of_decide_eq_true hb1) (by omega)
               ·
                exact absurd (of_decide_eq_true hb1) (by omega)
            ·
             exact absurd (of_decide_eq_true hb1) (by omega)
         ·
          rcases bd ((cs.getD i.toNat noCa).to == (-1 : Int)) with hb20 | hb20
          ·
           rcases bd (!eqcs [Value.int IntKind.i64 (cs.getD i.toNat noCa).a.fst, Value.string (cs.getD i.toNat noCa).a.snd] [Value.int IntKind.i64 (0 : Int), Value.string (ByteArray.mk #[])]) with hb21 | hb21
           ·
            exact absurd (of_decide_eq_true hb1) (by omega)
           ·
            rcases bd ((MapD.mk (3 : Nat) (fun d => hasC L d) (fun d => caD (getC L d)) (lenC L)).has (D.raw (Value.int IntKind.i64 (cs.getD i.toNat noCa).cl))) with hb22 | hb22
            ·
             rcases bd (decide ((getC L (D.raw (Value.int IntKind.i64 (cs.getD i.toNat noCa).cl))).n ≥ (cs.getD i.toNat noCa).n)) with hb23 | hb23
             ·
              exact absurd (of_decide_eq_true hb1) (by omega)
             ·
              rcases bd ((getC L (D.raw (Value.int IntKind.i64 (cs.getD i.toNat noCa).cl))).to == (-1 : Int)) with hb24 | hb24
              ·
               exact absurd (of_decide_eq_true hb1) (by omega)
              ·
               rcases bd (decide ((getC L (D.raw (Value.int IntKind.i64 (cs.getD i.toNat noCa).cl))).to > (cs.getD i.toNat noCa).fr)) with hb25 | hb25
               ·
                exact absurd (of_decide_eq_true hb1) (by omega)
               ·
                exact absurd (of_decide_eq_true hb1) (by omega)
            ·
             exact absurd (of_decide_eq_true hb1) (by omega)
          ·
           rcases bd ((MapD.mk (3 : Nat) (fun d => hasC L d) (fun d => caD (getC L d)) (lenC L)).has (D.raw (Value.int IntKind.i64 (cs.getD i.toNat noCa).cl))) with hb26 | hb26
           ·
            rcases bd (decide ((getC L (D.raw (Value.int IntKind.i64 (cs.getD i.toNat noCa).cl))).n ≥ (cs.getD i.toNat noCa).n)) with hb27 | hb27
            ·
             exact absurd (of_decide_eq_true hb1) (by omega)
            ·
             rcases bd ((getC L (D.raw (Value.int IntKind.i64 (cs.getD i.toNat noCa).cl))).to == (-1 : Int)) with hb28 | hb28
             ·
              exact absurd (of_decide_eq_true hb1) (by omega)
             ·
              rcases bd (decide ((getC L (D.raw (Value.int IntKind.i64 (cs.getD i.toNat noCa).cl))).to > (cs.getD i.toNat noCa).fr)) with hb29 | hb29
              ·
               exact absurd (of_decide_eq_true hb1) (by omega)
              ·
               exact absurd (of_decide_eq_true hb1) (by omega)
           ·
            exact absurd (of_decide_eq_true hb1) (by omega)
  ·
   exact gr B0_ok Tryd.func40 (sr' := ⟨0, [vI ((-1 : Int))], []⟩) (cs := [_]) [false] true ⟨hb1, trivial⟩ (by rfl) hsim
 | succ d ih =>
  intro n i en h0 hd L E a w hsim
  have hi : i.toNat < cs.length := by omega
  have ew : IntKind.i64.wrap (i + 1) = i + 1 := wrapP (by omega)
  have hr : fmF L (cs.drop i.toNat) i = if (badC (cs.getD i.toNat noCa) || badL L (cs.getD i.toNat noCa)) = true then i else fmF (cs.getD i.toNat noCa :: L) (cs.drop (IntKind.i64.wrap (i + 1)).toNat) (IntKind.i64.wrap (i + 1)) := by
    rw [getD_drop (d := noCa) hi, ew, show (i + 1).toNat = i.toNat + 1 by omega]; rfl
  have ih := ih n (IntKind.i64.wrap (i + 1)) en (by rw [ew]; omega) (by rw [ew]; omega) (cs.getD i.toNat noCa :: L)
  rw [hr]
  rcases bd (decide (i < n)) with hb1 | hb1
  ·
   rcases bd (decide ((cs.getD i.toNat noCa).cl < (0 : Int))) with hb2 | hb2
   ·
    exact gr B0_ok Tryd.func40 (sr' := ⟨0, [vI i], []⟩) (cs := [_, (0 ≤ i ∧ i < cs.length), _]) [true, true] true ⟨hb1, by omega, hb2, trivial⟩ (by (rw [if_pos (by { clear hsim ih hr; (try dsimp only at *); generalize cs.getD i.toNat noCa = c at *; unfold badC badL; simp_all })]; done)) hsim
   ·
    rcases bd (decide ((cs.getD i.toNat noCa).cl > (7 : Int))) with hb3 | hb3
    ·
     exact gr B0_ok Tryd.func40 (sr' := ⟨0, [vI i], []⟩) (cs := [_, (0 ≤ i ∧ i < cs.length), _, _]) [true, false, true] true ⟨hb1, by omega, hb2, hb3, trivial⟩ (by (rw [if_pos (by { clear hsim ih hr; (try dsimp only at *); generalize cs.getD i.toNat noCa = c at *; unfold badC badL; simp_all })]; done)) hsim
    ·
     rcases bd (decide ((cs.getD i.toNat noCa).n < (1 : Int))) with hb4 | hb4
     ·
      exact gr B0_ok Tryd.func40 (sr' := ⟨0, [vI i], []⟩) (cs := [_, (0 ≤ i ∧ i < cs.length), _, _, _]) [true, false, false, true] true ⟨hb1, by omega, hb2, hb3, hb4, trivial⟩ (by (rw [if_pos (by { clear hsim ih hr; (try dsimp only at *); generalize cs.getD i.toNat noCa = c at *; unfold badC badL; simp_all })]; done)) hsim
     ·
      rcases bd (decide ((cs.getD i.toNat noCa).n > (1099511627776 : Int))) with hb5 | hb5
      ·
       exact gr B0_ok Tryd.func40 (sr' := ⟨0, [vI i], []⟩) (cs := [_, (0 ≤ i ∧ i < cs.length), _, _, _, _]) [true, false, false, false, true] true ⟨hb1, by omega, hb2, hb3, hb4, hb5, trivial⟩ (by (rw [if_pos (by { clear hsim ih hr; (try dsimp only at *); generalize cs.getD i.toNat noCa = c at *; unfold badC badL; simp_all })]; done)) hsim
      ·
       rcases bd (checkM (cs.getD i.toNat noCa).o.fst (cs.getD i.toNat noCa).o.snd.fst (cs.getD i.toNat noCa).o.snd.snd.fst (cs.getD i.toNat noCa).o.snd.snd.snd != (0 : Int)) with hb6 | hb6
       ·
        exact gr B0_ok Tryd.func40 (sr' := ⟨0, [vI i], []⟩) (cs := [_, (0 ≤ i ∧ i < cs.length), _, _, _, _, _]) ([true] ++ (List.replicate 4 false) ++ [true]) true ⟨hb1, by omega, hb2, hb3, hb4, hb5, hb6, trivial⟩ (by (rw [if_pos (by { clear hsim ih hr; (try dsimp only at *); generalize cs.getD i.toNat noCa = c at *; unfold badC badL; simp_all })]; done)) hsim
       ·
        rcases bd (decide ((cs.getD i.toNat noCa).fr < (0 : Int))) with hb7 | hb7
        ·
         exact gr B0_ok Tryd.func40 (sr' := ⟨0, [vI i], []⟩) (cs := [_, (0 ≤ i ∧ i < cs.length), _, _, _, _, _, _]) ([true] ++ (List.replicate 5 false) ++ [true]) true ⟨hb1, by omega, hb2, hb3, hb4, hb5, hb6, hb7, trivial⟩ (by (rw [if_pos (by { clear hsim ih hr; (try dsimp only at *); generalize cs.getD i.toNat noCa = c at *; unfold badC badL; simp_all })]; done)) hsim
        ·
         rcases bd ((cs.getD i.toNat noCa).to != (-1 : Int)) with hb8 | hb8
         ·
          rcases bd (decide ((cs.getD i.toNat noCa).to < (cs.getD i.toNat noCa).fr)) with hb9 | hb9
          ·
           exact gr B0_ok Tryd.func40 (sr' := ⟨0, [vI i], []⟩) (cs := [_, (0 ≤ i ∧ i < cs.length), _, _, _, _, _, _, _, _]) ([true] ++ (List.replicate 6 false) ++ [true, true]) true ⟨hb1, by omega, hb2, hb3, hb4, hb5, hb6, hb7, hb8, hb9, trivial⟩ (by (rw [if_pos (by { clear hsim ih hr; (try dsimp only at *); generalize cs.getD i.toNat noCa = c at *; unfold badC badL; simp_all })]; done)) hsim
          ·
           rcases bd ((cs.getD i.toNat noCa).to == (-1 : Int)) with hb10 | hb10
           ·
            rcases bd (!eqcs [Value.int IntKind.i64 (cs.getD i.toNat noCa).a.fst, Value.string (cs.getD i.toNat noCa).a.snd] [Value.int IntKind.i64 (0 : Int), Value.string (ByteArray.mk #[])]) with hb11 | hb11
            ·
             exact gr B0_ok Tryd.func40 (sr' := ⟨0, [vI i], []⟩) (cs := [_, (0 ≤ i ∧ i < cs.length), _, _, _, _, _, _, _, _, _, _]) ([true] ++ (List.replicate 6 false) ++ [true, false, true, true]) true ⟨hb1, by omega, hb2, hb3, hb4, hb5, hb6, hb7, hb8, hb9, hb10, hb11, trivial⟩ (by (rw [if_pos (by { clear hsim ih hr; (try dsimp only at *); generalize cs.getD i.toNat noCa = c at *; unfold badC badL; simp_all })]; done)) hsim
            ·
             rcases bd ((MapD.mk (3 : Nat) (fun d => hasC L d) (fun d => caD (getC L d)) (lenC L)).has (D.raw (Value.int IntKind.i64 (cs.getD i.toNat noCa).cl))) with hb12 | hb12
             ·
              rcases bd (decide ((getC L (D.raw (Value.int IntKind.i64 (cs.getD i.toNat noCa).cl))).n ≥ (cs.getD i.toNat noCa).n)) with hb13 | hb13
              ·
               exact gr B0_ok Tryd.func40 (sr' := ⟨0, [vI i], []⟩) (cs := [_, (0 ≤ i ∧ i < cs.length), _, _, _, _, _, _, _, _, _, _, _, _]) ([true] ++ (List.replicate 6 false) ++ [true, false, true, false, true, true]) true ⟨hb1, by omega, hb2, hb3, hb4, hb5, hb6, hb7, hb8, hb9, hb10, hb11, hb12, hb13, trivial⟩ (by (rw [if_pos (by { clear hsim ih hr; (try dsimp only at *); generalize cs.getD i.toNat noCa = c at *; unfold badC badL; simp_all })]; done)) hsim
              ·
               rcases bd ((getC L (D.raw (Value.int IntKind.i64 (cs.getD i.toNat noCa).cl))).to == (-1 : Int)) with hb14 | hb14
               ·
                exact gr B0_ok Tryd.func40 (sr' := ⟨0, [vI i], []⟩) (cs := [_, (0 ≤ i ∧ i < cs.length), _, _, _, _, _, _, _, _, _, _, _, _, _]) ([true] ++ (List.replicate 6 false) ++ [true, false, true, false, true, false, true]) true ⟨hb1, by omega, hb2, hb3, hb4, hb5, hb6, hb7, hb8, hb9, hb10, hb11, hb12, hb13, hb14, trivial⟩ (by (rw [if_pos (by { clear hsim ih hr; (try dsimp only at *); generalize cs.getD i.toNat noCa = c at *; unfold badC badL; simp_all })]; done)) hsim
               ·
                rcases bd (decide ((getC L (D.raw (Value.int IntKind.i64 (cs.getD i.toNat noCa).cl))).to > (cs.getD i.toNat noCa).fr)) with hb15 | hb15
                ·
                 exact gr B0_ok Tryd.func40 (sr' := ⟨0, [vI i], []⟩) (cs := [_, (0 ≤ i ∧ i < cs.length), _, _, _, _, _, _, _, _, _, _, _, _, _, _]) ([true] ++ (List.replicate 6 false) ++ [true, false, true, false, true, false, false, true]) true ⟨hb1, by omega, hb2, hb3, hb4, hb5, hb6, hb7, hb8, hb9, hb10, hb11, hb12, hb13, hb14, hb15, trivial⟩ (by (rw [if_pos (by { clear hsim ih hr; (try dsimp only at *); generalize cs.getD i.toNat noCa = c at *; unfold badC badL; simp_all })]; done)) hsim
                ·
                 refine gh B0_ok (k' := loopAt Tryd.f40 0) (s' := let za := cs.getD i.toNat noCa; mk 0 102 [(3, .mp 0), (9, .d (.list 10 cs.length (caEl cs))), (10, vI n), (11, vI (wI (i + 1)))] [(0, .mp ⟨3, fun x => keyEq x (rI za.cl) || (MapD.mk 3 (fun d => hasC L d) (fun d => caD (getC L d)) (lenC L)).has x, fun x =>   match keyEq x (rI za.cl) with   | true => D.agg [rI za.cl, rI za.n, rI za.o.fst, rS za.o.snd.fst, rS za.o.snd.snd.fst, rS za.o.snd.snd.snd, rI za.fr, rI za.to, rI za.a.fst, rS za.a.snd]   | false => (MapD.mk 3 (fun d => hasC L d) (fun d => caD (getC L d)) (lenC L)).val x, (match (MapD.mk 3 (fun d => hasC L d) (fun d => caD (getC L d)) (lenC L)).has (rI za.cl) with | true => (MapD.mk 3 (fun d => hasC L d) (fun d => caD (getC L d)) (lenC L)).n | false => (MapD.mk 3 (fun d => hasC L d) (fun d => caD (getC L d)) (lenC L)).n + 1)⟩)]) (cs := [_, (0 ≤ i ∧ i < cs.length), _, _, _, _, _, _, _, _, _, _, _, _, _, _]) ([true] ++ (List.replicate 6 false) ++ [true, false, true, false, true, false, false, false]) [3,9,10,11] ⟨hb1, by omega, hb2, hb3, hb4, hb5, hb6, hb7, hb8, hb9, hb10, hb11, hb12, hb13, hb14, hb15, trivial⟩ hsim fun E a w hsim => ?_
                 have e1 : (badC (cs.getD i.toNat noCa) || badL L (cs.getD i.toNat noCa)) = false := by { clear hsim ih hr; (try dsimp only at *); generalize cs.getD i.toNat noCa = c at *; unfold badC badL; simp_all }
                 rw [if_neg (by rw [e1]; decide)]
                 have h2 : Sim _ E (fm1M ((lastMp L).put (.raw (.int .i64 (cs.getD i.toNat noCa).cl)) (caD (cs.getD i.toNat noCa))) cs n (IntKind.i64.wrap (i + 1))) a w := hsim
                 rw [lastMp_put] at h2
                 exact ih E a w h2
             ·
              refine gh B0_ok (k' := loopAt Tryd.f40 0) (s' := let za := cs.getD i.toNat noCa; mk 0 102 [(3, .mp 0), (9, .d (.list 10 cs.length (caEl cs))), (10, vI n), (11, vI (wI (i + 1)))] [(0, .mp ⟨3, fun x => keyEq x (rI za.cl) || (MapD.mk 3 (fun d => hasC L d) (fun d => caD (getC L d)) (lenC L)).has x, fun x =>   match keyEq x (rI za.cl) with   | true => D.agg [rI za.cl, rI za.n, rI za.o.fst, rS za.o.snd.fst, rS za.o.snd.snd.fst, rS za.o.snd.snd.snd, rI za.fr, rI za.to, rI za.a.fst, rS za.a.snd]   | false => (MapD.mk 3 (fun d => hasC L d) (fun d => caD (getC L d)) (lenC L)).val x, (match (MapD.mk 3 (fun d => hasC L d) (fun d => caD (getC L d)) (lenC L)).has (rI za.cl) with | true => (MapD.mk 3 (fun d => hasC L d) (fun d => caD (getC L d)) (lenC L)).n | false => (MapD.mk 3 (fun d => hasC L d) (fun d => caD (getC L d)) (lenC L)).n + 1)⟩)]) (cs := [_, (0 ≤ i ∧ i < cs.length), _, _, _, _, _, _, _, _, _, _, _]) ([true] ++ (List.replicate 6 false) ++ [true, false, true, false, false]) [3,9,10,11] ⟨hb1, by omega, hb2, hb3, hb4, hb5, hb6, hb7, hb8, hb9, hb10, hb11, hb12, trivial⟩ hsim fun E a w hsim => ?_
              have e1 : (badC (cs.getD i.toNat noCa) || badL L (cs.getD i.toNat noCa)) = false := by { clear hsim ih hr; (try dsimp only at *); generalize cs.getD i.toNat noCa = c at *; unfold badC badL; simp_all }
              rw [if_neg (by rw [e1]; decide)]
              have h2 : Sim _ E (fm1M ((lastMp L).put (.raw (.int .i64 (cs.getD i.toNat noCa).cl)) (caD (cs.getD i.toNat noCa))) cs n (IntKind.i64.wrap (i + 1))) a w := hsim
              rw [lastMp_put] at h2
              exact ih E a w h2
           ·
            rcases bd ((MapD.mk (3 : Nat) (fun d => hasC L d) (fun d => caD (getC L d)) (lenC L)).has (D.raw (Value.int IntKind.i64 (cs.getD i.toNat noCa).cl))) with hb16 | hb16
            ·
             rcases bd (decide ((getC L (D.raw (Value.int IntKind.i64 (cs.getD i.toNat noCa).cl))).n ≥ (cs.getD i.toNat noCa).n)) with hb17 | hb17
             ·
              exact gr B0_ok Tryd.func40 (sr' := ⟨0, [vI i], []⟩) (cs := [_, (0 ≤ i ∧ i < cs.length), _, _, _, _, _, _, _, _, _, _, _]) ([true] ++ (List.replicate 6 false) ++ [true, false, false, true, true]) true ⟨hb1, by omega, hb2, hb3, hb4, hb5, hb6, hb7, hb8, hb9, hb10, hb16, hb17, trivial⟩ (by (rw [if_pos (by { clear hsim ih hr; (try dsimp only at *); generalize cs.getD i.toNat noCa = c at *; unfold badC badL; simp_all })]; done)) hsim
             ·
              rcases bd ((getC L (D.raw (Value.int IntKind.i64 (cs.getD i.toNat noCa).cl))).to == (-1 : Int)) with hb18 | hb18
              ·
               exact gr B0_ok Tryd.func40 (sr' := ⟨0, [vI i], []⟩) (cs := [_, (0 ≤ i ∧ i < cs.length), _, _, _, _, _, _, _, _, _, _, _, _]) ([true] ++ (List.replicate 6 false) ++ [true, false, false, true, false, true]) true ⟨hb1, by omega, hb2, hb3, hb4, hb5, hb6, hb7, hb8, hb9, hb10, hb16, hb17, hb18, trivial⟩ (by (rw [if_pos (by { clear hsim ih hr; (try dsimp only at *); generalize cs.getD i.toNat noCa = c at *; unfold badC badL; simp_all })]; done)) hsim
              ·
               rcases bd (decide ((getC L (D.raw (Value.int IntKind.i64 (cs.getD i.toNat noCa).cl))).to > (cs.getD i.toNat noCa).fr)) with hb19 | hb19
               ·
                exact gr B0_ok Tryd.func40 (sr' := ⟨0, [vI i], []⟩) (cs := [_, (0 ≤ i ∧ i < cs.length), _, _, _, _, _, _, _, _, _, _, _, _, _]) ([true] ++ (List.replicate 6 false) ++ [true, false, false, true, false, false, true]) true ⟨hb1, by omega, hb2, hb3, hb4, hb5, hb6, hb7, hb8, hb9, hb10, hb16, hb17, hb18, hb19, trivial⟩ (by (rw [if_pos (by { clear hsim ih hr; (try dsimp only at *); generalize cs.getD i.toNat noCa = c at *; unfold badC badL; simp_all })]; done)) hsim
               ·
                refine gh B0_ok (k' := loopAt Tryd.f40 0) (s' := let za := cs.getD i.toNat noCa; mk 0 102 [(3, .mp 0), (9, .d (.list 10 cs.length (caEl cs))), (10, vI n), (11, vI (wI (i + 1)))] [(0, .mp ⟨3, fun x => keyEq x (rI za.cl) || (MapD.mk 3 (fun d => hasC L d) (fun d => caD (getC L d)) (lenC L)).has x, fun x =>   match keyEq x (rI za.cl) with   | true => D.agg [rI za.cl, rI za.n, rI za.o.fst, rS za.o.snd.fst, rS za.o.snd.snd.fst, rS za.o.snd.snd.snd, rI za.fr, rI za.to, rI za.a.fst, rS za.a.snd]   | false => (MapD.mk 3 (fun d => hasC L d) (fun d => caD (getC L d)) (lenC L)).val x, (match (MapD.mk 3 (fun d => hasC L d) (fun d => caD (getC L d)) (lenC L)).has (rI za.cl) with | true => (MapD.mk 3 (fun d => hasC L d) (fun d => caD (getC L d)) (lenC L)).n | false => (MapD.mk 3 (fun d => hasC L d) (fun d => caD (getC L d)) (lenC L)).n + 1)⟩)]) (cs := [_, (0 ≤ i ∧ i < cs.length), _, _, _, _, _, _, _, _, _, _, _, _, _]) ([true] ++ (List.replicate 6 false) ++ [true, false, false, true, false, false, false]) [3,9,10,11] ⟨hb1, by omega, hb2, hb3, hb4, hb5, hb6, hb7, hb8, hb9, hb10, hb16, hb17, hb18, hb19, trivial⟩ hsim fun E a w hsim => ?_
                have e1 : (badC (cs.getD i.toNat noCa) || badL L (cs.getD i.toNat noCa)) = false := by { clear hsim ih hr; (try dsimp only at *); generalize cs.getD i.toNat noCa = c at *; unfold badC badL; simp_all }
                rw [if_neg (by rw [e1]; decide)]
                have h2 : Sim _ E (fm1M ((lastMp L).put (.raw (.int .i64 (cs.getD i.toNat noCa).cl)) (caD (cs.getD i.toNat noCa))) cs n (IntKind.i64.wrap (i + 1))) a w := hsim
                rw [lastMp_put] at h2
                exact ih E a w h2
            ·
             refine gh B0_ok (k' := loopAt Tryd.f40 0) (s' := let za := cs.getD i.toNat noCa; mk 0 102 [(3, .mp 0), (9, .d (.list 10 cs.length (caEl cs))), (10, vI n), (11, vI (wI (i + 1)))] [(0, .mp ⟨3, fun x => keyEq x (rI za.cl) || (MapD.mk 3 (fun d => hasC L d) (fun d => caD (getC L d)) (lenC L)).has x, fun x =>   match keyEq x (rI za.cl) with   | true => D.agg [rI za.cl, rI za.n, rI za.o.fst, rS za.o.snd.fst, rS za.o.snd.snd.fst, rS za.o.snd.snd.snd, rI za.fr, rI za.to, rI za.a.fst, rS za.a.snd]   | false => (MapD.mk 3 (fun d => hasC L d) (fun d => caD (getC L d)) (lenC L)).val x, (match (MapD.mk 3 (fun d => hasC L d) (fun d => caD (getC L d)) (lenC L)).has (rI za.cl) with | true => (MapD.mk 3 (fun d => hasC L d) (fun d => caD (getC L d)) (lenC L)).n | false => (MapD.mk 3 (fun d => hasC L d) (fun d => caD (getC L d)) (lenC L)).n + 1)⟩)]) (cs := [_, (0 ≤ i ∧ i < cs.length), _, _, _, _, _, _, _, _, _, _]) ([true] ++ (List.replicate 6 false) ++ [true, false, false, false]) [3,9,10,11] ⟨hb1, by omega, hb2, hb3, hb4, hb5, hb6, hb7, hb8, hb9, hb10, hb16, trivial⟩ hsim fun E a w hsim => ?_
             have e1 : (badC (cs.getD i.toNat noCa) || badL L (cs.getD i.toNat noCa)) = false := by { clear hsim ih hr; (try dsimp only at *); generalize cs.getD i.toNat noCa = c at *; unfold badC badL; simp_all }
             rw [if_neg (by rw [e1]; decide)]
             have h2 : Sim _ E (fm1M ((lastMp L).put (.raw (.int .i64 (cs.getD i.toNat noCa).cl)) (caD (cs.getD i.toNat noCa))) cs n (IntKind.i64.wrap (i + 1))) a w := hsim
             rw [lastMp_put] at h2
             exact ih E a w h2
         ·
          rcases bd ((cs.getD i.toNat noCa).to == (-1 : Int)) with hb20 | hb20
          ·
           rcases bd (!eqcs [Value.int IntKind.i64 (cs.getD i.toNat noCa).a.fst, Value.string (cs.getD i.toNat noCa).a.snd] [Value.int IntKind.i64 (0 : Int), Value.string (ByteArray.mk #[])]) with hb21 | hb21
           ·
            exact gr B0_ok Tryd.func40 (sr' := ⟨0, [vI i], []⟩) (cs := [_, (0 ≤ i ∧ i < cs.length), _, _, _, _, _, _, _, _, _]) ([true] ++ (List.replicate 7 false) ++ [true, true]) true ⟨hb1, by omega, hb2, hb3, hb4, hb5, hb6, hb7, hb8, hb20, hb21, trivial⟩ (by (rw [if_pos (by { clear hsim ih hr; (try dsimp only at *); generalize cs.getD i.toNat noCa = c at *; unfold badC badL; simp_all })]; done)) hsim
           ·
            rcases bd ((MapD.mk (3 : Nat) (fun d => hasC L d) (fun d => caD (getC L d)) (lenC L)).has (D.raw (Value.int IntKind.i64 (cs.getD i.toNat noCa).cl))) with hb22 | hb22
            ·
             rcases bd (decide ((getC L (D.raw (Value.int IntKind.i64 (cs.getD i.toNat noCa).cl))).n ≥ (cs.getD i.toNat noCa).n)) with hb23 | hb23
             ·
              exact gr B0_ok Tryd.func40 (sr' := ⟨0, [vI i], []⟩) (cs := [_, (0 ≤ i ∧ i < cs.length), _, _, _, _, _, _, _, _, _, _, _]) ([true] ++ (List.replicate 7 false) ++ [true, false, true, true]) true ⟨hb1, by omega, hb2, hb3, hb4, hb5, hb6, hb7, hb8, hb20, hb21, hb22, hb23, trivial⟩ (by (rw [if_pos (by { clear hsim ih hr; (try dsimp only at *); generalize cs.getD i.toNat noCa = c at *; unfold badC badL; simp_all })]; done)) hsim
             ·
              rcases bd ((getC L (D.raw (Value.int IntKind.i64 (cs.getD i.toNat noCa).cl))).to == (-1 : Int)) with hb24 | hb24
              ·
               exact gr B0_ok Tryd.func40 (sr' := ⟨0, [vI i], []⟩) (cs := [_, (0 ≤ i ∧ i < cs.length), _, _, _, _, _, _, _, _, _, _, _, _]) ([true] ++ (List.replicate 7 false) ++ [true, false, true, false, true]) true ⟨hb1, by omega, hb2, hb3, hb4, hb5, hb6, hb7, hb8, hb20, hb21, hb22, hb23, hb24, trivial⟩ (by (rw [if_pos (by { clear hsim ih hr; (try dsimp only at *); generalize cs.getD i.toNat noCa = c at *; unfold badC badL; simp_all })]; done)) hsim
              ·
               rcases bd (decide ((getC L (D.raw (Value.int IntKind.i64 (cs.getD i.toNat noCa).cl))).to > (cs.getD i.toNat noCa).fr)) with hb25 | hb25
               ·
                exact gr B0_ok Tryd.func40 (sr' := ⟨0, [vI i], []⟩) (cs := [_, (0 ≤ i ∧ i < cs.length), _, _, _, _, _, _, _, _, _, _, _, _, _]) ([true] ++ (List.replicate 7 false) ++ [true, false, true, false, false, true]) true ⟨hb1, by omega, hb2, hb3, hb4, hb5, hb6, hb7, hb8, hb20, hb21, hb22, hb23, hb24, hb25, trivial⟩ (by (rw [if_pos (by { clear hsim ih hr; (try dsimp only at *); generalize cs.getD i.toNat noCa = c at *; unfold badC badL; simp_all })]; done)) hsim
               ·
                refine gh B0_ok (k' := loopAt Tryd.f40 0) (s' := let za := cs.getD i.toNat noCa; mk 0 102 [(3, .mp 0), (9, .d (.list 10 cs.length (caEl cs))), (10, vI n), (11, vI (wI (i + 1)))] [(0, .mp ⟨3, fun x => keyEq x (rI za.cl) || (MapD.mk 3 (fun d => hasC L d) (fun d => caD (getC L d)) (lenC L)).has x, fun x =>   match keyEq x (rI za.cl) with   | true => D.agg [rI za.cl, rI za.n, rI za.o.fst, rS za.o.snd.fst, rS za.o.snd.snd.fst, rS za.o.snd.snd.snd, rI za.fr, rI za.to, rI za.a.fst, rS za.a.snd]   | false => (MapD.mk 3 (fun d => hasC L d) (fun d => caD (getC L d)) (lenC L)).val x, (match (MapD.mk 3 (fun d => hasC L d) (fun d => caD (getC L d)) (lenC L)).has (rI za.cl) with | true => (MapD.mk 3 (fun d => hasC L d) (fun d => caD (getC L d)) (lenC L)).n | false => (MapD.mk 3 (fun d => hasC L d) (fun d => caD (getC L d)) (lenC L)).n + 1)⟩)]) (cs := [_, (0 ≤ i ∧ i < cs.length), _, _, _, _, _, _, _, _, _, _, _, _, _]) ([true] ++ (List.replicate 7 false) ++ [true, false, true, false, false, false]) [3,9,10,11] ⟨hb1, by omega, hb2, hb3, hb4, hb5, hb6, hb7, hb8, hb20, hb21, hb22, hb23, hb24, hb25, trivial⟩ hsim fun E a w hsim => ?_
                have e1 : (badC (cs.getD i.toNat noCa) || badL L (cs.getD i.toNat noCa)) = false := by { clear hsim ih hr; (try dsimp only at *); generalize cs.getD i.toNat noCa = c at *; unfold badC badL; simp_all }
                rw [if_neg (by rw [e1]; decide)]
                have h2 : Sim _ E (fm1M ((lastMp L).put (.raw (.int .i64 (cs.getD i.toNat noCa).cl)) (caD (cs.getD i.toNat noCa))) cs n (IntKind.i64.wrap (i + 1))) a w := hsim
                rw [lastMp_put] at h2
                exact ih E a w h2
            ·
             refine gh B0_ok (k' := loopAt Tryd.f40 0) (s' := let za := cs.getD i.toNat noCa; mk 0 102 [(3, .mp 0), (9, .d (.list 10 cs.length (caEl cs))), (10, vI n), (11, vI (wI (i + 1)))] [(0, .mp ⟨3, fun x => keyEq x (rI za.cl) || (MapD.mk 3 (fun d => hasC L d) (fun d => caD (getC L d)) (lenC L)).has x, fun x =>   match keyEq x (rI za.cl) with   | true => D.agg [rI za.cl, rI za.n, rI za.o.fst, rS za.o.snd.fst, rS za.o.snd.snd.fst, rS za.o.snd.snd.snd, rI za.fr, rI za.to, rI za.a.fst, rS za.a.snd]   | false => (MapD.mk 3 (fun d => hasC L d) (fun d => caD (getC L d)) (lenC L)).val x, (match (MapD.mk 3 (fun d => hasC L d) (fun d => caD (getC L d)) (lenC L)).has (rI za.cl) with | true => (MapD.mk 3 (fun d => hasC L d) (fun d => caD (getC L d)) (lenC L)).n | false => (MapD.mk 3 (fun d => hasC L d) (fun d => caD (getC L d)) (lenC L)).n + 1)⟩)]) (cs := [_, (0 ≤ i ∧ i < cs.length), _, _, _, _, _, _, _, _, _, _]) ([true] ++ (List.replicate 7 false) ++ [true, false, false]) [3,9,10,11] ⟨hb1, by omega, hb2, hb3, hb4, hb5, hb6, hb7, hb8, hb20, hb21, hb22, trivial⟩ hsim fun E a w hsim => ?_
             have e1 : (badC (cs.getD i.toNat noCa) || badL L (cs.getD i.toNat noCa)) = false := by { clear hsim ih hr; (try dsimp only at *); generalize cs.getD i.toNat noCa = c at *; unfold badC badL; simp_all }
             rw [if_neg (by rw [e1]; decide)]
             have h2 : Sim _ E (fm1M ((lastMp L).put (.raw (.int .i64 (cs.getD i.toNat noCa).cl)) (caD (cs.getD i.toNat noCa))) cs n (IntKind.i64.wrap (i + 1))) a w := hsim
             rw [lastMp_put] at h2
             exact ih E a w h2
          ·
           rcases bd ((MapD.mk (3 : Nat) (fun d => hasC L d) (fun d => caD (getC L d)) (lenC L)).has (D.raw (Value.int IntKind.i64 (cs.getD i.toNat noCa).cl))) with hb26 | hb26
           ·
            rcases bd (decide ((getC L (D.raw (Value.int IntKind.i64 (cs.getD i.toNat noCa).cl))).n ≥ (cs.getD i.toNat noCa).n)) with hb27 | hb27
            ·
             exact gr B0_ok Tryd.func40 (sr' := ⟨0, [vI i], []⟩) (cs := [_, (0 ≤ i ∧ i < cs.length), _, _, _, _, _, _, _, _, _, _]) ([true] ++ (List.replicate 8 false) ++ [true, true]) true ⟨hb1, by omega, hb2, hb3, hb4, hb5, hb6, hb7, hb8, hb20, hb26, hb27, trivial⟩ (by (rw [if_pos (by { clear hsim ih hr; (try dsimp only at *); generalize cs.getD i.toNat noCa = c at *; unfold badC badL; simp_all })]; done)) hsim
            ·
             rcases bd ((getC L (D.raw (Value.int IntKind.i64 (cs.getD i.toNat noCa).cl))).to == (-1 : Int)) with hb28 | hb28
             ·
              exact gr B0_ok Tryd.func40 (sr' := ⟨0, [vI i], []⟩) (cs := [_, (0 ≤ i ∧ i < cs.length), _, _, _, _, _, _, _, _, _, _, _]) ([true] ++ (List.replicate 8 false) ++ [true, false, true]) true ⟨hb1, by omega, hb2, hb3, hb4, hb5, hb6, hb7, hb8, hb20, hb26, hb27, hb28, trivial⟩ (by (rw [if_pos (by { clear hsim ih hr; (try dsimp only at *); generalize cs.getD i.toNat noCa = c at *; unfold badC badL; simp_all })]; done)) hsim
             ·
              rcases bd (decide ((getC L (D.raw (Value.int IntKind.i64 (cs.getD i.toNat noCa).cl))).to > (cs.getD i.toNat noCa).fr)) with hb29 | hb29
              ·
               exact gr B0_ok Tryd.func40 (sr' := ⟨0, [vI i], []⟩) (cs := [_, (0 ≤ i ∧ i < cs.length), _, _, _, _, _, _, _, _, _, _, _, _]) ([true] ++ (List.replicate 8 false) ++ [true, false, false, true]) true ⟨hb1, by omega, hb2, hb3, hb4, hb5, hb6, hb7, hb8, hb20, hb26, hb27, hb28, hb29, trivial⟩ (by (rw [if_pos (by { clear hsim ih hr; (try dsimp only at *); generalize cs.getD i.toNat noCa = c at *; unfold badC badL; simp_all })]; done)) hsim
              ·
               refine gh B0_ok (k' := loopAt Tryd.f40 0) (s' := let za := cs.getD i.toNat noCa; mk 0 102 [(3, .mp 0), (9, .d (.list 10 cs.length (caEl cs))), (10, vI n), (11, vI (wI (i + 1)))] [(0, .mp ⟨3, fun x => keyEq x (rI za.cl) || (MapD.mk 3 (fun d => hasC L d) (fun d => caD (getC L d)) (lenC L)).has x, fun x =>   match keyEq x (rI za.cl) with   | true => D.agg [rI za.cl, rI za.n, rI za.o.fst, rS za.o.snd.fst, rS za.o.snd.snd.fst, rS za.o.snd.snd.snd, rI za.fr, rI za.to, rI za.a.fst, rS za.a.snd]   | false => (MapD.mk 3 (fun d => hasC L d) (fun d => caD (getC L d)) (lenC L)).val x, (match (MapD.mk 3 (fun d => hasC L d) (fun d => caD (getC L d)) (lenC L)).has (rI za.cl) with | true => (MapD.mk 3 (fun d => hasC L d) (fun d => caD (getC L d)) (lenC L)).n | false => (MapD.mk 3 (fun d => hasC L d) (fun d => caD (getC L d)) (lenC L)).n + 1)⟩)]) (cs := [_, (0 ≤ i ∧ i < cs.length), _, _, _, _, _, _, _, _, _, _, _, _]) ([true] ++ (List.replicate 8 false) ++ [true, false, false, false]) [3,9,10,11] ⟨hb1, by omega, hb2, hb3, hb4, hb5, hb6, hb7, hb8, hb20, hb26, hb27, hb28, hb29, trivial⟩ hsim fun E a w hsim => ?_
               have e1 : (badC (cs.getD i.toNat noCa) || badL L (cs.getD i.toNat noCa)) = false := by { clear hsim ih hr; (try dsimp only at *); generalize cs.getD i.toNat noCa = c at *; unfold badC badL; simp_all }
               rw [if_neg (by rw [e1]; decide)]
               have h2 : Sim _ E (fm1M ((lastMp L).put (.raw (.int .i64 (cs.getD i.toNat noCa).cl)) (caD (cs.getD i.toNat noCa))) cs n (IntKind.i64.wrap (i + 1))) a w := hsim
               rw [lastMp_put] at h2
               exact ih E a w h2
           ·
            refine gh B0_ok (k' := loopAt Tryd.f40 0) (s' := let za := cs.getD i.toNat noCa; mk 0 102 [(3, .mp 0), (9, .d (.list 10 cs.length (caEl cs))), (10, vI n), (11, vI (wI (i + 1)))] [(0, .mp ⟨3, fun x => keyEq x (rI za.cl) || (MapD.mk 3 (fun d => hasC L d) (fun d => caD (getC L d)) (lenC L)).has x, fun x =>   match keyEq x (rI za.cl) with   | true => D.agg [rI za.cl, rI za.n, rI za.o.fst, rS za.o.snd.fst, rS za.o.snd.snd.fst, rS za.o.snd.snd.snd, rI za.fr, rI za.to, rI za.a.fst, rS za.a.snd]   | false => (MapD.mk 3 (fun d => hasC L d) (fun d => caD (getC L d)) (lenC L)).val x, (match (MapD.mk 3 (fun d => hasC L d) (fun d => caD (getC L d)) (lenC L)).has (rI za.cl) with | true => (MapD.mk 3 (fun d => hasC L d) (fun d => caD (getC L d)) (lenC L)).n | false => (MapD.mk 3 (fun d => hasC L d) (fun d => caD (getC L d)) (lenC L)).n + 1)⟩)]) (cs := [_, (0 ≤ i ∧ i < cs.length), _, _, _, _, _, _, _, _, _]) ([true] ++ (List.replicate 9 false)) [3,9,10,11] ⟨hb1, by omega, hb2, hb3, hb4, hb5, hb6, hb7, hb8, hb20, hb26, trivial⟩ hsim fun E a w hsim => ?_
            have e1 : (badC (cs.getD i.toNat noCa) || badL L (cs.getD i.toNat noCa)) = false := by { clear hsim ih hr; (try dsimp only at *); generalize cs.getD i.toNat noCa = c at *; unfold badC badL; simp_all }
            rw [if_neg (by rw [e1]; decide)]
            have h2 : Sim _ E (fm1M ((lastMp L).put (.raw (.int .i64 (cs.getD i.toNat noCa).cl)) (caD (cs.getD i.toNat noCa))) cs n (IntKind.i64.wrap (i + 1))) a w := hsim
            rw [lastMp_put] at h2
            exact ih E a w h2
  ·
   exact absurd (of_decide_eq_false hb1) (by omega)
theorem formed_ok (cs : List Ca) (hl : cs.length ≤ 1099511627776) : Eng.Spec Tryd.prog (fun _ => none) 40 [.d (.list 10 cs.length (caEl cs))] [] (.d (.raw (.int .i64 (fmF [] cs 0)))) [] := by
 refine spec_fn Tryd.func40 rfl fun {w N E act} hsim => ?_
 refine gh B0_ok (k' := loopAt Tryd.f40 0) (s' := mk 0 102 [(3, .mp 0), (9, .d (.list 10 cs.length (caEl cs))), (10, vI (↑cs.length : Int)), (11, vI 0)] [(0, .mp ⟨3, fun x => false, fun x => default, 0⟩)]) (cs := []) [] [3,9,10,11] trivial hsim fun E a w hsim => ?_
 obtain ⟨E2, h1⟩ := hsim.mapEq (k := 0) rfl (lastMp []) rfl rfl (fun _ => rfl) (fun _ h => by cases h)
 exact fm_go cs hl cs.length (cs.length : Int) 0 rfl (by omega) (by omega) [] E2 a w h1
end Go.Prf
