/-
  Contracts of given functions, plain laws. No condition.
-/
import Derived.Test.YtbppcjkpkelbfaaDoorPrfB
import Derived.Test.YtbppcjkpkelbfaaDoorMapE
namespace Go.Prf
open Go Go.Eng Go.Proofs Go.RowKit Go.Tab Go.Plc
set_option maxRecDepth 100000
set_option maxHeartbeats 4000000
theorem mNmC_ok : MoOK Tryd.prog gz0 41 mNmC := fun args H ret H' cs h hc => by
 unfold mNmC at h
 split at h
 ·
  rename_i c n k key val old fr to er v
  cases h
  exact nameC_ok ⟨c, n, (k, key, val, old), fr, to, (er, v)⟩
 · cases h
theorem mNmP_ok : MoOK Tryd.prog gz0 55 mNmP := fun args H ret H' cs h hc => by
 unfold mNmP at h
 split at h
 ·
  rename_i m c n er v
  cases h
  exact nameP_ok ⟨m, c, n, (er, v)⟩
 · cases h
theorem B1_ok : OrcOK Tryd.prog B1 := ((OrcOK.none _).add _ false _ mNmC_ok).add _ false _ mNmP_ok
theorem B2_ok (T T' : T4) (e : Int) (v : ByteArray) : OrcOK Tryd.prog (B2 T T' e v) := (A2_ok T T' e v).add _ false mNmP fun args H r H' cs h hc => Spec.glAny (mNmP_ok args H r H' cs h hc)
theorem seenMp_put (S : List Pt) (p : Pt) : (seenMp S).put (nmD p.cl p.n) (.raw (.bool true)) = seenMp (p :: S) := by
 unfold seenMp MapD.put
 congr 1
 funext x
 cases keyEq x (nmD p.cl p.n) <;> rfl
theorem knowMp_put (L : List Ca) (c : Ca) : (knowMp L).put (nmD c.cl c.n) (caD c) = knowMp (c :: L) := by
 unfold knowMp MapD.put
 congr 1
 funext x
 have : getN (c :: L) x = match keyEq x (nmD c.cl c.n) with | true => c | false => getN L x := by
  unfold getN; rw [List.find?_cons]; cases keyEq x (nmD c.cl c.n) <;> rfl
 simp only [this]
 cases keyEq x (nmD c.cl c.n) <;> rfl
def ordB (L : List Ca) (S : List Pt) (now : Int) (p : Pt) : Bool := decide (p.at' < now) || !hasN L (nmD p.cl p.n) || hasS S (nmD p.cl p.n) || decide (p.at' < (getN L (nmD p.cl p.n)).fr) || ((getN L (nmD p.cl p.n)).to != -1 && decide (p.at' > (getN L (nmD p.cl p.n)).to))
def orF (L : List Ca) : List Pt → Int → List Pt → Int → Int
 | _, _, [], _ => -1
 | S, now, p :: r, i => if ordB L S now p = true then i else orF L (p :: S) p.at' r (i + 1)
abbrev GoO (w0 : World) (N : Nat → Prop) (E0 : Env) (L : List Ca) (s : St) (r : Int) : Prop := GoG Tryd.prog gz0 42 (loopAt Tryd.f42 0) [(0, .mp (knowMp L))] ⟨1, [.d (.raw (.int .i64 r))], [(0, .mp (knowMp L))]⟩ w0 N E0 s
theorem or_go {w0 : World} {N : Nat → Prop} {E0 : Env} (L : List Ca) (ps : List Pt) (hl : ps.length ≤ 1099511627776) : ∀ (d : Nat) (n i : Int), n = (ps.length : Int) → 0 ≤ i → i + d = n → ∀ (S : List Pt) (now : Int), GoO w0 N E0 L (or1 L ps S now n i) (orF L S now (ps.drop i.toNat) i) := by
 intro d
 induction d with
 | zero =>
  intro n i en h0 hd S now E a w hsim
  have hr : orF L S now (ps.drop i.toNat) i = -1 := by rw [List.drop_eq_nil_of_le (by omega)]; rfl
  rw [hr]
  rcases bd (decide (i < n)) with hb1 | hb1
  ·
   rcases bd ((MapD.mk (95 : Nat) (fun d => hasN L d) (fun d => caD (getN L d)) (lenN L)).has (nmD (ps.getD i.toNat noPt).cl (ps.getD i.toNat noPt).n)) with hb2 | hb2
   ·
    rcases bd (decide ((ps.getD i.toNat noPt).at' < now)) with hb3 | hb3
    ·
     exact absurd (of_decide_eq_true hb1) (by omega)
    ·
     rcases bd ((MapD.mk (95 : Nat) (fun d => hasS S d) (fun x => D.raw (Value.bool true)) (lenS S)).has (nmD (ps.getD i.toNat noPt).cl (ps.getD i.toNat noPt).n)) with hb4 | hb4
     ·
      exact absurd (of_decide_eq_true hb1) (by omega)
     ·
      rcases bd (decide ((ps.getD i.toNat noPt).at' < (getN L (nmD (ps.getD i.toNat noPt).cl (ps.getD i.toNat noPt).n)).fr)) with hb5 | hb5
      ·
       exact absurd (of_decide_eq_true hb1) (by omega)
      ·
       rcases bd ((getN L (nmD (ps.getD i.toNat noPt).cl (ps.getD i.toNat noPt).n)).to != (-1 : Int)) with hb6 | hb6
       ·
        rcases bd (decide ((ps.getD i.toNat noPt).at' > (getN L (nmD (ps.getD i.toNat noPt).cl (ps.getD i.toNat noPt).n)).to)) with hb7 | hb7
        ·
         exact absurd (of_decide_eq_true hb1) (by omega)
        ·
         exact absurd (of_decide_eq_true hb1) (by omega)
       ·
        exact absurd (of_decide_eq_true hb1) (by omega)
   ·
    rcases bd (decide ((ps.getD i.toNat noPt).at' < now)) with hb8 | hb8
    ·
     exact absurd (of_decide_eq_true hb1) (by omega)
    ·
     exact absurd (of_decide_eq_true hb1) (by omega)
  ·
   exact gr B1_ok Tryd.func42 (sr' := ⟨1, [vI ((-1 : Int))], [(0, .mp ⟨95, fun d => hasN L d, fun d => caD (getN L d), (lenN L)⟩)]⟩) (cs := [_]) [false] true ⟨hb1, trivial⟩ (by rfl) hsim
 | succ d ih =>
  intro n i en h0 hd S now E a w hsim
  have hi : i.toNat < ps.length := by omega
  have ew : IntKind.i64.wrap (i + 1) = i + 1 := wrapP (by omega)
  have hr : orF L S now (ps.drop i.toNat) i = if ordB L S now (ps.getD i.toNat noPt) = true then i else orF L (ps.getD i.toNat noPt :: S) (ps.getD i.toNat noPt).at' (ps.drop (IntKind.i64.wrap (i + 1)).toNat) (IntKind.i64.wrap (i + 1)) := by
    rw [getD_drop (d := noPt) hi, ew, show (i + 1).toNat = i.toNat + 1 by omega]; rfl
  have ih := ih n (IntKind.i64.wrap (i + 1)) en (by rw [ew]; omega) (by rw [ew]; omega) (ps.getD i.toNat noPt :: S) (ps.getD i.toNat noPt).at'
  rw [hr]
  rcases bd (decide (i < n)) with hb1 | hb1
  ·
   rcases bd ((MapD.mk (95 : Nat) (fun d => hasN L d) (fun d => caD (getN L d)) (lenN L)).has (nmD (ps.getD i.toNat noPt).cl (ps.getD i.toNat noPt).n)) with hb2 | hb2
   ·
    rcases bd (decide ((ps.getD i.toNat noPt).at' < now)) with hb3 | hb3
    ·
     exact gr B1_ok Tryd.func42 (sr' := ⟨1, [vI i], [(0, .mp ⟨95, fun d => hasN L d, fun d => caD (getN L d), (lenN L)⟩)]⟩) (cs := [_, (0 ≤ i ∧ i < ps.length), _, _]) [true, true, true] true ⟨hb1, by omega, hb2, hb3, trivial⟩ (by (rw [if_pos (by { clear hsim ih hr; (try dsimp only at *); generalize ps.getD i.toNat noPt = c at *; unfold ordB; first | (simp only [*, Bool.or_true, Bool.true_or, Bool.true_and, Bool.and_true, Bool.and_self]; done) | simp_all })]; rfl)) hsim
    ·
     rcases bd ((MapD.mk (95 : Nat) (fun d => hasS S d) (fun x => D.raw (Value.bool true)) (lenS S)).has (nmD (ps.getD i.toNat noPt).cl (ps.getD i.toNat noPt).n)) with hb4 | hb4
     ·
      exact gr B1_ok Tryd.func42 (sr' := ⟨1, [vI i], [(0, .mp ⟨95, fun d => hasN L d, fun d => caD (getN L d), (lenN L)⟩)]⟩) (cs := [_, (0 ≤ i ∧ i < ps.length), _, _, ((false) = false), _, ((true) = true)]) [true, true, false, false, true, true] true ⟨hb1, by omega, hb2, hb3, rfl, hb4, rfl, trivial⟩ (by (rw [if_pos (by { clear hsim ih hr; (try dsimp only at *); generalize ps.getD i.toNat noPt = c at *; unfold ordB; first | (simp only [*, Bool.or_true, Bool.true_or, Bool.true_and, Bool.and_true, Bool.and_self]; done) | simp_all })]; rfl)) hsim
     ·
      rcases bd (decide ((ps.getD i.toNat noPt).at' < (getN L (nmD (ps.getD i.toNat noPt).cl (ps.getD i.toNat noPt).n)).fr)) with hb5 | hb5
      ·
       exact gr B1_ok Tryd.func42 (sr' := ⟨1, [vI i], [(0, .mp ⟨95, fun d => hasN L d, fun d => caD (getN L d), (lenN L)⟩)]⟩) (cs := [_, (0 ≤ i ∧ i < ps.length), _, _, ((false) = false), _, ((false) = false), _]) ([true, true] ++ (List.replicate 4 false) ++ [true]) true ⟨hb1, by omega, hb2, hb3, rfl, hb4, rfl, hb5, trivial⟩ (by (rw [if_pos (by { clear hsim ih hr; (try dsimp only at *); generalize ps.getD i.toNat noPt = c at *; unfold ordB; first | (simp only [*, Bool.or_true, Bool.true_or, Bool.true_and, Bool.and_true, Bool.and_self]; done) | simp_all })]; rfl)) hsim
      ·
       rcases bd ((getN L (nmD (ps.getD i.toNat noPt).cl (ps.getD i.toNat noPt).n)).to != (-1 : Int)) with hb6 | hb6
       ·
        rcases bd (decide ((ps.getD i.toNat noPt).at' > (getN L (nmD (ps.getD i.toNat noPt).cl (ps.getD i.toNat noPt).n)).to)) with hb7 | hb7
        ·
         exact gr B1_ok Tryd.func42 (sr' := ⟨1, [vI i], [(0, .mp ⟨95, fun d => hasN L d, fun d => caD (getN L d), (lenN L)⟩)]⟩) (cs := [_, (0 ≤ i ∧ i < ps.length), _, _, ((false) = false), _, ((false) = false), _, _, _]) ([true, true] ++ (List.replicate 5 false) ++ [true, true]) true ⟨hb1, by omega, hb2, hb3, rfl, hb4, rfl, hb5, hb6, hb7, trivial⟩ (by (rw [if_pos (by { clear hsim ih hr; (try dsimp only at *); generalize ps.getD i.toNat noPt = c at *; unfold ordB; first | (simp only [*, Bool.or_true, Bool.true_or, Bool.true_and, Bool.and_true, Bool.and_self]; done) | simp_all })]; rfl)) hsim
        ·
         refine gh B1_ok (k' := loopAt Tryd.f42 0) (s' := let za := ps.getD i.toNat noPt; mk 1 66 [(0, .mp 0), (5, .mp 1), (6, vI (za.at')), (12, .d (.list 5 ps.length (ptEl ps))), (13, vI n), (14, vI (wI (i + 1)))] [(0, .mp ⟨95, fun d => hasN L d, fun d => caD (getN L d), (lenN L)⟩), (1, .mp ⟨95, fun x => keyEq x (nmD za.cl za.n) || (MapD.mk 95 (fun d => hasS S d) (fun x => rB true) (lenS S)).has x, fun x =>   match keyEq x (nmD za.cl za.n) with   | true => rB true   | false => (MapD.mk 95 (fun d => hasS S d) (fun x => rB true) (lenS S)).val x, (match (MapD.mk 95 (fun d => hasS S d) (fun x => rB true) (lenS S)).has (nmD za.cl za.n) with | true => (MapD.mk 95 (fun d => hasS S d) (fun x => rB true) (lenS S)).n | false => (MapD.mk 95 (fun d => hasS S d) (fun x => rB true) (lenS S)).n + 1)⟩)]) (cs := [_, (0 ≤ i ∧ i < ps.length), _, _, ((false) = false), _, ((false) = false), _, _, _]) ([true, true] ++ (List.replicate 5 false) ++ [true, false]) [0,5,6,12,13,14] ⟨hb1, by omega, hb2, hb3, rfl, hb4, rfl, hb5, hb6, hb7, trivial⟩ hsim fun E a w hsim => ?_
         have e1 : ordB L S now (ps.getD i.toNat noPt) = false := by { clear hsim ih hr; (try dsimp only at *); generalize ps.getD i.toNat noPt = c at *; unfold ordB; simp_all }
         rw [if_neg (by rw [e1]; decide)]
         have h2 : Sim _ E (or1M L ps ((seenMp S).put (nmD (ps.getD i.toNat noPt).cl (ps.getD i.toNat noPt).n) (.raw (.bool true))) (ps.getD i.toNat noPt).at' n (IntKind.i64.wrap (i + 1))) a w := hsim
         rw [seenMp_put] at h2
         exact ih E a w h2
       ·
        refine gh B1_ok (k' := loopAt Tryd.f42 0) (s' := let za := ps.getD i.toNat noPt; mk 1 66 [(0, .mp 0), (5, .mp 1), (6, vI (za.at')), (12, .d (.list 5 ps.length (ptEl ps))), (13, vI n), (14, vI (wI (i + 1)))] [(0, .mp ⟨95, fun d => hasN L d, fun d => caD (getN L d), (lenN L)⟩), (1, .mp ⟨95, fun x => keyEq x (nmD za.cl za.n) || (MapD.mk 95 (fun d => hasS S d) (fun x => rB true) (lenS S)).has x, fun x =>   match keyEq x (nmD za.cl za.n) with   | true => rB true   | false => (MapD.mk 95 (fun d => hasS S d) (fun x => rB true) (lenS S)).val x, (match (MapD.mk 95 (fun d => hasS S d) (fun x => rB true) (lenS S)).has (nmD za.cl za.n) with | true => (MapD.mk 95 (fun d => hasS S d) (fun x => rB true) (lenS S)).n | false => (MapD.mk 95 (fun d => hasS S d) (fun x => rB true) (lenS S)).n + 1)⟩)]) (cs := [_, (0 ≤ i ∧ i < ps.length), _, _, ((false) = false), _, ((false) = false), _, _]) ([true, true] ++ (List.replicate 6 false)) [0,5,6,12,13,14] ⟨hb1, by omega, hb2, hb3, rfl, hb4, rfl, hb5, hb6, trivial⟩ hsim fun E a w hsim => ?_
        have e1 : ordB L S now (ps.getD i.toNat noPt) = false := by { clear hsim ih hr; (try dsimp only at *); generalize ps.getD i.toNat noPt = c at *; unfold ordB; simp_all }
        rw [if_neg (by rw [e1]; decide)]
        have h2 : Sim _ E (or1M L ps ((seenMp S).put (nmD (ps.getD i.toNat noPt).cl (ps.getD i.toNat noPt).n) (.raw (.bool true))) (ps.getD i.toNat noPt).at' n (IntKind.i64.wrap (i + 1))) a w := hsim
        rw [seenMp_put] at h2
        exact ih E a w h2
   ·
    rcases bd (decide ((ps.getD i.toNat noPt).at' < now)) with hb8 | hb8
    ·
     exact gr B1_ok Tryd.func42 (sr' := ⟨1, [vI i], [(0, .mp ⟨95, fun d => hasN L d, fun d => caD (getN L d), (lenN L)⟩)]⟩) (cs := [_, (0 ≤ i ∧ i < ps.length), _, _]) [true, false, true] true ⟨hb1, by omega, hb2, hb8, trivial⟩ (by (rw [if_pos (by { clear hsim ih hr; (try dsimp only at *); generalize ps.getD i.toNat noPt = c at *; unfold ordB; first | (simp only [*, Bool.or_true, Bool.true_or, Bool.true_and, Bool.and_true, Bool.and_self]; done) | simp_all })]; rfl)) hsim
    ·
     exact gr B1_ok Tryd.func42 (sr' := ⟨1, [vI i], [(0, .mp ⟨95, fun d => hasN L d, fun d => caD (getN L d), (lenN L)⟩)]⟩) (cs := [_, (0 ≤ i ∧ i < ps.length), _, _, ((true) = true)]) [true, false, false, true] true ⟨hb1, by omega, hb2, hb8, rfl, trivial⟩ (by (rw [if_pos (by { clear hsim ih hr; (try dsimp only at *); generalize ps.getD i.toNat noPt = c at *; unfold ordB; first | (simp only [*, Bool.or_true, Bool.true_or, Bool.true_and, Bool.and_true, Bool.and_self]; done) | simp_all })]; rfl)) hsim
  ·
   exact absurd (of_decide_eq_false hb1) (by omega)
theorem ordered_ok (L : List Ca) (ps : List Pt) (hl : ps.length ≤ 1099511627776) : Eng.Spec Tryd.prog (fun _ => none) 42 [.mp 0, .d (.list 5 ps.length (ptEl ps))] [(0, .mp (knowMp L))] (.d (.raw (.int .i64 (orF L [] 0 ps 0)))) [(0, .mp (knowMp L))] := by
 refine spec_fn Tryd.func42 rfl fun {w N E act} hsim => ?_
 refine gh B1_ok (k' := loopAt Tryd.f42 0) (s' := mk 1 66 [(0, .mp 0), (5, .mp 1), (6, vI 0), (12, .d (.list 5 ps.length (ptEl ps))), (13, vI (↑ps.length : Int)), (14, vI 0)] [(0, .mp ⟨95, fun d => hasN L d, fun d => caD (getN L d), (lenN L)⟩), (1, .mp ⟨95, fun x => false, fun x => default, 0⟩)]) (cs := []) [] [0,5,6,12,13,14] trivial hsim fun E a w hsim => ?_
 obtain ⟨E2, h1⟩ := hsim.mapEq (k := 1) rfl (seenMp []) rfl rfl (fun _ => rfl) (fun _ h => by cases h)
 exact or_go L ps hl ps.length (ps.length : Int) 0 rfl (by omega) (by omega) [] 0 E2 a w h1
end Go.Prf

namespace Go.Prf
open Go Go.Eng Go.Proofs Go.RowKit Go.Tab Go.Plc
set_option maxRecDepth 100000
set_option maxHeartbeats 4000000
def awF (S : List Pt) : List Ca → Int → Int
 | [], _ => -1
 | c :: r, i => if (c.to != -1 && !hasS S (nmD c.cl c.n)) = true then i else awF S r (i + 1)
abbrev GoW (w0 : World) (N : Nat → Prop) (E0 : Env) (k : List Item) (s : St) (r : Int) : Prop := GoG Tryd.prog gz0 43 k [] ⟨0, [.d (.raw (.int .i64 r))], []⟩ w0 N E0 s
theorem aw_go2 {w0 : World} {N : Nat → Prop} {E0 : Env} (cs : List Ca) (ps S : List Pt) (n i : Int) (hl : cs.length ≤ 1099511627776) : ∀ (d : Nat) (n2 j : Int), n2 = (cs.length : Int) → 0 ≤ j → j + d = n2 → GoW w0 N E0 (loopAt Tryd.f43 1) (aw2 cs ps S n i n2 j) (awF S (cs.drop j.toNat) j) := by
 intro d
 induction d with
 | zero =>
  intro n2 j en h0 hd E a w hsim
  have hr : awF S (cs.drop j.toNat) j = -1 := by rw [List.drop_eq_nil_of_le (by omega)]; rfl
  rw [hr]
  rcases bd (decide (j < n2)) with hb1 | hb1
  ·
   rcases bd ((cs.getD j.toNat noCa).to != (-1 : Int)) with hb2 | hb2
   ·
    rcases bd ((MapD.mk (95 : Nat) (fun d => hasS S d) (fun x => D.raw (Value.bool true)) (lenS S)).has (nmD (cs.getD j.toNat noCa).cl (cs.getD j.toNat noCa).n)) with hb3 | hb3
    ·
     exact absurd (of_decide_eq_true hb1) (by omega)
    ·
     exact absurd (of_decide_eq_true hb1) (by omega)
   ·
    exact absurd (of_decide_eq_true hb1) (by omega)
  ·
   exact gr B1_ok Tryd.func43 (sr' := ⟨0, [vI ((-1 : Int))], []⟩) (cs := [_]) [false] true ⟨hb1, trivial⟩ (by rfl) hsim
 | succ d ih =>
  intro n2 j en h0 hd E a w hsim
  have hi : j.toNat < cs.length := by omega
  have ew : IntKind.i64.wrap (j + 1) = j + 1 := wrapP (by omega)
  have hr : awF S (cs.drop j.toNat) j = if ((cs.getD j.toNat noCa).to != -1 && !hasS S (nmD (cs.getD j.toNat noCa).cl (cs.getD j.toNat noCa).n)) = true then j else awF S (cs.drop (IntKind.i64.wrap (j + 1)).toNat) (IntKind.i64.wrap (j + 1)) := by
    rw [getD_drop (d := noCa) hi, ew, show (j + 1).toNat = j.toNat + 1 by omega]; rfl
  have ih := ih n2 (IntKind.i64.wrap (j + 1)) en (by rw [ew]; omega) (by rw [ew]; omega)
  rw [hr]
  rcases bd (decide (j < n2)) with hb1 | hb1
  ·
   rcases bd ((cs.getD j.toNat noCa).to != (-1 : Int)) with hb2 | hb2
   ·
    rcases bd ((MapD.mk (95 : Nat) (fun d => hasS S d) (fun x => D.raw (Value.bool true)) (lenS S)).has (nmD (cs.getD j.toNat noCa).cl (cs.getD j.toNat noCa).n)) with hb3 | hb3
    ·
     refine gh B1_ok (k' := loopAt Tryd.f43 1) (s' := mk 0 40 [(0, .d (.list 10 cs.length (caEl cs))), (5, .mp 0), (11, .d (.list 5 ps.length (ptEl ps))), (12, vI n), (13, vI i), (21, .d (.list 10 cs.length (caEl cs))), (22, vI n2), (23, vI (wI (j + 1)))] [(0, .mp ⟨95, fun d => hasS S d, fun x => rB true, (lenS S)⟩)]) (cs := [_, (0 ≤ j ∧ j < cs.length), _, _, ((false) = false)]) [true, true, true, false] [0,5,11,12,13,21,22,23] ⟨hb1, by omega, hb2, hb3, rfl, trivial⟩ hsim fun E a w hsim => ?_
     rw [if_neg (by { clear hsim ih hr; (try dsimp only at *); generalize cs.getD j.toNat noCa = c at *; simp_all })]
     exact ih E a w hsim
    ·
     exact gr B1_ok Tryd.func43 (sr' := ⟨0, [vI j], []⟩) (cs := [_, (0 ≤ j ∧ j < cs.length), _, _, ((true) = true)]) [true, true, false, true] true ⟨hb1, by omega, hb2, hb3, rfl, trivial⟩ (by (rw [if_pos (by { clear hsim ih hr; (try dsimp only at *); generalize cs.getD j.toNat noCa = c at *; simp_all })]; done)) hsim
   ·
    refine gh B1_ok (k' := loopAt Tryd.f43 1) (s' := mk 0 40 [(0, .d (.list 10 cs.length (caEl cs))), (5, .mp 0), (11, .d (.list 5 ps.length (ptEl ps))), (12, vI n), (13, vI i), (21, .d (.list 10 cs.length (caEl cs))), (22, vI n2), (23, vI (wI (j + 1)))] [(0, .mp ⟨95, fun d => hasS S d, fun x => rB true, (lenS S)⟩)]) (cs := [_, (0 ≤ j ∧ j < cs.length), _]) [true, false] [0,5,11,12,13,21,22,23] ⟨hb1, by omega, hb2, trivial⟩ hsim fun E a w hsim => ?_
    rw [if_neg (by { clear hsim ih hr; (try dsimp only at *); generalize cs.getD j.toNat noCa = c at *; simp_all })]
    exact ih E a w hsim
  ·
   exact absurd (of_decide_eq_false hb1) (by omega)
theorem aw_go1 {w0 : World} {N : Nat → Prop} {E0 : Env} (cs : List Ca) (ps : List Pt) (hl : cs.length ≤ 1099511627776) (hl2 : ps.length ≤ 1099511627776) : ∀ (d : Nat) (n i : Int), n = (ps.length : Int) → 0 ≤ i → i + d = n → ∀ (S : List Pt), GoW w0 N E0 (loopAt Tryd.f43 0) (aw1 cs ps S n i) (awF ((ps.drop i.toNat).reverse ++ S) cs 0) := by
 intro d
 induction d with
 | zero =>
  intro n i en h0 hd S E a w hsim
  have hr : awF ((ps.drop i.toNat).reverse ++ S) cs 0 = awF S cs 0 := by rw [List.drop_eq_nil_of_le (by omega)]; rfl
  rw [hr]
  rcases bd (decide (i < n)) with hb1 | hb1
  ·
   exact absurd (of_decide_eq_true hb1) (by omega)
  ·
   refine gh B1_ok (k' := loopAt Tryd.f43 1) (s' := mk 0 40 [(0, .d (.list 10 cs.length (caEl cs))), (5, .mp 0), (11, .d (.list 5 ps.length (ptEl ps))), (12, vI n), (13, vI i), (21, .d (.list 10 cs.length (caEl cs))), (22, vI (↑cs.length : Int)), (23, vI 0)] [(0, .mp ⟨95, fun d => hasS S d, fun x => rB true, (lenS S)⟩)]) (cs := [_]) [false] [0,5,11,12,13,21,22,23] ⟨hb1, trivial⟩ hsim fun E a w hsim => ?_
   exact aw_go2 cs ps S n i hl cs.length (cs.length : Int) 0 rfl (by omega) (by omega) E a w hsim
 | succ d ih =>
  intro n i en h0 hd S E a w hsim
  have hi : i.toNat < ps.length := by omega
  have ew : IntKind.i64.wrap (i + 1) = i + 1 := wrapP (by omega)
  have hr : (ps.drop i.toNat).reverse ++ S = (ps.drop (IntKind.i64.wrap (i + 1)).toNat).reverse ++ (ps.getD i.toNat noPt :: S) := by
    rw [getD_drop (d := noPt) hi, ew, show (i + 1).toNat = i.toNat + 1 by omega, List.reverse_cons, List.append_assoc]; rfl
  have ih := ih n (IntKind.i64.wrap (i + 1)) en (by rw [ew]; omega) (by rw [ew]; omega) (ps.getD i.toNat noPt :: S)
  rw [hr]
  rcases bd (decide (i < n)) with hb1 | hb1
  ·
   refine gh B1_ok (k' := loopAt Tryd.f43 0) (s' := let za := nmD (ps.getD i.toNat noPt).cl (ps.getD i.toNat noPt).n; mk 0 40 [(0, .d (.list 10 cs.length (caEl cs))), (5, .mp 0), (11, .d (.list 5 ps.length (ptEl ps))), (12, vI n), (13, vI (wI (i + 1)))] [(0, .mp ⟨95, fun x => keyEq x za || (MapD.mk 95 (fun d => hasS S d) (fun x => rB true) (lenS S)).has x, fun x =>   match keyEq x za with   | true => rB true   | false => (MapD.mk 95 (fun d => hasS S d) (fun x => rB true) (lenS S)).val x, (match (MapD.mk 95 (fun d => hasS S d) (fun x => rB true) (lenS S)).has za with | true => (MapD.mk 95 (fun d => hasS S d) (fun x => rB true) (lenS S)).n | false => (MapD.mk 95 (fun d => hasS S d) (fun x => rB true) (lenS S)).n + 1)⟩)]) (cs := [_, (0 ≤ i ∧ i < ps.length)]) [true] [0,5,11,12,13,21,22,23] ⟨hb1, by omega, trivial⟩ hsim fun E a w hsim => ?_
   have h2 : Sim _ E (aw1M cs ps ((seenMp S).put (nmD (ps.getD i.toNat noPt).cl (ps.getD i.toNat noPt).n) (.raw (.bool true))) n (IntKind.i64.wrap (i + 1))) a w := hsim
   rw [seenMp_put] at h2
   exact ih E a w h2
  ·
   exact absurd (of_decide_eq_false hb1) (by omega)
theorem answered_ok (cs : List Ca) (ps : List Pt) (hl : cs.length ≤ 1099511627776) (hl2 : ps.length ≤ 1099511627776) : Eng.Spec Tryd.prog (fun _ => none) 43 [.d (.list 10 cs.length (caEl cs)), .d (.list 5 ps.length (ptEl ps))] [] (.d (.raw (.int .i64 (awF (ps.reverse ++ []) cs 0)))) [] := by
 refine spec_fn Tryd.func43 rfl fun {w N E act} hsim => ?_
 refine gh B1_ok (k' := loopAt Tryd.f43 0) (s' := mk 0 40 [(0, .d (.list 10 cs.length (caEl cs))), (5, .mp 0), (11, .d (.list 5 ps.length (ptEl ps))), (12, vI (↑ps.length : Int)), (13, vI 0)] [(0, .mp ⟨95, fun x => false, fun x => default, 0⟩)]) (cs := []) [] [0,5,11,12,13,21,22,23] trivial hsim fun E a w hsim => ?_
 obtain ⟨E2, h1⟩ := hsim.mapEq (k := 0) rfl (seenMp []) rfl rfl (fun _ => rfl) (fun _ h => by cases h)
 exact aw_go1 cs ps hl hl2 ps.length (ps.length : Int) 0 rfl (by omega) (by omega) [] E2 a w h1
end Go.Prf
