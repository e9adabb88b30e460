/-
  Contracts of given functions, or plain laws that they need. No condition.
-/
import Derived.Test.YtbppcjkpkelbfaaDoorTabN
namespace Go.Prf
open Go Go.Eng Go.Proofs Go.RowKit Go.Tab Go.Plc
set_option linter.unusedVariables false
set_option linter.unusedSimpArgs false
set_option maxRecDepth 100000
set_option maxHeartbeats 4000000
theorem getD_drop {α : Type} {l : List α} {d : α} {k : Nat} (h : k < l.length) : l.drop k = l.getD k d :: l.drop (k + 1) := by
  rw [List.drop_eq_getElem_cons h]; simp [List.getD, h]
def repF : T4 → List OpT → List An
  | _, [] => []
  | T, o :: r => tellM T o :: repF (nextT T o) r
def Small (l : List OpT) : Prop := ∀ o ∈ l, o.2.1.size ≤ 1073741824
theorem small_get {l : List OpT} (h : Small l) {k : Nat} (hk : k < l.length) : (l.getD k noOp).2.1.size ≤ 1073741824 := h _ (by rw [List.getD_eq_getElem?_getD, List.getElem?_eq_getElem hk]; exact List.getElem_mem hk)
abbrev GoRp (w0 : World) (N : Nat → Prop) (E0 : Env) (s : St) (r : List An) : Prop := ∀ (E : Env) (a : Act) (w : World), Sim (cx Tryd.prog Go.Bla.gl w0 N E0 []) E s a w → Goes Tryd.prog 26 (loopAt Tryd.f26 0) (RSpec (cx Tryd.prog Go.Bla.gl w0 N E0 []) ⟨0, [.d (.list 2 r.length (anEl r))], []⟩) a w
theorem row_an {C : Cx} {E : Env} {a : Act} {w : World} (l : List OpT) (T : T4) (acc : List An) (n i : Int) (x : An) (f : Nat → D) (hf : ∀ j, j < acc.length + 1 → f j = anEl (acc ++ [x]) j)
    (h : Sim C E (mk 0 22 [(3, .ref 0 0), (4, .own 9), (8, .d (.list 4 l.length (opEl l))), (9, .d (.raw (.int .i64 n))), (10, .d (.raw (.int .i64 i)))] (tbB 0 T ++ [(9, .row 49 2 (acc.length + 1) f)])) a w) : ∃ E', Sim C E' (rp1 l T (acc ++ [x]) n i) a w := by
  obtain ⟨E', h1⟩ := h.rowEq (k := 9) (T := 49) (sz := 2) (n := acc.length + 1) (el := f) rfl (anEl (acc ++ [x])) hf
  refine ⟨E', ?_⟩
  have e : rp1 l T (acc ++ [x]) n i = mk 0 22 [(3, .ref 0 0), (4, .own 9), (8, .d (.list 4 l.length (opEl l))), (9, .d (.raw (.int .i64 n))), (10, .d (.raw (.int .i64 i)))] (tbB 0 T ++ [(9, .row 49 2 (acc.length + 1) (anEl (acc ++ [x])))]) := by
    unfold rp1; rw [List.length_append]; rfl
  rw [e]
  exact h1
theorem an_app (acc : List An) (x : An) (g : Nat → D) (hg : g 0 = anD x) (j : Nat) (hj : j < acc.length + 1) : (if j < acc.length then anEl acc j else g (j - acc.length)) = anEl (acc ++ [x]) j := by
  unfold anEl
  by_cases h : j < acc.length
  · rw [if_pos h]
    congr 1
    simp [List.getD, List.getElem?_append_left h]
  · rw [if_neg h]
    obtain rfl : j = acc.length := by omega
    rw [Nat.sub_self, hg]
    congr 1
    simp [List.getD]
theorem rp_go {w0 : World} {N : Nat → Prop} {E0 : Env} (l : List OpT) (hs : Small l) (hl : l.length ≤ 1099511627776) : ∀ (d : Nat) (n i : Int), n = (l.length : Int) → 0 ≤ i → i + d = n → ∀ (T : T4) (acc : List An), TidyT T → acc.length = i.toNat → GoRp w0 N E0 (rp1 l T acc n i) (acc ++ repF T (l.drop i.toNat)) := by
  intro d
  induction d with
  | zero =>
    intro n i en h0 hd T acc ht ha E a w hsim
    have hr : acc ++ repF T (l.drop i.toNat) = acc := by rw [List.drop_eq_nil_of_le (by omega)]; simp [repF]
    rw [hr]
    obtain ⟨T', hT⟩ : ∃ T', T' = nextT T (l.getD i.toNat noOp) := ⟨_, rfl⟩
    obtain ⟨e, he⟩ : ∃ e, e = (tellM T (l.getD i.toNat noOp)).1 := ⟨_, rfl⟩
    obtain ⟨v, hv⟩ : ∃ v, v = (tellM T (l.getD i.toNat noOp)).2 := ⟨_, rfl⟩
    rcases bd (decide (i < n)) with hb1 | hb1
    ·
     exact absurd (of_decide_eq_true hb1) (by omega)
    ·
     exact gr (A2_ok T T' e v) Tryd.func26 (sr' := ⟨0, [.d (.list 2 acc.length (anEl acc))], []⟩) (cs := [_]) [false] true ⟨hb1, trivial⟩ (by rfl) hsim
  | succ d ih =>
    intro n i en h0 hd T acc ht ha E a w hsim
    have hi : i.toNat < l.length := by omega
    have ew : IntKind.i64.wrap (i + 1) = i + 1 := wrapP (by omega)
    obtain ⟨T', hT⟩ : ∃ T', T' = nextT T (l.getD i.toNat noOp) := ⟨_, rfl⟩
    obtain ⟨e, he⟩ : ∃ e, e = (tellM T (l.getD i.toNat noOp)).1 := ⟨_, rfl⟩
    obtain ⟨v, hv⟩ : ∃ v, v = (tellM T (l.getD i.toNat noOp)).2 := ⟨_, rfl⟩
    have hk := small_get hs hi
    have hev : (e, v) = tellM T (l.getD i.toNat noOp) := by rw [he, hv]
    have hr : acc ++ repF T (l.drop i.toNat) = (acc ++ [(e, v)]) ++ repF T' (l.drop (IntKind.i64.wrap (i + 1)).toNat) := by
      rw [getD_drop (d := noOp) hi, ew, show (i + 1).toNat = i.toNat + 1 by omega, List.append_assoc, hev, hT]; rfl
    have ih := ih n (IntKind.i64.wrap (i + 1)) en (by rw [ew]; omega) (by rw [ew]; omega) T' (acc ++ [(e, v)]) (by rw [hT]; exact next_tidy ht _) (by rw [List.length_append, ha, ew]; simp; omega)
    rw [← hr] at ih
    have hob : TidyT T ∧ (e, v) = tellM T ((l.getD i.toNat noOp).1, (l.getD i.toNat noOp).2.1, (l.getD i.toNat noOp).2.2.1, (l.getD i.toNat noOp).2.2.2) ∧ T' = nextT T ((l.getD i.toNat noOp).1, (l.getD i.toNat noOp).2.1, (l.getD i.toNat noOp).2.2.1, (l.getD i.toNat noOp).2.2.2) ∧ (l.getD i.toNat noOp).2.1.size ≤ 1073741824 := ⟨ht, hev, hT, hk⟩
    rcases bd (decide (i < n)) with hb1 | hb1
    ·
     refine gh (A2_ok T T' e v) (k' := loopAt Tryd.f26 0) (s' := mk 0 22 [(3, .ref 0 0), (4, .own 9), (8, .d (.list 4 l.length (opEl l))), (9, vI n), (10, vI (IntKind.i64.wrap (i + 1)))] [(0, .obj 112 [.ref 1 0, .ref 3 0, .ref 5 0, .ref 7 0]), (1, .obj 145 [.own 2]), (2, .row 148 2 T'.a.length (rowEl T'.a)), (3, .obj 145 [.own 4]), (4, .row 148 2 T'.b.length (rowEl T'.b)), (5, .obj 145 [.own 6]), (6, .row 148 2 T'.c.length (rowEl T'.c)), (7, .obj 145 [.own 8]), (8, .row 148 2 T'.d.length (rowEl T'.d)), (9, .row 49 2 (acc.length + 1) (fun j => if j < acc.length then anEl acc j else segD true 2 (splice (List.map (fun j => (List.map D.raw (Value.agg #[Value.int IntKind.i64 (0 : Int), Value.string (ByteArray.mk #[])]).cells.toList).getD (j % 2) default) (List.range 2)) 0 (D.agg [rI e, rS v]).cells) (j - acc.length)))]) (cs := [_, ((0 : Int) ≤ i ∧ i < (↑l.length : Int)), ((true) = true), (T.a.length = T.a.length), (rowEl T.a = rowEl T.a), (T.b.length = T.b.length), (rowEl T.b = rowEl T.b), (T.c.length = T.c.length), (rowEl T.c = rowEl T.c), (T.d.length = T.d.length), (rowEl T.d = rowEl T.d), (TidyT T ∧ (e, v) = tellM T ((l.getD i.toNat noOp).fst, (l.getD i.toNat noOp).snd.fst, (l.getD i.toNat noOp).snd.snd.fst, (l.getD i.toNat noOp).snd.snd.snd) ∧ T' = nextT T ((l.getD i.toNat noOp).fst, (l.getD i.toNat noOp).snd.fst, (l.getD i.toNat noOp).snd.snd.fst, (l.getD i.toNat noOp).snd.snd.snd) ∧ (l.getD i.toNat noOp).snd.fst.size ≤ 1073741824), (acc.length + 1 ≤ 9223372036854775807 ∧ (acc.length + 1) * 24 ≤ 140737488355328)]) [true] [3,4,8,9,10] ⟨hb1, by omega, rfl, (by rfl), (by rfl), (by rfl), (by rfl), (by rfl), (by rfl), (by rfl), (by rfl), (by exact hob), by omega, trivial⟩ hsim fun E a w hsim => ?_
     obtain ⟨E2, h2⟩ := row_an l T' acc n (IntKind.i64.wrap (i + 1)) (e, v) _ (fun j hj => an_app acc (e, v) _ rfl j hj) hsim
     exact ih E2 a w h2
    ·
     exact absurd (of_decide_eq_false hb1) (by omega)
theorem replay_ok (l : List OpT) (hs : Small l) (hl : l.length ≤ 1099511627776) : Eng.Spec Tryd.prog Go.Bla.gl 26 [.d (.list 4 l.length (opEl l))] [] (.d (.list 2 (repF T0 l).length (anEl (repF T0 l)))) [] := by
  refine spec_fn Tryd.func26 rfl fun {w N E act} hsim => ?_
  let T : T4 := T0
  let T' : T4 := T0
  let e : Int := 0
  let v : ByteArray := ByteArray.empty
  refine gh (A2_ok T T' e v) (k' := loopAt Tryd.f26 0) (s' := mk 0 22 [(3, .ref 0 0), (4, .d (.raw (Value.slice none 0 0))), (8, .d (.list 4 l.length (opEl l))), (9, vI (↑l.length : Int)), (10, vI 0)] [(0, .obj 112 [.ref 1 0, .ref 3 0, .ref 5 0, .ref 7 0]), (1, .obj 145 [.own 2]), (2, .row 148 2 0 (rowEl T0.a)), (3, .obj 145 [.own 4]), (4, .row 148 2 0 (rowEl T0.b)), (5, .obj 145 [.own 6]), (6, .row 148 2 0 (rowEl T0.c)), (7, .obj 145 [.own 8]), (8, .row 148 2 0 (rowEl T0.d))]) (cs := []) [] [3,4,8,9,10] trivial hsim fun E a w hsim => ?_
  obtain ⟨E2, h2⟩ := hsim.nilRow (t := 4) rfl 49 2 (anEl [])
  exact rp_go l hs hl l.length (l.length : Int) 0 rfl (by omega) (by omega) T0 [] tidyT0 rfl E2 a w h2
def badC (c : Ca) : Bool := decide (c.cl < 0) || decide (c.cl > 7) || decide (c.n < 1) || decide (c.n > 1099511627776) || checkM c.o.1 c.o.2.1 c.o.2.2.1 c.o.2.2.2 != 0 || decide (c.fr < 0) || (c.to != -1 && decide (c.to < c.fr)) || (c.to == -1 && !eqcs [.int .i64 c.a.1, .string c.a.2] [.int .i64 0, .string (ByteArray.mk #[])])
def badL (L : List Ca) (c : Ca) : Bool := hasC L (.raw (.int .i64 c.cl)) && (decide ((getC L (.raw (.int .i64 c.cl))).n ≥ c.n) || (getC L (.raw (.int .i64 c.cl))).to == -1 || decide ((getC L (.raw (.int .i64 c.cl))).to > c.fr))
def fmF : List Ca → List Ca → Int → Int
  | _, [], _ => -1
  | L, c :: r, i => if (badC c || badL L c) = true then i else fmF (c :: L) r (i + 1)
theorem mchk_ok : MoOK Tryd.prog gz0 23 mChk := fun args H ret H' cs h hc => by
  unfold mChk at h
  split at h
  · cases h; exact Go.Tab.check_ok _ _ _ _
  · cases h
theorem B0_ok : OrcOK Tryd.prog B0 := (OrcOK.none _).add _ false _ mchk_ok
theorem lastMp_put (L : List Ca) (c : Ca) : (lastMp L).put (.raw (.int .i64 c.cl)) (caD c) = lastMp (c :: L) := by
  unfold lastMp MapD.put
  congr 1
  funext x
  have : getC (c :: L) x = match keyEq x (.raw (.int .i64 c.cl)) with | true => c | false => getC L x := by
    unfold getC; rw [List.find?_cons]; cases keyEq x (.raw (.int .i64 c.cl)) <;> rfl
  simp only [this]
  cases keyEq x (.raw (.int .i64 c.cl)) <;> rfl
def fm1M (M : MapD) (cs : List Ca) (n i : Int) : St := mk 0 102 [(3, .mp 0), (9, .d (.list 10 cs.length (caEl cs))), (10, .d (.raw (.int .i64 n))), (11, .d (.raw (.int .i64 i)))] [(0, .mp M)]
abbrev GoF (w0 : World) (N : Nat → Prop) (E0 : Env) (s : St) (r : Int) : Prop := ∀ (E : Env) (a : Act) (w : World), Sim (cx Tryd.prog gz0 w0 N E0 []) E s a w → Goes Tryd.prog 40 (loopAt Tryd.f40 0) (RSpec (cx Tryd.prog gz0 w0 N E0 []) ⟨0, [.d (.raw (.int .i64 r))], []⟩) a w
theorem fm_go {w0 : World} {N : Nat → Prop} {E0 : Env} (cs : List Ca) (hl : cs.length ≤ 1099511627776) : ∀ (d : Nat) (n i : Int), n = (cs.length : Int) → 0 ≤ i → i + d = n → ∀ (L : List Ca), GoF w0 N E0 (fm1 L cs n i) (fmF L (cs.drop i.toNat) i) := by
  intro d
  induction d with
  | zero =>
    intro n i en h0 hd L E a w hsim
    have hr : fmF L (cs.drop i.toNat) i = -1 := by rw [List.drop_eq_nil_of_le (by omega)]; rfl
    rw [hr]
    rcases bd (decide (i < n)) with hb1 | hb1
    ·
     rcases bd (decide ((cs.getD i.toNat noCa).cl < (0 : Int))) with hb2 | hb2
     ·
      exact absurd (of_decide_eq_true hb1) (by omega)
     ·
      rcases bd (decide ((cs.getD i.toNat noCa).cl > (7 : Int))) with hb3 | hb3
      ·
       exact absurd (of_decide_eq_true hb1) (by omega)
      ·
       rcases bd (decide ((cs.getD i.toNat noCa).n < (1 : Int))) with hb4 | hb4
       ·
        exact absurd (of_decide_eq_true hb1) (by omega)
       ·
        rcases bd (decide ((cs.getD i.toNat noCa).n > (1099511627776 : Int))) with hb5 | hb5
        ·
         exact absurd (of_decide_eq_true hb1) (by omega)
        ·
         rcases bd (checkM (cs.getD i.toNat noCa).o.fst (cs.getD i.toNat noCa).o.snd.fst (cs.getD i.toNat noCa).o.snd.snd.fst (cs.getD i.toNat noCa).o.snd.snd.snd != (0 : Int)) with hb6 | hb6
         ·
          exact absurd (of_decide_eq_true hb1) (by omega)
         ·
          rcases bd (decide ((cs.getD i.toNat noCa).fr < (0 : Int))) with hb7 | hb7
          ·
           exact absurd (of_decide_eq_true hb1) (by omega)
          ·
           rcases bd ((cs.getD i.toNat noCa).to != (-1 : Int)) with hb8 | hb8
           ·
            rcases bd (decide ((cs.getD i.toNat noCa).to < (cs.getD i.toNat noCa).fr)) with hb9 | hb9
            ·
             exact absurd (of_decide_eq_true hb1) (by omega)
            ·
             rcases bd ((cs.getD i.toNat noCa).to == (-1 : Int)) with hb10 | hb10
             ·
              rcases bd (!eqcs [Value.int IntKind.i64 (cs.getD i.toNat noCa).a.fst, Value.string (cs.getD i.toNat noCa).a.snd] [Value.int IntKind.i64 (0 : Int), Value.string (ByteArray.mk #[])]) with hb11 | hb11
              ·
               exact absurd (of_decide_eq_true hb1) (by omega)
              ·
               rcases bd ((MapD.mk (3 : Nat) (fun d => hasC L d) (fun d => caD (getC L d)) (lenC L)).has (D.raw (Value.int IntKind.i64 (cs.getD i.toNat noCa).cl))) with hb12 | hb12
               ·
                rcases bd (decide ((getC L (D.raw (Value.int IntKind.i64 (cs.getD i.toNat noCa).cl))).n ≥ (cs.getD i.toNat noCa).n)) with hb13 | hb13
                ·
                 exact absurd (of_decide_eq_true hb1) (by omega)
                ·
                 rcases bd ((getC L (D.raw (Value.int IntKind.i64 (cs.getD i.toNat noCa).cl))).to == (-1 : Int)) with hb14 | hb14
                 ·
                  exact absurd (of_decide_eq_true hb1) (by omega)
                 ·
                  rcases bd (decide ((getC L (D.raw (Value.int IntKind.i64 (cs.getD i.toNat noCa).cl))).to > (cs.getD i.toNat noCa).fr)) with hb15 | hb15
                  ·
                   exact absurd (of_decide_eq_true hb1) (by omega)
                  ·
                   exact absurd (of_decide_eq_true hb1) (by omega)
               ·
                exact absurd (of_decide_eq_true hb1) (by omega)
             ·
              rcases bd ((MapD.mk (3 : Nat) (fun d => hasC L d) (fun d => caD (getC L d)) (lenC L)).has (D.raw (Value.int IntKind.i64 (cs.getD i.toNat noCa).cl))) with hb16 | hb16
              ·
               rcases bd (decide ((getC L (D.raw (Value.int IntKind.i64 (cs.getD i.toNat noCa).cl))).n ≥ (cs.getD i.toNat noCa).n)) with hb17 | hb17
               ·
                exact absurd (of_decide_eq_true hb1) (by omega)
               ·
                rcases bd ((getC L (D.raw (Value.int IntKind.i64 (cs.getD i.toNat noCa).cl))).to == (-1 : Int)) with hb18 | hb18
                ·
                 exact absurd (of_decide_eq_true hb1) (by omega)
                ·
                 rcases bd (decide ((getC L (D.raw (Value.int IntKind.i64 (cs.getD i.toNat noCa).cl))).to > (cs.getD i.toNat noCa).fr)) with hb19 | hb19
                 ·
                  exact absurd (of_decide_eq_true hb1) (by omega)
                 ·
                  exact absurd (of_decide_eq_true hb1) (by omega)
              ·
               exact absurd (of_decide_eq_true hb1) (by omega)
           ·
            rcases bd ((cs.getD i.toNat noCa).to == (-1 : Int)) with hb20 | hb20
            ·
             rcases bd (!eqcs [Value.int IntKind.i64 (cs.getD i.toNat noCa).a.fst, Value.string (cs.getD i.toNat noCa).a.snd] [Value.int IntKind.i64 (0 : Int), Value.string (ByteArray.mk #[])]) with hb21 | hb21
             ·
              exact absurd (of_decide_eq_true hb1) (by omega)
             ·
              rcases bd ((MapD.mk (3 : Nat) (fun d => hasC L d) (fun d => caD (getC L d)) (lenC L)).has (D.raw (Value.int IntKind.i64 (cs.getD i.toNat noCa).cl))) with hb22 | hb22
              ·
               rcases bd (decide ((getC L (D.raw (Value.int IntKind.i64 (cs.getD i.toNat noCa).cl))).n ≥ (cs.getD i.toNat noCa).n)) with hb23 | hb23
               ·
                exact absurd (of_decide_eq_true hb1) (by omega)
               ·
                rcases bd ((getC L (D.raw (Value.int IntKind.i64 (cs.getD i.toNat noCa).cl))).to == (-1 : Int)) with hb24 | hb24
                ·
                 exact absurd (of_decide_eq_true hb1) (by omega)
                ·
                 rcases bd (decide ((getC L (D.raw (Value.int IntKind.i64 (cs.getD i.toNat noCa).cl))).to > (cs.getD i.toNat noCa).fr)) with hb25 | hb25
                 ·
                  exact absurd (of_decide_eq_true hb1) (by omega)
                 ·
                  exact absurd (of_decide_eq_true hb1) (by omega)
              ·
               exact absurd (of_decide_eq_true hb1) (by omega)
            ·
             rcases bd ((MapD.mk (3 : Nat) (fun d => hasC L d) (fun d => caD (getC L d)) (lenC L)).has (D.raw (Value.int IntKind.i64 (cs.getD i.toNat noCa).cl))) with hb26 | hb26
             ·
              rcases bd (decide ((getC L (D.raw (Value.int IntKind.i64 (cs.getD i.toNat noCa).cl))).n ≥ (cs.getD i.toNat noCa).n)) with hb27 | hb27
              ·
               exact absurd (of_decide_eq_true hb1) (by omega)
              ·
               rcases bd ((getC L (D.raw (Value.int IntKind.i64 (cs.getD i.toNat noCa).cl))).to == (-1 : Int)) with hb28 | hb28
               ·
                exact absurd (of_decide_eq_true hb1) (by omega)
               ·
                rcases bd (decide ((getC L (D.raw (Value.int IntKind.i64 (cs.getD i.toNat noCa).cl))).to > (cs.getD i.toNat noCa).fr)) with hb29 | hb29
                ·
                 exact absurd (of_decide_eq_true hb1) (by omega)
                ·
                 exact absurd (of_decide_eq_true hb1) (by omega)
             ·
              exact absurd (of_decide_eq_true hb1) (by omega)
    ·
     exact gr B0_ok Tryd.func40 (sr' := ⟨0, [vI ((-1 : Int))], []⟩) (cs := [_]) [false] true ⟨hb1, trivial⟩ (by rfl) hsim
  | succ d ih =>
    intro n i en h0 hd L E a w hsim
    have hi : i.toNat < cs.length := by omega
    have ew : IntKind.i64.wrap (i + 1) = i + 1 := wrapP (by omega)
    have hr : fmF L (cs.drop i.toNat) i = if (badC (cs.getD i.toNat noCa) || badL L (cs.getD i.toNat noCa)) = true then i else fmF (cs.getD i.toNat noCa :: L) (cs.drop (IntKind.i64.wrap (i + 1)).toNat) (IntKind.i64.wrap (i + 1)) := by
      rw [getD_drop (d := noCa) hi, ew, show (i + 1).toNat = i.toNat + 1 by omega]; rfl
    have ih := ih n (IntKind.i64.wrap (i + 1)) en (by rw [ew]; omega) (by rw [ew]; omega) (cs.getD i.toNat noCa :: L)
    rw [hr]
    rcases bd (decide (i < n)) with hb1 | hb1
    ·
     rcases bd (decide ((cs.getD i.toNat noCa).cl < (0 : Int))) with hb2 | hb2
     ·
      exact gr B0_ok Tryd.func40 (sr' := ⟨0, [vI i], []⟩) (cs := [_, ((0 : Int) ≤ i ∧ i < (↑cs.length : Int)), _]) [true, true] true ⟨hb1, by omega, hb2, trivial⟩ (by (rw [if_pos (by { clear hsim ih hr; (try dsimp only at *); generalize cs.getD i.toNat noCa = c at *; unfold badC badL; first | (simp only [*, Bool.or_true, Bool.true_or, Bool.true_and, Bool.and_true, Bool.and_self]; done) | simp_all })]; done)) hsim
     ·
      rcases bd (decide ((cs.getD i.toNat noCa).cl > (7 : Int))) with hb3 | hb3
      ·
       exact gr B0_ok Tryd.func40 (sr' := ⟨0, [vI i], []⟩) (cs := [_, ((0 : Int) ≤ i ∧ i < (↑cs.length : Int)), _, _]) [true, false, true] true ⟨hb1, by omega, hb2, hb3, trivial⟩ (by (rw [if_pos (by { clear hsim ih hr; (try dsimp only at *); generalize cs.getD i.toNat noCa = c at *; unfold badC badL; first | (simp only [*, Bool.or_true, Bool.true_or, Bool.true_and, Bool.and_true, Bool.and_self]; done) | simp_all })]; done)) hsim
      ·
       rcases bd (decide ((cs.getD i.toNat noCa).n < (1 : Int))) with hb4 | hb4
       ·
        exact gr B0_ok Tryd.func40 (sr' := ⟨0, [vI i], []⟩) (cs := [_, ((0 : Int) ≤ i ∧ i < (↑cs.length : Int)), _, _, _]) [true, false, false, true] true ⟨hb1, by omega, hb2, hb3, hb4, trivial⟩ (by (rw [if_pos (by { clear hsim ih hr; (try dsimp only at *); generalize cs.getD i.toNat noCa = c at *; unfold badC badL; first | (simp only [*, Bool.or_true, Bool.true_or, Bool.true_and, Bool.and_true, Bool.and_self]; done) | simp_all })]; done)) hsim
       ·
        rcases bd (decide ((cs.getD i.toNat noCa).n > (1099511627776 : Int))) with hb5 | hb5
        ·
         exact gr B0_ok Tryd.func40 (sr' := ⟨0, [vI i], []⟩) (cs := [_, ((0 : Int) ≤ i ∧ i < (↑cs.length : Int)), _, _, _, _]) [true, false, false, false, true] true ⟨hb1, by omega, hb2, hb3, hb4, hb5, trivial⟩ (by (rw [if_pos (by { clear hsim ih hr; (try dsimp only at *); generalize cs.getD i.toNat noCa = c at *; unfold badC badL; first | (simp only [*, Bool.or_true, Bool.true_or, Bool.true_and, Bool.and_true, Bool.and_self]; done) | simp_all })]; done)) hsim
        ·
         rcases bd (checkM (cs.getD i.toNat noCa).o.fst (cs.getD i.toNat noCa).o.snd.fst (cs.getD i.toNat noCa).o.snd.snd.fst (cs.getD i.toNat noCa).o.snd.snd.snd != (0 : Int)) with hb6 | hb6
         ·
          exact gr B0_ok Tryd.func40 (sr' := ⟨0, [vI i], []⟩) (cs := [_, ((0 : Int) ≤ i ∧ i < (↑cs.length : Int)), _, _, _, _, _]) ([true] ++ (List.replicate 4 false) ++ [true]) true ⟨hb1, by omega, hb2, hb3, hb4, hb5, hb6, trivial⟩ (by (rw [if_pos (by { clear hsim ih hr; (try dsimp only at *); generalize cs.getD i.toNat noCa = c at *; unfold badC badL; first | (simp only [*, Bool.or_true, Bool.true_or, Bool.true_and, Bool.and_true, Bool.and_self]; done) | simp_all })]; done)) hsim
         ·
          rcases bd (decide ((cs.getD i.toNat noCa).fr < (0 : Int))) with hb7 | hb7
          ·
           exact gr B0_ok Tryd.func40 (sr' := ⟨0, [vI i], []⟩) (cs := [_, ((0 : Int) ≤ i ∧ i < (↑cs.length : Int)), _, _, _, _, _, _]) ([true] ++ (List.replicate 5 false) ++ [true]) true ⟨hb1, by omega, hb2, hb3, hb4, hb5, hb6, hb7, trivial⟩ (by (rw [if_pos (by { clear hsim ih hr; (try dsimp only at *); generalize cs.getD i.toNat noCa = c at *; unfold badC badL; first | (simp only [*, Bool.or_true, Bool.true_or, Bool.true_and, Bool.and_true, Bool.and_self]; done) | simp_all })]; done)) hsim
          ·
           rcases bd ((cs.getD i.toNat noCa).to != (-1 : Int)) with hb8 | hb8
           ·
            rcases bd (decide ((cs.getD i.toNat noCa).to < (cs.getD i.toNat noCa).fr)) with hb9 | hb9
            ·
             exact gr B0_ok Tryd.func40 (sr' := ⟨0, [vI i], []⟩) (cs := [_, ((0 : Int) ≤ i ∧ i < (↑cs.length : Int)), _, _, _, _, _, _, _, _]) ([true] ++ (List.replicate 6 false) ++ [true, true]) true ⟨hb1, by omega, hb2, hb3, hb4, hb5, hb6, hb7, hb8, hb9, trivial⟩ (by (rw [if_pos (by { clear hsim ih hr; (try dsimp only at *); generalize cs.getD i.toNat noCa = c at *; unfold badC badL; first | (simp only [*, Bool.or_true, Bool.true_or, Bool.true_and, Bool.and_true, Bool.and_self]; done) | simp_all })]; done)) hsim
            ·
             rcases bd ((cs.getD i.toNat noCa).to == (-1 : Int)) with hb10 | hb10
             ·
              rcases bd (!eqcs [Value.int IntKind.i64 (cs.getD i.toNat noCa).a.fst, Value.string (cs.getD i.toNat noCa).a.snd] [Value.int IntKind.i64 (0 : Int), Value.string (ByteArray.mk #[])]) with hb11 | hb11
              ·
               exact gr B0_ok Tryd.func40 (sr' := ⟨0, [vI i], []⟩) (cs := [_, ((0 : Int) ≤ i ∧ i < (↑cs.length : Int)), _, _, _, _, _, _, _, _, _, _]) ([true] ++ (List.replicate 6 false) ++ [true, false, true, true]) true ⟨hb1, by omega, hb2, hb3, hb4, hb5, hb6, hb7, hb8, hb9, hb10, hb11, trivial⟩ (by (rw [if_pos (by { clear hsim ih hr; (try dsimp only at *); generalize cs.getD i.toNat noCa = c at *; unfold badC badL; first | (simp only [*, Bool.or_true, Bool.true_or, Bool.true_and, Bool.and_true, Bool.and_self]; done) | simp_all })]; done)) hsim
              ·
               rcases bd ((MapD.mk (3 : Nat) (fun d => hasC L d) (fun d => caD (getC L d)) (lenC L)).has (D.raw (Value.int IntKind.i64 (cs.getD i.toNat noCa).cl))) with hb12 | hb12
               ·
                rcases bd (decide ((getC L (D.raw (Value.int IntKind.i64 (cs.getD i.toNat noCa).cl))).n ≥ (cs.getD i.toNat noCa).n)) with hb13 | hb13
                ·
                 exact gr B0_ok Tryd.func40 (sr' := ⟨0, [vI i], []⟩) (cs := [_, ((0 : Int) ≤ i ∧ i < (↑cs.length : Int)), _, _, _, _, _, _, _, _, _, _, _, _]) ([true] ++ (List.replicate 6 false) ++ [true, false, true, false, true, true]) true ⟨hb1, by omega, hb2, hb3, hb4, hb5, hb6, hb7, hb8, hb9, hb10, hb11, hb12, hb13, trivial⟩ (by (rw [if_pos (by { clear hsim ih hr; (try dsimp only at *); generalize cs.getD i.toNat noCa = c at *; unfold badC badL; first | (simp only [*, Bool.or_true, Bool.true_or, Bool.true_and, Bool.and_true, Bool.and_self]; done) | simp_all })]; done)) hsim
                ·
                 rcases bd ((getC L (D.raw (Value.int IntKind.i64 (cs.getD i.toNat noCa).cl))).to == (-1 : Int)) with hb14 | hb14
                 ·
                  exact gr B0_ok Tryd.func40 (sr' := ⟨0, [vI i], []⟩) (cs := [_, ((0 : Int) ≤ i ∧ i < (↑cs.length : Int)), _, _, _, _, _, _, _, _, _, _, _, _, _]) ([true] ++ (List.replicate 6 false) ++ [true, false, true, false, true, false, true]) true ⟨hb1, by omega, hb2, hb3, hb4, hb5, hb6, hb7, hb8, hb9, hb10, hb11, hb12, hb13, hb14, trivial⟩ (by (rw [if_pos (by { clear hsim ih hr; (try dsimp only at *); generalize cs.getD i.toNat noCa = c at *; unfold badC badL; first | (simp only [*, Bool.or_true, Bool.true_or, Bool.true_and, Bool.and_true, Bool.and_self]; done) | simp_all })]; done)) hsim
                 ·
                  rcases bd (decide ((getC L (D.raw (Value.int IntKind.i64 (cs.getD i.toNat noCa).cl))).to > (cs.getD i.toNat noCa).fr)) with hb15 | hb15
                  ·
                   exact gr B0_ok Tryd.func40 (sr' := ⟨0, [vI i], []⟩) (cs := [_, ((0 : Int) ≤ i ∧ i < (↑cs.length : Int)), _, _, _, _, _, _, _, _, _, _, _, _, _, _]) ([true] ++ (List.replicate 6 false) ++ [true, false, true, false, true, false, false, true]) true ⟨hb1, by omega, hb2, hb3, hb4, hb5, hb6, hb7, hb8, hb9, hb10, hb11, hb12, hb13, hb14, hb15, trivial⟩ (by (rw [if_pos (by { clear hsim ih hr; (try dsimp only at *); generalize cs.getD i.toNat noCa = c at *; unfold badC badL; first | (simp only [*, Bool.or_true, Bool.true_or, Bool.true_and, Bool.and_true, Bool.and_self]; done) | simp_all })]; done)) hsim
                  ·
                   refine gh B0_ok (k' := loopAt Tryd.f40 0) (s' := let za := cs.getD i.toNat noCa; mk 0 102 [(3, .mp 0), (9, .d (.list 10 cs.length (caEl cs))), (10, vI n), (11, vI (IntKind.i64.wrap (i + 1)))] [(0, .mp ⟨3, fun x => keyEq x (rI za.cl) || (MapD.mk 3 (fun d => hasC L d) (fun d => caD (getC L d)) (lenC L)).has x, fun x =>   match keyEq x (rI za.cl) with   | true => D.agg [rI za.cl, rI za.n, rI za.o.fst, rS za.o.snd.fst, rS za.o.snd.snd.fst, rS za.o.snd.snd.snd, rI za.fr, rI za.to, rI za.a.fst, rS za.a.snd]   | false => (MapD.mk 3 (fun d => hasC L d) (fun d => caD (getC L d)) (lenC L)).val x, (match (MapD.mk 3 (fun d => hasC L d) (fun d => caD (getC L d)) (lenC L)).has (rI za.cl) with | true => (MapD.mk 3 (fun d => hasC L d) (fun d => caD (getC L d)) (lenC L)).n | false => (MapD.mk 3 (fun d => hasC L d) (fun d => caD (getC L d)) (lenC L)).n + 1)⟩)]) (cs := [_, ((0 : Int) ≤ i ∧ i < (↑cs.length : Int)), _, _, _, _, _, _, _, _, _, _, _, _, _, _]) ([true] ++ (List.replicate 6 false) ++ [true, false, true, false, true, false, false, false]) [3,9,10,11] ⟨hb1, by omega, hb2, hb3, hb4, hb5, hb6, hb7, hb8, hb9, hb10, hb11, hb12, hb13, hb14, hb15, trivial⟩ hsim fun E a w hsim => ?_
                   have e1 : (badC (cs.getD i.toNat noCa) || badL L (cs.getD i.toNat noCa)) = false := by { clear hsim ih hr; (try dsimp only at *); generalize cs.getD i.toNat noCa = c at *; unfold badC badL; simp_all }
                   rw [if_neg (by rw [e1]; decide)]
                   have h2 : Sim _ E (fm1M ((lastMp L).put (.raw (.int .i64 (cs.getD i.toNat noCa).cl)) (caD (cs.getD i.toNat noCa))) cs n (IntKind.i64.wrap (i + 1))) a w := hsim
                   rw [lastMp_put] at h2
                   exact ih E a w h2
               ·
                refine gh B0_ok (k' := loopAt Tryd.f40 0) (s' := let za := cs.getD i.toNat noCa; mk 0 102 [(3, .mp 0), (9, .d (.list 10 cs.length (caEl cs))), (10, vI n), (11, vI (IntKind.i64.wrap (i + 1)))] [(0, .mp ⟨3, fun x => keyEq x (rI za.cl) || (MapD.mk 3 (fun d => hasC L d) (fun d => caD (getC L d)) (lenC L)).has x, fun x =>   match keyEq x (rI za.cl) with   | true => D.agg [rI za.cl, rI za.n, rI za.o.fst, rS za.o.snd.fst, rS za.o.snd.snd.fst, rS za.o.snd.snd.snd, rI za.fr, rI za.to, rI za.a.fst, rS za.a.snd]   | false => (MapD.mk 3 (fun d => hasC L d) (fun d => caD (getC L d)) (lenC L)).val x, (match (MapD.mk 3 (fun d => hasC L d) (fun d => caD (getC L d)) (lenC L)).has (rI za.cl) with | true => (MapD.mk 3 (fun d => hasC L d) (fun d => caD (getC L d)) (lenC L)).n | false => (MapD.mk 3 (fun d => hasC L d) (fun d => caD (getC L d)) (lenC L)).n + 1)⟩)]) (cs := [_, ((0 : Int) ≤ i ∧ i < (↑cs.length : Int)), _, _, _, _, _, _, _, _, _, _, _]) ([true] ++ (List.replicate 6 false) ++ [true, false, true, false, false]) [3,9,10,11] ⟨hb1, by omega, hb2, hb3, hb4, hb5, hb6, hb7, hb8, hb9, hb10, hb11, hb12, trivial⟩ hsim fun E a w hsim => ?_
                have e1 : (badC (cs.getD i.toNat noCa) || badL L (cs.getD i.toNat noCa)) = false := by { clear hsim ih hr; (try dsimp only at *); generalize cs.getD i.toNat noCa = c at *; unfold badC badL; simp_all }
                rw [if_neg (by rw [e1]; decide)]
                have h2 : Sim _ E (fm1M ((lastMp L).put (.raw (.int .i64 (cs.getD i.toNat noCa).cl)) (caD (cs.getD i.toNat noCa))) cs n (IntKind.i64.wrap (i + 1))) a w := hsim
                rw [lastMp_put] at h2
                exact ih E a w h2
             ·
              rcases bd ((MapD.mk (3 : Nat) (fun d => hasC L d) (fun d => caD (getC L d)) (lenC L)).has (D.raw (Value.int IntKind.i64 (cs.getD i.toNat noCa).cl))) with hb16 | hb16
              ·
               rcases bd (decide ((getC L (D.raw (Value.int IntKind.i64 (cs.getD i.toNat noCa).cl))).n ≥ (cs.getD i.toNat noCa).n)) with hb17 | hb17
               ·
                exact gr B0_ok Tryd.func40 (sr' := ⟨0, [vI i], []⟩) (cs := [_, ((0 : Int) ≤ i ∧ i < (↑cs.length : Int)), _, _, _, _, _, _, _, _, _, _, _]) ([true] ++ (List.replicate 6 false) ++ [true, false, false, true, true]) true ⟨hb1, by omega, hb2, hb3, hb4, hb5, hb6, hb7, hb8, hb9, hb10, hb16, hb17, trivial⟩ (by (rw [if_pos (by { clear hsim ih hr; (try dsimp only at *); generalize cs.getD i.toNat noCa = c at *; unfold badC badL; first | (simp only [*, Bool.or_true, Bool.true_or, Bool.true_and, Bool.and_true, Bool.and_self]; done) | simp_all })]; done)) hsim
               ·
                rcases bd ((getC L (D.raw (Value.int IntKind.i64 (cs.getD i.toNat noCa).cl))).to == (-1 : Int)) with hb18 | hb18
                ·
                 exact gr B0_ok Tryd.func40 (sr' := ⟨0, [vI i], []⟩) (cs := [_, ((0 : Int) ≤ i ∧ i < (↑cs.length : Int)), _, _, _, _, _, _, _, _, _, _, _, _]) ([true] ++ (List.replicate 6 false) ++ [true, false, false, true, false, true]) true ⟨hb1, by omega, hb2, hb3, hb4, hb5, hb6, hb7, hb8, hb9, hb10, hb16, hb17, hb18, trivial⟩ (by (rw [if_pos (by { clear hsim ih hr; (try dsimp only at *); generalize cs.getD i.toNat noCa = c at *; unfold badC badL; first | (simp only [*, Bool.or_true, Bool.true_or, Bool.true_and, Bool.and_true, Bool.and_self]; done) | simp_all })]; done)) hsim
                ·
                 rcases bd (decide ((getC L (D.raw (Value.int IntKind.i64 (cs.getD i.toNat noCa).cl))).to > (cs.getD i.toNat noCa).fr)) with hb19 | hb19
                 ·
                  exact gr B0_ok Tryd.func40 (sr' := ⟨0, [vI i], []⟩) (cs := [_, ((0 : Int) ≤ i ∧ i < (↑cs.length : Int)), _, _, _, _, _, _, _, _, _, _, _, _, _]) ([true] ++ (List.replicate 6 false) ++ [true, false, false, true, false, false, true]) true ⟨hb1, by omega, hb2, hb3, hb4, hb5, hb6, hb7, hb8, hb9, hb10, hb16, hb17, hb18, hb19, trivial⟩ (by (rw [if_pos (by { clear hsim ih hr; (try dsimp only at *); generalize cs.getD i.toNat noCa = c at *; unfold badC badL; first | (simp only [*, Bool.or_true, Bool.true_or, Bool.true_and, Bool.and_true, Bool.and_self]; done) | simp_all })]; done)) hsim
                 ·
                  refine gh B0_ok (k' := loopAt Tryd.f40 0) (s' := let za := cs.getD i.toNat noCa; mk 0 102 [(3, .mp 0), (9, .d (.list 10 cs.length (caEl cs))), (10, vI n), (11, vI (IntKind.i64.wrap (i + 1)))] [(0, .mp ⟨3, fun x => keyEq x (rI za.cl) || (MapD.mk 3 (fun d => hasC L d) (fun d => caD (getC L d)) (lenC L)).has x, fun x =>   match keyEq x (rI za.cl) with   | true => D.agg [rI za.cl, rI za.n, rI za.o.fst, rS za.o.snd.fst, rS za.o.snd.snd.fst, rS za.o.snd.snd.snd, rI za.fr, rI za.to, rI za.a.fst, rS za.a.snd]   | false => (MapD.mk 3 (fun d => hasC L d) (fun d => caD (getC L d)) (lenC L)).val x, (match (MapD.mk 3 (fun d => hasC L d) (fun d => caD (getC L d)) (lenC L)).has (rI za.cl) with | true => (MapD.mk 3 (fun d => hasC L d) (fun d => caD (getC L d)) (lenC L)).n | false => (MapD.mk 3 (fun d => hasC L d) (fun d => caD (getC L d)) (lenC L)).n + 1)⟩)]) (cs := [_, ((0 : Int) ≤ i ∧ i < (↑cs.length : Int)), _, _, _, _, _, _, _, _, _, _, _, _, _]) ([true] ++ (List.replicate 6 false) ++ [true, false, false, true, false, false, false]) [3,9,10,11] ⟨hb1, by omega, hb2, hb3, hb4, hb5, hb6, hb7, hb8, hb9, hb10, hb16, hb17, hb18, hb19, trivial⟩ hsim fun E a w hsim => ?_
                  have e1 : (badC (cs.getD i.toNat noCa) || badL L (cs.getD i.toNat noCa)) = false := by { clear hsim ih hr; (try dsimp only at *); generalize cs.getD i.toNat noCa = c at *; unfold badC badL; simp_all }
                  rw [if_neg (by rw [e1]; decide)]
                  have h2 : Sim _ E (fm1M ((lastMp L).put (.raw (.int .i64 (cs.getD i.toNat noCa).cl)) (caD (cs.getD i.toNat noCa))) cs n (IntKind.i64.wrap (i + 1))) a w := hsim
                  rw [lastMp_put] at h2
                  exact ih E a w h2
              ·
               refine gh B0_ok (k' := loopAt Tryd.f40 0) (s' := let za := cs.getD i.toNat noCa; mk 0 102 [(3, .mp 0), (9, .d (.list 10 cs.length (caEl cs))), (10, vI n), (11, vI (IntKind.i64.wrap (i + 1)))] [(0, .mp ⟨3, fun x => keyEq x (rI za.cl) || (MapD.mk 3 (fun d => hasC L d) (fun d => caD (getC L d)) (lenC L)).has x, fun x =>   match keyEq x (rI za.cl) with   | true => D.agg [rI za.cl, rI za.n, rI za.o.fst, rS za.o.snd.fst, rS za.o.snd.snd.fst, rS za.o.snd.snd.snd, rI za.fr, rI za.to, rI za.a.fst, rS za.a.snd]   | false => (MapD.mk 3 (fun d => hasC L d) (fun d => caD (getC L d)) (lenC L)).val x, (match (MapD.mk 3 (fun d => hasC L d) (fun d => caD (getC L d)) (lenC L)).has (rI za.cl) with | true => (MapD.mk 3 (fun d => hasC L d) (fun d => caD (getC L d)) (lenC L)).n | false => (MapD.mk 3 (fun d => hasC L d) (fun d => caD (getC L d)) (lenC L)).n + 1)⟩)]) (cs := [_, ((0 : Int) ≤ i ∧ i < (↑cs.length : Int)), _, _, _, _, _, _, _, _, _, _]) ([true] ++ (List.replicate 6 false) ++ [true, false, false, false]) [3,9,10,11] ⟨hb1, by omega, hb2, hb3, hb4, hb5, hb6, hb7, hb8, hb9, hb10, hb16, trivial⟩ hsim fun E a w hsim => ?_
               have e1 : (badC (cs.getD i.toNat noCa) || badL L (cs.getD i.toNat noCa)) = false := by { clear hsim ih hr; (try dsimp only at *); generalize cs.getD i.toNat noCa = c at *; unfold badC badL; simp_all }
               rw [if_neg (by rw [e1]; decide)]
               have h2 : Sim _ E (fm1M ((lastMp L).put (.raw (.int .i64 (cs.getD i.toNat noCa).cl)) (caD (cs.getD i.toNat noCa))) cs n (IntKind.i64.wrap (i + 1))) a w := hsim
               rw [lastMp_put] at h2
               exact ih E a w h2
           ·
            rcases bd ((cs.getD i.toNat noCa).to == (-1 : Int)) with hb20 | hb20
            ·
             rcases bd (!eqcs [Value.int IntKind.i64 (cs.getD i.toNat noCa).a.fst, Value.string (cs.getD i.toNat noCa).a.snd] [Value.int IntKind.i64 (0 : Int), Value.string (ByteArray.mk #[])]) with hb21 | hb21
             ·
              exact gr B0_ok Tryd.func40 (sr' := ⟨0, [vI i], []⟩) (cs := [_, ((0 : Int) ≤ i ∧ i < (↑cs.length : Int)), _, _, _, _, _, _, _, _, _]) ([true] ++ (List.replicate 7 false) ++ [true, true]) true ⟨hb1, by omega, hb2, hb3, hb4, hb5, hb6, hb7, hb8, hb20, hb21, trivial⟩ (by (rw [if_pos (by { clear hsim ih hr; (try dsimp only at *); generalize cs.getD i.toNat noCa = c at *; unfold badC badL; first | (simp only [*, Bool.or_true, Bool.true_or, Bool.true_and, Bool.and_true, Bool.and_self]; done) | simp_all })]; done)) hsim
             ·
              rcases bd ((MapD.mk (3 : Nat) (fun d => hasC L d) (fun d => caD (getC L d)) (lenC L)).has (D.raw (Value.int IntKind.i64 (cs.getD i.toNat noCa).cl))) with hb22 | hb22
              ·
               rcases bd (decide ((getC L (D.raw (Value.int IntKind.i64 (cs.getD i.toNat noCa).cl))).n ≥ (cs.getD i.toNat noCa).n)) with hb23 | hb23
               ·
                exact gr B0_ok Tryd.func40 (sr' := ⟨0, [vI i], []⟩) (cs := [_, ((0 : Int) ≤ i ∧ i < (↑cs.length : Int)), _, _, _, _, _, _, _, _, _, _, _]) ([true] ++ (List.replicate 7 false) ++ [true, false, true, true]) true ⟨hb1, by omega, hb2, hb3, hb4, hb5, hb6, hb7, hb8, hb20, hb21, hb22, hb23, trivial⟩ (by (rw [if_pos (by { clear hsim ih hr; (try dsimp only at *); generalize cs.getD i.toNat noCa = c at *; unfold badC badL; first | (simp only [*, Bool.or_true, Bool.true_or, Bool.true_and, Bool.and_true, Bool.and_self]; done) | simp_all })]; done)) hsim
               ·
                rcases bd ((getC L (D.raw (Value.int IntKind.i64 (cs.getD i.toNat noCa).cl))).to == (-1 : Int)) with hb24 | hb24
                ·
                 exact gr B0_ok Tryd.func40 (sr' := ⟨0, [vI i], []⟩) (cs := [_, ((0 : Int) ≤ i ∧ i < (↑cs.length : Int)), _, _, _, _, _, _, _, _, _, _, _, _]) ([true] ++ (List.replicate 7 false) ++ [true, false, true, false, true]) true ⟨hb1, by omega, hb2, hb3, hb4, hb5, hb6, hb7, hb8, hb20, hb21, hb22, hb23, hb24, trivial⟩ (by (rw [if_pos (by { clear hsim ih hr; (try dsimp only at *); generalize cs.getD i.toNat noCa = c at *; unfold badC badL; first | (simp only [*, Bool.or_true, Bool.true_or, Bool.true_and, Bool.and_true, Bool.and_self]; done) | simp_all })]; done)) hsim
                ·
                 rcases bd (decide ((getC L (D.raw (Value.int IntKind.i64 (cs.getD i.toNat noCa).cl))).to > (cs.getD i.toNat noCa).fr)) with hb25 | hb25
                 ·
                  exact gr B0_ok Tryd.func40 (sr' := ⟨0, [vI i], []⟩) (cs := [_, ((0 : Int) ≤ i ∧ i < (↑cs.length : Int)), _, _, _, _, _, _, _, _, _, _, _, _, _]) ([true] ++ (List.replicate 7 false) ++ [true, false, true, false, false, true]) true ⟨hb1, by omega, hb2, hb3, hb4, hb5, hb6, hb7, hb8, hb20, hb21, hb22, hb23, hb24, hb25, trivial⟩ (by (rw [if_pos (by { clear hsim ih hr; (try dsimp only at *); generalize cs.getD i.toNat noCa = c at *; unfold badC badL; first | (simp only [*, Bool.or_true, Bool.true_or, Bool.true_and, Bool.and_true, Bool.and_self]; done) | simp_all })]; done)) hsim
                 ·
                  refine gh B0_ok (k' := loopAt Tryd.f40 0) (s' := let za := cs.getD i.toNat noCa; mk 0 102 [(3, .mp 0), (9, .d (.list 10 cs.length (caEl cs))), (10, vI n), (11, vI (IntKind.i64.wrap (i + 1)))] [(0, .mp ⟨3, fun x => keyEq x (rI za.cl) || (MapD.mk 3 (fun d => hasC L d) (fun d => caD (getC L d)) (lenC L)).has x, fun x =>   match keyEq x (rI za.cl) with   | true => D.agg [rI za.cl, rI za.n, rI za.o.fst, rS za.o.snd.fst, rS za.o.snd.snd.fst, rS za.o.snd.snd.snd, rI za.fr, rI za.to, rI za.a.fst, rS za.a.snd]   | false => (MapD.mk 3 (fun d => hasC L d) (fun d => caD (getC L d)) (lenC L)).val x, (match (MapD.mk 3 (fun d => hasC L d) (fun d => caD (getC L d)) (lenC L)).has (rI za.cl) with | true => (MapD.mk 3 (fun d => hasC L d) (fun d => caD (getC L d)) (lenC L)).n | false => (MapD.mk 3 (fun d => hasC L d) (fun d => caD (getC L d)) (lenC L)).n + 1)⟩)]) (cs := [_, ((0 : Int) ≤ i ∧ i < (↑cs.length : Int)), _, _, _, _, _, _, _, _, _, _, _, _, _]) ([true] ++ (List.replicate 7 false) ++ [true, false, true, false, false, false]) [3,9,10,11] ⟨hb1, by omega, hb2, hb3, hb4, hb5, hb6, hb7, hb8, hb20, hb21, hb22, hb23, hb24, hb25, trivial⟩ hsim fun E a w hsim => ?_
                  have e1 : (badC (cs.getD i.toNat noCa) || badL L (cs.getD i.toNat noCa)) = false := by { clear hsim ih hr; (try dsimp only at *); generalize cs.getD i.toNat noCa = c at *; unfold badC badL; simp_all }
                  rw [if_neg (by rw [e1]; decide)]
                  have h2 : Sim _ E (fm1M ((lastMp L).put (.raw (.int .i64 (cs.getD i.toNat noCa).cl)) (caD (cs.getD i.toNat noCa))) cs n (IntKind.i64.wrap (i + 1))) a w := hsim
                  rw [lastMp_put] at h2
                  exact ih E a w h2
              ·
               refine gh B0_ok (k' := loopAt Tryd.f40 0) (s' := let za := cs.getD i.toNat noCa; mk 0 102 [(3, .mp 0), (9, .d (.list 10 cs.length (caEl cs))), (10, vI n), (11, vI (IntKind.i64.wrap (i + 1)))] [(0, .mp ⟨3, fun x => keyEq x (rI za.cl) || (MapD.mk 3 (fun d => hasC L d) (fun d => caD (getC L d)) (lenC L)).has x, fun x =>   match keyEq x (rI za.cl) with   | true => D.agg [rI za.cl, rI za.n, rI za.o.fst, rS za.o.snd.fst, rS za.o.snd.snd.fst, rS za.o.snd.snd.snd, rI za.fr, rI za.to, rI za.a.fst, rS za.a.snd]   | false => (MapD.mk 3 (fun d => hasC L d) (fun d => caD (getC L d)) (lenC L)).val x, (match (MapD.mk 3 (fun d => hasC L d) (fun d => caD (getC L d)) (lenC L)).has (rI za.cl) with | true => (MapD.mk 3 (fun d => hasC L d) (fun d => caD (getC L d)) (lenC L)).n | false => (MapD.mk 3 (fun d => hasC L d) (fun d => caD (getC L d)) (lenC L)).n + 1)⟩)]) (cs := [_, ((0 : Int) ≤ i ∧ i < (↑cs.length : Int)), _, _, _, _, _, _, _, _, _, _]) ([true] ++ (List.replicate 7 false) ++ [true, false, false]) [3,9,10,11] ⟨hb1, by omega, hb2, hb3, hb4, hb5, hb6, hb7, hb8, hb20, hb21, hb22, trivial⟩ hsim fun E a w hsim => ?_
               have e1 : (badC (cs.getD i.toNat noCa) || badL L (cs.getD i.toNat noCa)) = false := by { clear hsim ih hr; (try dsimp only at *); generalize cs.getD i.toNat noCa = c at *; unfold badC badL; simp_all }
               rw [if_neg (by rw [e1]; decide)]
               have h2 : Sim _ E (fm1M ((lastMp L).put (.raw (.int .i64 (cs.getD i.toNat noCa).cl)) (caD (cs.getD i.toNat noCa))) cs n (IntKind.i64.wrap (i + 1))) a w := hsim
               rw [lastMp_put] at h2
               exact ih E a w h2
            ·
             rcases bd ((MapD.mk (3 : Nat) (fun d => hasC L d) (fun d => caD (getC L d)) (lenC L)).has (D.raw (Value.int IntKind.i64 (cs.getD i.toNat noCa).cl))) with hb26 | hb26
             ·
              rcases bd (decide ((getC L (D.raw (Value.int IntKind.i64 (cs.getD i.toNat noCa).cl))).n ≥ (cs.getD i.toNat noCa).n)) with hb27 | hb27
              ·
               exact gr B0_ok Tryd.func40 (sr' := ⟨0, [vI i], []⟩) (cs := [_, ((0 : Int) ≤ i ∧ i < (↑cs.length : Int)), _, _, _, _, _, _, _, _, _, _]) ([true] ++ (List.replicate 8 false) ++ [true, true]) true ⟨hb1, by omega, hb2, hb3, hb4, hb5, hb6, hb7, hb8, hb20, hb26, hb27, trivial⟩ (by (rw [if_pos (by { clear hsim ih hr; (try dsimp only at *); generalize cs.getD i.toNat noCa = c at *; unfold badC badL; first | (simp only [*, Bool.or_true, Bool.true_or, Bool.true_and, Bool.and_true, Bool.and_self]; done) | simp_all })]; done)) hsim
              ·
               rcases bd ((getC L (D.raw (Value.int IntKind.i64 (cs.getD i.toNat noCa).cl))).to == (-1 : Int)) with hb28 | hb28
               ·
                exact gr B0_ok Tryd.func40 (sr' := ⟨0, [vI i], []⟩) (cs := [_, ((0 : Int) ≤ i ∧ i < (↑cs.length : Int)), _, _, _, _, _, _, _, _, _, _, _]) ([true] ++ (List.replicate 8 false) ++ [true, false, true]) true ⟨hb1, by omega, hb2, hb3, hb4, hb5, hb6, hb7, hb8, hb20, hb26, hb27, hb28, trivial⟩ (by (rw [if_pos (by { clear hsim ih hr; (try dsimp only at *); generalize cs.getD i.toNat noCa = c at *; unfold badC badL; first | (simp only [*, Bool.or_true, Bool.true_or, Bool.true_and, Bool.and_true, Bool.and_self]; done) | simp_all })]; done)) hsim
               ·
                rcases bd (decide ((getC L (D.raw (Value.int IntKind.i64 (cs.getD i.toNat noCa).cl))).to > (cs.getD i.toNat noCa).fr)) with hb29 | hb29
                ·
                 exact gr B0_ok Tryd.func40 (sr' := ⟨0, [vI i], []⟩) (cs := [_, ((0 : Int) ≤ i ∧ i < (↑cs.length : Int)), _, _, _, _, _, _, _, _, _, _, _, _]) ([true] ++ (List.replicate 8 false) ++ [true, false, false, true]) true ⟨hb1, by omega, hb2, hb3, hb4, hb5, hb6, hb7, hb8, hb20, hb26, hb27, hb28, hb29, trivial⟩ (by (rw [if_pos (by { clear hsim ih hr; (try dsimp only at *); generalize cs.getD i.toNat noCa = c at *; unfold badC badL; first | (simp only [*, Bool.or_true, Bool.true_or, Bool.true_and, Bool.and_true, Bool.and_self]; done) | simp_all })]; done)) hsim
                ·
                 refine gh B0_ok (k' := loopAt Tryd.f40 0) (s' := let za := cs.getD i.toNat noCa; mk 0 102 [(3, .mp 0), (9, .d (.list 10 cs.length (caEl cs))), (10, vI n), (11, vI (IntKind.i64.wrap (i + 1)))] [(0, .mp ⟨3, fun x => keyEq x (rI za.cl) || (MapD.mk 3 (fun d => hasC L d) (fun d => caD (getC L d)) (lenC L)).has x, fun x =>   match keyEq x (rI za.cl) with   | true => D.agg [rI za.cl, rI za.n, rI za.o.fst, rS za.o.snd.fst, rS za.o.snd.snd.fst, rS za.o.snd.snd.snd, rI za.fr, rI za.to, rI za.a.fst, rS za.a.snd]   | false => (MapD.mk 3 (fun d => hasC L d) (fun d => caD (getC L d)) (lenC L)).val x, (match (MapD.mk 3 (fun d => hasC L d) (fun d => caD (getC L d)) (lenC L)).has (rI za.cl) with | true => (MapD.mk 3 (fun d => hasC L d) (fun d => caD (getC L d)) (lenC L)).n | false => (MapD.mk 3 (fun d => hasC L d) (fun d => caD (getC L d)) (lenC L)).n + 1)⟩)]) (cs := [_, ((0 : Int) ≤ i ∧ i < (↑cs.length : Int)), _, _, _, _, _, _, _, _, _, _, _, _]) ([true] ++ (List.replicate 8 false) ++ [true, false, false, false]) [3,9,10,11] ⟨hb1, by omega, hb2, hb3, hb4, hb5, hb6, hb7, hb8, hb20, hb26, hb27, hb28, hb29, trivial⟩ hsim fun E a w hsim => ?_
                 have e1 : (badC (cs.getD i.toNat noCa) || badL L (cs.getD i.toNat noCa)) = false := by { clear hsim ih hr; (try dsimp only at *); generalize cs.getD i.toNat noCa = c at *; unfold badC badL; simp_all }
                 rw [if_neg (by rw [e1]; decide)]
                 have h2 : Sim _ E (fm1M ((lastMp L).put (.raw (.int .i64 (cs.getD i.toNat noCa).cl)) (caD (cs.getD i.toNat noCa))) cs n (IntKind.i64.wrap (i + 1))) a w := hsim
                 rw [lastMp_put] at h2
                 exact ih E a w h2
             ·
              refine gh B0_ok (k' := loopAt Tryd.f40 0) (s' := let za := cs.getD i.toNat noCa; mk 0 102 [(3, .mp 0), (9, .d (.list 10 cs.length (caEl cs))), (10, vI n), (11, vI (IntKind.i64.wrap (i + 1)))] [(0, .mp ⟨3, fun x => keyEq x (rI za.cl) || (MapD.mk 3 (fun d => hasC L d) (fun d => caD (getC L d)) (lenC L)).has x, fun x =>   match keyEq x (rI za.cl) with   | true => D.agg [rI za.cl, rI za.n, rI za.o.fst, rS za.o.snd.fst, rS za.o.snd.snd.fst, rS za.o.snd.snd.snd, rI za.fr, rI za.to, rI za.a.fst, rS za.a.snd]   | false => (MapD.mk 3 (fun d => hasC L d) (fun d => caD (getC L d)) (lenC L)).val x, (match (MapD.mk 3 (fun d => hasC L d) (fun d => caD (getC L d)) (lenC L)).has (rI za.cl) with | true => (MapD.mk 3 (fun d => hasC L d) (fun d => caD (getC L d)) (lenC L)).n | false => (MapD.mk 3 (fun d => hasC L d) (fun d => caD (getC L d)) (lenC L)).n + 1)⟩)]) (cs := [_, ((0 : Int) ≤ i ∧ i < (↑cs.length : Int)), _, _, _, _, _, _, _, _, _]) ([true] ++ (List.replicate 9 false)) [3,9,10,11] ⟨hb1, by omega, hb2, hb3, hb4, hb5, hb6, hb7, hb8, hb20, hb26, trivial⟩ hsim fun E a w hsim => ?_
              have e1 : (badC (cs.getD i.toNat noCa) || badL L (cs.getD i.toNat noCa)) = false := by { clear hsim ih hr; (try dsimp only at *); generalize cs.getD i.toNat noCa = c at *; unfold badC badL; simp_all }
              rw [if_neg (by rw [e1]; decide)]
              have h2 : Sim _ E (fm1M ((lastMp L).put (.raw (.int .i64 (cs.getD i.toNat noCa).cl)) (caD (cs.getD i.toNat noCa))) cs n (IntKind.i64.wrap (i + 1))) a w := hsim
              rw [lastMp_put] at h2
              exact ih E a w h2
    ·
     exact absurd (of_decide_eq_false hb1) (by omega)
theorem formed_ok (cs : List Ca) (hl : cs.length ≤ 1099511627776) : Eng.Spec Tryd.prog (fun _ => none) 40 [.d (.list 10 cs.length (caEl cs))] [] (.d (.raw (.int .i64 (fmF [] cs 0)))) [] := by
  refine spec_fn Tryd.func40 rfl fun {w N E act} hsim => ?_
  refine gh B0_ok (k' := loopAt Tryd.f40 0) (s' := mk 0 102 [(3, .mp 0), (9, .d (.list 10 cs.length (caEl cs))), (10, vI (↑cs.length : Int)), (11, vI 0)] [(0, .mp ⟨3, fun x => false, fun x => default, 0⟩)]) (cs := []) [] [3,9,10,11] trivial hsim fun E a w hsim => ?_
  obtain ⟨E2, h1⟩ := hsim.mapEq (k := 0) rfl (lastMp []) rfl rfl (fun _ => rfl) (fun _ h => by cases h)
  exact fm_go cs hl cs.length (cs.length : Int) 0 rfl (by omega) (by omega) [] E2 a w h1
end Go.Prf
