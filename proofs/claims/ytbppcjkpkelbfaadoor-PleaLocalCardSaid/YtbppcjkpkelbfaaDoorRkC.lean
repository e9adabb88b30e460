/-
  Contracts of given functions, plain laws. No condition.
-/
import Derived.Test.YtbppcjkpkelbfaaDoorRkA
import Derived.Test.YtbppcjkpkelbfaaDoorRmT
namespace Go.Prf
open Go Go.Eng Go.Proofs Go.Tab Go.Plc
set_option maxRecDepth 100000
set_option maxHeartbeats 4000000
theorem J2_ok (cs : List Ca) (ps : List Pt) (Q Q' : T4) (r1 r2 : Bool) (f e : Int) (v : ByteArray) : OrcOK Tryd.prog (J2 cs ps Q Q' r1 r2 f e v) := ((((OrcOK.none _).add _ false (mFind cs f) fun args H r H' cs' h hc => Spec.glAny (mFind_ok cs f args H r H' cs' h hc)).add _ false (mOne cs r1) fun args H ret H' c h hc => by
 unfold mOne at h
 split at h
 · cases h; obtain ⟨rfl, rfl, rfl, ⟨hl, h0, hi, rfl⟩, -⟩ := hc; exact Spec.glAny (one_ok cs _ hl h0 hi)
 · cases h).add _ false (mTwo cs ps r2) fun args H ret H' c h hc => by
 unfold mTwo at h
 split at h
 · cases h; obtain ⟨rfl, rfl, rfl, rfl, rfl, rfl, ⟨hl, hl2, h0, hi, rfl⟩, -⟩ := hc; exact Spec.glAny (two_ok cs ps _ hl hl2 h0 hi)
 · cases h).add _ false (mTellR Q Q' e v) fun args H r H' cs h hc => by
 unfold mTellR at h
 split at h
 ·
  rename_i k key val old _ _ _ _ _ _ _ _ _ _ _ _ _
  cases h; obtain ⟨hm, rfl, rfl, rfl, rfl, rfl, rfl, rfl, rfl, ⟨⟨T, hR, ht⟩, rfl, hk⟩, -⟩ := hc
  simp only [Bool.and_eq_true, beq_iff_eq] at hm
  obtain ⟨⟨⟨⟨rfl, rfl⟩, rfl⟩, rfl⟩, rfl⟩ := hm
  have h1 := rtell_ok hR (k, key, val, old) hk
  rw [← ht] at h1
  exact h1
 · cases h
abbrev GoK1 (w0 : World) (N : Nat → Prop) (E0 : Env) (s : St) (r : Int × Int × Int) : Prop := GoG Tryd.prog gB 20 (loopAt Tryd.f20 0) [] ⟨0, [.tup [.d (.agg [.raw (.int .i64 r.1), .raw (.int .i64 r.2.1)]), .d (.raw (.int .i64 r.2.2))]], []⟩ w0 N E0 s
abbrev GoK2 (w0 : World) (N : Nat → Prop) (E0 : Env) (s : St) (r : Int × Int × Int) : Prop := GoG Tryd.prog gB 20 (loopAt Tryd.f20 1) [] ⟨0, [.tup [.d (.agg [.raw (.int .i64 r.1), .raw (.int .i64 r.2.1)]), .d (.raw (.int .i64 r.2.2))]], []⟩ w0 N E0 s
abbrev GoK3 (w0 : World) (N : Nat → Prop) (E0 : Env) (s : St) (r : Int × Int × Int) : Prop := GoG Tryd.prog gB 20 (loopAt Tryd.f20 2) [] ⟨0, [.tup [.d (.agg [.raw (.int .i64 r.1), .raw (.int .i64 r.2.1)]), .d (.raw (.int .i64 r.2.2))]], []⟩ w0 N E0 s
abbrev GoK4 (w0 : World) (N : Nat → Prop) (E0 : Env) (s : St) (r : Int × Int × Int) : Prop := GoG Tryd.prog gB 20 (loopAt Tryd.f20 3) [] ⟨0, [.tup [.d (.agg [.raw (.int .i64 r.1), .raw (.int .i64 r.2.1)]), .d (.raw (.int .i64 r.2.2))]], []⟩ w0 N E0 s
abbrev GoK5 (w0 : World) (N : Nat → Prop) (E0 : Env) (s : St) (r : Int × Int × Int) : Prop := GoG Tryd.prog gB 20 (loopAt Tryd.f20 4) [] ⟨0, [.tup [.d (.agg [.raw (.int .i64 r.1), .raw (.int .i64 r.2.1)]), .d (.raw (.int .i64 r.2.2))]], []⟩ w0 N E0 s
def r4 (x : Int) : Int × Int × Int := if 0 ≤ x then (4, x, 0) else (0, 0, 0)
theorem r4_neg : r4 (-1) = (0, 0, 0) := rfl
theorem r4_pos {x : Int} (h : 0 ≤ x) : r4 x = (4, x, 0) := if_pos h
theorem callF_small {cs : List Ca} (hC : SmallC cs) {f : Int} (h0 : 0 ≤ f) (h1 : f < cs.length) : (cs.getD f.toNat noCa).o.2.1.size ≤ 1073741824 := hC _ (by rw [List.getD_eq_getElem?_getD, List.getElem?_eq_getElem (by omega)]; exact List.getElem_mem (by omega))
theorem kc5_go {w0 : World} {N : Nat → Prop} {E0 : Env} (cs : List Ca) (ps : List Pt) (hl : cs.length ≤ 1000000) (hl2 : ps.length ≤ 1000000) (hC : SmallC cs) (hF : ∀ p ∈ ps, 0 ≤ fnd p cs 0) : ∀ (d : Nat) (n i : Int), n = (ps.length : Int) → 0 ≤ i → i + d = n → ∀ (T Q : T4), RelT T Q → GoK5 w0 N E0 (kc5 cs ps Q n i) (r4 (tdR cs T (ps.drop i.toNat) i)) := by
 intro d
 induction d with
 | zero =>
  intro n i en h0 hd T Q hR E a w hsim
  have hr : tdR cs T (ps.drop i.toNat) i = -1 := by rw [List.drop_eq_nil_of_le (by omega)]; rfl
  rw [hr, r4_neg]
  let Q' : T4 := Q
  let e : Int := 0
  let f : Int := 0
  let r1 : Bool := true
  let r2 : Bool := true
  let v : ByteArray := ByteArray.empty
  rcases bd (decide (i < n)) with hb1 | hb1
  ·
   rcases bd (!eqcs [Value.int IntKind.i64 e, Value.string v] [Value.int IntKind.i64 (ps.getD i.toNat noPt).a.fst, Value.string (ps.getD i.toNat noPt).a.snd]) with hb2 | hb2
   ·
    exact absurd (of_decide_eq_true hb1) (by omega)
   ·
    rcases bd ((cs.getD f.toNat noCa).to != (-1 : Int)) with hb3 | hb3
    ·
     rcases bd (!eqcs [Value.int IntKind.i64 e, Value.string v] [Value.int IntKind.i64 (cs.getD f.toNat noCa).a.fst, Value.string (cs.getD f.toNat noCa).a.snd]) with hb4 | hb4
     ·
      exact absurd (of_decide_eq_true hb1) (by omega)
     ·
      exact absurd (of_decide_eq_true hb1) (by omega)
    ·
     exact absurd (of_decide_eq_true hb1) (by omega)
  ·
   exact gr (J2_ok cs ps Q Q' r1 r2 f e v) Tryd.func20 (sr' := ⟨0, [.tup [.d (.agg [rI 0, rI 0]), vI 0]], []⟩) (cs := [_]) [false] true ⟨hb1, trivial⟩ (by rfl) hsim
 | succ d ih =>
  intro n i en h0 hd T Q hR E a w hsim
  have hi : i.toNat < ps.length := by omega
  have ew : IntKind.i64.wrap (i + 1) = i + 1 := wrapP (by omega)
  let r1 : Bool := true
  let r2 : Bool := true
  obtain ⟨f, hf⟩ : ∃ f, f = fnd (ps.getD i.toNat noPt) cs 0 := ⟨_, rfl⟩
  have hf0 : 0 ≤ f := by rw [hf]; exact hF _ (by rw [List.getD_eq_getElem?_getD, List.getElem?_eq_getElem hi]; exact List.getElem_mem hi)
  have hf1 : f < cs.length := by rw [hf]; exact (fnd_bd _ _).2
  have hcf : callF cs (ps.getD i.toNat noPt) = cs.getD f.toNat noCa := by rw [hf]; rfl
  have hk := callF_small hC hf0 hf1
  obtain ⟨T', hT⟩ : ∃ T', T' = nextT T (cs.getD f.toNat noCa).o := ⟨_, rfl⟩
  obtain ⟨Q', hQ⟩ : ∃ Q', Q' = rnext Q (cs.getD f.toNat noCa).o := ⟨_, rfl⟩
  obtain ⟨e, he⟩ : ∃ e, e = (tellM T (cs.getD f.toNat noCa).o).1 := ⟨_, rfl⟩
  obtain ⟨v, hv⟩ : ∃ v, v = (tellM T (cs.getD f.toNat noCa).o).2 := ⟨_, rfl⟩
  have hev : (e, v) = tellM T (cs.getD f.toNat noCa).o := by rw [he, hv]
  have hw : wrongR cs T (ps.getD i.toNat noPt) = (!eqcs [.int .i64 e, .string v] [.int .i64 (ps.getD i.toNat noPt).a.1, .string (ps.getD i.toNat noPt).a.2] || ((cs.getD f.toNat noCa).to != -1 && !eqcs [.int .i64 e, .string v] [.int .i64 (cs.getD f.toNat noCa).a.1, .string (cs.getD f.toNat noCa).a.2])) := by
    unfold wrongR; rw [hcf, he, hv]
  have hr : tdR cs T (ps.drop i.toNat) i = if wrongR cs T (ps.getD i.toNat noPt) = true then i else tdR cs T' (ps.drop (IntKind.i64.wrap (i + 1)).toNat) (IntKind.i64.wrap (i + 1)) := by
    rw [getD_drop (d := noPt) hi, tdR, ew, show (i + 1).toNat = i.toNat + 1 by omega, hcf, hT]
  have ih := ih n (IntKind.i64.wrap (i + 1)) en (by rw [ew]; omega) (by rw [ew]; omega) T' Q' (by rw [hT, hQ]; exact next_rel hR _)
  have hob : (∃ T, RelT T Q ∧ (e, v) = tellM T ((cs.getD f.toNat noCa).o.1, (cs.getD f.toNat noCa).o.2.1, (cs.getD f.toNat noCa).o.2.2.1, (cs.getD f.toNat noCa).o.2.2.2)) ∧ Q' = rnext Q ((cs.getD f.toNat noCa).o.1, (cs.getD f.toNat noCa).o.2.1, (cs.getD f.toNat noCa).o.2.2.1, (cs.getD f.toNat noCa).o.2.2.2) ∧ (cs.getD f.toNat noCa).o.2.1.size ≤ 1073741824 := ⟨⟨T, hR, hev⟩, hQ, hk⟩
  rw [hr, hw]
  rcases bd (decide (i < n)) with hb1 | hb1
  ·
   rcases bd (!eqcs [Value.int IntKind.i64 e, Value.string v] [Value.int IntKind.i64 (ps.getD i.toNat noPt).a.fst, Value.string (ps.getD i.toNat noPt).a.snd]) with hb2 | hb2
   ·
    exact gr (J2_ok cs ps Q Q' r1 r2 f e v) Tryd.func20 (sr' := ⟨0, [.tup [.d (.agg [rI 4, rI i]), vI 0]], []⟩) (cs := [_, (0 ≤ i ∧ i < ps.length), (10 = 10), (cs.length = cs.length), (caEl cs = caEl cs), (cs.length ≤ 1000000 ∧ f = fnd (Pt.mk (ps.getD i.toNat noPt).at' (ps.getD i.toNat noPt).cl (ps.getD i.toNat noPt).n ((ps.getD i.toNat noPt).a.fst, (ps.getD i.toNat noPt).a.snd)) cs (0 : Int)), (0 ≤ f ∧ f < cs.length), ((true) = true), (Q.a.length = Q.a.length), (rowEl Q.a = rowEl Q.a), (Q.b.length = Q.b.length), (rowEl Q.b = rowEl Q.b), (Q.c.length = Q.c.length), (rowEl Q.c = rowEl Q.c), (Q.d.length = Q.d.length), (rowEl Q.d = rowEl Q.d), ((∃ T, RelT T Q ∧ (e, v) = tellM T ((cs.getD f.toNat noCa).o.fst, (cs.getD f.toNat noCa).o.snd.fst, (cs.getD f.toNat noCa).o.snd.snd.fst, (cs.getD f.toNat noCa).o.snd.snd.snd)) ∧ Q' = rnext Q ((cs.getD f.toNat noCa).o.fst, (cs.getD f.toNat noCa).o.snd.fst, (cs.getD f.toNat noCa).o.snd.snd.fst, (cs.getD f.toNat noCa).o.snd.snd.snd) ∧ (cs.getD f.toNat noCa).o.snd.fst.size ≤ 1073741824), _]) [true, true] true ⟨hb1, by omega, (by rfl), (by rfl), (by rfl), (by exact ⟨hl, hf⟩), by omega, rfl, (by rfl), (by rfl), (by rfl), (by rfl), (by rfl), (by rfl), (by rfl), (by rfl), (by exact hob), hb2, trivial⟩ (by (rw [if_pos (by { clear hsim ih hr hw hob hk hev he hv hT hQ hcf hf; generalize ps.getD i.toNat noPt = p at *; generalize cs.getD f.toNat noCa = c at *; first | (simp only [*, Bool.or_true, Bool.true_or, Bool.true_and, Bool.and_true, Bool.and_self, Bool.not_false, Bool.not_true]; done) | simp_all }), r4_pos h0])) hsim
   ·
    rcases bd ((cs.getD f.toNat noCa).to != (-1 : Int)) with hb3 | hb3
    ·
     rcases bd (!eqcs [Value.int IntKind.i64 e, Value.string v] [Value.int IntKind.i64 (cs.getD f.toNat noCa).a.fst, Value.string (cs.getD f.toNat noCa).a.snd]) with hb4 | hb4
     ·
      exact gr (J2_ok cs ps Q Q' r1 r2 f e v) Tryd.func20 (sr' := ⟨0, [.tup [.d (.agg [rI 4, rI i]), vI 0]], []⟩) (cs := [_, (0 ≤ i ∧ i < ps.length), (10 = 10), (cs.length = cs.length), (caEl cs = caEl cs), (cs.length ≤ 1000000 ∧ f = fnd (Pt.mk (ps.getD i.toNat noPt).at' (ps.getD i.toNat noPt).cl (ps.getD i.toNat noPt).n ((ps.getD i.toNat noPt).a.fst, (ps.getD i.toNat noPt).a.snd)) cs (0 : Int)), (0 ≤ f ∧ f < cs.length), ((true) = true), (Q.a.length = Q.a.length), (rowEl Q.a = rowEl Q.a), (Q.b.length = Q.b.length), (rowEl Q.b = rowEl Q.b), (Q.c.length = Q.c.length), (rowEl Q.c = rowEl Q.c), (Q.d.length = Q.d.length), (rowEl Q.d = rowEl Q.d), ((∃ T, RelT T Q ∧ (e, v) = tellM T ((cs.getD f.toNat noCa).o.fst, (cs.getD f.toNat noCa).o.snd.fst, (cs.getD f.toNat noCa).o.snd.snd.fst, (cs.getD f.toNat noCa).o.snd.snd.snd)) ∧ Q' = rnext Q ((cs.getD f.toNat noCa).o.fst, (cs.getD f.toNat noCa).o.snd.fst, (cs.getD f.toNat noCa).o.snd.snd.fst, (cs.getD f.toNat noCa).o.snd.snd.snd) ∧ (cs.getD f.toNat noCa).o.snd.fst.size ≤ 1073741824), _, _, _]) [true, false, true, true] true ⟨hb1, by omega, (by rfl), (by rfl), (by rfl), (by exact ⟨hl, hf⟩), by omega, rfl, (by rfl), (by rfl), (by rfl), (by rfl), (by rfl), (by rfl), (by rfl), (by rfl), (by exact hob), hb2, hb3, hb4, trivial⟩ (by (rw [if_pos (by { clear hsim ih hr hw hob hk hev he hv hT hQ hcf hf; generalize ps.getD i.toNat noPt = p at *; generalize cs.getD f.toNat noCa = c at *; first | (simp only [*, Bool.or_true, Bool.true_or, Bool.true_and, Bool.and_true, Bool.and_self, Bool.not_false, Bool.not_true]; done) | simp_all }), r4_pos h0])) hsim
     ·
      refine gh (J2_ok cs ps Q Q' r1 r2 f e v) (k' := loopAt Tryd.f20 4) (s' := mk 0 127 [(0, .d (.list 10 cs.length (caEl cs))), (4, .ref 0 0), (13, .ref 1 0), (91, .d (.list 5 ps.length (ptEl ps))), (92, vI n), (93, vI (wI (i + 1)))] [(0, .obj 60 [vI 0, vI 0]), (1, .obj 107 [.own 2, .own 3, .own 4, .own 5]), (2, .row 142 2 Q'.a.length (rowEl Q'.a)), (3, .row 142 2 Q'.b.length (rowEl Q'.b)), (4, .row 142 2 Q'.c.length (rowEl Q'.c)), (5, .row 142 2 Q'.d.length (rowEl Q'.d))]) (cs := [_, (0 ≤ i ∧ i < ps.length), (10 = 10), (cs.length = cs.length), (caEl cs = caEl cs), (cs.length ≤ 1000000 ∧ f = fnd (Pt.mk (ps.getD i.toNat noPt).at' (ps.getD i.toNat noPt).cl (ps.getD i.toNat noPt).n ((ps.getD i.toNat noPt).a.fst, (ps.getD i.toNat noPt).a.snd)) cs (0 : Int)), (0 ≤ f ∧ f < cs.length), ((true) = true), (Q.a.length = Q.a.length), (rowEl Q.a = rowEl Q.a), (Q.b.length = Q.b.length), (rowEl Q.b = rowEl Q.b), (Q.c.length = Q.c.length), (rowEl Q.c = rowEl Q.c), (Q.d.length = Q.d.length), (rowEl Q.d = rowEl Q.d), ((∃ T, RelT T Q ∧ (e, v) = tellM T ((cs.getD f.toNat noCa).o.fst, (cs.getD f.toNat noCa).o.snd.fst, (cs.getD f.toNat noCa).o.snd.snd.fst, (cs.getD f.toNat noCa).o.snd.snd.snd)) ∧ Q' = rnext Q ((cs.getD f.toNat noCa).o.fst, (cs.getD f.toNat noCa).o.snd.fst, (cs.getD f.toNat noCa).o.snd.snd.fst, (cs.getD f.toNat noCa).o.snd.snd.snd) ∧ (cs.getD f.toNat noCa).o.snd.fst.size ≤ 1073741824), _, _, _]) [true, false, true, false] [0,4,13,91,92,93] ⟨hb1, by omega, (by rfl), (by rfl), (by rfl), (by exact ⟨hl, hf⟩), by omega, rfl, (by rfl), (by rfl), (by rfl), (by rfl), (by rfl), (by rfl), (by rfl), (by rfl), (by exact hob), hb2, hb3, hb4, trivial⟩ hsim fun E a w hsim => ?_
      rw [if_neg (by { clear hsim ih hr hw hob hk hev he hv hT hQ hcf hf; generalize ps.getD i.toNat noPt = p at *; generalize cs.getD f.toNat noCa = c at *; simp_all})]
      exact ih E a w hsim
    ·
     refine gh (J2_ok cs ps Q Q' r1 r2 f e v) (k' := loopAt Tryd.f20 4) (s' := mk 0 127 [(0, .d (.list 10 cs.length (caEl cs))), (4, .ref 0 0), (13, .ref 1 0), (91, .d (.list 5 ps.length (ptEl ps))), (92, vI n), (93, vI (wI (i + 1)))] [(0, .obj 60 [vI 0, vI 0]), (1, .obj 107 [.own 2, .own 3, .own 4, .own 5]), (2, .row 142 2 Q'.a.length (rowEl Q'.a)), (3, .row 142 2 Q'.b.length (rowEl Q'.b)), (4, .row 142 2 Q'.c.length (rowEl Q'.c)), (5, .row 142 2 Q'.d.length (rowEl Q'.d))]) (cs := [_, (0 ≤ i ∧ i < ps.length), (10 = 10), (cs.length = cs.length), (caEl cs = caEl cs), (cs.length ≤ 1000000 ∧ f = fnd (Pt.mk (ps.getD i.toNat noPt).at' (ps.getD i.toNat noPt).cl (ps.getD i.toNat noPt).n ((ps.getD i.toNat noPt).a.fst, (ps.getD i.toNat noPt).a.snd)) cs (0 : Int)), (0 ≤ f ∧ f < cs.length), ((true) = true), (Q.a.length = Q.a.length), (rowEl Q.a = rowEl Q.a), (Q.b.length = Q.b.length), (rowEl Q.b = rowEl Q.b), (Q.c.length = Q.c.length), (rowEl Q.c = rowEl Q.c), (Q.d.length = Q.d.length), (rowEl Q.d = rowEl Q.d), ((∃ T, RelT T Q ∧ (e, v) = tellM T ((cs.getD f.toNat noCa).o.fst, (cs.getD f.toNat noCa).o.snd.fst, (cs.getD f.toNat noCa).o.snd.snd.fst, (cs.getD f.toNat noCa).o.snd.snd.snd)) ∧ Q' = rnext Q ((cs.getD f.toNat noCa).o.fst, (cs.getD f.toNat noCa).o.snd.fst, (cs.getD f.toNat noCa).o.snd.snd.fst, (cs.getD f.toNat noCa).o.snd.snd.snd) ∧ (cs.getD f.toNat noCa).o.snd.fst.size ≤ 1073741824), _, _]) [true, false, false] [0,4,13,91,92,93] ⟨hb1, by omega, (by rfl), (by rfl), (by rfl), (by exact ⟨hl, hf⟩), by omega, rfl, (by rfl), (by rfl), (by rfl), (by rfl), (by rfl), (by rfl), (by rfl), (by rfl), (by exact hob), hb2, hb3, trivial⟩ hsim fun E a w hsim => ?_
     rw [if_neg (by { clear hsim ih hr hw hob hk hev he hv hT hQ hcf hf; generalize ps.getD i.toNat noPt = p at *; generalize cs.getD f.toNat noCa = c at *; simp_all})]
     exact ih E a w hsim
  ·
   exact absurd (of_decide_eq_false hb1) (by omega)
theorem kc4_go {w0 : World} {N : Nat → Prop} {E0 : Env} (c : Ca) (cs : List Ca) (ps : List Pt) (hl2 : ps.length ≤ 1000000) (n i : Int) (R : Int × Int × Int) (hnext : GoK3 w0 N E0 (kc3 cs ps n (IntKind.i64.wrap (i + 1))) R) : ∀ (d : Nat) (m j : Int), m = (ps.length : Int) → 0 ≤ j → j + d = m → ∀ b : Bool, GoK4 w0 N E0 (kc4 c cs ps b n i m j) (if (b || (ps.drop j.toNat).any fun p => p.cl == c.cl && p.n == c.n) = true then R else (3, i, 0)) := by
 intro d
 let Q : T4 := T0
 let Q' : T4 := T0
 let e : Int := 0
 let f : Int := 0
 let r1 : Bool := true
 let r2 : Bool := true
 let v : ByteArray := ByteArray.empty
 induction d with
 | zero =>
  intro m j en h0 hd b E a w hsim
  rw [List.drop_eq_nil_of_le (by omega), List.any_nil, Bool.or_false]
  rcases bd (decide (j < m)) with hb1 | hb1
  ·
   rcases bd (b) with hb2 | hb2
   ·
    exact absurd (of_decide_eq_true hb1) (by omega)
   ·
    rcases bd ((ps.getD j.toNat noPt).cl == c.cl) with hb3 | hb3
    ·
     exact absurd (of_decide_eq_true hb1) (by omega)
    ·
     exact absurd (of_decide_eq_true hb1) (by omega)
  ·
   rcases bd (!b) with hb4 | hb4
   ·
    exact gr (J2_ok cs ps Q Q' r1 r2 f e v) Tryd.func20 (sr' := ⟨0, [.tup [.d (.agg [rI 3, rI i]), vI 0]], []⟩) (cs := [_, _]) [false, true] true ⟨hb1, hb4, trivial⟩ (by (cases b with | true => exact absurd hb4 (by decide) | false => rfl)) hsim
   ·
    refine gh (J2_ok cs ps Q Q' r1 r2 f e v) (k' := loopAt Tryd.f20 2) (s' := mk 0 127 [(0, .d (.list 10 cs.length (caEl cs))), (1, .d (.list 5 ps.length (ptEl ps))), (4, .ref 0 0), (8, vI i), (9, .ref 1 0), (10, vB b), (52, .d (.list 10 cs.length (caEl cs))), (53, vI n), (54, vI (wI (i + 1))), (62, .d (.list 5 ps.length (ptEl ps))), (63, vI m), (64, vI j)] [(0, .obj 60 [vI 0, vI 0]), (1, .obj 45 [vI c.cl, vI c.n, vI c.o.fst, vS c.o.snd.fst, vS c.o.snd.snd.fst, vS c.o.snd.snd.snd, vI c.fr, vI c.to, vI c.a.fst, vS c.a.snd])]) (cs := [_, _]) [false, false] [0,4,1,8,9,10,52,53,54,62,63,64] ⟨hb1, hb4, trivial⟩ hsim fun E a w hsim => ?_
    rw [if_pos (show b = true from by simpa using hb4)]
    obtain ⟨E9, h9⟩ := hsim.keep [0, 1, 4, 52, 53, 54]
    exact hnext E9 a w ((congrArg (fun s => Sim _ E9 s a w) (by kernel_rfl)).mp h9)
 | succ d ih =>
  intro m j en h0 hd b E a w hsim
  have hi : j.toNat < ps.length := by omega
  have ew : IntKind.i64.wrap (j + 1) = j + 1 := wrapP (by omega)
  have ih := ih m (IntKind.i64.wrap (j + 1)) en (by rw [ew]; omega) (by rw [ew]; omega)
  rw [getD_drop (d := noPt) hi, List.any_cons, ← Bool.or_assoc]
  rw [ew, show (j + 1).toNat = j.toNat + 1 by omega, ← ew] at ih
  rcases bd (decide (j < m)) with hb1 | hb1
  ·
   rcases bd (b) with hb2 | hb2
   ·
    refine gh (J2_ok cs ps Q Q' r1 r2 f e v) (k' := loopAt Tryd.f20 3) (s' := mk 0 127 [(0, .d (.list 10 cs.length (caEl cs))), (1, .d (.list 5 ps.length (ptEl ps))), (4, .ref 0 0), (8, vI i), (9, .ref 1 0), (10, .known true), (52, .d (.list 10 cs.length (caEl cs))), (53, vI n), (54, vI i), (62, .d (.list 5 ps.length (ptEl ps))), (63, vI m), (64, vI (wI (j + 1)))] [(0, .obj 60 [vI 0, vI 0]), (1, .obj 45 [vI c.cl, vI c.n, vI c.o.fst, vS c.o.snd.fst, vS c.o.snd.snd.fst, vS c.o.snd.snd.snd, vI c.fr, vI c.to, vI c.a.fst, vS c.a.snd])]) (cs := [_, (0 ≤ j ∧ j < ps.length), _]) [true, true] [0,4,1,8,9,10,52,53,54,62,63,64] ⟨hb1, by omega, hb2, trivial⟩ hsim fun E a w hsim => ?_
    first | (have h2 : Sim _ E (kc4 c cs ps true n i m (IntKind.i64.wrap (j + 1))) a w := hsim.dats; have h3 := ih true E a w h2; rw [Bool.true_or] at h3; rw [hb2, Bool.true_or, Bool.true_or]; exact h3) | (have h2 : Sim _ E (kc4 c cs ps ((ps.getD j.toNat noPt).n == c.n) n i m (IntKind.i64.wrap (j + 1))) a w := hsim.dats; have h3 := ih _ E a w h2; rw [hb2, hb3, Bool.false_or, Bool.true_and]; exact h3) | (have h2 : Sim _ E (kc4 c cs ps false n i m (IntKind.i64.wrap (j + 1))) a w := hsim.dats; have h3 := ih false E a w h2; rw [hb2, hb3, Bool.false_or, Bool.false_and]; exact h3)
   ·
    rcases bd ((ps.getD j.toNat noPt).cl == c.cl) with hb3 | hb3
    ·
     refine gh (J2_ok cs ps Q Q' r1 r2 f e v) (k' := loopAt Tryd.f20 3) (s' := mk 0 127 [(0, .d (.list 10 cs.length (caEl cs))), (1, .d (.list 5 ps.length (ptEl ps))), (4, .ref 0 0), (8, vI i), (9, .ref 1 0), (10, vB ((ps.getD j.toNat noPt).n == c.n)), (52, .d (.list 10 cs.length (caEl cs))), (53, vI n), (54, vI i), (62, .d (.list 5 ps.length (ptEl ps))), (63, vI m), (64, vI (wI (j + 1)))] [(0, .obj 60 [vI 0, vI 0]), (1, .obj 45 [vI c.cl, vI c.n, vI c.o.fst, vS c.o.snd.fst, vS c.o.snd.snd.fst, vS c.o.snd.snd.snd, vI c.fr, vI c.to, vI c.a.fst, vS c.a.snd])]) (cs := [_, (0 ≤ j ∧ j < ps.length), _, _]) [true, false, true] [0,4,1,8,9,10,52,53,54,62,63,64] ⟨hb1, by omega, hb2, hb3, trivial⟩ hsim fun E a w hsim => ?_
     first | (have h2 : Sim _ E (kc4 c cs ps true n i m (IntKind.i64.wrap (j + 1))) a w := hsim.dats; have h3 := ih true E a w h2; rw [Bool.true_or] at h3; rw [hb2, Bool.true_or, Bool.true_or]; exact h3) | (have h2 : Sim _ E (kc4 c cs ps ((ps.getD j.toNat noPt).n == c.n) n i m (IntKind.i64.wrap (j + 1))) a w := hsim.dats; have h3 := ih _ E a w h2; rw [hb2, hb3, Bool.false_or, Bool.true_and]; exact h3) | (have h2 : Sim _ E (kc4 c cs ps false n i m (IntKind.i64.wrap (j + 1))) a w := hsim.dats; have h3 := ih false E a w h2; rw [hb2, hb3, Bool.false_or, Bool.false_and]; exact h3)
    ·
     refine gh (J2_ok cs ps Q Q' r1 r2 f e v) (k' := loopAt Tryd.f20 3) (s' := mk 0 127 [(0, .d (.list 10 cs.length (caEl cs))), (1, .d (.list 5 ps.length (ptEl ps))), (4, .ref 0 0), (8, vI i), (9, .ref 1 0), (10, .known false), (52, .d (.list 10 cs.length (caEl cs))), (53, vI n), (54, vI i), (62, .d (.list 5 ps.length (ptEl ps))), (63, vI m), (64, vI (wI (j + 1)))] [(0, .obj 60 [vI 0, vI 0]), (1, .obj 45 [vI c.cl, vI c.n, vI c.o.fst, vS c.o.snd.fst, vS c.o.snd.snd.fst, vS c.o.snd.snd.snd, vI c.fr, vI c.to, vI c.a.fst, vS c.a.snd])]) (cs := [_, (0 ≤ j ∧ j < ps.length), _, _]) [true, false, false] [0,4,1,8,9,10,52,53,54,62,63,64] ⟨hb1, by omega, hb2, hb3, trivial⟩ hsim fun E a w hsim => ?_
     first | (have h2 : Sim _ E (kc4 c cs ps true n i m (IntKind.i64.wrap (j + 1))) a w := hsim.dats; have h3 := ih true E a w h2; rw [Bool.true_or] at h3; rw [hb2, Bool.true_or, Bool.true_or]; exact h3) | (have h2 : Sim _ E (kc4 c cs ps ((ps.getD j.toNat noPt).n == c.n) n i m (IntKind.i64.wrap (j + 1))) a w := hsim.dats; have h3 := ih _ E a w h2; rw [hb2, hb3, Bool.false_or, Bool.true_and]; exact h3) | (have h2 : Sim _ E (kc4 c cs ps false n i m (IntKind.i64.wrap (j + 1))) a w := hsim.dats; have h3 := ih false E a w h2; rw [hb2, hb3, Bool.false_or, Bool.false_and]; exact h3)
  ·
   rcases bd (!b) with hb4 | hb4
   ·
    exact absurd (of_decide_eq_false hb1) (by omega)
   ·
    exact absurd (of_decide_eq_false hb1) (by omega)
theorem firstB_step (f : Nat → Bool) (d : Nat) (i : Int) (h0 : 0 ≤ i) (c : Int) (R : Int × Int × Int) : (if 0 ≤ firstB f (d + 1) i.toNat then (c, firstB f (d + 1) i.toNat, (0 : Int)) else R) = if f i.toNat = true then (if 0 ≤ firstB f d (i + 1).toNat then (c, firstB f d (i + 1).toNat, (0 : Int)) else R) else (c, i, 0) := by
 rw [firstB, show (i + 1).toNat = i.toNat + 1 by omega]
 cases f i.toNat with
 | true => rfl
 | false =>
  show (if 0 ≤ ((i.toNat : Nat) : Int) then (c, ((i.toNat : Nat) : Int), (0 : Int)) else R) = (c, i, 0)
  rw [if_pos (by omega), show ((i.toNat : Nat) : Int) = i by omega]
theorem all_step {f : Nat → Bool} {i : Int} (h0 : 0 ≤ i) (ha : ∀ k, k < i.toNat → f k = true) (h : f i.toNat = true) : ∀ k, k < (i + 1).toNat → f k = true := fun k hk => by
 by_cases e : k = i.toNat
 · rw [e]; exact h
 · exact ha k (by omega)
theorem kc3_go {w0 : World} {N : Nat → Prop} {E0 : Env} (cs : List Ca) (ps : List Pt) (hl : cs.length ≤ 1000000) (hl2 : ps.length ≤ 1000000) (hC : SmallC cs) (hF : ∀ p ∈ ps, 0 ≤ fnd p cs 0) : ∀ (d : Nat) (n i : Int), n = (cs.length : Int) → 0 ≤ i → i + d = n → GoK3 w0 N E0 (kc3 cs ps n i) (if 0 ≤ firstB (thereM cs ps) d i.toNat then (3, firstB (thereM cs ps) d i.toNat, 0) else r4 (tdR cs T0 ps 0)) := by
 intro d
 let Q : T4 := T0
 let Q' : T4 := T0
 let e : Int := 0
 let f : Int := 0
 let r1 : Bool := true
 let r2 : Bool := true
 let v : ByteArray := ByteArray.empty
 induction d with
 | zero =>
  intro n i en h0 hd E a w hsim
  rw [firstB, if_neg (by decide)]
  rcases bd (decide (i < n)) with hb1 | hb1
  ·
   exact absurd (of_decide_eq_true hb1) (by omega)
  ·
   refine gh (J2_ok cs ps Q Q' r1 r2 f e v) (k' := loopAt Tryd.f20 4) (s' := let za := Value.slice none 0 0; mk 0 127 [(0, .d (.list 10 cs.length (caEl cs))), (1, .d (.list 5 ps.length (ptEl ps))), (4, .ref 0 0), (13, .ref 1 0), (52, .d (.list 10 cs.length (caEl cs))), (53, vI n), (54, vI i), (91, .d (.list 5 ps.length (ptEl ps))), (92, vI (↑ps.length : Int)), (93, vI 0)] [(0, .obj 60 [vI 0, vI 0]), (1, .obj 107 [.d (.raw za), .d (.raw za), .d (.raw za), .d (.raw za)])]) (cs := [_]) [false] [0,4,1,8,9,10,13,52,53,54,62,63,64,91,92,93] ⟨hb1, trivial⟩ hsim fun E a w hsim => ?_
   obtain ⟨E9, h9⟩ := hsim.keep [0, 4, 13, 91, 92, 93]
   obtain ⟨E1, h1⟩ := Sim_nilCell (k := 1) (T := 107) (R := 142) (sz := 2) (el := rowEl []) h9 [] [.d (.raw (.slice none 0 0)), .d (.raw (.slice none 0 0)), .d (.raw (.slice none 0 0))] (by kernel_rfl)
   obtain ⟨E2, h2⟩ := Sim_nilCell (k := 1) (T := 107) (R := 142) (sz := 2) (el := rowEl []) h1 [.own 2] [.d (.raw (.slice none 0 0)), .d (.raw (.slice none 0 0))] (by kernel_rfl)
   obtain ⟨E3, h3⟩ := Sim_nilCell (k := 1) (T := 107) (R := 142) (sz := 2) (el := rowEl []) h2 [.own 2, .own 3] [.d (.raw (.slice none 0 0))] (by kernel_rfl)
   obtain ⟨E4, h4⟩ := Sim_nilCell (k := 1) (T := 107) (R := 142) (sz := 2) (el := rowEl []) h3 [.own 2, .own 3, .own 4] [] (by kernel_rfl)
   exact kc5_go cs ps hl hl2 hC hF ps.length (ps.length : Int) 0 rfl (by omega) (by omega) T0 T0 relT0 E4 a w ((congrArg (fun s => Sim _ E4 s a w) (by kernel_rfl)).mp h4)
 | succ d ih =>
  intro n i en h0 hd E a w hsim
  have hi : i.toNat < cs.length := by omega
  have ew : IntKind.i64.wrap (i + 1) = i + 1 := wrapP (by omega)
  have ih := ih n (IntKind.i64.wrap (i + 1)) en (by rw [ew]; omega) (by rw [ew]; omega)
  rw [firstB_step _ _ _ h0]
  rw [ew, ← ew] at ih
  rcases bd (decide (i < n)) with hb1 | hb1
  ·
   refine gh (J2_ok cs ps Q Q' r1 r2 f e v) (k' := loopAt Tryd.f20 3) (s' := let za := cs.getD i.toNat noCa; mk 0 127 [(0, .d (.list 10 cs.length (caEl cs))), (1, .d (.list 5 ps.length (ptEl ps))), (4, .ref 0 0), (8, vI i), (9, .ref 1 0), (10, vB (za.to == (-1 : Int))), (52, .d (.list 10 cs.length (caEl cs))), (53, vI n), (54, vI i), (62, .d (.list 5 ps.length (ptEl ps))), (63, vI (↑ps.length : Int)), (64, vI 0)] [(0, .obj 60 [vI 0, vI 0]), (1, .obj 45 [vI (za.cl), vI (za.n), vI (za.o.fst), vS (za.o.snd.fst), vS (za.o.snd.snd.fst), vS (za.o.snd.snd.snd), vI (za.fr), vI (za.to), vI (za.a.fst), vS (za.a.snd)])]) (cs := [_, (0 ≤ i ∧ i < cs.length)]) [true] [0,4,1,8,9,10,13,52,53,54,62,63,64,91,92,93] ⟨hb1, by omega, trivial⟩ hsim fun E a w hsim => ?_
   rw [← ew]
   exact kc4_go (cs.getD i.toNat noCa) cs ps hl2 n i _ ih ps.length (ps.length : Int) 0 rfl (by omega) (by omega) ((cs.getD i.toNat noCa).to == -1) E a w hsim
  ·
   exact absurd (of_decide_eq_false hb1) (by omega)
theorem kc2_go {w0 : World} {N : Nat → Prop} {E0 : Env} (cs : List Ca) (ps : List Pt) (R : Int × Int × Int) (hl : cs.length ≤ 1000000) (hl2 : ps.length ≤ 1000000) (hR : (∀ k, k < ps.length → twoM cs ps k = true) → GoK3 w0 N E0 (kc3 cs ps cs.length 0) R) : ∀ (d : Nat) (n i : Int), n = (ps.length : Int) → 0 ≤ i → i + d = n → (∀ k, k < i.toNat → twoM cs ps k = true) → GoK2 w0 N E0 (kc2 cs ps n i) (if 0 ≤ firstB (twoM cs ps) d i.toNat then (2, firstB (twoM cs ps) d i.toNat, 0) else R) := by
 intro d
 let Q : T4 := T0
 let Q' : T4 := T0
 let e : Int := 0
 let f : Int := 0
 let r1 : Bool := true
 let v : ByteArray := ByteArray.empty
 induction d with
 | zero =>
  intro n i en h0 hd hall E a w hsim
  obtain ⟨r2, h2⟩ : ∃ r, r = twoM cs ps i.toNat := ⟨_, rfl⟩
  rw [firstB, if_neg (by decide)]
  rcases bd (decide (i < n)) with hb1 | hb1
  ·
   rcases bd (!r2) with hb2 | hb2
   ·
    exact absurd (of_decide_eq_true hb1) (by omega)
   ·
    exact absurd (of_decide_eq_true hb1) (by omega)
  ·
   refine gh (J2_ok cs ps Q Q' r1 r2 f e v) (k' := loopAt Tryd.f20 2) (s' := mk 0 127 [(0, .d (.list 10 cs.length (caEl cs))), (1, .d (.list 5 ps.length (ptEl ps))), (4, .ref 0 0), (39, .d (.list 5 ps.length (ptEl ps))), (40, vI n), (41, vI i), (52, .d (.list 10 cs.length (caEl cs))), (53, vI (↑cs.length : Int)), (54, vI 0)] [(0, .obj 60 [vI 0, vI 0])]) (cs := [_]) [false] [0,4,1,39,40,41,52,53,54] ⟨hb1, trivial⟩ hsim fun E a w hsim => ?_
   obtain ⟨E9, h9⟩ := hsim.keep [0, 1, 4, 52, 53, 54]
   exact hR (fun k hk => hall k (by omega)) E9 a w ((congrArg (fun s => Sim _ E9 s a w) (by kernel_rfl)).mp h9)
 | succ d ih =>
  intro n i en h0 hd hall E a w hsim
  have hi : i < ps.length := by omega
  have ew : IntKind.i64.wrap (i + 1) = i + 1 := wrapP (by omega)
  obtain ⟨r2, h2⟩ : ∃ r, r = twoM cs ps i.toNat := ⟨_, rfl⟩
  have ih := fun h => ih n (IntKind.i64.wrap (i + 1)) en (by rw [ew]; omega) (by rw [ew]; omega) h
  rw [firstB_step _ _ _ h0, ← h2]
  rw [ew, ← ew] at ih
  rcases bd (decide (i < n)) with hb1 | hb1
  ·
   rcases bd (!r2) with hb2 | hb2
   ·
    exact gr (J2_ok cs ps Q Q' r1 r2 f e v) Tryd.func20 (sr' := ⟨0, [.tup [.d (.agg [rI 2, rI i]), vI 0]], []⟩) (cs := [_, (10 = 10), (cs.length = cs.length), (caEl cs = caEl cs), (5 = 5), (ps.length = ps.length), (ptEl ps = ptEl ps), (cs.length ≤ 1000000 ∧ ps.length ≤ 1000000 ∧ (0 : Int) ≤ i ∧ i < (↑ps.length : Int) ∧ r2 = twoM cs ps i.toNat), _]) [true, true] true ⟨hb1, by omega, by omega, (by rfl), by omega, by omega, (by rfl), (by exact ⟨hl, hl2, h0, hi, h2⟩), hb2, trivial⟩ (by (cases r2 with | true => cases hb2 | false => rfl)) hsim
   ·
    refine gh (J2_ok cs ps Q Q' r1 r2 f e v) (k' := loopAt Tryd.f20 1) (s' := mk 0 127 [(0, .d (.list 10 cs.length (caEl cs))), (1, .d (.list 5 ps.length (ptEl ps))), (4, .ref 0 0), (39, .d (.list 5 ps.length (ptEl ps))), (40, vI n), (41, vI (wI (i + 1)))] [(0, .obj 60 [vI 0, vI 0])]) (cs := [_, (10 = 10), (cs.length = cs.length), (caEl cs = caEl cs), (5 = 5), (ps.length = ps.length), (ptEl ps = ptEl ps), (cs.length ≤ 1000000 ∧ ps.length ≤ 1000000 ∧ (0 : Int) ≤ i ∧ i < (↑ps.length : Int) ∧ r2 = twoM cs ps i.toNat), _]) [true, false] [0,4,1,39,40,41,52,53,54] ⟨hb1, by omega, by omega, (by rfl), by omega, by omega, (by rfl), (by exact ⟨hl, hl2, h0, hi, h2⟩), hb2, trivial⟩ hsim fun E a w hsim => ?_
    have hb3 : r2 = true := by simpa using hb2
    rw [if_pos hb3, ← ew]
    exact ih (by { rw [ew]; exact all_step h0 hall (by rw [← h2]; exact hb3) }) E a w hsim
  ·
   exact absurd (of_decide_eq_false hb1) (by omega)
theorem kc1_go {w0 : World} {N : Nat → Prop} {E0 : Env} (cs : List Ca) (ps : List Pt) (R : Int × Int × Int) (hl : cs.length ≤ 1000000) (hl2 : ps.length ≤ 1000000) (hR : (∀ k, k < cs.length → oneM cs k = true) → GoK2 w0 N E0 (kc2 cs ps ps.length 0) R) : ∀ (d : Nat) (n i : Int), n = (cs.length : Int) → 0 ≤ i → i + d = n → (∀ k, k < i.toNat → oneM cs k = true) → GoK1 w0 N E0 (kc1 cs ps n i) (if 0 ≤ firstB (oneM cs) d i.toNat then (1, firstB (oneM cs) d i.toNat, 0) else R) := by
 intro d
 let Q : T4 := T0
 let Q' : T4 := T0
 let e : Int := 0
 let f : Int := 0
 let r2 : Bool := true
 let v : ByteArray := ByteArray.empty
 induction d with
 | zero =>
  intro n i en h0 hd hall E a w hsim
  obtain ⟨r1, h1⟩ : ∃ r, r = oneM cs i.toNat := ⟨_, rfl⟩
  rw [firstB, if_neg (by decide)]
  rcases bd (decide (i < n)) with hb1 | hb1
  ·
   rcases bd (!r1) with hb2 | hb2
   ·
    exact absurd (of_decide_eq_true hb1) (by omega)
   ·
    exact absurd (of_decide_eq_true hb1) (by omega)
  ·
   refine gh (J2_ok cs ps Q Q' r1 r2 f e v) (k' := loopAt Tryd.f20 1) (s' := mk 0 127 [(0, .d (.list 10 cs.length (caEl cs))), (1, .d (.list 5 ps.length (ptEl ps))), (4, .ref 0 0), (27, .d (.list 10 cs.length (caEl cs))), (28, vI n), (29, vI i), (39, .d (.list 5 ps.length (ptEl ps))), (40, vI (↑ps.length : Int)), (41, vI 0)] [(0, .obj 60 [vI 0, vI 0])]) (cs := [_]) [false] [0,4,1,27,28,29,39,40,41] ⟨hb1, trivial⟩ hsim fun E a w hsim => ?_
   obtain ⟨E9, h9⟩ := hsim.keep [0, 1, 4, 39, 40, 41]
   exact hR (fun k hk => hall k (by omega)) E9 a w ((congrArg (fun s => Sim _ E9 s a w) (by kernel_rfl)).mp h9)
 | succ d ih =>
  intro n i en h0 hd hall E a w hsim
  have hi : i < cs.length := by omega
  have ew : IntKind.i64.wrap (i + 1) = i + 1 := wrapP (by omega)
  obtain ⟨r1, h1⟩ : ∃ r, r = oneM cs i.toNat := ⟨_, rfl⟩
  have ih := fun h => ih n (IntKind.i64.wrap (i + 1)) en (by rw [ew]; omega) (by rw [ew]; omega) h
  rw [firstB_step _ _ _ h0, ← h1]
  rw [ew, ← ew] at ih
  rcases bd (decide (i < n)) with hb1 | hb1
  ·
   rcases bd (!r1) with hb2 | hb2
   ·
    exact gr (J2_ok cs ps Q Q' r1 r2 f e v) Tryd.func20 (sr' := ⟨0, [.tup [.d (.agg [rI 1, rI i]), vI 0]], []⟩) (cs := [_, (10 = 10), (cs.length = cs.length), (caEl cs = caEl cs), (cs.length ≤ 1000000 ∧ (0 : Int) ≤ i ∧ i < (↑cs.length : Int) ∧ r1 = oneM cs i.toNat), _]) [true, true] true ⟨hb1, by omega, by omega, (by rfl), (by exact ⟨hl, h0, hi, h1⟩), hb2, trivial⟩ (by (cases r1 with | true => cases hb2 | false => rfl)) hsim
   ·
    refine gh (J2_ok cs ps Q Q' r1 r2 f e v) (k' := loopAt Tryd.f20 0) (s' := mk 0 127 [(0, .d (.list 10 cs.length (caEl cs))), (1, .d (.list 5 ps.length (ptEl ps))), (4, .ref 0 0), (27, .d (.list 10 cs.length (caEl cs))), (28, vI n), (29, vI (wI (i + 1)))] [(0, .obj 60 [vI 0, vI 0])]) (cs := [_, (10 = 10), (cs.length = cs.length), (caEl cs = caEl cs), (cs.length ≤ 1000000 ∧ (0 : Int) ≤ i ∧ i < (↑cs.length : Int) ∧ r1 = oneM cs i.toNat), _]) [true, false] [0,4,1,27,28,29,39,40,41] ⟨hb1, by omega, by omega, (by rfl), (by exact ⟨hl, h0, hi, h1⟩), hb2, trivial⟩ hsim fun E a w hsim => ?_
    have hb3 : r1 = true := by simpa using hb2
    rw [if_pos hb3, ← ew]
    exact ih (by { rw [ew]; exact all_step h0 hall (by rw [← h1]; exact hb3) }) E a w hsim
  ·
   exact absurd (of_decide_eq_false hb1) (by omega)
theorem one_good {cs : List Ca} (h : ∀ k, k < cs.length → oneM cs k = true) : SmallC cs := fun c hc => by
 obtain ⟨k, hk, rfl⟩ := List.getElem_of_mem hc
 have h1 := h k hk
 unfold oneM at h1
 rw [Bool.and_eq_true, List.getD, List.getElem?_eq_getElem hk] at h1
 exact Nat.le_trans (good_small (by simpa using h1.1)) (by decide)
theorem two_good {cs : List Ca} {ps : List Pt} (h : ∀ k, k < ps.length → twoM cs ps k = true) : ∀ p ∈ ps, 0 ≤ fnd p cs 0 := fun p hp => by
 obtain ⟨k, hk, rfl⟩ := List.getElem_of_mem hp
 have h1 := h k hk
 unfold twoM badT at h1
 rw [List.getD, List.getElem?_eq_getElem hk] at h1
 simp only [Option.getD_some, Bool.and_eq_true, Bool.not_eq_true', Bool.or_eq_false_iff, decide_eq_false_iff_not] at h1
 have := h1.1.2.1.1
 omega
theorem refck_ok (cs : List Ca) (ps : List Pt) (hl : cs.length ≤ 1000000) (hl2 : ps.length ≤ 1000000) : Eng.Spec Tryd.prog gB 20 [.d (.list 10 cs.length (caEl cs)), .d (.list 5 ps.length (ptEl ps))] [] (.tup [.d (.agg [.raw (.int .i64 (checkP cs ps).1), .raw (.int .i64 (checkP cs ps).2.1)]), .d (.raw (.int .i64 (checkP cs ps).2.2))]) [] := by
 refine spec_fn Tryd.func20 rfl fun {w N E act} hsim => ?_
 have hg : ∀ {w0 : World} {N : Nat → Prop} {E0 : Env}, GoK1 w0 N E0 (kc1 cs ps cs.length 0) (if 0 ≤ firstB (oneM cs) cs.length 0 then (1, firstB (oneM cs) cs.length 0, 0) else if 0 ≤ firstB (twoM cs ps) ps.length 0 then (2, firstB (twoM cs ps) ps.length 0, 0) else if 0 ≤ firstB (thereM cs ps) cs.length 0 then (3, firstB (thereM cs ps) cs.length 0, 0) else r4 (tdR cs T0 ps 0)) :=
   kc1_go cs ps _ hl hl2 (fun h1 => kc2_go cs ps _ hl hl2 (fun h2 => kc3_go cs ps hl hl2 (one_good h1) (two_good h2) cs.length (cs.length : Int) 0 rfl (by omega) (by omega)) ps.length (ps.length : Int) 0 rfl (by omega) (by omega) (fun k hk => absurd hk (by simp))) cs.length (cs.length : Int) 0 rfl (by omega) (by omega) (fun k hk => absurd hk (by simp))
 let Q : T4 := T0
 let Q' : T4 := T0
 let e : Int := 0
 let f : Int := 0
 let r1 : Bool := true
 let r2 : Bool := true
 let v : ByteArray := ByteArray.empty
 rw [← ref_eq]
 have hr : refM cs ps = if 2000 < cs.length ∨ 2000 < ps.length then (0, 0, 2) else (if 0 ≤ firstB (oneM cs) cs.length 0 then (1, firstB (oneM cs) cs.length 0, 0) else if 0 ≤ firstB (twoM cs ps) ps.length 0 then (2, firstB (twoM cs ps) ps.length 0, 0) else if 0 ≤ firstB (thereM cs ps) cs.length 0 then (3, firstB (thereM cs ps) cs.length 0, 0) else r4 (tdR cs T0 ps 0)) := rfl
 rw [hr]
 have hA : decide ((cs.length : Int) > (2000 : Int)) = true → (2000 < cs.length ∨ 2000 < ps.length) := fun h => .inl (by have := of_decide_eq_true h; omega)
 have hB : decide ((ps.length : Int) > (2000 : Int)) = true → (2000 < cs.length ∨ 2000 < ps.length) := fun h => .inr (by have := of_decide_eq_true h; omega)
 have hN : decide ((cs.length : Int) > (2000 : Int)) = false → decide ((ps.length : Int) > (2000 : Int)) = false → ¬(2000 < cs.length ∨ 2000 < ps.length) := fun h h' => by have := of_decide_eq_false h; have := of_decide_eq_false h'; omega
 rcases bd (decide ((↑cs.length : Int) > (2000 : Int))) with hb1 | hb1
 ·
  exact gr (J2_ok cs ps Q Q' r1 r2 f e v) Tryd.func20 (sr' := ⟨0, [.tup [.d (.agg [rI 0, rI 0]), vI 2]], []⟩) (cs := [_]) [true] true ⟨hb1, trivial⟩ (by (rw [if_pos (hA hb1)] <;> rfl)) hsim
 ·
  rcases bd (decide ((↑ps.length : Int) > (2000 : Int))) with hb2 | hb2
  ·
   exact gr (J2_ok cs ps Q Q' r1 r2 f e v) Tryd.func20 (sr' := ⟨0, [.tup [.d (.agg [rI 0, rI 0]), vI 2]], []⟩) (cs := [_, _]) [false, true] true ⟨hb1, hb2, trivial⟩ (by (rw [if_pos (hB hb2)] <;> rfl)) hsim
  ·
   refine gh (J2_ok cs ps Q Q' r1 r2 f e v) (k' := loopAt Tryd.f20 0) (s' := mk 0 127 [(0, .d (.list 10 cs.length (caEl cs))), (1, .d (.list 5 ps.length (ptEl ps))), (4, .ref 0 0), (27, .d (.list 10 cs.length (caEl cs))), (28, vI (↑cs.length : Int)), (29, vI 0)] [(0, .obj 60 [vI 0, vI 0])]) (cs := [_, _]) [false, false] [0,4,1,27,28,29] ⟨hb1, hb2, trivial⟩ hsim fun E a w hsim => ?_
   rw [if_neg (hN hb1 hb2)]
   exact hg E a w hsim
end Go.Prf
