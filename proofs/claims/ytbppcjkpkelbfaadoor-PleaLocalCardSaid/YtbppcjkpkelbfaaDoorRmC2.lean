/-
  Contracts of given functions, plain laws. No condition.
-/
import Derived.Test.YtbppcjkpkelbfaaDoorRmB
namespace Go.Prf
open Go Go.Eng Go.Proofs Go.Tab Go.Plc
set_option maxRecDepth 100000
set_option maxHeartbeats 4000000
abbrev RetR2 (w0 : World) (N : Nat → Prop) (E0 : Env) (q x y z : List Rw) (k : Int) (key val old : ByteArray) (c : List Item) (s : St) : Prop := ∀ (E : Env) (a : Act) (w : World), Sim (cx Tryd.prog gz0 w0 N E0 (rm2 q x y z)) E s a w → Goes Tryd.prog 57 c (RSpec (cx Tryd.prog gz0 w0 N E0 (rm2 q x y z)) ⟨5, [.tup [.d (.raw (.string (rdoM q k key val old).1)), .d (.raw (.int .i64 (rdoM q k key val old).2.1))]], ru2 (rdoM q k key val old).2.2 x y z⟩) a w
theorem rdel_go2 {w0 : World} {N : Nat → Prop} {E0 : Env} (q x y z : List Rw) (k : Int) (key val old had : ByteArray) (hq : q.length ≤ 16) (hR : rdoM q k key val old = (had, 0, rdel q key)) : ∀ (d : Nat) (n i : Int), n = (q.length : Int) → 0 ≤ i → i + d = n → ∀ r, r = rdel (q.take i.toNat) key → RetR2 w0 N E0 q x y z k key val old (loopAt Tryd.f57 0) (rl2 q x y z k key val old had r n i) := by
 intro d
 induction d with
 | zero =>
  intro n i en h0 hd r hr E a w hsim
  have e : r = rdel q key := by rw [hr, List.take_of_length_le (by omega)]
  rw [← e] at hR
  rcases bd (decide (i < n)) with hb1 | hb1
  ·
   rcases bd (!(q.getD i.toNat (ByteArray.empty, ByteArray.empty)).fst.toList == key.toList) with hb2 | hb2
   ·
    exact absurd (of_decide_eq_true hb1) (by omega)
   ·
    exact absurd (of_decide_eq_true hb1) (by omega)
  ·
   exact gs (Q12_ok q x y z (by omega)) Tryd.func57 (sr' := ⟨5, [.tup [vS had, vI 0]], [(0, .obj 107 [.own 1, .own 2, .own 5, .own 4]), (1, .row 142 2 x.length (rowEl x)), (2, .row 142 2 y.length (rowEl y)), (3, .row 142 2 q.length (rowEl q)), (4, .row 142 2 z.length (rowEl z)), (5, .row 142 2 r.length (rowEl r))]⟩) (cs := [_]) [false] true ⟨hb1, trivial⟩ (by exact rdo_to2 hR _) hsim
 | succ d ih =>
  intro n i en h0 hd r hr E a w hsim
  have hi : i.toNat < q.length := by omega
  have hrl : r.length ≤ i.toNat := by
    rw [hr]; exact Nat.le_trans (List.length_filter_le _ _) (by rw [List.length_take]; omega)
  have hstep : rdel (q.take (i.toNat + 1)) key = if (q.getD i.toNat (ByteArray.empty, ByteArray.empty)).1 = key then r else r ++ [q.getD i.toNat (ByteArray.empty, ByteArray.empty)] := by
    rw [hr, List.take_add_one, List.getElem?_eq_getElem hi, getD_get hi]
    unfold rdel
    rw [List.filter_append]
    by_cases e : q[i.toNat].1 = key <;> simp [e]
  have ih := fun r (h : r = rdel (q.take (i.toNat + 1)) key) E a w hs => ih n (IntKind.i64.wrap (i + 1)) en (by rw [wrapI (i + 1) (by omega)]; omega) (by rw [wrapI (i + 1) (by omega)]; omega) r (by rw [wrapI (i + 1) (by omega), show (i + 1).toNat = i.toNat + 1 by omega]; exact h) E a w hs
  have hlen : r.length + 1 = (r ++ [q.getD i.toNat (ByteArray.empty, ByteArray.empty)]).length := by simp
  have hlo : ∀ j, j < r.length → rowEl r j = rowEl (r ++ [q.getD i.toNat (ByteArray.empty, ByteArray.empty)]) j := fun j hj => by
    unfold rowEl; simp [List.getD, List.getElem?_append_left hj]
  have hh0 : rowEl (r ++ [q.getD i.toNat (ByteArray.empty, ByteArray.empty)]) r.length = rowEl q i.toNat := by unfold rowEl; simp [List.getD]
  rcases bd (decide (i < n)) with hb1 | hb1
  ·
   rcases bd (!(q.getD i.toNat (ByteArray.empty, ByteArray.empty)).fst.toList == key.toList) with hb2 | hb2
   ·
    refine gh (Q12_ok q x y z (by omega)) (k' := loopAt Tryd.f57 0) (s' := mk 5 143 [(0, .ref 0 2), (3, .ref 5 0), (11, vS had), (12, .own 6), (122, .own 3), (123, vI n), (124, vI (wI (i + 1)))] [(0, .obj 107 [.own 1, .own 2, .own 3, .own 4]), (1, .row 142 2 x.length (rowEl x)), (2, .row 142 2 y.length (rowEl y)), (3, .row 142 2 q.length (rowEl q)), (4, .row 142 2 z.length (rowEl z)), (5, .obj 41 [vI k, vS key, vS val, vS old]), (6, .row 142 2 (r.length + 1) (fun j => if j < r.length then rowEl r j else segD true 2 (splice (List.map (fun j => (List.map D.raw (Value.agg #[Value.string (eM), Value.string (eM)]).cells.toList).getD (j % 2) default) (List.range 2)) 0 (D.agg [rS (q.getD i.toNat (eB, eB)).fst, rS (q.getD i.toNat (eB, eB)).snd]).cells) (j - r.length)))]) (cs := [_, (0 ≤ i ∧ i < q.length), (i.toNat < q.length), _, (r.length + 1 ≤ 9223372036854775807 ∧ (r.length + 1) * 32 ≤ 140737488355328)]) [true, true] [0,3,11,12,122,123,124] ⟨hb1, by omega, by omega, hb2, by omega, trivial⟩ hsim fun E a w hsim => ?_
    first
     | (
      refine ih r ?_ E a w hsim
      rw [hstep, if_pos ?_]
      have := hb2; simp only [bne, tl_eq] at this; simpa using this)
     | (
      obtain ⟨E1, h1⟩ := (says_rowTo (k := 6) rfl (r ++ [q.getD i.toNat (ByteArray.empty, ByteArray.empty)]).length (rowEl (r ++ [q.getD i.toNat (ByteArray.empty, ByteArray.empty)])) hlen (fun j hj => by
       by_cases hjr : j < r.length
       ·
        exact (if_pos hjr).trans (hlo j hjr)
       ·
        obtain rfl : j = r.length := by omega
        rw [hh0]
        exact (if_neg hjr).trans (by rw [Nat.sub_self]; rfl))).out E a w hsim
      refine ih _ ?_ E1 a w h1
      rw [hstep, if_neg ?_]
      have := hb2; simp only [bne, tl_eq] at this; simpa using this)
   ·
    refine gh (Q12_ok q x y z (by omega)) (k' := loopAt Tryd.f57 0) (s' := mk 5 143 [(0, .ref 0 2), (3, .ref 5 0), (11, vS had), (12, .own 6), (122, .own 3), (123, vI n), (124, vI (wI (i + 1)))] [(0, .obj 107 [.own 1, .own 2, .own 3, .own 4]), (1, .row 142 2 x.length (rowEl x)), (2, .row 142 2 y.length (rowEl y)), (3, .row 142 2 q.length (rowEl q)), (4, .row 142 2 z.length (rowEl z)), (5, .obj 41 [vI k, vS key, vS val, vS old]), (6, .row 142 2 r.length (rowEl r))]) (cs := [_, (0 ≤ i ∧ i < q.length), (i.toNat < q.length), _]) [true, false] [0,3,11,12,122,123,124] ⟨hb1, by omega, by omega, hb2, trivial⟩ hsim fun E a w hsim => ?_
    first
     | (
      refine ih r ?_ E a w hsim
      rw [hstep, if_pos ?_]
      have := hb2; simp only [bne, tl_eq] at this; simpa using this)
     | (
      obtain ⟨E1, h1⟩ := (says_rowTo (k := 6) rfl (r ++ [q.getD i.toNat (ByteArray.empty, ByteArray.empty)]).length (rowEl (r ++ [q.getD i.toNat (ByteArray.empty, ByteArray.empty)])) hlen (fun j hj => by
       by_cases hjr : j < r.length
       ·
        exact (if_pos hjr).trans (hlo j hjr)
       ·
        obtain rfl : j = r.length := by omega
        rw [hh0]
        exact (if_neg hjr).trans (by rw [Nat.sub_self]; rfl))).out E a w hsim
      refine ih _ ?_ E1 a w h1
      rw [hstep, if_neg ?_]
      have := hb2; simp only [bne, tl_eq] at this; simpa using this)
  ·
   exact False.elim (of_decide_eq_false hb1 (by omega))
theorem rdo_ok2 (q x y z : List Rw) (k : Int) (key val old : ByteArray) (hq : q.length ≤ 16) (hz : ∀ r ∈ q, r.2.size ≤ 64) : Eng.Spec Tryd.prog gz0 57 [.ref 0 2, .d (.agg [.raw (.int .i64 k), .raw (.string key), .raw (.string val), .raw (.string old)])] (rm2 q x y z) (.tup [.d (.raw (.string (rdoM q k key val old).1)), .d (.raw (.int .i64 (rdoM q k key val old).2.1))]) (ru2 (rdoM q k key val old).2.2 x y z) := by
 refine spec_fn Tryd.func57 rfl fun {w N E a} hsim => ?_
 have hv : (checkM k key val old != 0) = false → val.size ≤ 64 := fun h => (check_sizes (by simpa using h)).2.2.1
 have hs : (q.getD (atI q key).toNat (ByteArray.empty, ByteArray.empty)).2.size ≤ 64 := by
   by_cases h : (atI q key).toNat < q.length
   · rw [getD_get h]; exact hz _ (List.getElem_mem h)
   · rw [List.getD_eq_getElem?_getD, List.getElem?_eq_none (by omega)]; decide
 have hlt := at_lt q key
 have hge := at_ge q key
 have hin := fun h => (at_in (q := q) (key := key) h)
 rcases bd (checkM k key val old != (0 : Int)) with hb1 | hb1
 ·
  exact gs (Q12_ok q x y z (by omega)) Tryd.func57 (sr' := ⟨5, [.tup [vS (eM), vI (checkM k key val old)]], [(0, .obj 107 [.own 1, .own 2, .own 3, .own 4]), (1, .row 142 2 x.length (rowEl x)), (2, .row 142 2 y.length (rowEl y)), (3, .row 142 2 q.length (rowEl q)), (4, .row 142 2 z.length (rowEl z))]⟩) (cs := [_]) [true] true ⟨hb1, trivial⟩ (by (refine rdo_same2 ?_; (clear hsim hs hv hin; simp only [at_lt, at_ge, empty_app, mk_empty, len16] at *; simp_all [rdoM, rnow, atI, rhad, empty_app2, beq_ba, bne] <;> ((repeat' split) <;> first | rfl | omega | (exfalso; omega)); done))) hsim
 ·
  rcases bd (k == (2 : Int)) with hb2 | hb2
  ·
   rcases bd (decide (atI q key < (0 : Int))) with hb3 | hb3
   ·
    rcases bd (decide ((↑q.length : Int) ≥ (16 : Int))) with hb4 | hb4
    ·
     exact gs (Q12_ok q x y z (by omega)) Tryd.func57 (sr' := ⟨5, [.tup [vS (eM), vI 5]], [(0, .obj 107 [.own 1, .own 2, .own 3, .own 4]), (1, .row 142 2 x.length (rowEl x)), (2, .row 142 2 y.length (rowEl y)), (3, .row 142 2 q.length (rowEl q)), (4, .row 142 2 z.length (rowEl z))]⟩) (cs := [_, ((true) = true), (x.length = x.length), (rowEl x = rowEl x), (y.length = y.length), (rowEl y = rowEl y), (q.length = q.length), (rowEl q = rowEl q), (z.length = z.length), (rowEl z = rowEl z), _, _, _]) [false, true, true, true] true ⟨hb1, rfl, (by rfl), (by rfl), (by rfl), (by rfl), (by rfl), (by rfl), (by rfl), (by rfl), hb2, hb3, hb4, trivial⟩ (by (refine rdo_same2 ?_; (clear hsim hs hv hin; simp only [at_lt, at_ge, empty_app, mk_empty, len16] at *; simp_all [rdoM, rnow, atI, rhad, empty_app2, beq_ba, bne] <;> ((repeat' split) <;> first | rfl | omega | (exfalso; omega)); done))) hsim
    ·
     rcases bd (decide (atI q key ≥ (0 : Int))) with hb5 | hb5
     ·
      rcases bd (k == (3 : Int)) with hb6 | hb6
      ·
       rcases bd (decide ((↑((q.getD (atI q key).toNat (ByteArray.empty, ByteArray.empty)).snd ++ val).size : Int) > (64 : Int))) with hb7 | hb7
       ·
        (exfalso; clear hsim hs hv hin; simp only [at_lt, at_ge] at *; simp_all; done)
       ·
        have q0_ : ((decide (atI q key < (0 : Int))) = true) := hb3
        have q1_ : (q.length + (1 : Nat) ≤ (9223372036854775807 : Nat) ∧ (q.length + (1 : Nat)) * (32 : Nat) ≤ (140737488355328 : Nat)) := (by omega)
        (exfalso; clear hsim hs hv hin; simp only [at_lt, at_ge] at *; simp_all; done)
      ·
       rcases bd (decide ((↑val.size : Int) > (64 : Int))) with hb8 | hb8
       ·
        (exfalso; clear hsim hs hv hin; simp only [at_lt, at_ge] at *; simp_all; done)
       ·
        have q0_ : ((decide (atI q key < (0 : Int))) = true) := hb3
        have q1_ : (q.length + (1 : Nat) ≤ (9223372036854775807 : Nat) ∧ (q.length + (1 : Nat)) * (32 : Nat) ≤ (140737488355328 : Nat)) := (by omega)
        (exfalso; clear hsim hs hv hin; simp only [at_lt, at_ge] at *; simp_all; done)
     ·
      rcases bd (k == (3 : Int)) with hb9 | hb9
      ·
       rcases bd (decide ((↑(ByteArray.mk #[] ++ val).size : Int) > (64 : Int))) with hb10 | hb10
       ·
        (exfalso; clear hsim hs hv hin; simp only [at_lt, at_ge] at *; simp_all; done)
       ·
        have q0_ : ((decide (atI q key < (0 : Int))) = true) := hb3
        have q1_ : (q.length + (1 : Nat) ≤ (9223372036854775807 : Nat) ∧ (q.length + (1 : Nat)) * (32 : Nat) ≤ (140737488355328 : Nat)) := (by omega)
        (exfalso; clear hsim hs hv hin; simp only [at_lt, at_ge] at *; simp_all; done)
      ·
       rcases bd (decide ((↑val.size : Int) > (64 : Int))) with hb11 | hb11
       ·
        exact gs (Q12_ok q x y z (by omega)) Tryd.func57 (sr' := ⟨5, [.tup [vS (eM), vI 2]], [(0, .obj 107 [.own 1, .own 2, .own 3, .own 4]), (1, .row 142 2 x.length (rowEl x)), (2, .row 142 2 y.length (rowEl y)), (3, .row 142 2 q.length (rowEl q)), (4, .row 142 2 z.length (rowEl z))]⟩) (cs := [_, ((true) = true), (x.length = x.length), (rowEl x = rowEl x), (y.length = y.length), (rowEl y = rowEl y), (q.length = q.length), (rowEl q = rowEl q), (z.length = z.length), (rowEl z = rowEl z), _, _, _, _, _, _]) [false, true, true, false, false, false, true] true ⟨hb1, rfl, (by rfl), (by rfl), (by rfl), (by rfl), (by rfl), (by rfl), (by rfl), (by rfl), hb2, hb3, hb4, hb5, hb9, hb11, trivial⟩ (by (refine rdo_same2 ?_; (clear hsim hs hv hin; simp only [at_lt, at_ge, empty_app, mk_empty, len16] at *; simp_all [rdoM, rnow, atI, rhad, empty_app2, beq_ba, bne] <;> ((repeat' split) <;> first | rfl | omega | (exfalso; omega)); done))) hsim
       ·
        have q0_ : ((decide (atI q key < (0 : Int))) = true) := hb3
        have q1_ : (q.length + (1 : Nat) ≤ (9223372036854775807 : Nat) ∧ (q.length + (1 : Nat)) * (32 : Nat) ≤ (140737488355328 : Nat)) := (by omega)
        exact gs (Q12_ok q x y z (by omega)) Tryd.func57 (sr' := ⟨5, [.tup [vS (eM), vI 0]], [(0, .obj 107 [.own 1, .own 2, .own 5, .own 4]), (1, .row 142 2 x.length (rowEl x)), (2, .row 142 2 y.length (rowEl y)), (4, .row 142 2 z.length (rowEl z)), (5, .row 142 2 (q.length + 1) (fun j => if j < q.length then rowEl q j else segD true 2 (splice (List.map (fun j => (List.map D.raw (Value.agg #[Value.string (eM), Value.string (eM)]).cells.toList).getD (j % 2) default) (List.range 2)) 0 (D.agg [rS key, rS val]).cells) (j - q.length)))]⟩) (cs := ((fun (c0 c1 : Prop) => [_, ((true) = true), (x.length = x.length), (rowEl x = rowEl x), (y.length = y.length), (rowEl y = rowEl y), (q.length = q.length), (rowEl q = rowEl q), (z.length = z.length), (rowEl z = rowEl z), _, c0, _, _, _, _, c0, c1, c1]) _ _)) ([false, true, true] ++ (List.replicate 4 false) ++ [true]) true ⟨hb1, rfl, (by rfl), (by rfl), (by rfl), (by rfl), (by rfl), (by rfl), (by rfl), (by rfl), hb2, q0_, hb4, hb5, hb9, hb11, q0_, q1_, q1_, trivial⟩ (by (refine rdo_app2 (now := val) ?_ ?_ _ ?_ ?_; rotate_left 2; exact fun j hj => if_pos hj; exact (if_neg (Nat.lt_irrefl _)).trans (by rw [Nat.sub_self]; rfl); all_goals (clear hsim hs hv hin; simp only [at_lt, at_ge, empty_app, mk_empty, len16] at *; simp_all [rdoM, rnow, atI, rhad, empty_app2, beq_ba, bne] <;> ((repeat' split) <;> first | rfl | omega | (exfalso; omega)); done))) hsim
   ·
    rcases bd (decide (atI q key ≥ (0 : Int))) with hb12 | hb12
    ·
     rcases bd (k == (3 : Int)) with hb13 | hb13
     ·
      rcases bd (decide ((↑((q.getD (atI q key).toNat (ByteArray.empty, ByteArray.empty)).snd ++ val).size : Int) > (64 : Int))) with hb14 | hb14
      ·
       (exfalso; clear hsim hs hv hin; simp only [at_lt, at_ge] at *; simp_all; done)
      ·
       have q0_ : ((decide (atI q key < (0 : Int))) = false) := hb3
       have q1_ : ((0 : Int) ≤ atI q key ∧ atI q key < (↑q.length : Int)) := (by exact at_in (by (clear hsim hs hv hin; simp only [at_lt, at_ge] at *; simp_all; done)))
       have q2_ : ((atI q key).toNat < q.length) := (by omega)
       (exfalso; clear hsim hs hv hin; simp only [at_lt, at_ge] at *; simp_all; done)
     ·
      rcases bd (decide ((↑val.size : Int) > (64 : Int))) with hb15 | hb15
      ·
       exact gs (Q12_ok q x y z (by omega)) Tryd.func57 (sr' := ⟨5, [.tup [vS (eM), vI 2]], [(0, .obj 107 [.own 1, .own 2, .own 3, .own 4]), (1, .row 142 2 x.length (rowEl x)), (2, .row 142 2 y.length (rowEl y)), (3, .row 142 2 q.length (rowEl q)), (4, .row 142 2 z.length (rowEl z))]⟩) (cs := [_, ((true) = true), (x.length = x.length), (rowEl x = rowEl x), (y.length = y.length), (rowEl y = rowEl y), (q.length = q.length), (rowEl q = rowEl q), (z.length = z.length), (rowEl z = rowEl z), _, _, _, ((0 : Int) ≤ atI q key ∧ atI q key < (↑q.length : Int)), ((atI q key).toNat < q.length), _, _]) [false, true, false, true, false, true] true ⟨hb1, rfl, (by rfl), (by rfl), (by rfl), (by rfl), (by rfl), (by rfl), (by rfl), (by rfl), hb2, hb3, hb12, (by exact at_in (by (clear hsim hs hv hin; simp only [at_lt, at_ge] at *; simp_all; done))), (by exact at_inN (by (clear hsim hs hv hin; simp only [at_lt, at_ge] at *; simp_all; done))), hb13, hb15, trivial⟩ (by (refine rdo_same2 ?_; (clear hsim hs hv hin; simp only [at_lt, at_ge, empty_app, mk_empty, len16] at *; simp_all [rdoM, rnow, atI, rhad, empty_app2, beq_ba, bne] <;> ((repeat' split) <;> first | rfl | omega | (exfalso; omega)); done))) hsim
      ·
       have q0_ : ((decide (atI q key < (0 : Int))) = false) := hb3
       have q1_ : ((0 : Int) ≤ atI q key ∧ atI q key < (↑q.length : Int)) := (by exact at_in (by (clear hsim hs hv hin; simp only [at_lt, at_ge] at *; simp_all; done)))
       have q2_ : ((atI q key).toNat < q.length) := (by omega)
       exact gs (Q12_ok q x y z (by omega)) Tryd.func57 (sr' := let za := q.getD (atI q key).toNat (eB, eB); ⟨5, [.tup [vS (za.snd), vI 0]], [(0, .obj 107 [.own 1, .own 2, .own 3, .own 4]), (1, .row 142 2 x.length (rowEl x)), (2, .row 142 2 y.length (rowEl y)), (3, .row 142 2 q.length (fun j => mrg (j.beq (atI q key).toNat) (D.agg (splice [rS za.fst, rS za.snd] 1 [rS val])) (rowEl q j))), (4, .row 142 2 z.length (rowEl z))]⟩) (cs := ((fun (c0 c1 c2 : Prop) => [_, ((true) = true), (x.length = x.length), (rowEl x = rowEl x), (y.length = y.length), (rowEl y = rowEl y), (q.length = q.length), (rowEl q = rowEl q), (z.length = z.length), (rowEl z = rowEl z), _, c0, _, c1, c2, _, _, c0, c1, c2]) _ _ _)) [false, true, false, true, false, false, false] true ⟨hb1, rfl, (by rfl), (by rfl), (by rfl), (by rfl), (by rfl), (by rfl), (by rfl), (by rfl), hb2, q0_, hb12, q1_, q2_, hb13, hb15, q0_, q1_, q2_, trivial⟩ (by (refine rdo_set2 (now := val) ?_ ?_ _ (fun j => rfl) <;> (clear hsim hs hv hin; simp only [at_lt, at_ge, empty_app, mk_empty, len16] at *; simp_all [rdoM, rnow, atI, rhad, empty_app2, beq_ba, bne] <;> ((repeat' split) <;> first | rfl | omega | (exfalso; omega)); done))) hsim
    ·
     rcases bd (k == (3 : Int)) with hb16 | hb16
     ·
      rcases bd (decide ((↑(ByteArray.mk #[] ++ val).size : Int) > (64 : Int))) with hb17 | hb17
      ·
       (exfalso; clear hsim hs hv hin; simp only [at_lt, at_ge] at *; simp_all; done)
      ·
       have q0_ : ((decide (atI q key < (0 : Int))) = false) := hb3
       (exfalso; clear hsim hs hv hin; simp only [at_lt, at_ge] at *; simp_all; done)
     ·
      rcases bd (decide ((↑val.size : Int) > (64 : Int))) with hb18 | hb18
      ·
       (exfalso; clear hsim hs hv hin; simp only [at_lt, at_ge] at *; simp_all; done)
      ·
       have q0_ : ((decide (atI q key < (0 : Int))) = false) := hb3
       (exfalso; clear hsim hs hv hin; simp only [at_lt, at_ge] at *; simp_all; done)
  ·
   rcases bd (k == (3 : Int)) with hb19 | hb19
   ·
    rcases bd (decide (atI q key < (0 : Int))) with hb20 | hb20
    ·
     rcases bd (decide ((↑q.length : Int) ≥ (16 : Int))) with hb21 | hb21
     ·
      exact gs (Q12_ok q x y z (by omega)) Tryd.func57 (sr' := ⟨5, [.tup [vS (eM), vI 5]], [(0, .obj 107 [.own 1, .own 2, .own 3, .own 4]), (1, .row 142 2 x.length (rowEl x)), (2, .row 142 2 y.length (rowEl y)), (3, .row 142 2 q.length (rowEl q)), (4, .row 142 2 z.length (rowEl z))]⟩) (cs := [_, ((true) = true), (x.length = x.length), (rowEl x = rowEl x), (y.length = y.length), (rowEl y = rowEl y), (q.length = q.length), (rowEl q = rowEl q), (z.length = z.length), (rowEl z = rowEl z), _, _, _, _]) [false, false, true, true, true] true ⟨hb1, rfl, (by rfl), (by rfl), (by rfl), (by rfl), (by rfl), (by rfl), (by rfl), (by rfl), hb2, hb19, hb20, hb21, trivial⟩ (by (refine rdo_same2 ?_; (clear hsim hs hv hin; simp only [at_lt, at_ge, empty_app, mk_empty, len16] at *; simp_all [rdoM, rnow, atI, rhad, empty_app2, beq_ba, bne] <;> ((repeat' split) <;> first | rfl | omega | (exfalso; omega)); done))) hsim
     ·
      rcases bd (decide (atI q key ≥ (0 : Int))) with hb22 | hb22
      ·
       rcases bd (decide ((↑((q.getD (atI q key).toNat (ByteArray.empty, ByteArray.empty)).snd ++ val).size : Int) > (64 : Int))) with hb23 | hb23
       ·
        have q0_ : ((k == (3 : Int)) = true) := hb19
        (exfalso; clear hsim hs hv hin; simp only [at_lt, at_ge] at *; simp_all; done)
       ·
        have q0_ : ((k == (3 : Int)) = true) := hb19
        have q1_ : ((decide (atI q key < (0 : Int))) = true) := hb20
        have q2_ : (q.length + (1 : Nat) ≤ (9223372036854775807 : Nat) ∧ (q.length + (1 : Nat)) * (32 : Nat) ≤ (140737488355328 : Nat)) := (by omega)
        (exfalso; clear hsim hs hv hin; simp only [at_lt, at_ge] at *; simp_all; done)
      ·
       rcases bd (decide ((↑(ByteArray.mk #[] ++ val).size : Int) > (64 : Int))) with hb24 | hb24
       ·
        have q0_ : ((k == (3 : Int)) = true) := hb19
        exact gs (Q12_ok q x y z (by omega)) Tryd.func57 (sr' := ⟨5, [.tup [vS (eM), vI 2]], [(0, .obj 107 [.own 1, .own 2, .own 3, .own 4]), (1, .row 142 2 x.length (rowEl x)), (2, .row 142 2 y.length (rowEl y)), (3, .row 142 2 q.length (rowEl q)), (4, .row 142 2 z.length (rowEl z))]⟩) (cs := ((fun (c0 : Prop) => [_, ((true) = true), (x.length = x.length), (rowEl x = rowEl x), (y.length = y.length), (rowEl y = rowEl y), (q.length = q.length), (rowEl q = rowEl q), (z.length = z.length), (rowEl z = rowEl z), _, c0, _, _, _, c0, (0 + val.size ≤ 9223372036854775807), _]) _)) [false, false, true, true, false, false, true, true] true ⟨hb1, rfl, (by rfl), (by rfl), (by rfl), (by rfl), (by rfl), (by rfl), (by rfl), (by rfl), hb2, q0_, hb20, hb21, hb22, q0_, (by (have := hv hb1; omega)), hb24, trivial⟩ (by (refine rdo_same2 ?_; (clear hsim hs hv hin; simp only [at_lt, at_ge, empty_app, mk_empty, len16] at *; simp_all [rdoM, rnow, atI, rhad, empty_app2, beq_ba, bne] <;> ((repeat' split) <;> first | rfl | omega | (exfalso; omega)); done))) hsim
       ·
        have q0_ : ((k == (3 : Int)) = true) := hb19
        have q1_ : ((decide (atI q key < (0 : Int))) = true) := hb20
        have q2_ : (q.length + (1 : Nat) ≤ (9223372036854775807 : Nat) ∧ (q.length + (1 : Nat)) * (32 : Nat) ≤ (140737488355328 : Nat)) := (by omega)
        exact gs (Q12_ok q x y z (by omega)) Tryd.func57 (sr' := ⟨5, [.tup [vS (eM ++ val), vI 0]], [(0, .obj 107 [.own 1, .own 2, .own 5, .own 4]), (1, .row 142 2 x.length (rowEl x)), (2, .row 142 2 y.length (rowEl y)), (4, .row 142 2 z.length (rowEl z)), (5, .row 142 2 (q.length + 1) (fun j => if j < q.length then rowEl q j else segD true 2 (splice (List.map (fun j => (List.map D.raw (Value.agg #[Value.string (eM), Value.string (eM)]).cells.toList).getD (j % 2) default) (List.range 2)) 0 (D.agg [rS key, rS (eM ++ val)]).cells) (j - q.length)))]⟩) (cs := ((fun (c0 c1 c2 : Prop) => [_, ((true) = true), (x.length = x.length), (rowEl x = rowEl x), (y.length = y.length), (rowEl y = rowEl y), (q.length = q.length), (rowEl q = rowEl q), (z.length = z.length), (rowEl z = rowEl z), _, c0, c1, _, _, c0, (0 + val.size ≤ 9223372036854775807), _, c1, c2, c2]) _ _ _)) [false, false, true, true, false, false, true, false, true] true ⟨hb1, rfl, (by rfl), (by rfl), (by rfl), (by rfl), (by rfl), (by rfl), (by rfl), (by rfl), hb2, q0_, q1_, hb21, hb22, q0_, (by (have := hv hb1; omega)), hb24, q1_, q2_, q2_, trivial⟩ (by (refine rdo_app2 (now := val) ?_ ?_ _ ?_ ?_; rotate_left 2; exact fun j hj => if_pos hj; exact (if_neg (Nat.lt_irrefl _)).trans (by rw [Nat.sub_self]; rfl); all_goals (clear hsim hs hv hin; simp only [at_lt, at_ge, empty_app, mk_empty, len16] at *; simp_all [rdoM, rnow, atI, rhad, empty_app2, beq_ba, bne] <;> ((repeat' split) <;> first | rfl | omega | (exfalso; omega)); done))) hsim
    ·
     rcases bd (decide (atI q key ≥ (0 : Int))) with hb25 | hb25
     ·
      rcases bd (decide ((↑((q.getD (atI q key).toNat (ByteArray.empty, ByteArray.empty)).snd ++ val).size : Int) > (64 : Int))) with hb26 | hb26
      ·
       have q0_ : ((k == (3 : Int)) = true) := hb19
       exact gs (Q12_ok q x y z (by omega)) Tryd.func57 (sr' := ⟨5, [.tup [vS (eM), vI 2]], [(0, .obj 107 [.own 1, .own 2, .own 3, .own 4]), (1, .row 142 2 x.length (rowEl x)), (2, .row 142 2 y.length (rowEl y)), (3, .row 142 2 q.length (rowEl q)), (4, .row 142 2 z.length (rowEl z))]⟩) (cs := ((fun (c0 : Prop) => [_, ((true) = true), (x.length = x.length), (rowEl x = rowEl x), (y.length = y.length), (rowEl y = rowEl y), (q.length = q.length), (rowEl q = rowEl q), (z.length = z.length), (rowEl z = rowEl z), _, c0, _, _, ((0 : Int) ≤ atI q key ∧ atI q key < (↑q.length : Int)), ((atI q key).toNat < q.length), c0, ((q.getD (atI q key).toNat (ByteArray.empty, ByteArray.empty)).snd.size + val.size ≤ 9223372036854775807), _]) _)) [false, false, true, false, true, true, true] true ⟨hb1, rfl, (by rfl), (by rfl), (by rfl), (by rfl), (by rfl), (by rfl), (by rfl), (by rfl), hb2, q0_, hb20, hb25, (by exact at_in (by (clear hsim hs hv hin; simp only [at_lt, at_ge] at *; simp_all; done))), (by exact at_inN (by (clear hsim hs hv hin; simp only [at_lt, at_ge] at *; simp_all; done))), q0_, (by (have := hv hb1; omega)), hb26, trivial⟩ (by (refine rdo_same2 ?_; (clear hsim hs hv hin; simp only [at_lt, at_ge, empty_app, mk_empty, len16] at *; simp_all [rdoM, rnow, atI, rhad, empty_app2, beq_ba, bne] <;> ((repeat' split) <;> first | rfl | omega | (exfalso; omega)); done))) hsim
      ·
       have q0_ : ((k == (3 : Int)) = true) := hb19
       have q1_ : ((decide (atI q key < (0 : Int))) = false) := hb20
       have q2_ : ((0 : Int) ≤ atI q key ∧ atI q key < (↑q.length : Int)) := (by exact at_in (by (clear hsim hs hv hin; simp only [at_lt, at_ge] at *; simp_all; done)))
       have q3_ : ((atI q key).toNat < q.length) := (by omega)
       exact gs (Q12_ok q x y z (by omega)) Tryd.func57 (sr' := let za := q.getD (atI q key).toNat (eB, eB); ⟨5, [.tup [vS (za.snd ++ val), vI 0]], [(0, .obj 107 [.own 1, .own 2, .own 3, .own 4]), (1, .row 142 2 x.length (rowEl x)), (2, .row 142 2 y.length (rowEl y)), (3, .row 142 2 q.length (fun j => mrg (j.beq (atI q key).toNat) (D.agg (splice [rS za.fst, rS za.snd] 1 [rS (za.snd ++ val)])) (rowEl q j))), (4, .row 142 2 z.length (rowEl z))]⟩) (cs := ((fun (c0 c1 c2 c3 : Prop) => [_, ((true) = true), (x.length = x.length), (rowEl x = rowEl x), (y.length = y.length), (rowEl y = rowEl y), (q.length = q.length), (rowEl q = rowEl q), (z.length = z.length), (rowEl z = rowEl z), _, c0, c1, _, c2, c3, c0, ((q.getD (atI q key).toNat (ByteArray.empty, ByteArray.empty)).snd.size + val.size ≤ 9223372036854775807), _, c1, c2, c3]) _ _ _ _)) [false, false, true, false, true, true, false, false] true ⟨hb1, rfl, (by rfl), (by rfl), (by rfl), (by rfl), (by rfl), (by rfl), (by rfl), (by rfl), hb2, q0_, q1_, hb25, q2_, q3_, q0_, (by (have := hv hb1; omega)), hb26, q1_, q2_, q3_, trivial⟩ (by (refine rdo_set2 (now := (q.getD (atI q key).toNat (ByteArray.empty, ByteArray.empty)).2 ++ val) ?_ ?_ _ (fun j => rfl) <;> (clear hsim hs hv hin; simp only [at_lt, at_ge, empty_app, mk_empty, len16] at *; simp_all [rdoM, rnow, atI, rhad, empty_app2, beq_ba, bne] <;> ((repeat' split) <;> first | rfl | omega | (exfalso; omega)); done))) hsim
     ·
      rcases bd (decide ((↑(ByteArray.mk #[] ++ val).size : Int) > (64 : Int))) with hb27 | hb27
      ·
       have q0_ : ((k == (3 : Int)) = true) := hb19
       (exfalso; clear hsim hs hv hin; simp only [at_lt, at_ge] at *; simp_all; done)
      ·
       have q0_ : ((k == (3 : Int)) = true) := hb19
       have q1_ : ((decide (atI q key < (0 : Int))) = false) := hb20
       (exfalso; clear hsim hs hv hin; simp only [at_lt, at_ge] at *; simp_all; done)
   ·
    rcases bd (decide (atI q key < (0 : Int))) with hb28 | hb28
    ·
     exact gs (Q12_ok q x y z (by omega)) Tryd.func57 (sr' := ⟨5, [.tup [vS (eM), vI 6]], [(0, .obj 107 [.own 1, .own 2, .own 3, .own 4]), (1, .row 142 2 x.length (rowEl x)), (2, .row 142 2 y.length (rowEl y)), (3, .row 142 2 q.length (rowEl q)), (4, .row 142 2 z.length (rowEl z))]⟩) (cs := [_, ((true) = true), (x.length = x.length), (rowEl x = rowEl x), (y.length = y.length), (rowEl y = rowEl y), (q.length = q.length), (rowEl q = rowEl q), (z.length = z.length), (rowEl z = rowEl z), _, _, _]) [false, false, false, true] true ⟨hb1, rfl, (by rfl), (by rfl), (by rfl), (by rfl), (by rfl), (by rfl), (by rfl), (by rfl), hb2, hb19, hb28, trivial⟩ (by (refine rdo_same2 ?_; (clear hsim hs hv hin; simp only [at_lt, at_ge, empty_app, mk_empty, len16] at *; simp_all [rdoM, rnow, atI, rhad, empty_app2, beq_ba, bne] <;> ((repeat' split) <;> first | rfl | omega | (exfalso; omega)); done))) hsim
    ·
     rcases bd (k == (5 : Int)) with hb29 | hb29
     ·
      rcases bd (!(q.getD (atI q key).toNat (ByteArray.empty, ByteArray.empty)).snd.toList == old.toList) with hb30 | hb30
      ·
       exact gs (Q12_ok q x y z (by omega)) Tryd.func57 (sr' := ⟨5, [.tup [vS (eM), vI 7]], [(0, .obj 107 [.own 1, .own 2, .own 3, .own 4]), (1, .row 142 2 x.length (rowEl x)), (2, .row 142 2 y.length (rowEl y)), (3, .row 142 2 q.length (rowEl q)), (4, .row 142 2 z.length (rowEl z))]⟩) (cs := [_, ((true) = true), (x.length = x.length), (rowEl x = rowEl x), (y.length = y.length), (rowEl y = rowEl y), (q.length = q.length), (rowEl q = rowEl q), (z.length = z.length), (rowEl z = rowEl z), _, _, _, ((0 : Int) ≤ atI q key ∧ atI q key < (↑q.length : Int)), ((atI q key).toNat < q.length), _, _]) ((List.replicate 4 false) ++ [true, true]) true ⟨hb1, rfl, (by rfl), (by rfl), (by rfl), (by rfl), (by rfl), (by rfl), (by rfl), (by rfl), hb2, hb19, hb28, (by exact at_in (by (clear hsim hs hv hin; simp only [at_lt, at_ge] at *; simp_all; done))), (by exact at_inN (by (clear hsim hs hv hin; simp only [at_lt, at_ge] at *; simp_all; done))), hb29, hb30, trivial⟩ (by (refine rdo_same2 ?_; (clear hsim hs hv hin; simp only [at_lt, at_ge, empty_app, mk_empty, len16] at *; simp_all [rdoM, rnow, atI, rhad, empty_app2, beq_ba, bne] <;> ((repeat' split) <;> first | rfl | omega | (exfalso; omega)); done))) hsim
      ·
       rcases bd (k == (4 : Int)) with hb31 | hb31
       ·
        have q0_ : ((0 : Int) ≤ atI q key ∧ atI q key < (↑q.length : Int)) := (by exact at_in (by (clear hsim hs hv hin; simp only [at_lt, at_ge] at *; simp_all; done)))
        have q1_ : ((atI q key).toNat < q.length) := (by omega)
        refine gh (Q12_ok q x y z (by omega)) (k' := loopAt Tryd.f57 0) (s' := let za := q.getD (atI q key).toNat (eB, eB); mk 5 143 [(0, .ref 0 2), (3, .ref 5 0), (11, vS (za.snd)), (12, .d (.raw (Value.slice none 0 0))), (122, .own 3), (123, vI (↑q.length : Int)), (124, vI 0)] [(0, .obj 107 [.own 1, .own 2, .own 3, .own 4]), (1, .row 142 2 x.length (rowEl x)), (2, .row 142 2 y.length (rowEl y)), (3, .row 142 2 q.length (fun j => mrg (j.beq (atI q key).toNat) (D.agg (splice [rS za.fst, rS za.snd] 1 [rS val])) (rowEl q j))), (4, .row 142 2 z.length (rowEl z)), (5, .obj 41 [vI k, vS key, vS val, vS old])]) (cs := ((fun (c0 c1 : Prop) => [_, ((true) = true), (x.length = x.length), (rowEl x = rowEl x), (y.length = y.length), (rowEl y = rowEl y), (q.length = q.length), (rowEl q = rowEl q), (z.length = z.length), (rowEl z = rowEl z), _, _, _, c0, c1, _, _, c0, c1, _]) _ _)) ((List.replicate 4 false) ++ [true, false, true]) [0,3,11,12,122,123,124] ⟨hb1, rfl, (by rfl), (by rfl), (by rfl), (by rfl), (by rfl), (by rfl), (by rfl), (by rfl), hb2, hb19, hb28, q0_, q1_, hb29, hb30, q0_, q1_, hb31, trivial⟩ hsim fun E a w hsim => ?_
        first
         | (
          exfalso; clear hsim hs hv hin; simp only [at_lt, at_ge] at *; simp_all; done)
         | (
          obtain ⟨E2, h1⟩ := hsim.nilRow (t := 12) rfl 142 2 (rowEl [])
          refine rdel_go2 q x y z k key val old _ hq ?_ q.length (q.length : Int) 0 rfl (by omega) (by omega) [] rfl E2 a w h1
          clear hsim h1 hs hv hin
          simp only [at_lt, at_ge, empty_app, mk_empty, len16] at *
          simp_all [rdoM, rnow, atI, rhad, empty_app2, beq_ba, bne])
       ·
        have q0_ : ((0 : Int) ≤ atI q key ∧ atI q key < (↑q.length : Int)) := (by exact at_in (by (clear hsim hs hv hin; simp only [at_lt, at_ge] at *; simp_all; done)))
        have q1_ : ((atI q key).toNat < q.length) := (by omega)
        exact gs (Q12_ok q x y z (by omega)) Tryd.func57 (sr' := let za := q.getD (atI q key).toNat (eB, eB); ⟨5, [.tup [vS (za.snd), vI 0]], [(0, .obj 107 [.own 1, .own 2, .own 3, .own 4]), (1, .row 142 2 x.length (rowEl x)), (2, .row 142 2 y.length (rowEl y)), (3, .row 142 2 q.length (fun j => mrg (j.beq (atI q key).toNat) (D.agg (splice [rS za.fst, rS za.snd] 1 [rS val])) (rowEl q j))), (4, .row 142 2 z.length (rowEl z))]⟩) (cs := ((fun (c0 c1 : Prop) => [_, ((true) = true), (x.length = x.length), (rowEl x = rowEl x), (y.length = y.length), (rowEl y = rowEl y), (q.length = q.length), (rowEl q = rowEl q), (z.length = z.length), (rowEl z = rowEl z), _, _, _, c0, c1, _, _, c0, c1, _]) _ _)) ((List.replicate 4 false) ++ [true, false, false]) true ⟨hb1, rfl, (by rfl), (by rfl), (by rfl), (by rfl), (by rfl), (by rfl), (by rfl), (by rfl), hb2, hb19, hb28, q0_, q1_, hb29, hb30, q0_, q1_, hb31, trivial⟩ (by (refine rdo_set2 (now := val) ?_ ?_ _ (fun j => rfl) <;> (clear hsim hs hv hin; simp only [at_lt, at_ge, empty_app, mk_empty, len16] at *; simp_all [rdoM, rnow, atI, rhad, empty_app2, beq_ba, bne] <;> ((repeat' split) <;> first | rfl | omega | (exfalso; omega)); done))) hsim
     ·
      rcases bd (k == (4 : Int)) with hb32 | hb32
      ·
       refine gh (Q12_ok q x y z (by omega)) (k' := loopAt Tryd.f57 0) (s' := mk 5 143 [(0, .ref 0 2), (3, .ref 5 0), (11, vS ((q.getD (atI q key).toNat (eB, eB)).snd)), (12, .d (.raw (Value.slice none 0 0))), (122, .own 3), (123, vI (↑q.length : Int)), (124, vI 0)] [(0, .obj 107 [.own 1, .own 2, .own 3, .own 4]), (1, .row 142 2 x.length (rowEl x)), (2, .row 142 2 y.length (rowEl y)), (3, .row 142 2 q.length (rowEl q)), (4, .row 142 2 z.length (rowEl z)), (5, .obj 41 [vI k, vS key, vS val, vS old])]) (cs := [_, ((true) = true), (x.length = x.length), (rowEl x = rowEl x), (y.length = y.length), (rowEl y = rowEl y), (q.length = q.length), (rowEl q = rowEl q), (z.length = z.length), (rowEl z = rowEl z), _, _, _, ((0 : Int) ≤ atI q key ∧ atI q key < (↑q.length : Int)), ((atI q key).toNat < q.length), _, _]) ((List.replicate 5 false) ++ [true]) [0,3,11,12,122,123,124] ⟨hb1, rfl, (by rfl), (by rfl), (by rfl), (by rfl), (by rfl), (by rfl), (by rfl), (by rfl), hb2, hb19, hb28, (by exact at_in (by (clear hsim hs hv hin; simp only [at_lt, at_ge] at *; simp_all; done))), (by exact at_inN (by (clear hsim hs hv hin; simp only [at_lt, at_ge] at *; simp_all; done))), hb29, hb32, trivial⟩ hsim fun E a w hsim => ?_
       first
        | (
         exfalso; clear hsim hs hv hin; simp only [at_lt, at_ge] at *; simp_all; done)
        | (
         obtain ⟨E2, h1⟩ := hsim.nilRow (t := 12) rfl 142 2 (rowEl [])
         refine rdel_go2 q x y z k key val old _ hq ?_ q.length (q.length : Int) 0 rfl (by omega) (by omega) [] rfl E2 a w h1
         clear hsim h1 hs hv hin
         simp only [at_lt, at_ge, empty_app, mk_empty, len16] at *
         simp_all [rdoM, rnow, atI, rhad, empty_app2, beq_ba, bne])
      ·
       exact gs (Q12_ok q x y z (by omega)) Tryd.func57 (sr' := ⟨5, [.tup [vS ((q.getD (atI q key).toNat (eB, eB)).snd), vI 0]], [(0, .obj 107 [.own 1, .own 2, .own 3, .own 4]), (1, .row 142 2 x.length (rowEl x)), (2, .row 142 2 y.length (rowEl y)), (3, .row 142 2 q.length (rowEl q)), (4, .row 142 2 z.length (rowEl z))]⟩) (cs := [_, ((true) = true), (x.length = x.length), (rowEl x = rowEl x), (y.length = y.length), (rowEl y = rowEl y), (q.length = q.length), (rowEl q = rowEl q), (z.length = z.length), (rowEl z = rowEl z), _, _, _, ((0 : Int) ≤ atI q key ∧ atI q key < (↑q.length : Int)), ((atI q key).toNat < q.length), _, _]) ((List.replicate 6 false)) true ⟨hb1, rfl, (by rfl), (by rfl), (by rfl), (by rfl), (by rfl), (by rfl), (by rfl), (by rfl), hb2, hb19, hb28, (by exact at_in (by (clear hsim hs hv hin; simp only [at_lt, at_ge] at *; simp_all; done))), (by exact at_inN (by (clear hsim hs hv hin; simp only [at_lt, at_ge] at *; simp_all; done))), hb29, hb32, trivial⟩ (by (refine rdo_same2 ?_; (clear hsim hs hv hin; simp only [at_lt, at_ge, empty_app, mk_empty, len16] at *; simp_all [rdoM, rnow, atI, rhad, empty_app2, beq_ba, bne] <;> ((repeat' split) <;> first | rfl | omega | (exfalso; omega)); done))) hsim
end Go.Prf
