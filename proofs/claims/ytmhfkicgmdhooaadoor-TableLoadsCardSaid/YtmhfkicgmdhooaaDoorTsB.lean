/-
  Contracts of given functions, or plain laws that they need. No condition.
-/
import Derived.Test.YtmhfkicgmdhooaaDoorTsA
import Derived.Test.YtmhfkicgmdhooaaDoorTsG
namespace Go.Tab
open Go Go.Eng Go.Proofs Go.Nest
set_option linter.unusedVariables false
set_option linter.unusedSimpArgs false
set_option maxRecDepth 100000
set_option maxHeartbeats 4000000
theorem R1_ok (q : List Rw) (hq : q.length ≤ 1000) : OrcOK Tryd.prog (R1 q) := R0_ok.add _ false (mAt q) fun args H r H' cs h hc => by
  unfold mAt at h
  split at h
  · cases h; obtain ⟨rfl, rfl, rfl, rfl, -⟩ := hc; exact at_ok q _ hq
  · cases h
theorem rt_ren {C : Cx} (l : List Rw) (x : AV) (hx : x.rn m12 = x) : Says C ⟨2, [x], rt0 l⟩ ⟨2, [x], rt2 l⟩ := by
  refine says_rename (m := m12) ⟨rfl, fun j k i h1 h2 => ?_, fun k k' h1 h2 => ?_, fun k' t' h => ?_⟩ (by simp only [List.map_cons, List.map_nil, hx])
  · rcases m12_inv h1 with ⟨rfl, rfl⟩ | ⟨rfl, rfl⟩ <;> rcases m12_inv h2 with ⟨rfl, h⟩ | ⟨rfl, h⟩ <;> first | rfl | cases h
  · rcases m12_inv h1 with ⟨rfl, rfl⟩ | ⟨rfl, rfl⟩
    · rfl
    · exact absurd h2 (Nat.lt_irrefl 2)
  · unfold St.th rt2 at h
    by_cases e0 : k' = 0
    · subst e0; cases h
      exact ⟨0, _, rfl, rfl, rfl⟩
    · by_cases e2 : k' = 2
      · subst e2; cases h
        exact ⟨1, _, rfl, rfl, rfl⟩
      · exfalso
        have f0 : ((0 : Nat) == k') = false := beq_eq_false_iff_ne.2 (Ne.symm e0)
        have f2 : ((2 : Nat) == k') = false := beq_eq_false_iff_ne.2 (Ne.symm e2)
        simp only [Eng.look, f0, f2, Bool.false_eq_true, if_false] at h
        cases h
def m02 : Nat → Option Nat := lookN [(0, 0), (2, 2)]
theorem m02_inv {k i : Nat} (h : m02 k = some i) : (k = 0 ∧ i = 0) ∨ (k = 2 ∧ i = 2) := by
  unfold m02 lookN at h
  split at h
  · rename_i e; cases h; exact .inl ⟨(beq_iff_eq.1 e).symm, rfl⟩
  · unfold lookN at h
    split at h
    · rename_i e; cases h; exact .inr ⟨(beq_iff_eq.1 e).symm, rfl⟩
    · unfold lookN at h; cases h
/-- An old row is let go. -/
theorem rt_drop {C : Cx} (l : List Rw) (t1 : Th) (x : AV) (hx : x.rn m02 = x) : Says C ⟨2, [x], [(0, .obj 36 [.own 2]), (1, t1), (2, .row 65 2 l.length (rowEl l))]⟩ ⟨2, [x], rt2 l⟩ := by
  refine says_rename (m := m02) ⟨rfl, fun j k i h1 h2 => ?_, fun k k' h1 h2 => ?_, fun k' t' h => ?_⟩ (by simp only [List.map_cons, List.map_nil, hx])
  · rcases m02_inv h1 with ⟨rfl, rfl⟩ | ⟨rfl, rfl⟩ <;> rcases m02_inv h2 with ⟨rfl, h⟩ | ⟨rfl, h⟩ <;> first | rfl | cases h
  · rcases m02_inv h1 with ⟨rfl, rfl⟩ | ⟨rfl, rfl⟩
    · rfl
    · exact absurd h2 (Nat.lt_irrefl 2)
  · unfold St.th rt2 at h
    by_cases e0 : k' = 0
    · subst e0; cases h
      exact ⟨0, _, rfl, rfl, rfl⟩
    · by_cases e2 : k' = 2
      · subst e2; cases h
        exact ⟨2, _, rfl, rfl, rfl⟩
      · exfalso
        have f0 : ((0 : Nat) == k') = false := beq_eq_false_iff_ne.2 (Ne.symm e0)
        have f2 : ((2 : Nat) == k') = false := beq_eq_false_iff_ne.2 (Ne.symm e2)
        simp only [Eng.look, f0, f2, Bool.false_eq_true, if_false] at h
        cases h
section
variable {C : Cx} {q q2 : List Rw} {k : Int} {key val old s now : ByteArray} {e : Int}
theorem rdo_same (h : rdoM q k key val old = (s, e, q)) : Says C ⟨2, [.tup [.d (.raw (.string s)), .d (.raw (.int .i64 e))]], rt0 q⟩ ⟨2, [.tup [.d (.raw (.string (rdoM q k key val old).1)), .d (.raw (.int .i64 (rdoM q k key val old).2.1))]], rt2 (rdoM q k key val old).2.2⟩ := by
  rw [h]; exact rt_ren q _ rfl
theorem rdo_app (h : rdoM q k key val old = (s, e, rput q key now)) (hh : hasM q key = false) (f : Nat → D) (h1 : ∀ j, j < q.length → f j = rowEl q j) (h2 : f q.length = .agg [.raw (.string key), .raw (.string now)]) :
    Says C ⟨2, [.tup [.d (.raw (.string s)), .d (.raw (.int .i64 e))]], [(0, .obj 36 [.own 2]), (2, .row 65 2 (q.length + 1) f)]⟩ ⟨2, [.tup [.d (.raw (.string (rdoM q k key val old).1)), .d (.raw (.int .i64 (rdoM q k key val old).2.1))]], rt2 (rdoM q k key val old).2.2⟩ := by
  rw [h]
  have e : rput q key now = q ++ [(key, now)] := by unfold rput; rw [hh]; rfl
  rw [e]
  refine says_rowTo (k := 2) rfl (q ++ [(key, now)]).length (rowEl (q ++ [(key, now)])) (by simp) fun j hj => ?_
  by_cases hlt : j < q.length
  · rw [h1 j hlt]
    unfold rowEl
    simp [List.getD, List.getElem?_append_left hlt]
  · obtain rfl : j = q.length := by omega
    rw [h2]; unfold rowEl
    simp [List.getD]
theorem rdo_set (h : rdoM q k key val old = (s, e, rput q key now)) (hh : hasM q key = true) (f : Nat → D)
    (hf : ∀ j, f j = mrg (j.beq (atI q key).toNat) (D.agg [D.raw (Value.string (q.getD (atI q key).toNat (ByteArray.empty, ByteArray.empty)).1), D.raw (Value.string now)]) (rowEl q j)) :
    Says C ⟨2, [.tup [.d (.raw (.string s)), .d (.raw (.int .i64 e))]], [(0, .obj 36 [.own 1]), (1, .row 65 2 q.length f)]⟩ ⟨2, [.tup [.d (.raw (.string (rdoM q k key val old).1)), .d (.raw (.int .i64 (rdoM q k key val old).2.1))]], rt2 (rdoM q k key val old).2.2⟩ := by
  rw [h]
  refine Says.trans ?_ (rt_ren (rput q key now) _ rfl)
  obtain ⟨hp, hk⟩ := hasM_idx hh
  have e : rput q key now = q.set (idxR q key) (key, now) := by unfold rput; rw [hh]; rfl
  have ea : (atI q key).toNat = idxR q key := by unfold atI; rw [hh]; rfl
  refine says_rowTo (k := 1) rfl (rput q key now).length (rowEl (rput q key now)) (by rw [e]; simp) fun j hj => ?_
  rw [hf, mrg_eq, e, ea, hk]
  unfold rowEl
  by_cases h : j = idxR q key
  · subst h
    rw [if_pos (by simp)]
    simp [List.getD, hp]
  · rw [if_neg (by simpa using h)]
    simp [List.getD, List.getElem?_set, Ne.symm h]
theorem rdo_to (h : rdoM q k key val old = (s, e, q2)) (t1 : Th) :
    Says C ⟨2, [.tup [.d (.raw (.string s)), .d (.raw (.int .i64 e))]], [(0, .obj 36 [.own 2]), (1, t1), (2, .row 65 2 q2.length (rowEl q2))]⟩ ⟨2, [.tup [.d (.raw (.string (rdoM q k key val old).1)), .d (.raw (.int .i64 (rdoM q k key val old).2.1))]], rt2 (rdoM q k key val old).2.2⟩ := by
  rw [h]
  exact rt_drop q2 t1 _ rfl
end
abbrev RetR (w0 : World) (N : Nat → Prop) (E0 : Env) (q : List Rw) (k : Int) (key val old : ByteArray) (c : List Item) (s : St) : Prop := ∀ (E : Env) (a : Act) (w : World), Sim (cx Tryd.prog g0 w0 N E0 (rt0 q)) E s a w → Goes Tryd.prog 13 c (RSpec (cx Tryd.prog g0 w0 N E0 (rt0 q)) ⟨2, [.tup [.d (.raw (.string (rdoM q k key val old).1)), .d (.raw (.int .i64 (rdoM q k key val old).2.1))]], rt2 (rdoM q k key val old).2.2⟩) a w
theorem rdel_go {w0 : World} {N : Nat → Prop} {E0 : Env} (q : List Rw) (k : Int) (key val old had : ByteArray) (hq : q.length ≤ 16) (hR : rdoM q k key val old = (had, 0, rdel q key)) : ∀ (d : Nat) (n i : Int), n = (q.length : Int) → 0 ≤ i → i + d = n → ∀ r, r = rdel (q.take i.toNat) key → RetR w0 N E0 q k key val old (loopAt Tryd.f13 0) (rd1l q k key val old had r n i) := by
  intro d
  induction d with
  | zero =>
    intro n i en h0 hd r hr E a w hsim
    have e : r = rdel q key := by rw [hr, List.take_of_length_le (by omega)]
    rw [← e] at hR
    rcases Bool.eq_false_or_eq_true (decide (i < n)) with hb1 | hb1
    · skip
      rcases Bool.eq_false_or_eq_true (!(q.getD i.toNat (ByteArray.empty, ByteArray.empty)).fst.toList == key.toList) with hb2 | hb2
      · skip
        refine go_head (R1_ok q (by omega)) rfl rfl (k' := loopAt Tryd.f13 0) (s' := mk 2 143 [(0, .ref 0 0), (3, .ref 2 0), (11, .d (.raw (.string (had)))), (12, .own 3), (122, .own 1), (123, .d (.raw (.int .i64 (n)))), (124, .d (.raw (.int .i64 (IntKind.i64.wrap (i + (1 : Int))))))] [(0, .obj 36 [.own 1]), (1, .row 65 2 (q.length) (rowEl q)), (2, .obj 39 [.d (.raw (.int .i64 (k))), .d (.raw (.string (key))), .d (.raw (.string (val))), .d (.raw (.string (old)))]), (3, .row 65 2 (r.length + (1 : Nat)) (fun j => if j < r.length then rowEl r j else segD true (2 : Nat) (splice (List.map (fun j => (List.map D.raw (Value.agg #[Value.string (ByteArray.mk #[]), Value.string (ByteArray.mk #[])]).cells.toList).getD (j % (2 : Nat)) default) (List.range (2 : Nat))) (0 : Nat) (D.agg [D.raw (Value.string (q.getD i.toNat (ByteArray.empty, ByteArray.empty)).fst), D.raw (Value.string (q.getD i.toNat (ByteArray.empty, ByteArray.empty)).snd)]).cells) (j - r.length)))]) (cs := [((decide (i < n)) = true), ((0 : Int) ≤ i ∧ i < (↑q.length : Int)), (i.toNat < q.length), ((!(q.getD i.toNat (ByteArray.empty, ByteArray.empty)).fst.toList == key.toList) = true), (r.length + (1 : Nat) ≤ (9223372036854775807 : Nat) ∧ (r.length + (1 : Nat)) * (32 : Nat) ≤ (140737488355328 : Nat))]) [true, true] [0,3,11,12,122,123,124] (by kernel_rfl) (by kernel_rfl) ⟨hb1, (by first | omega | exact absurd (of_decide_eq_true hb1) (by omega)), (by first | omega | exact absurd (of_decide_eq_true hb1) (by omega)), hb2, (by first | omega | exact absurd (of_decide_eq_true hb1) (by omega)), trivial⟩ hsim fun E a w hsim => ?_
        exact absurd (of_decide_eq_true hb1) (by omega)
      · skip
        refine go_head (R1_ok q (by omega)) rfl rfl (k' := loopAt Tryd.f13 0) (s' := mk 2 143 [(0, .ref 0 0), (3, .ref 2 0), (11, .d (.raw (.string (had)))), (12, .own 3), (122, .own 1), (123, .d (.raw (.int .i64 (n)))), (124, .d (.raw (.int .i64 (IntKind.i64.wrap (i + (1 : Int))))))] [(0, .obj 36 [.own 1]), (1, .row 65 2 (q.length) (rowEl q)), (2, .obj 39 [.d (.raw (.int .i64 (k))), .d (.raw (.string (key))), .d (.raw (.string (val))), .d (.raw (.string (old)))]), (3, .row 65 2 (r.length) (rowEl r))]) (cs := [((decide (i < n)) = true), ((0 : Int) ≤ i ∧ i < (↑q.length : Int)), (i.toNat < q.length), ((!(q.getD i.toNat (ByteArray.empty, ByteArray.empty)).fst.toList == key.toList) = false)]) [true, false] [0,3,11,12,122,123,124] (by kernel_rfl) (by kernel_rfl) ⟨hb1, (by first | omega | exact absurd (of_decide_eq_true hb1) (by omega)), (by first | omega | exact absurd (of_decide_eq_true hb1) (by omega)), hb2, trivial⟩ hsim fun E a w hsim => ?_
        exact absurd (of_decide_eq_true hb1) (by omega)
    · skip
      exact go_says (R1_ok q (by omega)) rfl rfl Tryd.func13 (sr' := ⟨2, [.tup [.d (.raw (.string (had))), .d (.raw (.int .i64 ((0 : Int))))]], [(0, .obj 36 [.own 2]), (1, .row 65 2 (q.length) (rowEl q)), (2, .row 65 2 (r.length) (rowEl r))]⟩) (cs := [((decide (i < n)) = false)]) [false] true (by kernel_rfl) (by kernel_rfl) ⟨hb1, trivial⟩ (by first | exact rdo_to hR _ | exact absurd (of_decide_eq_true hb1) (by omega)) hsim
  | succ d ih =>
    intro n i en h0 hd r hr E a w hsim
    have hi : i.toNat < q.length := by omega
    have hrl : r.length ≤ i.toNat := by
      rw [hr]; exact Nat.le_trans (List.length_filter_le _ _) (by rw [List.length_take]; omega)
    have hstep : rdel (q.take (i.toNat + 1)) key = if (q.getD i.toNat (ByteArray.empty, ByteArray.empty)).1 = key then r else r ++ [q.getD i.toNat (ByteArray.empty, ByteArray.empty)] := by
      rw [hr, List.take_add_one, List.getElem?_eq_getElem hi, getD_get hi]
      unfold rdel
      rw [List.filter_append]
      by_cases e : q[i.toNat].1 = key <;> simp [e]
    have ih := fun r (h : r = rdel (q.take (i.toNat + 1)) key) E a w hs => ih n (IntKind.i64.wrap (i + 1)) en (by rw [wrapI (i + 1) (by omega)]; omega) (by rw [wrapI (i + 1) (by omega)]; omega) r (by rw [wrapI (i + 1) (by omega), show (i + 1).toNat = i.toNat + 1 by omega]; exact h) E a w hs
    have hlen : r.length + 1 = (r ++ [q.getD i.toNat (ByteArray.empty, ByteArray.empty)]).length := by simp
    have hlo : ∀ j, j < r.length → rowEl r j = rowEl (r ++ [q.getD i.toNat (ByteArray.empty, ByteArray.empty)]) j := fun j hj => by
      unfold rowEl; simp [List.getD, List.getElem?_append_left hj]
    have hh0 : rowEl (r ++ [q.getD i.toNat (ByteArray.empty, ByteArray.empty)]) r.length = rowEl q i.toNat := by unfold rowEl; simp [List.getD]
    rcases Bool.eq_false_or_eq_true (decide (i < n)) with hb1 | hb1
    · skip
      rcases Bool.eq_false_or_eq_true (!(q.getD i.toNat (ByteArray.empty, ByteArray.empty)).fst.toList == key.toList) with hb2 | hb2
      · skip
        refine go_head (R1_ok q (by omega)) rfl rfl (k' := loopAt Tryd.f13 0) (s' := mk 2 143 [(0, .ref 0 0), (3, .ref 2 0), (11, .d (.raw (.string (had)))), (12, .own 3), (122, .own 1), (123, .d (.raw (.int .i64 (n)))), (124, .d (.raw (.int .i64 (IntKind.i64.wrap (i + (1 : Int))))))] [(0, .obj 36 [.own 1]), (1, .row 65 2 (q.length) (rowEl q)), (2, .obj 39 [.d (.raw (.int .i64 (k))), .d (.raw (.string (key))), .d (.raw (.string (val))), .d (.raw (.string (old)))]), (3, .row 65 2 (r.length + (1 : Nat)) (fun j => if j < r.length then rowEl r j else segD true (2 : Nat) (splice (List.map (fun j => (List.map D.raw (Value.agg #[Value.string (ByteArray.mk #[]), Value.string (ByteArray.mk #[])]).cells.toList).getD (j % (2 : Nat)) default) (List.range (2 : Nat))) (0 : Nat) (D.agg [D.raw (Value.string (q.getD i.toNat (ByteArray.empty, ByteArray.empty)).fst), D.raw (Value.string (q.getD i.toNat (ByteArray.empty, ByteArray.empty)).snd)]).cells) (j - r.length)))]) (cs := [((decide (i < n)) = true), ((0 : Int) ≤ i ∧ i < (↑q.length : Int)), (i.toNat < q.length), ((!(q.getD i.toNat (ByteArray.empty, ByteArray.empty)).fst.toList == key.toList) = true), (r.length + (1 : Nat) ≤ (9223372036854775807 : Nat) ∧ (r.length + (1 : Nat)) * (32 : Nat) ≤ (140737488355328 : Nat))]) [true, true] [0,3,11,12,122,123,124] (by kernel_rfl) (by kernel_rfl) ⟨hb1, (by first | omega | exact absurd (of_decide_eq_false hb1) (by omega) | exact False.elim (of_decide_eq_false hb1 (by omega))), (by first | omega | exact absurd (of_decide_eq_false hb1) (by omega) | exact False.elim (of_decide_eq_false hb1 (by omega))), hb2, (by first | omega | exact absurd (of_decide_eq_false hb1) (by omega) | exact False.elim (of_decide_eq_false hb1 (by omega))), trivial⟩ hsim fun E a w hsim => ?_
        first
          | (
            refine ih r ?_ E a w hsim
            rw [hstep, if_pos ?_]
            have := hb2; simp only [bne, tl_eq] at this; simpa using this)
          | (
            obtain ⟨E1, h1⟩ := (says_rowTo (k := 3) rfl (r ++ [q.getD i.toNat (ByteArray.empty, ByteArray.empty)]).length (rowEl (r ++ [q.getD i.toNat (ByteArray.empty, ByteArray.empty)])) hlen (fun j hj => by
              by_cases hjr : j < r.length
              · exact (if_pos hjr).trans (hlo j hjr)
              · obtain rfl : j = r.length := by omega
                rw [hh0]
                exact (if_neg hjr).trans (by rw [Nat.sub_self]; rfl))).out E a w hsim
            refine ih _ ?_ E1 a w h1
            rw [hstep, if_neg ?_]
            have := hb2; simp only [bne, tl_eq] at this; simpa using this)
      · skip
        refine go_head (R1_ok q (by omega)) rfl rfl (k' := loopAt Tryd.f13 0) (s' := mk 2 143 [(0, .ref 0 0), (3, .ref 2 0), (11, .d (.raw (.string (had)))), (12, .own 3), (122, .own 1), (123, .d (.raw (.int .i64 (n)))), (124, .d (.raw (.int .i64 (IntKind.i64.wrap (i + (1 : Int))))))] [(0, .obj 36 [.own 1]), (1, .row 65 2 (q.length) (rowEl q)), (2, .obj 39 [.d (.raw (.int .i64 (k))), .d (.raw (.string (key))), .d (.raw (.string (val))), .d (.raw (.string (old)))]), (3, .row 65 2 (r.length) (rowEl r))]) (cs := [((decide (i < n)) = true), ((0 : Int) ≤ i ∧ i < (↑q.length : Int)), (i.toNat < q.length), ((!(q.getD i.toNat (ByteArray.empty, ByteArray.empty)).fst.toList == key.toList) = false)]) [true, false] [0,3,11,12,122,123,124] (by kernel_rfl) (by kernel_rfl) ⟨hb1, (by first | omega | exact absurd (of_decide_eq_false hb1) (by omega) | exact False.elim (of_decide_eq_false hb1 (by omega))), (by first | omega | exact absurd (of_decide_eq_false hb1) (by omega) | exact False.elim (of_decide_eq_false hb1 (by omega))), hb2, trivial⟩ hsim fun E a w hsim => ?_
        first
          | (
            refine ih r ?_ E a w hsim
            rw [hstep, if_pos ?_]
            have := hb2; simp only [bne, tl_eq] at this; simpa using this)
          | (
            obtain ⟨E1, h1⟩ := (says_rowTo (k := 3) rfl (r ++ [q.getD i.toNat (ByteArray.empty, ByteArray.empty)]).length (rowEl (r ++ [q.getD i.toNat (ByteArray.empty, ByteArray.empty)])) hlen (fun j hj => by
              by_cases hjr : j < r.length
              · exact (if_pos hjr).trans (hlo j hjr)
              · obtain rfl : j = r.length := by omega
                rw [hh0]
                exact (if_neg hjr).trans (by rw [Nat.sub_self]; rfl))).out E a w hsim
            refine ih _ ?_ E1 a w h1
            rw [hstep, if_neg ?_]
            have := hb2; simp only [bne, tl_eq] at this; simpa using this)
    · skip
      exact go_says (R1_ok q (by omega)) rfl rfl Tryd.func13 (sr' := ⟨2, [.tup [.d (.raw (.string (had))), .d (.raw (.int .i64 ((0 : Int))))]], [(0, .obj 36 [.own 2]), (1, .row 65 2 (q.length) (rowEl q)), (2, .row 65 2 (r.length) (rowEl r))]⟩) (cs := [((decide (i < n)) = false)]) [false] true (by kernel_rfl) (by kernel_rfl) ⟨hb1, trivial⟩ (by exact False.elim (of_decide_eq_false hb1 (by omega))) hsim
end Go.Tab
