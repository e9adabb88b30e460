/-
  Contracts of given functions, or plain laws that they need. No condition.
-/
import Derived.Test.YtmhfkicgmdhooaaDoorTab4
import Derived.Test.YtmhfkicgmdhooaaDoorTabH
import Derived.Test.YtmhfkicgmdhooaaDoorPackW
namespace Go.Tab
open Go Go.Eng Go.Proofs Go.Nest
set_option linter.unusedVariables false
set_option linter.unusedSimpArgs false
set_option maxRecDepth 100000
set_option maxHeartbeats 4000000
theorem T1_ok (r : List ByteArray) : OrcOK Tryd.prog (T1 r) := (OrcOK.none g0).add _ true (mPack r) fun args H ret H' cs h hc => by
  unfold mPack at h
  split at h
  · cases h
    obtain ⟨rfl, rfl, h1, h2, -⟩ := hc
    exact packE_ok _ _ r rfl (fun i _ => rfl) h1 h2
  · cases h
theorem flatM_append : ∀ a b : List Rw, flatM (a ++ b) = flatM a ++ flatM b
  | [], b => rfl
  | r :: a, b => by simp [flatM, flatM_append a b]
theorem flatM_take (l : List Rw) (k : Nat) (h : k < l.length) : flatM (l.take (k + 1)) = flatM (l.take k) ++ [(l.getD k (ByteArray.empty, ByteArray.empty)).1, (l.getD k (ByteArray.empty, ByteArray.empty)).2] := by
  rw [List.take_add_one, List.getElem?_eq_getElem h, flatM_append, getD_get h]; rfl
theorem flatM_len : ∀ l : List Rw, (flatM l).length = 2 * l.length
  | [] => rfl
  | r :: l => by simp [flatM, flatM_len l]; omega
theorem flatM_mem : ∀ (l : List Rw) (x : ByteArray), x ∈ flatM l → ∃ r ∈ l, x = r.1 ∨ x = r.2
  | [], x, h => by simp [flatM] at h
  | r :: l, x, h => by
    simp only [flatM, List.mem_cons] at h
    rcases h with h | h | h
    · exact ⟨r, List.mem_cons_self .., .inl h⟩
    · exact ⟨r, List.mem_cons_self .., .inr h⟩
    · obtain ⟨q, hq, h⟩ := flatM_mem l x h
      exact ⟨q, List.mem_cons_of_mem _ hq, h⟩
theorem tx_go {w0 : World} {N : Nat → Prop} {E0 : Env} (l : List Rw) (ht : Tidy l) : ∀ (d : Nat) (n i : Int), n = (l.length : Int) → 0 ≤ i → i + d = n → ∀ r, r = flatM (l.take i.toNat) → ∀ (E : Env) (a : Act) (w : World),
    Sim (cx Tryd.prog g0 w0 N E0 (tab0 l)) E (tx1 l r n i) a w → Goes Tryd.prog 12 (loopAt Tryd.f12 0) (RSpec (cx Tryd.prog g0 w0 N E0 (tab0 l)) ⟨2, [.d (.raw (.string (packB (flatM l))))], tab0 l⟩) a w := by
  have hf := ht.few
  intro d
  induction d with
  | zero =>
    intro n i en h0 hd r hr E a w hsim
    have e : r = flatM l := by rw [hr, List.take_of_length_le (by omega)]
    have h1 : ∀ x ∈ r, x.size < 100 := fun x hx => by
      rw [e] at hx
      obtain ⟨q, hq, h⟩ := flatM_mem l x hx
      have := ht.sized q hq
      rcases h with rfl | rfl <;> omega
    have h2 : r.length ≤ 1000 := by rw [e, flatM_len]; omega
    have hret : (⟨2, [.d (.raw (.string (packB r)))], tab0 l⟩ : St) = ⟨2, [.d (.raw (.string (packB (flatM l))))], tab0 l⟩ := by rw [e]
    rcases Bool.eq_false_or_eq_true (decide (i < n)) with hb1 | hb1
    · skip
      refine go_head (T1_ok r) rfl rfl (k' := loopAt Tryd.f12 0) (s' := mk 2 27 [(3, .own 2), (11, .own 1), (12, .d (.raw (.int .i64 (n)))), (13, .d (.raw (.int .i64 (IntKind.i64.wrap (i + (1 : Int))))))] [(0, .obj 56 [.own 1]), (1, .row 60 2 (l.length) (rowEl l)), (2, .row 9 1 (r.length + (2 : Nat)) (fun j => if j < r.length then Nest.strEl r j else segD false (1 : Nat) (splice (splice (List.map (fun j => (List.map D.raw (Value.string (ByteArray.mk #[])).cells.toList).getD (j % (1 : Nat)) default) (List.range (2 : Nat))) (0 : Nat) (D.raw (Value.string (l.getD i.toNat (ByteArray.empty, ByteArray.empty)).fst)).cells) (1 : Nat) (D.raw (Value.string (l.getD i.toNat (ByteArray.empty, ByteArray.empty)).snd)).cells) (j - r.length)))]) (cs := [((decide (i < n)) = true), ((0 : Int) ≤ i ∧ i < (↑l.length : Int)), (i.toNat < l.length), (r.length + (2 : Nat) ≤ (9223372036854775807 : Nat) ∧ (r.length + (2 : Nat)) * (16 : Nat) ≤ (140737488355328 : Nat))]) [true] [3,11,12,13] (by kernel_rfl) (by kernel_rfl) ⟨hb1, (by first | exact h1 | exact h2 | rfl | exact absurd (of_decide_eq_true hb1) (by omega)), (by first | exact h1 | exact h2 | rfl | exact absurd (of_decide_eq_true hb1) (by omega)), (by first | exact h1 | exact h2 | rfl | exact absurd (of_decide_eq_true hb1) (by omega)), trivial⟩ hsim fun E a w hsim => ?_
      exact absurd (of_decide_eq_true hb1) (by omega)
    · skip
      exact go_ret (T1_ok r) rfl rfl Tryd.func12 (sr' := ⟨2, [.d (.raw (.string (Nest.packB r)))], [(0, .obj 56 [.own 1]), (1, .row 60 2 (l.length) (rowEl l))]⟩) (cs := [((decide (i < n)) = false), (r.length = r.length), (Nest.strEl r = Nest.strEl r), (∀ (x : ByteArray), x ∈ r → x.size < (100 : Nat)), (r.length ≤ (1000 : Nat))]) [false] true (by kernel_rfl) (by kernel_rfl) ⟨hb1, (by first | exact h1 | exact h2 | rfl | exact absurd (of_decide_eq_true hb1) (by omega)), (by first | exact h1 | exact h2 | rfl | exact absurd (of_decide_eq_true hb1) (by omega)), (by first | exact h1 | exact h2 | rfl | exact absurd (of_decide_eq_true hb1) (by omega)), (by first | exact h1 | exact h2 | rfl | exact absurd (of_decide_eq_true hb1) (by omega)), trivial⟩ (by exact hret) hsim
  | succ d ih =>
    intro n i en h0 hd r hr E a w hsim
    have hi : i.toNat < l.length := by omega
    have hrl : r.length = 2 * i.toNat := by rw [hr, flatM_len, List.length_take]; omega
    have e : r ++ [(l.getD i.toNat (ByteArray.empty, ByteArray.empty)).1, (l.getD i.toNat (ByteArray.empty, ByteArray.empty)).2] = flatM (l.take (IntKind.i64.wrap (i + 1)).toNat) := by
      rw [wrapI (i + 1) (by omega), show (i + 1).toNat = i.toNat + 1 by omega, flatM_take l _ hi, hr]
    have ih := fun E a w hs => ih n (IntKind.i64.wrap (i + 1)) en (by rw [wrapI (i + 1) (by omega)]; omega) (by rw [wrapI (i + 1) (by omega)]; omega) _ e E a w hs
    have hlen : r.length + 2 = (r ++ [(l.getD i.toNat (ByteArray.empty, ByteArray.empty)).1, (l.getD i.toNat (ByteArray.empty, ByteArray.empty)).2]).length := by simp
    have hlo : ∀ j, j < r.length → strEl r j = strEl (r ++ [(l.getD i.toNat (ByteArray.empty, ByteArray.empty)).1, (l.getD i.toNat (ByteArray.empty, ByteArray.empty)).2]) j := fun j hj => by
      unfold strEl; simp [List.getD, List.getElem?_append_left hj]
    have hh0 : strEl (r ++ [(l.getD i.toNat (ByteArray.empty, ByteArray.empty)).1, (l.getD i.toNat (ByteArray.empty, ByteArray.empty)).2]) r.length = .raw (.string (l.getD i.toNat (ByteArray.empty, ByteArray.empty)).1) := by unfold strEl; simp [List.getD]
    have hh1 : strEl (r ++ [(l.getD i.toNat (ByteArray.empty, ByteArray.empty)).1, (l.getD i.toNat (ByteArray.empty, ByteArray.empty)).2]) (r.length + 1) = .raw (.string (l.getD i.toNat (ByteArray.empty, ByteArray.empty)).2) := by unfold strEl; simp [List.getD]
    rcases Bool.eq_false_or_eq_true (decide (i < n)) with hb1 | hb1
    · skip
      refine go_head (T1_ok r) rfl rfl (k' := loopAt Tryd.f12 0) (s' := mk 2 27 [(3, .own 2), (11, .own 1), (12, .d (.raw (.int .i64 (n)))), (13, .d (.raw (.int .i64 (IntKind.i64.wrap (i + (1 : Int))))))] [(0, .obj 56 [.own 1]), (1, .row 60 2 (l.length) (rowEl l)), (2, .row 9 1 (r.length + (2 : Nat)) (fun j => if j < r.length then Nest.strEl r j else segD false (1 : Nat) (splice (splice (List.map (fun j => (List.map D.raw (Value.string (ByteArray.mk #[])).cells.toList).getD (j % (1 : Nat)) default) (List.range (2 : Nat))) (0 : Nat) (D.raw (Value.string (l.getD i.toNat (ByteArray.empty, ByteArray.empty)).fst)).cells) (1 : Nat) (D.raw (Value.string (l.getD i.toNat (ByteArray.empty, ByteArray.empty)).snd)).cells) (j - r.length)))]) (cs := [((decide (i < n)) = true), ((0 : Int) ≤ i ∧ i < (↑l.length : Int)), (i.toNat < l.length), (r.length + (2 : Nat) ≤ (9223372036854775807 : Nat) ∧ (r.length + (2 : Nat)) * (16 : Nat) ≤ (140737488355328 : Nat))]) [true] [3,11,12,13] (by kernel_rfl) (by kernel_rfl) ⟨hb1, (by first | omega | exact absurd (of_decide_eq_false hb1) (by omega) | exact False.elim (of_decide_eq_false hb1 (by omega))), (by first | omega | exact absurd (of_decide_eq_false hb1) (by omega) | exact False.elim (of_decide_eq_false hb1 (by omega))), (by first | omega | exact absurd (of_decide_eq_false hb1) (by omega) | exact False.elim (of_decide_eq_false hb1 (by omega))), trivial⟩ hsim fun E a w hsim => ?_
      obtain ⟨E2, hs⟩ := (says_rowTo (k := 2) rfl (r ++ [(l.getD i.toNat (ByteArray.empty, ByteArray.empty)).1, (l.getD i.toNat (ByteArray.empty, ByteArray.empty)).2]).length (strEl (r ++ [(l.getD i.toNat (ByteArray.empty, ByteArray.empty)).1, (l.getD i.toNat (ByteArray.empty, ByteArray.empty)).2])) hlen (fun j hj => by
          by_cases hjr : j < r.length
          · exact (if_pos hjr).trans (hlo j hjr)
          · rcases (show j = r.length ∨ j = r.length + 1 by omega) with rfl | rfl
            · rw [hh0]
              exact (if_neg hjr).trans (by rw [Nat.sub_self]; rfl)
            · rw [hh1]
              exact (if_neg hjr).trans (by rw [Nat.add_sub_cancel_left]; rfl))).out E a w hsim
      exact ih E2 a w hs
    · skip
      exact go_ret (T1_ok r) rfl rfl Tryd.func12 (sr' := ⟨2, [.d (.raw (.string (Nest.packB r)))], [(0, .obj 56 [.own 1]), (1, .row 60 2 (l.length) (rowEl l))]⟩) (cs := [((decide (i < n)) = false), (r.length = r.length), (Nest.strEl r = Nest.strEl r), (∀ (x : ByteArray), x ∈ r → x.size < (100 : Nat)), (r.length ≤ (1000 : Nat))]) [false] true (by kernel_rfl) (by kernel_rfl) ⟨hb1, (by first | omega | exact absurd (of_decide_eq_false hb1) (by omega) | exact False.elim (of_decide_eq_false hb1 (by omega))), (by first | omega | exact absurd (of_decide_eq_false hb1) (by omega) | exact False.elim (of_decide_eq_false hb1 (by omega))), (by first | omega | exact absurd (of_decide_eq_false hb1) (by omega) | exact False.elim (of_decide_eq_false hb1 (by omega))), (by first | omega | exact absurd (of_decide_eq_false hb1) (by omega) | exact False.elim (of_decide_eq_false hb1 (by omega))), trivial⟩ (by exact False.elim (of_decide_eq_false hb1 (by omega))) hsim
theorem text_ok (l : List Rw) (ht : Tidy l) : Eng.Spec Tryd.prog g0 12 [.ref 0 0] (tab0 l) (.d (.raw (.string (packB (flatM l))))) (tab0 l) := by
  refine spec_fn Tryd.func12 rfl fun {w N E a} hsim => ?_
  refine go_head (T1_ok []) rfl rfl (k' := loopAt Tryd.f12 0) (s' := mk 2 27 [(3, .d (.raw (Value.slice none (0 : Nat) (0 : Nat)))), (11, .own 1), (12, .d (.raw (.int .i64 ((↑l.length : Int))))), (13, .d (.raw (.int .i64 ((0 : Int)))))] [(0, .obj 56 [.own 1]), (1, .row 60 2 (l.length) (rowEl l))]) (cs := []) [] [3,11,12,13] (by kernel_rfl) (by kernel_rfl) trivial hsim fun E a w hsim => ?_
  obtain ⟨E2, hs⟩ := hsim.nilRow (t := 3) rfl 9 1 (strEl [])
  exact tx_go l ht l.length (l.length : Int) 0 rfl (by omega) (by omega) [] rfl E2 a w hs
end Go.Tab
