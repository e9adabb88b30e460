/-
  Contracts of given functions, or plain laws that they need. No condition.
-/
import Derived.Test.YtmgfgcoeflanmaaDoorRowB
import Derived.Test.YtmgfgcoeflanmaaDoorRowK
import Derived.Test.YtmgfgcoeflanmaaDoorProg
namespace Go.Nest
open Go Go.Eng Go.Proofs Go.RowKit
set_option linter.unusedVariables false
set_option linter.unusedSimpArgs false
set_option maxRecDepth 100000
set_option maxHeartbeats 4000000
theorem R00_ok : OrcOK Tryd.prog R00 := OrcOK.none _
def dig (m : Nat) : UInt8 := UInt8.ofNat (48 + m)
theorem dec_small {m : Nat} (h : m < 10) : Lib.decDigits m = [dig m] := by rw [Lib.decDigits, dif_pos h]; rfl
theorem dec_big {m : Nat} (h : ¬ m < 10) : Lib.decDigits m = Lib.decDigits (m / 10) ++ [dig (m % 10)] := by rw [Lib.decDigits, dif_neg h]; rfl
def NInv (n k : Int) (s : ByteArray) : Prop := (k = 0 → s.data.toList = Lib.decDigits n.natAbs) ∧ (k ≠ 0 → Lib.decDigits n.natAbs = Lib.decDigits k.natAbs ++ s.data.toList)
theorem ninv_step {n k : Int} {s : ByteArray} (h : NInv n k s) (hk : k ≠ 0) {s' : ByteArray} (hs : s'.data.toList = dig (k.natAbs % 10) :: s.data.toList) {k' : Int} (hk' : k'.natAbs = k.natAbs / 10) : NInv n k' s' := by
  have h2 := h.2 hk
  by_cases hm : k.natAbs < 10
  · rw [dec_small hm] at h2
    have : k' = 0 := by omega
    subst this
    exact ⟨fun _ => by rw [hs, h2, Nat.mod_eq_of_lt hm]; rfl, fun h => absurd rfl h⟩
  · rw [dec_big hm] at h2
    have : k' ≠ 0 := by omega
    exact ⟨fun h => absurd h this, fun _ => by rw [hs, h2, hk', List.append_assoc]; rfl⟩
theorem tq (k : Int) : (k.tdiv 10).natAbs = k.natAbs / 10 := by rw [Int.natAbs_tdiv]; rfl
theorem tr_neg {k : Int} (h : k.tmod 10 < 0) : (0 : Int) - k.tmod 10 = ((k.natAbs % 10 : Nat) : Int) := by
  rcases Int.le_total 0 k with hk | hk
  · exact absurd (Int.tmod_nonneg 10 hk) (by omega)
  · obtain ⟨m, rfl⟩ : ∃ m : Nat, k = -(m : Int) := ⟨k.natAbs, by omega⟩
    rw [Int.neg_tmod, Int.natAbs_neg, Int.natAbs_natCast]
    show 0 - -((m % 10 : Nat) : Int) = _
    omega
theorem tr_pos {k : Int} (h : ¬ k.tmod 10 < 0) : k.tmod 10 = ((k.natAbs % 10 : Nat) : Int) := by
  rcases Int.le_total 0 k with hk | hk
  · obtain ⟨m, rfl⟩ : ∃ m : Nat, k = (m : Int) := ⟨k.natAbs, by omega⟩
    rfl
  · obtain ⟨m, rfl⟩ : ∃ m : Nat, k = -(m : Int) := ⟨k.natAbs, by omega⟩
    rw [Int.neg_tmod, Int.natAbs_neg, Int.natAbs_natCast] at *
    have h1 : (m : Int).tmod 10 = ((m % 10 : Nat) : Int) := rfl
    rw [h1] at h ⊢
    omega
theorem u8w {y : Int} {m : Nat} (hy : y = (m : Int)) (hm : m < 10) : UInt8.ofNat (IntKind.u8.wrap (IntKind.i64.wrap ((48 : Int) + y))).toNat = dig m := by
  subst hy
  rw [wrapI _ (by omega), show ((48 : Int) + (m : Int)) = ((48 + m : Nat) : Int) by omega]
  have : IntKind.u8.wrap ((48 + m : Nat) : Int) = ((48 + m : Nat) : Int) := by
    simp only [IntKind.wrap]
    rcases m with _|_|_|_|_|_|_|_|_|_|m <;> first | rfl | omega
  rw [this]; rfl
theorem numJz : numJ 0 = ByteArray.mk #[48] := by unfold numJ Lib.itoa; rw [if_neg (by decide)]; show ByteArray.mk (Lib.decDigits 0).toArray = _; rw [dec_small (by decide)]; rfl
theorem num_go {w0 : World} {N : Nat → Prop} {E0 : Env} (n : Int) (hn0 : n ≠ 0) (hn : -9223372036854775808 ≤ n ∧ n < 9223372036854775808) : ∀ (d : Nat) (k : Int) (s : ByteArray), k.natAbs < 10 ^ d → k.natAbs ≤ 9223372036854775808 → s.size + d ≤ 19 → NInv n k s → ∀ (E : Env) (a : Act) (w : World),
    Sim (cx Tryd.prog g0 w0 N E0 []) E (nu1 n k s) a w → Goes Tryd.prog 30 (loopAt Tryd.f30 0) (RSpec (cx Tryd.prog g0 w0 N E0 []) ⟨0, [.d (.raw (.string (numJ n)))], []⟩) a w := by
  have hneg : n < 0 → ∀ s : ByteArray, s.data.toList = Lib.decDigits n.natAbs → ByteArray.mk #[45] ++ s = numJ n := fun h s hs => by
    apply ext_ba
    rw [append_ba, hs]
    unfold numJ Lib.itoa; rw [if_pos h]; rfl
  have hpos : ¬ n < 0 → ∀ s : ByteArray, s.data.toList = Lib.decDigits n.natAbs → s = numJ n := fun h s hs => by
    apply ext_ba
    rw [hs]
    unfold numJ Lib.itoa; rw [if_neg h, show n.natAbs = n.toNat by omega]
  intro d
  induction d with
  | zero =>
    intro k s hk hk2 hs hI E a w hsim
    have k0 : k = 0 := by simp at hk; omega
    have e := hI.1 k0
    rcases Bool.eq_false_or_eq_true (k != (0 : Int)) with hb1 | hb1
    · skip
      rcases Bool.eq_false_or_eq_true (decide (k.tmod (10 : Int) < (0 : Int))) with hb2 | hb2
      · skip
        refine go_head R00_ok rfl rfl (k' := loopAt Tryd.f30 0) (s' := mk 0 31 [(0, .d (.raw (.int .i64 (n)))), (3, .d (.raw (.string (bytesOf (1 : Nat) (segD false (1 : Nat) (splice (List.map (fun j => (List.map D.raw (Value.int IntKind.u8 (0 : Int)).cells.toList).getD (j % (1 : Nat)) default) (List.range (1 : Nat))) (0 : Nat) (D.raw (Value.int IntKind.u8 (IntKind.u8.wrap (IntKind.i64.wrap ((48 : Int) + IntKind.i64.wrap ((0 : Int) - k.tmod (10 : Int))))))).cells)) ++ s)))), (4, .d (.raw (.int .i64 (IntKind.i64.wrap (k.tdiv (10 : Int))))))] []) (cs := [((k != (0 : Int)) = true), (Nz 10), ((decide (k.tmod (10 : Int) < (0 : Int))) = true), (∀ (i : Nat), i < (1 : Nat) → isI IntKind.u8 (segD false (1 : Nat) (splice (List.map (fun j => (List.map D.raw (Value.int IntKind.u8 (0 : Int)).cells.toList).getD (j % (1 : Nat)) default) (List.range (1 : Nat))) (0 : Nat) (D.raw (Value.int IntKind.u8 (IntKind.u8.wrap (IntKind.i64.wrap ((48 : Int) + IntKind.i64.wrap ((0 : Int) - k.tmod (10 : Int))))))).cells) i) = true), ((bytesOf (1 : Nat) (segD false (1 : Nat) (splice (List.map (fun j => (List.map D.raw (Value.int IntKind.u8 (0 : Int)).cells.toList).getD (j % (1 : Nat)) default) (List.range (1 : Nat))) (0 : Nat) (D.raw (Value.int IntKind.u8 (IntKind.u8.wrap (IntKind.i64.wrap ((48 : Int) + IntKind.i64.wrap ((0 : Int) - k.tmod (10 : Int))))))).cells))).size + s.size ≤ (9223372036854775807 : Nat)), (Nz 10)]) [true, true] [0,3,4] (by kernel_rfl) (by kernel_rfl) ⟨hb1, (by decide), hb2, (by first | omega | (exfalso; subst k0; simp at hb1; done)), (by first | omega | (exfalso; subst k0; simp at hb1; done)), (by decide), trivial⟩ hsim fun E a w hsim => ?_
        (exfalso; subst k0; simp at hb1; done)
      · skip
        refine go_head R00_ok rfl rfl (k' := loopAt Tryd.f30 0) (s' := mk 0 31 [(0, .d (.raw (.int .i64 (n)))), (3, .d (.raw (.string (bytesOf (1 : Nat) (segD false (1 : Nat) (splice (List.map (fun j => (List.map D.raw (Value.int IntKind.u8 (0 : Int)).cells.toList).getD (j % (1 : Nat)) default) (List.range (1 : Nat))) (0 : Nat) (D.raw (Value.int IntKind.u8 (IntKind.u8.wrap (IntKind.i64.wrap ((48 : Int) + k.tmod (10 : Int)))))).cells)) ++ s)))), (4, .d (.raw (.int .i64 (IntKind.i64.wrap (k.tdiv (10 : Int))))))] []) (cs := [((k != (0 : Int)) = true), (Nz 10), ((decide (k.tmod (10 : Int) < (0 : Int))) = false), (∀ (i : Nat), i < (1 : Nat) → isI IntKind.u8 (segD false (1 : Nat) (splice (List.map (fun j => (List.map D.raw (Value.int IntKind.u8 (0 : Int)).cells.toList).getD (j % (1 : Nat)) default) (List.range (1 : Nat))) (0 : Nat) (D.raw (Value.int IntKind.u8 (IntKind.u8.wrap (IntKind.i64.wrap ((48 : Int) + k.tmod (10 : Int)))))).cells) i) = true), ((bytesOf (1 : Nat) (segD false (1 : Nat) (splice (List.map (fun j => (List.map D.raw (Value.int IntKind.u8 (0 : Int)).cells.toList).getD (j % (1 : Nat)) default) (List.range (1 : Nat))) (0 : Nat) (D.raw (Value.int IntKind.u8 (IntKind.u8.wrap (IntKind.i64.wrap ((48 : Int) + k.tmod (10 : Int)))))).cells))).size + s.size ≤ (9223372036854775807 : Nat)), (Nz 10)]) [true, false] [0,3,4] (by kernel_rfl) (by kernel_rfl) ⟨hb1, (by decide), hb2, (by first | omega | (exfalso; subst k0; simp at hb1; done)), (by first | omega | (exfalso; subst k0; simp at hb1; done)), (by decide), trivial⟩ hsim fun E a w hsim => ?_
        (exfalso; subst k0; simp at hb1; done)
    · skip
      rcases Bool.eq_false_or_eq_true (decide (n < (0 : Int))) with hb3 | hb3
      · skip
        exact go_ret R00_ok rfl rfl Tryd.func30 (sr' := ⟨0, [.d (.raw (.string (ByteArray.mk #[45] ++ s)))], []⟩) (cs := [((k != (0 : Int)) = false), ((decide (n < (0 : Int))) = true), ((1 : Nat) + s.size ≤ (9223372036854775807 : Nat))]) [false, true] true (by kernel_rfl) (by kernel_rfl) ⟨hb1, hb3, (by first | omega | (exfalso; subst k0; simp at hb1; done)), trivial⟩ (by first | (rw [hneg (of_decide_eq_true hb3) s e]; done) | (rw [← hpos (of_decide_eq_false hb3) s e]; done)) hsim
      · skip
        exact go_ret R00_ok rfl rfl Tryd.func30 (sr' := ⟨0, [.d (.raw (.string (s)))], []⟩) (cs := [((k != (0 : Int)) = false), ((decide (n < (0 : Int))) = false)]) [false, false] true (by kernel_rfl) (by kernel_rfl) ⟨hb1, hb3, trivial⟩ (by first | (rw [hneg (of_decide_eq_true hb3) s e]; done) | (rw [← hpos (of_decide_eq_false hb3) s e]; done)) hsim
  | succ d ih =>
    intro k s hk hk2 hs hI E a w hsim
    have hq : (k.tdiv 10).natAbs = k.natAbs / 10 := tq k
    have hw : IntKind.i64.wrap (k.tdiv 10) = k.tdiv 10 := wrapI _ (by omega)
    have hmod : k.natAbs % 10 < 10 := Nat.mod_lt _ (by decide)
    have hd : k.natAbs / 10 < 10 ^ d := by rw [Nat.pow_succ] at hk; omega
    have ih := fun (s' : ByteArray) (hk0 : k ≠ 0) (hs' : s'.data.toList = dig (k.natAbs % 10) :: s.data.toList) E a w hs2 => ih (IntKind.i64.wrap (k.tdiv 10)) s' (by rw [hw, hq]; exact hd) (by rw [hw, hq]; omega) (by rw [size_ba, hs', List.length_cons, ← size_ba]; omega) (by rw [hw]; exact ninv_step hI hk0 hs' hq) E a w hs2
    rcases Bool.eq_false_or_eq_true (k != (0 : Int)) with hb1 | hb1
    · skip
      rcases Bool.eq_false_or_eq_true (decide (k.tmod (10 : Int) < (0 : Int))) with hb2 | hb2
      · skip
        refine go_head R00_ok rfl rfl (k' := loopAt Tryd.f30 0) (s' := mk 0 31 [(0, .d (.raw (.int .i64 (n)))), (3, .d (.raw (.string (bytesOf (1 : Nat) (segD false (1 : Nat) (splice (List.map (fun j => (List.map D.raw (Value.int IntKind.u8 (0 : Int)).cells.toList).getD (j % (1 : Nat)) default) (List.range (1 : Nat))) (0 : Nat) (D.raw (Value.int IntKind.u8 (IntKind.u8.wrap (IntKind.i64.wrap ((48 : Int) + IntKind.i64.wrap ((0 : Int) - k.tmod (10 : Int))))))).cells)) ++ s)))), (4, .d (.raw (.int .i64 (IntKind.i64.wrap (k.tdiv (10 : Int))))))] []) (cs := [((k != (0 : Int)) = true), (Nz 10), ((decide (k.tmod (10 : Int) < (0 : Int))) = true), (∀ (i : Nat), i < (1 : Nat) → isI IntKind.u8 (segD false (1 : Nat) (splice (List.map (fun j => (List.map D.raw (Value.int IntKind.u8 (0 : Int)).cells.toList).getD (j % (1 : Nat)) default) (List.range (1 : Nat))) (0 : Nat) (D.raw (Value.int IntKind.u8 (IntKind.u8.wrap (IntKind.i64.wrap ((48 : Int) + IntKind.i64.wrap ((0 : Int) - k.tmod (10 : Int))))))).cells) i) = true), ((bytesOf (1 : Nat) (segD false (1 : Nat) (splice (List.map (fun j => (List.map D.raw (Value.int IntKind.u8 (0 : Int)).cells.toList).getD (j % (1 : Nat)) default) (List.range (1 : Nat))) (0 : Nat) (D.raw (Value.int IntKind.u8 (IntKind.u8.wrap (IntKind.i64.wrap ((48 : Int) + IntKind.i64.wrap ((0 : Int) - k.tmod (10 : Int))))))).cells))).size + s.size ≤ (9223372036854775807 : Nat)), (Nz 10)]) [true, true] [0,3,4] (by kernel_rfl) (by kernel_rfl) ⟨hb1, (by decide), hb2, (by first | omega | (intro i hi; obtain rfl : i = 0 := (by omega); rfl) | exact (by omega : 1 + s.size ≤ 9223372036854775807)), (by first | omega | (intro i hi; obtain rfl : i = 0 := (by omega); rfl) | exact (by omega : 1 + s.size ≤ 9223372036854775807)), (by decide), trivial⟩ hsim fun E a w hsim => ?_
        refine ih _ (by simpa using hb1) ?_ E a w hsim
        rw [append_ba]
        first | exact congrArg (fun x => x :: s.data.toList) (u8w ((wrapI _ (by have := tr_neg (of_decide_eq_true hb2); omega)).trans (tr_neg (of_decide_eq_true hb2))) hmod) | exact congrArg (fun x => x :: s.data.toList) (u8w (tr_pos (of_decide_eq_false hb2)) hmod)
      · skip
        refine go_head R00_ok rfl rfl (k' := loopAt Tryd.f30 0) (s' := mk 0 31 [(0, .d (.raw (.int .i64 (n)))), (3, .d (.raw (.string (bytesOf (1 : Nat) (segD false (1 : Nat) (splice (List.map (fun j => (List.map D.raw (Value.int IntKind.u8 (0 : Int)).cells.toList).getD (j % (1 : Nat)) default) (List.range (1 : Nat))) (0 : Nat) (D.raw (Value.int IntKind.u8 (IntKind.u8.wrap (IntKind.i64.wrap ((48 : Int) + k.tmod (10 : Int)))))).cells)) ++ s)))), (4, .d (.raw (.int .i64 (IntKind.i64.wrap (k.tdiv (10 : Int))))))] []) (cs := [((k != (0 : Int)) = true), (Nz 10), ((decide (k.tmod (10 : Int) < (0 : Int))) = false), (∀ (i : Nat), i < (1 : Nat) → isI IntKind.u8 (segD false (1 : Nat) (splice (List.map (fun j => (List.map D.raw (Value.int IntKind.u8 (0 : Int)).cells.toList).getD (j % (1 : Nat)) default) (List.range (1 : Nat))) (0 : Nat) (D.raw (Value.int IntKind.u8 (IntKind.u8.wrap (IntKind.i64.wrap ((48 : Int) + k.tmod (10 : Int)))))).cells) i) = true), ((bytesOf (1 : Nat) (segD false (1 : Nat) (splice (List.map (fun j => (List.map D.raw (Value.int IntKind.u8 (0 : Int)).cells.toList).getD (j % (1 : Nat)) default) (List.range (1 : Nat))) (0 : Nat) (D.raw (Value.int IntKind.u8 (IntKind.u8.wrap (IntKind.i64.wrap ((48 : Int) + k.tmod (10 : Int)))))).cells))).size + s.size ≤ (9223372036854775807 : Nat)), (Nz 10)]) [true, false] [0,3,4] (by kernel_rfl) (by kernel_rfl) ⟨hb1, (by decide), hb2, (by first | omega | (intro i hi; obtain rfl : i = 0 := (by omega); rfl) | exact (by omega : 1 + s.size ≤ 9223372036854775807)), (by first | omega | (intro i hi; obtain rfl : i = 0 := (by omega); rfl) | exact (by omega : 1 + s.size ≤ 9223372036854775807)), (by decide), trivial⟩ hsim fun E a w hsim => ?_
        refine ih _ (by simpa using hb1) ?_ E a w hsim
        rw [append_ba]
        first | exact congrArg (fun x => x :: s.data.toList) (u8w ((wrapI _ (by have := tr_neg (of_decide_eq_true hb2); omega)).trans (tr_neg (of_decide_eq_true hb2))) hmod) | exact congrArg (fun x => x :: s.data.toList) (u8w (tr_pos (of_decide_eq_false hb2)) hmod)
    · skip
      rcases Bool.eq_false_or_eq_true (decide (n < (0 : Int))) with hb3 | hb3
      · skip
        exact go_ret R00_ok rfl rfl Tryd.func30 (sr' := ⟨0, [.d (.raw (.string (ByteArray.mk #[45] ++ s)))], []⟩) (cs := [((k != (0 : Int)) = false), ((decide (n < (0 : Int))) = true), ((1 : Nat) + s.size ≤ (9223372036854775807 : Nat))]) [false, true] true (by kernel_rfl) (by kernel_rfl) ⟨hb1, hb3, (by first | omega | (intro i hi; obtain rfl : i = 0 := (by omega); rfl) | exact (by omega : 1 + s.size ≤ 9223372036854775807)), trivial⟩ (by first | (rw [hneg (of_decide_eq_true hb3) s (hI.1 (by simpa using hb1))]; done) | (rw [← hpos (of_decide_eq_false hb3) s (hI.1 (by simpa using hb1))]; done)) hsim
      · skip
        exact go_ret R00_ok rfl rfl Tryd.func30 (sr' := ⟨0, [.d (.raw (.string (s)))], []⟩) (cs := [((k != (0 : Int)) = false), ((decide (n < (0 : Int))) = false)]) [false, false] true (by kernel_rfl) (by kernel_rfl) ⟨hb1, hb3, trivial⟩ (by first | (rw [hneg (of_decide_eq_true hb3) s (hI.1 (by simpa using hb1))]; done) | (rw [← hpos (of_decide_eq_false hb3) s (hI.1 (by simpa using hb1))]; done)) hsim
theorem num_ok (n : Int) (hn : -9223372036854775808 ≤ n ∧ n < 9223372036854775808) : Eng.Spec Tryd.prog g0 30 [.d (.raw (.int .i64 n))] [] (.d (.raw (.string (numJ n)))) [] := by
  refine spec_fn Tryd.func30 rfl fun {w N E a} hsim => ?_
  rcases Bool.eq_false_or_eq_true (n == (0 : Int)) with hb1 | hb1
  · skip
    exact go_ret R00_ok rfl rfl Tryd.func30 (sr' := ⟨0, [.d (.raw (.string (ByteArray.mk #[48])))], []⟩) (cs := [((n == (0 : Int)) = true)]) [true] true (by kernel_rfl) (by kernel_rfl) ⟨hb1, trivial⟩ (by (have e : n = 0 := (by simpa using hb1); subst e; rw [numJz]; rfl)) hsim
  · skip
    refine go_head R00_ok rfl rfl (k' := loopAt Tryd.f30 0) (s' := mk 0 31 [(0, .d (.raw (.int .i64 (n)))), (3, .d (.raw (.string (ByteArray.mk #[])))), (4, .d (.raw (.int .i64 (n))))] []) (cs := [((n == (0 : Int)) = false)]) [false] [0,3,4] (by kernel_rfl) (by kernel_rfl) ⟨hb1, trivial⟩ hsim fun E a w hsim => ?_
    have e : n ≠ 0 := by (simpa using hb1)
    exact num_go n e hn 19 n (ByteArray.mk #[]) (by show n.natAbs < 10000000000000000000; omega) (by omega) (by show 0 + 19 ≤ 19; omega) ⟨fun h => absurd h e, fun _ => by simp⟩ E a w hsim
theorem R2_ok : OrcOK Tryd.prog R2 := (OrcOK.none g0).add _ false mNumR fun args H r H' cs h hc => by
  unfold mNumR at h
  split at h
  · rename_i n
    cases h
    obtain ⟨⟨h0, h1⟩, -⟩ := hc
    have h1 : n < 4611686018427387904 := h1
    have e : numB n.toNat = numJ n := by unfold numB numJ Lib.itoa; rw [if_neg (by omega)]
    rw [e]; exact num_ok n (by omega)
  · cases h
theorem packL_take (r : List ByteArray) (i : Nat) : (packL (r.take i)).length ≤ (packL r).length := by
  conv => rhs; rw [← List.take_append_drop i r, packL_append, List.length_append]
  omega
theorem packL_ge : ∀ r : List ByteArray, r.length ≤ (packL r).length
  | [] => Nat.zero_le _
  | x :: r => by
    have := packL_ge r
    simp [packL]; omega
theorem pk_go {w0 : World} {N : Nat → Prop} {E0 : Env} (r : List ByteArray) (hl : (packL r).length ≤ 1099511627776) : ∀ (d : Nat) (n i : Int), n = (r.length : Int) → 0 ≤ i → i + d = n → ∀ out : ByteArray, out.data.toList = packL (r.take i.toNat) → ∀ (E : Env) (a : Act) (w : World),
    Sim (cx Tryd.prog g0 w0 N E0 [(0, .row 9 1 r.length (strEl r))]) E (pk1 r out n i) a w → Goes Tryd.prog 29 (loopAt Tryd.f29 0) (RSpec (cx Tryd.prog g0 w0 N E0 [(0, .row 9 1 r.length (strEl r))]) ⟨1, [.d (.raw (.string (packB r)))], [(0, .row 9 1 r.length (strEl r))]⟩) a w := by
  have hr := packL_ge r
  intro d
  induction d with
  | zero =>
    intro n i en h0 hd out hout E a w hsim
    have e : out = packB r := by
      apply ext_ba
      rw [hout, List.take_of_length_le (by omega)]; rfl
    rcases Bool.eq_false_or_eq_true (decide (i < n)) with hb1 | hb1
    · skip
      refine go_head R2_ok rfl rfl (k' := loopAt Tryd.f29 0) (s' := mk 1 23 [(3, .d (.raw (.string (out ++ numB (↑(r.getD i.toNat ByteArray.empty).size : Int).toNat ++ ByteArray.mk #[58] ++ r.getD i.toNat ByteArray.empty ++ ByteArray.mk #[44])))), (6, .own 0), (7, .d (.raw (.int .i64 (n)))), (8, .d (.raw (.int .i64 (IntKind.i64.wrap (i + (1 : Int))))))] [(0, .row 9 1 (r.length) (strEl r))]) (cs := [((decide (i < n)) = true), ((0 : Int) ≤ i ∧ i < (↑r.length : Int)), (i.toNat < r.length), ((0 : Int) ≤ (↑(r.getD i.toNat ByteArray.empty).size : Int) ∧ (↑(r.getD i.toNat ByteArray.empty).size : Int) < (4611686018427387904 : Int)), (out.size + (numB (↑(r.getD i.toNat ByteArray.empty).size : Int).toNat).size ≤ (9223372036854775807 : Nat)), ((out ++ numB (↑(r.getD i.toNat ByteArray.empty).size : Int).toNat).size + (1 : Nat) ≤ (9223372036854775807 : Nat)), ((out ++ numB (↑(r.getD i.toNat ByteArray.empty).size : Int).toNat ++ ByteArray.mk #[(58 : UInt8)]).size + (r.getD i.toNat ByteArray.empty).size ≤ (9223372036854775807 : Nat)), ((out ++ numB (↑(r.getD i.toNat ByteArray.empty).size : Int).toNat ++ ByteArray.mk #[(58 : UInt8)] ++ r.getD i.toNat ByteArray.empty).size + (1 : Nat) ≤ (9223372036854775807 : Nat))]) [true] [3,6,7,8] (by kernel_rfl) (by kernel_rfl) ⟨hb1, (by first | omega | exact absurd (of_decide_eq_true hb1) (by omega)), (by first | omega | exact absurd (of_decide_eq_true hb1) (by omega)), (by first | omega | exact absurd (of_decide_eq_true hb1) (by omega)), (by first | omega | exact absurd (of_decide_eq_true hb1) (by omega)), (by first | omega | exact absurd (of_decide_eq_true hb1) (by omega)), (by first | omega | exact absurd (of_decide_eq_true hb1) (by omega)), (by first | omega | exact absurd (of_decide_eq_true hb1) (by omega)), trivial⟩ hsim fun E a w hsim => ?_
      exact absurd (of_decide_eq_true hb1) (by omega)
    · skip
      exact go_ret R2_ok rfl rfl Tryd.func29 (sr' := ⟨1, [.d (.raw (.string (out)))], [(0, .row 9 1 (r.length) (strEl r))]⟩) (cs := [((decide (i < n)) = false)]) [false] true (by kernel_rfl) (by kernel_rfl) ⟨hb1, trivial⟩ (by rw [e]) hsim
  | succ d ih =>
    intro n i en h0 hd out hout E a w hsim
    have hi : i.toNat < r.length := by omega
    have hg : r[i.toNat]? = some (r.getD i.toNat ByteArray.empty) := by rw [List.getD_eq_getElem?_getD, List.getElem?_eq_getElem hi]; rfl
    have hp := pack_take r i.toNat (r.getD i.toNat ByteArray.empty) hg
    have ho : out.size = (packL (r.take i.toNat)).length := by rw [size_ba, hout]
    have hle := packL_take r (i.toNat + 1)
    have hnb : (numB ((r.getD i.toNat ByteArray.empty).size : Int).toNat).size = (Lib.decDigits (r.getD i.toNat ByteArray.empty).size).length := by rw [size_ba]; rfl
    have hps := congrArg List.length hp
    simp only [List.length_append, List.length_singleton, ← size_ba] at hps
    have hE : (out ++ numB ((r.getD i.toNat ByteArray.empty).size : Int).toNat ++ ByteArray.mk #[58] ++ r.getD i.toNat ByteArray.empty ++ ByteArray.mk #[44]).data.toList = packL (r.take (IntKind.i64.wrap (i + 1)).toNat) := by
      rw [wrapI (i + 1) (by omega), show (i + 1).toNat = i.toNat + 1 by omega, hp, ← hout]
      simp only [append_ba, List.append_assoc]; rfl
    have ih := fun out h E a w hs => ih n (IntKind.i64.wrap (i + 1)) en (by rw [wrapI (i + 1) (by omega)]; omega) (by rw [wrapI (i + 1) (by omega)]; omega) out h E a w hs
    rcases Bool.eq_false_or_eq_true (decide (i < n)) with hb1 | hb1
    · skip
      refine go_head R2_ok rfl rfl (k' := loopAt Tryd.f29 0) (s' := mk 1 23 [(3, .d (.raw (.string (out ++ numB (↑(r.getD i.toNat ByteArray.empty).size : Int).toNat ++ ByteArray.mk #[58] ++ r.getD i.toNat ByteArray.empty ++ ByteArray.mk #[44])))), (6, .own 0), (7, .d (.raw (.int .i64 (n)))), (8, .d (.raw (.int .i64 (IntKind.i64.wrap (i + (1 : Int))))))] [(0, .row 9 1 (r.length) (strEl r))]) (cs := [((decide (i < n)) = true), ((0 : Int) ≤ i ∧ i < (↑r.length : Int)), (i.toNat < r.length), ((0 : Int) ≤ (↑(r.getD i.toNat ByteArray.empty).size : Int) ∧ (↑(r.getD i.toNat ByteArray.empty).size : Int) < (4611686018427387904 : Int)), (out.size + (numB (↑(r.getD i.toNat ByteArray.empty).size : Int).toNat).size ≤ (9223372036854775807 : Nat)), ((out ++ numB (↑(r.getD i.toNat ByteArray.empty).size : Int).toNat).size + (1 : Nat) ≤ (9223372036854775807 : Nat)), ((out ++ numB (↑(r.getD i.toNat ByteArray.empty).size : Int).toNat ++ ByteArray.mk #[(58 : UInt8)]).size + (r.getD i.toNat ByteArray.empty).size ≤ (9223372036854775807 : Nat)), ((out ++ numB (↑(r.getD i.toNat ByteArray.empty).size : Int).toNat ++ ByteArray.mk #[(58 : UInt8)] ++ r.getD i.toNat ByteArray.empty).size + (1 : Nat) ≤ (9223372036854775807 : Nat))]) [true] [3,6,7,8] (by kernel_rfl) (by kernel_rfl) ⟨hb1, (by first | omega | exact absurd (of_decide_eq_false hb1) (by omega) | (simp only [ByteArray.size_append]; omega) | (simp only [ByteArray.size_append]; show _ + _ + 1 + _ ≤ _; omega) | (simp only [ByteArray.size_append]; show _ + _ + 1 + _ + 1 ≤ _; omega)), (by first | omega | exact absurd (of_decide_eq_false hb1) (by omega) | (simp only [ByteArray.size_append]; omega) | (simp only [ByteArray.size_append]; show _ + _ + 1 + _ ≤ _; omega) | (simp only [ByteArray.size_append]; show _ + _ + 1 + _ + 1 ≤ _; omega)), (by first | omega | exact absurd (of_decide_eq_false hb1) (by omega) | (simp only [ByteArray.size_append]; omega) | (simp only [ByteArray.size_append]; show _ + _ + 1 + _ ≤ _; omega) | (simp only [ByteArray.size_append]; show _ + _ + 1 + _ + 1 ≤ _; omega)), (by first | omega | exact absurd (of_decide_eq_false hb1) (by omega) | (simp only [ByteArray.size_append]; omega) | (simp only [ByteArray.size_append]; show _ + _ + 1 + _ ≤ _; omega) | (simp only [ByteArray.size_append]; show _ + _ + 1 + _ + 1 ≤ _; omega)), (by first | omega | exact absurd (of_decide_eq_false hb1) (by omega) | (simp only [ByteArray.size_append]; omega) | (simp only [ByteArray.size_append]; show _ + _ + 1 + _ ≤ _; omega) | (simp only [ByteArray.size_append]; show _ + _ + 1 + _ + 1 ≤ _; omega)), (by first | omega | exact absurd (of_decide_eq_false hb1) (by omega) | (simp only [ByteArray.size_append]; omega) | (simp only [ByteArray.size_append]; show _ + _ + 1 + _ ≤ _; omega) | (simp only [ByteArray.size_append]; show _ + _ + 1 + _ + 1 ≤ _; omega)), (by first | omega | exact absurd (of_decide_eq_false hb1) (by omega) | (simp only [ByteArray.size_append]; omega) | (simp only [ByteArray.size_append]; show _ + _ + 1 + _ ≤ _; omega) | (simp only [ByteArray.size_append]; show _ + _ + 1 + _ + 1 ≤ _; omega)), trivial⟩ hsim fun E a w hsim => ?_
      exact ih _ hE E a w hsim
    · skip
      exact go_ret R2_ok rfl rfl Tryd.func29 (sr' := ⟨1, [.d (.raw (.string (out)))], [(0, .row 9 1 (r.length) (strEl r))]⟩) (cs := [((decide (i < n)) = false)]) [false] true (by kernel_rfl) (by kernel_rfl) ⟨hb1, trivial⟩ (by exact absurd (of_decide_eq_false hb1) (by omega)) hsim
theorem packR_ok (r : List ByteArray) (hl : (packL r).length ≤ 1099511627776) : Eng.Spec Tryd.prog g0 29 [.own 0] [(0, .row 9 1 r.length (strEl r))] (.d (.raw (.string (packB r)))) [(0, .row 9 1 r.length (strEl r))] := by
  refine spec_fn Tryd.func29 rfl fun {w N E a} hsim => ?_
  refine go_head R2_ok rfl rfl (k' := loopAt Tryd.f29 0) (s' := mk 1 23 [(3, .d (.raw (.string (ByteArray.mk #[])))), (6, .own 0), (7, .d (.raw (.int .i64 ((↑r.length : Int))))), (8, .d (.raw (.int .i64 ((0 : Int)))))] [(0, .row 9 1 (r.length) (strEl r))]) (cs := []) [] [3,6,7,8] (by kernel_rfl) (by kernel_rfl) trivial hsim fun E a w hsim => ?_
  exact pk_go r hl r.length (r.length : Int) 0 rfl (by omega) (by omega) _ rfl E a w hsim
end Go.Nest
