/-
  Contracts of given functions, or plain laws that they need. No condition.
-/
import Derived.Test.YtmgfgcoeflanmaaDoorUnpG
import Derived.Test.YtmgfgcoeflanmaaDoorOrdB
import Derived.Test.YtmgfgcoeflanmaaDoorRowK
import Derived.Test.YtmgfgcoeflanmaaDoorProg
namespace Go.Nest
open Go Go.Eng Go.Proofs Go.RowKit
set_option linter.unusedVariables false
set_option linter.unusedSimpArgs false
set_option maxRecDepth 100000
set_option maxHeartbeats 4000000
theorem R00_ok : OrcOK Tryd.prog R00 := OrcOK.none _
def dig (m : Nat) : UInt8 := UInt8.ofNat (48 + m)
theorem dec_small {m : Nat} (h : m < 10) : Lib.decDigits m = [dig m] := by rw [Lib.decDigits, dif_pos h]; rfl
theorem dec_big {m : Nat} (h : ¬ m < 10) : Lib.decDigits m = Lib.decDigits (m / 10) ++ [dig (m % 10)] := by rw [Lib.decDigits, dif_neg h]; rfl
def NInv (n k : Int) (s : ByteArray) : Prop := (k = 0 → s.data.toList = Lib.decDigits n.natAbs) ∧ (k ≠ 0 → Lib.decDigits n.natAbs = Lib.decDigits k.natAbs ++ s.data.toList)
theorem ninv_step {n k : Int} {s : ByteArray} (h : NInv n k s) (hk : k ≠ 0) {s' : ByteArray} (hs : s'.data.toList = dig (k.natAbs % 10) :: s.data.toList) {k' : Int} (hk' : k'.natAbs = k.natAbs / 10) : NInv n k' s' := by
  have h2 := h.2 hk
  by_cases hm : k.natAbs < 10
  · rw [dec_small hm] at h2
    have : k' = 0 := by omega
    subst this
    exact ⟨fun _ => by rw [hs, h2, Nat.mod_eq_of_lt hm]; rfl, fun h => absurd rfl h⟩
  · rw [dec_big hm] at h2
    have : k' ≠ 0 := by omega
    exact ⟨fun h => absurd h this, fun _ => by rw [hs, h2, hk', List.append_assoc]; rfl⟩
theorem tq (k : Int) : (k.tdiv 10).natAbs = k.natAbs / 10 := by rw [Int.natAbs_tdiv]; rfl
theorem tr_neg {k : Int} (h : k.tmod 10 < 0) : (0 : Int) - k.tmod 10 = ((k.natAbs % 10 : Nat) : Int) := by
  rcases Int.le_total 0 k with hk | hk
  · exact absurd (Int.tmod_nonneg 10 hk) (by omega)
  · obtain ⟨m, rfl⟩ : ∃ m : Nat, k = -(m : Int) := ⟨k.natAbs, by omega⟩
    rw [Int.neg_tmod, Int.natAbs_neg, Int.natAbs_natCast]
    show 0 - -((m % 10 : Nat) : Int) = _
    omega
theorem tr_pos {k : Int} (h : ¬ k.tmod 10 < 0) : k.tmod 10 = ((k.natAbs % 10 : Nat) : Int) := by
  rcases Int.le_total 0 k with hk | hk
  · obtain ⟨m, rfl⟩ : ∃ m : Nat, k = (m : Int) := ⟨k.natAbs, by omega⟩
    rfl
  · obtain ⟨m, rfl⟩ : ∃ m : Nat, k = -(m : Int) := ⟨k.natAbs, by omega⟩
    rw [Int.neg_tmod, Int.natAbs_neg, Int.natAbs_natCast] at *
    have h1 : (m : Int).tmod 10 = ((m % 10 : Nat) : Int) := rfl
    rw [h1] at h ⊢
    omega
theorem u8w {y : Int} {m : Nat} (hy : y = (m : Int)) (hm : m < 10) : UInt8.ofNat (IntKind.u8.wrap (IntKind.i64.wrap ((48 : Int) + y))).toNat = dig m := by
  subst hy
  rw [wrapI _ (by omega), show ((48 : Int) + (m : Int)) = ((48 + m : Nat) : Int) by omega]
  have : IntKind.u8.wrap ((48 + m : Nat) : Int) = ((48 + m : Nat) : Int) := by
    simp only [IntKind.wrap]
    rcases m with _|_|_|_|_|_|_|_|_|_|m <;> first | rfl | omega
  rw [this]; rfl
theorem numJz : numJ 0 = ByteArray.mk #[48] := by unfold numJ Lib.itoa; rw [if_neg (by decide)]; show ByteArray.mk (Lib.decDigits 0).toArray = _; rw [dec_small (by decide)]; rfl
theorem num_go {w0 : World} {N : Nat → Prop} {E0 : Env} (n : Int) (hn0 : n ≠ 0) (hn : -9223372036854775808 ≤ n ∧ n < 9223372036854775808) : ∀ (d : Nat) (k : Int) (s : ByteArray), k.natAbs < 10 ^ d → k.natAbs ≤ 9223372036854775808 → s.size + d ≤ 19 → NInv n k s → ∀ (E : Env) (a : Act) (w : World),
    Sim (cx Tryd.prog g0 w0 N E0 []) E (nu1 n k s) a w → Goes Tryd.prog 30 (loopAt Tryd.f30 0) (RSpec (cx Tryd.prog g0 w0 N E0 []) ⟨0, [.d (.raw (.string (numJ n)))], []⟩) a w := by
  have hneg : n < 0 → ∀ s : ByteArray, s.data.toList = Lib.decDigits n.natAbs → ByteArray.mk #[45] ++ s = numJ n := fun h s hs => by
    apply ext_ba
    rw [append_ba, hs]
    unfold numJ Lib.itoa; rw [if_pos h]; rfl
  have hpos : ¬ n < 0 → ∀ s : ByteArray, s.data.toList = Lib.decDigits n.natAbs → s = numJ n := fun h s hs => by
    apply ext_ba
    rw [hs]
    unfold numJ Lib.itoa; rw [if_neg h, show n.natAbs = n.toNat by omega]
  intro d
  induction d with
  | zero =>
    intro k s hk hk2 hs hI E a w hsim
    have k0 : k = 0 := by simp at hk; omega
    have e := hI.1 k0
    rcases Bool.eq_false_or_eq_true (k != (0 : Int)) with hb1 | hb1
    · skip
      rcases Bool.eq_false_or_eq_true (decide (k.tmod (10 : Int) < (0 : Int))) with hb2 | hb2
      · skip
        refine go_head R00_ok rfl rfl (k' := loopAt Tryd.f30 0) (s' := mk 0 31 [(0, .d (.raw (.int .i64 (n)))), (3, .d (.raw (.string (bytesOf (1 : Nat) (segD false (1 : Nat) (splice (List.map (fun j => (List.map D.raw (Value.int IntKind.u8 (0 : Int)).cells.toList).getD (j % (1 : Nat)) default) (List.range (1 : Nat))) (0 : Nat) (D.raw (Value.int IntKind.u8 (IntKind.u8.wrap (IntKind.i64.wrap ((48 : Int) + IntKind.i64.wrap ((0 : Int) - k.tmod (10 : Int))))))).cells)) ++ s)))), (4, .d (.raw (.int .i64 (IntKind.i64.wrap (k.tdiv (10 : Int))))))] []) (cs := [((k != (0 : Int)) = true), (Nz 10), ((decide (k.tmod (10 : Int) < (0 : Int))) = true), (∀ (i : Nat), i < (1 : Nat) → isI IntKind.u8 (segD false (1 : Nat) (splice (List.map (fun j => (List.map D.raw (Value.int IntKind.u8 (0 : Int)).cells.toList).getD (j % (1 : Nat)) default) (List.range (1 : Nat))) (0 : Nat) (D.raw (Value.int IntKind.u8 (IntKind.u8.wrap (IntKind.i64.wrap ((48 : Int) + IntKind.i64.wrap ((0 : Int) - k.tmod (10 : Int))))))).cells) i) = true), ((bytesOf (1 : Nat) (segD false (1 : Nat) (splice (List.map (fun j => (List.map D.raw (Value.int IntKind.u8 (0 : Int)).cells.toList).getD (j % (1 : Nat)) default) (List.range (1 : Nat))) (0 : Nat) (D.raw (Value.int IntKind.u8 (IntKind.u8.wrap (IntKind.i64.wrap ((48 : Int) + IntKind.i64.wrap ((0 : Int) - k.tmod (10 : Int))))))).cells))).size + s.size ≤ (9223372036854775807 : Nat)), (Nz 10)]) [true, true] [0,3,4] (by kernel_rfl) (by kernel_rfl) ⟨hb1, (by decide), hb2, (by first | omega | (exfalso; subst k0; simp at hb1; done)), (by first | omega | (exfalso; subst k0; simp at hb1; done)), (by decide), trivial⟩ hsim fun E a w hsim => ?_
        (exfalso; subst k0; simp at hb1; done)
      · skip
        refine go_head R00_ok rfl rfl (k' := loopAt Tryd.f30 0) (s' := mk 0 31 [(0, .d (.raw (.int .i64 (n)))), (3, .d (.raw (.string (bytesOf (1 : Nat) (segD false (1 : Nat) (splice (List.map (fun j => (List.map D.raw (Value.int IntKind.u8 (0 : Int)).cells.toList).getD (j % (1 : Nat)) default) (List.range (1 : Nat))) (0 : Nat) (D.raw (Value.int IntKind.u8 (IntKind.u8.wrap (IntKind.i64.wrap ((48 : Int) + k.tmod (10 : Int)))))).cells)) ++ s)))), (4, .d (.raw (.int .i64 (IntKind.i64.wrap (k.tdiv (10 : Int))))))] []) (cs := [((k != (0 : Int)) = true), (Nz 10), ((decide (k.tmod (10 : Int) < (0 : Int))) = false), (∀ (i : Nat), i < (1 : Nat) → isI IntKind.u8 (segD false (1 : Nat) (splice (List.map (fun j => (List.map D.raw (Value.int IntKind.u8 (0 : Int)).cells.toList).getD (j % (1 : Nat)) default) (List.range (1 : Nat))) (0 : Nat) (D.raw (Value.int IntKind.u8 (IntKind.u8.wrap (IntKind.i64.wrap ((48 : Int) + k.tmod (10 : Int)))))).cells) i) = true), ((bytesOf (1 : Nat) (segD false (1 : Nat) (splice (List.map (fun j => (List.map D.raw (Value.int IntKind.u8 (0 : Int)).cells.toList).getD (j % (1 : Nat)) default) (List.range (1 : Nat))) (0 : Nat) (D.raw (Value.int IntKind.u8 (IntKind.u8.wrap (IntKind.i64.wrap ((48 : Int) + k.tmod (10 : Int)))))).cells))).size + s.size ≤ (9223372036854775807 : Nat)), (Nz 10)]) [true, false] [0,3,4] (by kernel_rfl) (by kernel_rfl) ⟨hb1, (by decide), hb2, (by first | omega | (exfalso; subst k0; simp at hb1; done)), (by first | omega | (exfalso; subst k0; simp at hb1; done)), (by decide), trivial⟩ hsim fun E a w hsim => ?_
        (exfalso; subst k0; simp at hb1; done)
    · skip
      rcases Bool.eq_false_or_eq_true (decide (n < (0 : Int))) with hb3 | hb3
      · skip
        exact go_ret R00_ok rfl rfl Tryd.func30 (sr' := ⟨0, [.d (.raw (.string (ByteArray.mk #[45] ++ s)))], []⟩) (cs := [((k != (0 : Int)) = false), ((decide (n < (0 : Int))) = true), ((1 : Nat) + s.size ≤ (9223372036854775807 : Nat))]) [false, true] true (by kernel_rfl) (by kernel_rfl) ⟨hb1, hb3, (by first | omega | (exfalso; subst k0; simp at hb1; done)), trivial⟩ (by first | (rw [hneg (of_decide_eq_true hb3) s e]; done) | (rw [← hpos (of_decide_eq_false hb3) s e]; done)) hsim
      · skip
        exact go_ret R00_ok rfl rfl Tryd.func30 (sr' := ⟨0, [.d (.raw (.string (s)))], []⟩) (cs := [((k != (0 : Int)) = false), ((decide (n < (0 : Int))) = false)]) [false, false] true (by kernel_rfl) (by kernel_rfl) ⟨hb1, hb3, trivial⟩ (by first | (rw [hneg (of_decide_eq_true hb3) s e]; done) | (rw [← hpos (of_decide_eq_false hb3) s e]; done)) hsim
  | succ d ih =>
    intro k s hk hk2 hs hI E a w hsim
    have hq : (k.tdiv 10).natAbs = k.natAbs / 10 := tq k
    have hw : IntKind.i64.wrap (k.tdiv 10) = k.tdiv 10 := wrapI _ (by omega)
    have hmod : k.natAbs % 10 < 10 := Nat.mod_lt _ (by decide)
    have hd : k.natAbs / 10 < 10 ^ d := by rw [Nat.pow_succ] at hk; omega
    have ih := fun (s' : ByteArray) (hk0 : k ≠ 0) (hs' : s'.data.toList = dig (k.natAbs % 10) :: s.data.toList) E a w hs2 => ih (IntKind.i64.wrap (k.tdiv 10)) s' (by rw [hw, hq]; exact hd) (by rw [hw, hq]; omega) (by rw [size_ba, hs', List.length_cons, ← size_ba]; omega) (by rw [hw]; exact ninv_step hI hk0 hs' hq) E a w hs2
    rcases Bool.eq_false_or_eq_true (k != (0 : Int)) with hb1 | hb1
    · skip
      rcases Bool.eq_false_or_eq_true (decide (k.tmod (10 : Int) < (0 : Int))) with hb2 | hb2
      · skip
        refine go_head R00_ok rfl rfl (k' := loopAt Tryd.f30 0) (s' := mk 0 31 [(0, .d (.raw (.int .i64 (n)))), (3, .d (.raw (.string (bytesOf (1 : Nat) (segD false (1 : Nat) (splice (List.map (fun j => (List.map D.raw (Value.int IntKind.u8 (0 : Int)).cells.toList).getD (j % (1 : Nat)) default) (List.range (1 : Nat))) (0 : Nat) (D.raw (Value.int IntKind.u8 (IntKind.u8.wrap (IntKind.i64.wrap ((48 : Int) + IntKind.i64.wrap ((0 : Int) - k.tmod (10 : Int))))))).cells)) ++ s)))), (4, .d (.raw (.int .i64 (IntKind.i64.wrap (k.tdiv (10 : Int))))))] []) (cs := [((k != (0 : Int)) = true), (Nz 10), ((decide (k.tmod (10 : Int) < (0 : Int))) = true), (∀ (i : Nat), i < (1 : Nat) → isI IntKind.u8 (segD false (1 : Nat) (splice (List.map (fun j => (List.map D.raw (Value.int IntKind.u8 (0 : Int)).cells.toList).getD (j % (1 : Nat)) default) (List.range (1 : Nat))) (0 : Nat) (D.raw (Value.int IntKind.u8 (IntKind.u8.wrap (IntKind.i64.wrap ((48 : Int) + IntKind.i64.wrap ((0 : Int) - k.tmod (10 : Int))))))).cells) i) = true), ((bytesOf (1 : Nat) (segD false (1 : Nat) (splice (List.map (fun j => (List.map D.raw (Value.int IntKind.u8 (0 : Int)).cells.toList).getD (j % (1 : Nat)) default) (List.range (1 : Nat))) (0 : Nat) (D.raw (Value.int IntKind.u8 (IntKind.u8.wrap (IntKind.i64.wrap ((48 : Int) + IntKind.i64.wrap ((0 : Int) - k.tmod (10 : Int))))))).cells))).size + s.size ≤ (9223372036854775807 : Nat)), (Nz 10)]) [true, true] [0,3,4] (by kernel_rfl) (by kernel_rfl) ⟨hb1, (by decide), hb2, (by first | omega | (intro i hi; obtain rfl : i = 0 := (by omega); rfl) | exact (by omega : 1 + s.size ≤ 9223372036854775807)), (by first | omega | (intro i hi; obtain rfl : i = 0 := (by omega); rfl) | exact (by omega : 1 + s.size ≤ 9223372036854775807)), (by decide), trivial⟩ hsim fun E a w hsim => ?_
        refine ih _ (by simpa using hb1) ?_ E a w hsim
        rw [append_ba]
        first | exact congrArg (fun x => x :: s.data.toList) (u8w ((wrapI _ (by have := tr_neg (of_decide_eq_true hb2); omega)).trans (tr_neg (of_decide_eq_true hb2))) hmod) | exact congrArg (fun x => x :: s.data.toList) (u8w (tr_pos (of_decide_eq_false hb2)) hmod)
      · skip
        refine go_head R00_ok rfl rfl (k' := loopAt Tryd.f30 0) (s' := mk 0 31 [(0, .d (.raw (.int .i64 (n)))), (3, .d (.raw (.string (bytesOf (1 : Nat) (segD false (1 : Nat) (splice (List.map (fun j => (List.map D.raw (Value.int IntKind.u8 (0 : Int)).cells.toList).getD (j % (1 : Nat)) default) (List.range (1 : Nat))) (0 : Nat) (D.raw (Value.int IntKind.u8 (IntKind.u8.wrap (IntKind.i64.wrap ((48 : Int) + k.tmod (10 : Int)))))).cells)) ++ s)))), (4, .d (.raw (.int .i64 (IntKind.i64.wrap (k.tdiv (10 : Int))))))] []) (cs := [((k != (0 : Int)) = true), (Nz 10), ((decide (k.tmod (10 : Int) < (0 : Int))) = false), (∀ (i : Nat), i < (1 : Nat) → isI IntKind.u8 (segD false (1 : Nat) (splice (List.map (fun j => (List.map D.raw (Value.int IntKind.u8 (0 : Int)).cells.toList).getD (j % (1 : Nat)) default) (List.range (1 : Nat))) (0 : Nat) (D.raw (Value.int IntKind.u8 (IntKind.u8.wrap (IntKind.i64.wrap ((48 : Int) + k.tmod (10 : Int)))))).cells) i) = true), ((bytesOf (1 : Nat) (segD false (1 : Nat) (splice (List.map (fun j => (List.map D.raw (Value.int IntKind.u8 (0 : Int)).cells.toList).getD (j % (1 : Nat)) default) (List.range (1 : Nat))) (0 : Nat) (D.raw (Value.int IntKind.u8 (IntKind.u8.wrap (IntKind.i64.wrap ((48 : Int) + k.tmod (10 : Int)))))).cells))).size + s.size ≤ (9223372036854775807 : Nat)), (Nz 10)]) [true, false] [0,3,4] (by kernel_rfl) (by kernel_rfl) ⟨hb1, (by decide), hb2, (by first | omega | (intro i hi; obtain rfl : i = 0 := (by omega); rfl) | exact (by omega : 1 + s.size ≤ 9223372036854775807)), (by first | omega | (intro i hi; obtain rfl : i = 0 := (by omega); rfl) | exact (by omega : 1 + s.size ≤ 9223372036854775807)), (by decide), trivial⟩ hsim fun E a w hsim => ?_
        refine ih _ (by simpa using hb1) ?_ E a w hsim
        rw [append_ba]
        first | exact congrArg (fun x => x :: s.data.toList) (u8w ((wrapI _ (by have := tr_neg (of_decide_eq_true hb2); omega)).trans (tr_neg (of_decide_eq_true hb2))) hmod) | exact congrArg (fun x => x :: s.data.toList) (u8w (tr_pos (of_decide_eq_false hb2)) hmod)
    · skip
      rcases Bool.eq_false_or_eq_true (decide (n < (0 : Int))) with hb3 | hb3
      · skip
        exact go_ret R00_ok rfl rfl Tryd.func30 (sr' := ⟨0, [.d (.raw (.string (ByteArray.mk #[45] ++ s)))], []⟩) (cs := [((k != (0 : Int)) = false), ((decide (n < (0 : Int))) = true), ((1 : Nat) + s.size ≤ (9223372036854775807 : Nat))]) [false, true] true (by kernel_rfl) (by kernel_rfl) ⟨hb1, hb3, (by first | omega | (intro i hi; obtain rfl : i = 0 := (by omega); rfl) | exact (by omega : 1 + s.size ≤ 9223372036854775807)), trivial⟩ (by first | (rw [hneg (of_decide_eq_true hb3) s (hI.1 (by simpa using hb1))]; done) | (rw [← hpos (of_decide_eq_false hb3) s (hI.1 (by simpa using hb1))]; done)) hsim
      · skip
        exact go_ret R00_ok rfl rfl Tryd.func30 (sr' := ⟨0, [.d (.raw (.string (s)))], []⟩) (cs := [((k != (0 : Int)) = false), ((decide (n < (0 : Int))) = false)]) [false, false] true (by kernel_rfl) (by kernel_rfl) ⟨hb1, hb3, trivial⟩ (by first | (rw [hneg (of_decide_eq_true hb3) s (hI.1 (by simpa using hb1))]; done) | (rw [← hpos (of_decide_eq_false hb3) s (hI.1 (by simpa using hb1))]; done)) hsim
theorem num_ok (n : Int) (hn : -9223372036854775808 ≤ n ∧ n < 9223372036854775808) : Eng.Spec Tryd.prog g0 30 [.d (.raw (.int .i64 n))] [] (.d (.raw (.string (numJ n)))) [] := by
  refine spec_fn Tryd.func30 rfl fun {w N E a} hsim => ?_
  rcases Bool.eq_false_or_eq_true (n == (0 : Int)) with hb1 | hb1
  · skip
    exact go_ret R00_ok rfl rfl Tryd.func30 (sr' := ⟨0, [.d (.raw (.string (ByteArray.mk #[48])))], []⟩) (cs := [((n == (0 : Int)) = true)]) [true] true (by kernel_rfl) (by kernel_rfl) ⟨hb1, trivial⟩ (by (have e : n = 0 := (by simpa using hb1); subst e; rw [numJz]; rfl)) hsim
  · skip
    refine go_head R00_ok rfl rfl (k' := loopAt Tryd.f30 0) (s' := mk 0 31 [(0, .d (.raw (.int .i64 (n)))), (3, .d (.raw (.string (ByteArray.mk #[])))), (4, .d (.raw (.int .i64 (n))))] []) (cs := [((n == (0 : Int)) = false)]) [false] [0,3,4] (by kernel_rfl) (by kernel_rfl) ⟨hb1, trivial⟩ hsim fun E a w hsim => ?_
    have e : n ≠ 0 := by (simpa using hb1)
    exact num_go n e hn 19 n (ByteArray.mk #[]) (by show n.natAbs < 10000000000000000000; omega) (by omega) (by show 0 + 19 ≤ 19; omega) ⟨fun h => absurd h e, fun _ => by simp⟩ E a w hsim
theorem R2_ok : OrcOK Tryd.prog R2 := (OrcOK.none g0).add _ false mNumR fun args H r H' cs h hc => by
  unfold mNumR at h
  split at h
  · rename_i n
    cases h
    obtain ⟨⟨h0, h1⟩, -⟩ := hc
    have h1 : n < 4611686018427387904 := h1
    have e : numB n.toNat = numJ n := by unfold numB numJ Lib.itoa; rw [if_neg (by omega)]
    rw [e]; exact num_ok n (by omega)
  · cases h
theorem packL_take (r : List ByteArray) (i : Nat) : (packL (r.take i)).length ≤ (packL r).length := by
  conv => rhs; rw [← List.take_append_drop i r, packL_append, List.length_append]
  omega
theorem packL_ge : ∀ r : List ByteArray, r.length ≤ (packL r).length
  | [] => Nat.zero_le _
  | x :: r => by
    have := packL_ge r
    simp [packL]; omega
theorem pk_go {w0 : World} {N : Nat → Prop} {E0 : Env} (r : List ByteArray) (hl : (packL r).length ≤ 1099511627776) : ∀ (d : Nat) (n i : Int), n = (r.length : Int) → 0 ≤ i → i + d = n → ∀ out : ByteArray, out.data.toList = packL (r.take i.toNat) → ∀ (E : Env) (a : Act) (w : World),
    Sim (cx Tryd.prog g0 w0 N E0 [(0, .row 9 1 r.length (strEl r))]) E (pk1 r out n i) a w → Goes Tryd.prog 29 (loopAt Tryd.f29 0) (RSpec (cx Tryd.prog g0 w0 N E0 [(0, .row 9 1 r.length (strEl r))]) ⟨1, [.d (.raw (.string (packB r)))], [(0, .row 9 1 r.length (strEl r))]⟩) a w := by
  have hr := packL_ge r
  intro d
  induction d with
  | zero =>
    intro n i en h0 hd out hout E a w hsim
    have e : out = packB r := by
      apply ext_ba
      rw [hout, List.take_of_length_le (by omega)]; rfl
    rcases Bool.eq_false_or_eq_true (decide (i < n)) with hb1 | hb1
    · skip
      refine go_head R2_ok rfl rfl (k' := loopAt Tryd.f29 0) (s' := mk 1 23 [(3, .d (.raw (.string (out ++ numB (↑(r.getD i.toNat ByteArray.empty).size : Int).toNat ++ ByteArray.mk #[58] ++ r.getD i.toNat ByteArray.empty ++ ByteArray.mk #[44])))), (6, .own 0), (7, .d (.raw (.int .i64 (n)))), (8, .d (.raw (.int .i64 (IntKind.i64.wrap (i + (1 : Int))))))] [(0, .row 9 1 (r.length) (strEl r))]) (cs := [((decide (i < n)) = true), ((0 : Int) ≤ i ∧ i < (↑r.length : Int)), (i.toNat < r.length), ((0 : Int) ≤ (↑(r.getD i.toNat ByteArray.empty).size : Int) ∧ (↑(r.getD i.toNat ByteArray.empty).size : Int) < (4611686018427387904 : Int)), (out.size + (numB (↑(r.getD i.toNat ByteArray.empty).size : Int).toNat).size ≤ (9223372036854775807 : Nat)), ((out ++ numB (↑(r.getD i.toNat ByteArray.empty).size : Int).toNat).size + (1 : Nat) ≤ (9223372036854775807 : Nat)), ((out ++ numB (↑(r.getD i.toNat ByteArray.empty).size : Int).toNat ++ ByteArray.mk #[(58 : UInt8)]).size + (r.getD i.toNat ByteArray.empty).size ≤ (9223372036854775807 : Nat)), ((out ++ numB (↑(r.getD i.toNat ByteArray.empty).size : Int).toNat ++ ByteArray.mk #[(58 : UInt8)] ++ r.getD i.toNat ByteArray.empty).size + (1 : Nat) ≤ (9223372036854775807 : Nat))]) [true] [3,6,7,8] (by kernel_rfl) (by kernel_rfl) ⟨hb1, (by first | omega | exact absurd (of_decide_eq_true hb1) (by omega)), (by first | omega | exact absurd (of_decide_eq_true hb1) (by omega)), (by first | omega | exact absurd (of_decide_eq_true hb1) (by omega)), (by first | omega | exact absurd (of_decide_eq_true hb1) (by omega)), (by first | omega | exact absurd (of_decide_eq_true hb1) (by omega)), (by first | omega | exact absurd (of_decide_eq_true hb1) (by omega)), (by first | omega | exact absurd (of_decide_eq_true hb1) (by omega)), trivial⟩ hsim fun E a w hsim => ?_
      exact absurd (of_decide_eq_true hb1) (by omega)
    · skip
      exact go_ret R2_ok rfl rfl Tryd.func29 (sr' := ⟨1, [.d (.raw (.string (out)))], [(0, .row 9 1 (r.length) (strEl r))]⟩) (cs := [((decide (i < n)) = false)]) [false] true (by kernel_rfl) (by kernel_rfl) ⟨hb1, trivial⟩ (by rw [e]) hsim
  | succ d ih =>
    intro n i en h0 hd out hout E a w hsim
    have hi : i.toNat < r.length := by omega
    have hg : r[i.toNat]? = some (r.getD i.toNat ByteArray.empty) := by rw [List.getD_eq_getElem?_getD, List.getElem?_eq_getElem hi]; rfl
    have hp := pack_take r i.toNat (r.getD i.toNat ByteArray.empty) hg
    have ho : out.size = (packL (r.take i.toNat)).length := by rw [size_ba, hout]
    have hle := packL_take r (i.toNat + 1)
    have hnb : (numB ((r.getD i.toNat ByteArray.empty).size : Int).toNat).size = (Lib.decDigits (r.getD i.toNat ByteArray.empty).size).length := by rw [size_ba]; rfl
    have hps := congrArg List.length hp
    simp only [List.length_append, List.length_singleton, ← size_ba] at hps
    have hE : (out ++ numB ((r.getD i.toNat ByteArray.empty).size : Int).toNat ++ ByteArray.mk #[58] ++ r.getD i.toNat ByteArray.empty ++ ByteArray.mk #[44]).data.toList = packL (r.take (IntKind.i64.wrap (i + 1)).toNat) := by
      rw [wrapI (i + 1) (by omega), show (i + 1).toNat = i.toNat + 1 by omega, hp, ← hout]
      simp only [append_ba, List.append_assoc]; rfl
    have ih := fun out h E a w hs => ih n (IntKind.i64.wrap (i + 1)) en (by rw [wrapI (i + 1) (by omega)]; omega) (by rw [wrapI (i + 1) (by omega)]; omega) out h E a w hs
    rcases Bool.eq_false_or_eq_true (decide (i < n)) with hb1 | hb1
    · skip
      refine go_head R2_ok rfl rfl (k' := loopAt Tryd.f29 0) (s' := mk 1 23 [(3, .d (.raw (.string (out ++ numB (↑(r.getD i.toNat ByteArray.empty).size : Int).toNat ++ ByteArray.mk #[58] ++ r.getD i.toNat ByteArray.empty ++ ByteArray.mk #[44])))), (6, .own 0), (7, .d (.raw (.int .i64 (n)))), (8, .d (.raw (.int .i64 (IntKind.i64.wrap (i + (1 : Int))))))] [(0, .row 9 1 (r.length) (strEl r))]) (cs := [((decide (i < n)) = true), ((0 : Int) ≤ i ∧ i < (↑r.length : Int)), (i.toNat < r.length), ((0 : Int) ≤ (↑(r.getD i.toNat ByteArray.empty).size : Int) ∧ (↑(r.getD i.toNat ByteArray.empty).size : Int) < (4611686018427387904 : Int)), (out.size + (numB (↑(r.getD i.toNat ByteArray.empty).size : Int).toNat).size ≤ (9223372036854775807 : Nat)), ((out ++ numB (↑(r.getD i.toNat ByteArray.empty).size : Int).toNat).size + (1 : Nat) ≤ (9223372036854775807 : Nat)), ((out ++ numB (↑(r.getD i.toNat ByteArray.empty).size : Int).toNat ++ ByteArray.mk #[(58 : UInt8)]).size + (r.getD i.toNat ByteArray.empty).size ≤ (9223372036854775807 : Nat)), ((out ++ numB (↑(r.getD i.toNat ByteArray.empty).size : Int).toNat ++ ByteArray.mk #[(58 : UInt8)] ++ r.getD i.toNat ByteArray.empty).size + (1 : Nat) ≤ (9223372036854775807 : Nat))]) [true] [3,6,7,8] (by kernel_rfl) (by kernel_rfl) ⟨hb1, (by first | omega | exact absurd (of_decide_eq_false hb1) (by omega) | (simp only [ByteArray.size_append]; omega) | (simp only [ByteArray.size_append]; show _ + _ + 1 + _ ≤ _; omega) | (simp only [ByteArray.size_append]; show _ + _ + 1 + _ + 1 ≤ _; omega)), (by first | omega | exact absurd (of_decide_eq_false hb1) (by omega) | (simp only [ByteArray.size_append]; omega) | (simp only [ByteArray.size_append]; show _ + _ + 1 + _ ≤ _; omega) | (simp only [ByteArray.size_append]; show _ + _ + 1 + _ + 1 ≤ _; omega)), (by first | omega | exact absurd (of_decide_eq_false hb1) (by omega) | (simp only [ByteArray.size_append]; omega) | (simp only [ByteArray.size_append]; show _ + _ + 1 + _ ≤ _; omega) | (simp only [ByteArray.size_append]; show _ + _ + 1 + _ + 1 ≤ _; omega)), (by first | omega | exact absurd (of_decide_eq_false hb1) (by omega) | (simp only [ByteArray.size_append]; omega) | (simp only [ByteArray.size_append]; show _ + _ + 1 + _ ≤ _; omega) | (simp only [ByteArray.size_append]; show _ + _ + 1 + _ + 1 ≤ _; omega)), (by first | omega | exact absurd (of_decide_eq_false hb1) (by omega) | (simp only [ByteArray.size_append]; omega) | (simp only [ByteArray.size_append]; show _ + _ + 1 + _ ≤ _; omega) | (simp only [ByteArray.size_append]; show _ + _ + 1 + _ + 1 ≤ _; omega)), (by first | omega | exact absurd (of_decide_eq_false hb1) (by omega) | (simp only [ByteArray.size_append]; omega) | (simp only [ByteArray.size_append]; show _ + _ + 1 + _ ≤ _; omega) | (simp only [ByteArray.size_append]; show _ + _ + 1 + _ + 1 ≤ _; omega)), (by first | omega | exact absurd (of_decide_eq_false hb1) (by omega) | (simp only [ByteArray.size_append]; omega) | (simp only [ByteArray.size_append]; show _ + _ + 1 + _ ≤ _; omega) | (simp only [ByteArray.size_append]; show _ + _ + 1 + _ + 1 ≤ _; omega)), trivial⟩ hsim fun E a w hsim => ?_
      exact ih _ hE E a w hsim
    · skip
      exact go_ret R2_ok rfl rfl Tryd.func29 (sr' := ⟨1, [.d (.raw (.string (out)))], [(0, .row 9 1 (r.length) (strEl r))]⟩) (cs := [((decide (i < n)) = false)]) [false] true (by kernel_rfl) (by kernel_rfl) ⟨hb1, trivial⟩ (by exact absurd (of_decide_eq_false hb1) (by omega)) hsim
theorem packR_ok (r : List ByteArray) (hl : (packL r).length ≤ 1099511627776) : Eng.Spec Tryd.prog g0 29 [.own 0] [(0, .row 9 1 r.length (strEl r))] (.d (.raw (.string (packB r)))) [(0, .row 9 1 r.length (strEl r))] := by
  refine spec_fn Tryd.func29 rfl fun {w N E a} hsim => ?_
  refine go_head R2_ok rfl rfl (k' := loopAt Tryd.f29 0) (s' := mk 1 23 [(3, .d (.raw (.string (ByteArray.mk #[])))), (6, .own 0), (7, .d (.raw (.int .i64 ((↑r.length : Int))))), (8, .d (.raw (.int .i64 ((0 : Int)))))] [(0, .row 9 1 (r.length) (strEl r))]) (cs := []) [] [3,6,7,8] (by kernel_rfl) (by kernel_rfl) trivial hsim fun E a w hsim => ?_
  exact pk_go r hl r.length (r.length : Int) 0 rfl (by omega) (by omega) _ rfl E a w hsim
end Go.Nest

namespace Go.Nest
open Go Go.Eng Go.Proofs Go.RowKit
set_option linter.unusedVariables false
set_option linter.unusedSimpArgs false
set_option maxRecDepth 100000
set_option maxHeartbeats 4000000
theorem UN_ok (q : ByteArray) : OrcOK Tryd.prog (UN q) := (OrcOK.none _).add _ false (mNumJ q) fun args H r H' cs h hc => by
  unfold mNumJ at h
  split at h
  · cases h; obtain ⟨rfl, hb, -⟩ := hc; exact num_ok _ hb
  · cases h
abbrev GoN (s : ByteArray) (w0 : World) (N : Nat → Prop) (E0 : Env) (k : List Item) (st : St) : Prop := ∀ (E : Env) (a : Act) (w : World), Sim (cx Tryd.prog (fun _ => none) w0 N E0 []) E st a w → Goes Tryd.prog 52 k (RSpec (cx Tryd.prog (fun _ => none) w0 N E0 []) ⟨0, [.tup [.d (.raw (.int .i64 (numM s).1)), .d (.raw (.int .i64 (numM s).2))]], []⟩) a w
theorem tn_go {w0 : World} {N : Nat → Prop} {E0 : Env} (s d : ByteArray) (hd : d = dOf s) (hsz : d.size ≤ 19) : ∀ (j k : Nat) (i n : Int), i = (k : Int) → k + j = d.size → n = IntKind.i64.wrap (-(valL (d.data.toList.take k))) → GoN s w0 N E0 (loopAt Tryd.f52 0) (tn1 s d n i) := by
  intro j
  induction j with
  | zero =>
    intro k i n hi hk hn E a w hsim
    have hall : d.data.toList.take k = d.data.toList := List.take_of_length_le (by rw [← size_ba]; omega)
    rw [hall] at hn
    obtain ⟨n', hn'⟩ : ∃ n', n' = if d.size = s.size then IntKind.i64.wrap ((0 : Int) - n) else n := ⟨_, rfl⟩
    have hnb : -9223372036854775808 ≤ n' ∧ n' < 9223372036854775808 := by
      rw [hn']; split
      · exact wrap_bd _
      · rw [hn]; exact wrap_bd _
    have hnn : -9223372036854775808 ≤ n ∧ n < 9223372036854775808 := by rw [hn]; exact wrap_bd _
    have hn0 := wrap_bd ((0 : Int) - n)
    obtain ⟨q, hq⟩ : ∃ q, q = numJ n' := ⟨_, rfl⟩
    have f1 : (!q.toList == s.toList) = true → numM s = (0, 4) := fun h => by
      rcases numM_cases s with h2 | ⟨v, h2, h3⟩
      · exact h2
      · exfalso
        have hvb := numM_bounds s
        rw [h2] at hvb
        have hvb : -9223372036854775808 ≤ v ∧ v ≤ 9223372036854775807 := hvb
        obtain ⟨a1, a2⟩ := dOf_itoa h3
        rw [← hd] at a1 a2
        rw [a1, valL_dec] at hn
        have hv : n' = v := by
          rw [hn']
          split
          · rename_i hh; have := a2.1 hh; rw [hn, wrapE, wrapE]; omega
          · rename_i hh; have : ¬ 0 ≤ v := fun h => hh (a2.2 h); rw [hn, wrapE]; omega
        have : q = s := by apply ext_ba; rw [hq, hv]; exact h3
        rw [this] at h; simp at h
    have f2 : (!q.toList == s.toList) = false → numM s = (n', 0) := fun h => by
      have e : q.toList = s.toList := by simpa using h
      rw [toList_ba, toList_ba] at e
      exact numM_itoa hnb (by rw [← e, hq]; rfl)
    have q1 : ((d.size : Int) == (s.size : Int)) = true → q = numJ (IntKind.i64.wrap ((0 : Int) - n)) ∧ n' = IntKind.i64.wrap ((0 : Int) - n) := fun h => by
      have h : (d.size : Int) = (s.size : Int) := by simpa using h
      have : d.size = s.size := by omega
      rw [hq, hn', if_pos this]; exact ⟨rfl, rfl⟩
    have q2 : ((d.size : Int) == (s.size : Int)) = false → q = numJ n ∧ n' = n := fun h => by
      have h : ¬ (d.size : Int) = (s.size : Int) := by simpa using h
      have : ¬ d.size = s.size := by omega
      rw [hq, hn', if_neg this]; exact ⟨rfl, rfl⟩
    rcases Bool.eq_false_or_eq_true (decide (i < (↑d.size : Int))) with hb1 | hb1
    · skip
      rcases Bool.eq_false_or_eq_true (decide (byteAt d i.toNat < (48 : Int))) with hb2 | hb2
      · skip
        exact go_ret (UN_ok q) rfl rfl Tryd.func52 (sr' := ⟨0, [.tup [.d (.raw (.int .i64 ((0 : Int)))), .d (.raw (.int .i64 ((4 : Int))))]], []⟩) (cs := [((decide (i < (↑d.size : Int))) = true), ((0 : Int) ≤ i ∧ i < (↑d.size : Int)), ((decide (byteAt d i.toNat < (48 : Int))) = true)]) [true, true] true (by kernel_rfl) (by kernel_rfl) ⟨hb1, (by first | exact (q1 hb4).1 | exact (q2 hb4).1 | exact hn0 | exact hnn | omega | exact absurd (of_decide_eq_true hb1) (by omega)), hb2, trivial⟩ (by first | (rw [f1 hb5]; done) | (rw [f2 hb5, (q1 hb4).2]; done) | (rw [f1 hb6]; done) | (rw [f2 hb6, (q2 hb4).2]; done) | (rw [f1 hb5]; rfl) | (rw [f2 hb5, (q1 hb4).2]; rfl) | (rw [f1 hb6]; rfl) | (rw [f2 hb6, (q2 hb4).2]; rfl) | exact absurd (of_decide_eq_true hb1) (by omega)) hsim
      · skip
        rcases Bool.eq_false_or_eq_true (decide (byteAt d i.toNat > (57 : Int))) with hb3 | hb3
        · skip
          have q0_ : ((0 : Int) ≤ i ∧ i < (↑d.size : Int)) := (by first | exact (q1 hb4).1 | exact (q2 hb4).1 | exact hn0 | exact hnn | omega | exact absurd (of_decide_eq_true hb1) (by omega))
          exact go_ret (UN_ok q) rfl rfl Tryd.func52 (sr' := ⟨0, [.tup [.d (.raw (.int .i64 ((0 : Int)))), .d (.raw (.int .i64 ((4 : Int))))]], []⟩) (cs := ((fun (c0 : Prop) => [((decide (i < (↑d.size : Int))) = true), c0, ((decide (byteAt d i.toNat < (48 : Int))) = false), c0, ((decide (byteAt d i.toNat > (57 : Int))) = true)]) ((0 : Int) ≤ i ∧ i < (↑d.size : Int)))) [true, false, true] true (by kernel_rfl) (by kernel_rfl) ⟨hb1, q0_, hb2, q0_, hb3, trivial⟩ (by first | (rw [f1 hb5]; done) | (rw [f2 hb5, (q1 hb4).2]; done) | (rw [f1 hb6]; done) | (rw [f2 hb6, (q2 hb4).2]; done) | (rw [f1 hb5]; rfl) | (rw [f2 hb5, (q1 hb4).2]; rfl) | (rw [f1 hb6]; rfl) | (rw [f2 hb6, (q2 hb4).2]; rfl) | exact absurd (of_decide_eq_true hb1) (by omega)) hsim
        · skip
          have q0_ : ((0 : Int) ≤ i ∧ i < (↑d.size : Int)) := (by first | exact (q1 hb4).1 | exact (q2 hb4).1 | exact hn0 | exact hnn | omega | exact absurd (of_decide_eq_true hb1) (by omega))
          refine go_head (UN_ok q) rfl rfl (k' := loopAt Tryd.f52 0) (s' := mk 0 62 [(0, .d (.raw (.string (s)))), (4, .d (.raw (.string (d)))), (5, .d (.raw (.int .i64 (IntKind.i64.wrap (IntKind.i64.wrap ((10 : Int) * n) - IntKind.i64.wrap (IntKind.i64.wrap (byteAt d i.toNat) - (48 : Int))))))), (6, .d (.raw (.int .i64 (IntKind.i64.wrap (i + (1 : Int))))))] []) (cs := ((fun (c0 : Prop) => [((decide (i < (↑d.size : Int))) = true), c0, ((decide (byteAt d i.toNat < (48 : Int))) = false), c0, ((decide (byteAt d i.toNat > (57 : Int))) = false), c0]) ((0 : Int) ≤ i ∧ i < (↑d.size : Int)))) [true, false, false] [0,4,5,6] (by kernel_rfl) (by kernel_rfl) ⟨hb1, q0_, hb2, q0_, hb3, q0_, trivial⟩ hsim fun E a w hsim => ?_
          exact absurd (of_decide_eq_true hb1) (by omega)
    · skip
      rcases Bool.eq_false_or_eq_true ((↑d.size : Int) == (↑s.size : Int)) with hb4 | hb4
      · skip
        rcases Bool.eq_false_or_eq_true (!q.toList == s.toList) with hb5 | hb5
        · skip
          exact go_ret (UN_ok q) rfl rfl Tryd.func52 (sr' := ⟨0, [.tup [.d (.raw (.int .i64 ((0 : Int)))), .d (.raw (.int .i64 ((4 : Int))))]], []⟩) (cs := [((decide (i < (↑d.size : Int))) = false), (((↑d.size : Int) == (↑s.size : Int)) = true), (q = numJ (IntKind.i64.wrap ((0 : Int) - n))), ((-9223372036854775808 : Int) ≤ IntKind.i64.wrap ((0 : Int) - n) ∧ IntKind.i64.wrap ((0 : Int) - n) < (9223372036854775808 : Int)), ((!q.toList == s.toList) = true)]) [false, true, true] true (by kernel_rfl) (by kernel_rfl) ⟨hb1, hb4, (by first | exact (q1 hb4).1 | exact (q2 hb4).1 | exact hn0 | exact hnn | omega | exact absurd (of_decide_eq_true hb1) (by omega)), (by first | exact (q1 hb4).1 | exact (q2 hb4).1 | exact hn0 | exact hnn | omega | exact absurd (of_decide_eq_true hb1) (by omega)), hb5, trivial⟩ (by first | (rw [f1 hb5]; done) | (rw [f2 hb5, (q1 hb4).2]; done) | (rw [f1 hb6]; done) | (rw [f2 hb6, (q2 hb4).2]; done) | (rw [f1 hb5]; rfl) | (rw [f2 hb5, (q1 hb4).2]; rfl) | (rw [f1 hb6]; rfl) | (rw [f2 hb6, (q2 hb4).2]; rfl) | exact absurd (of_decide_eq_true hb1) (by omega)) hsim
        · skip
          exact go_ret (UN_ok q) rfl rfl Tryd.func52 (sr' := ⟨0, [.tup [.d (.raw (.int .i64 (IntKind.i64.wrap ((0 : Int) - n)))), .d (.raw (.int .i64 ((0 : Int))))]], []⟩) (cs := [((decide (i < (↑d.size : Int))) = false), (((↑d.size : Int) == (↑s.size : Int)) = true), (q = numJ (IntKind.i64.wrap ((0 : Int) - n))), ((-9223372036854775808 : Int) ≤ IntKind.i64.wrap ((0 : Int) - n) ∧ IntKind.i64.wrap ((0 : Int) - n) < (9223372036854775808 : Int)), ((!q.toList == s.toList) = false)]) [false, true, false] true (by kernel_rfl) (by kernel_rfl) ⟨hb1, hb4, (by first | exact (q1 hb4).1 | exact (q2 hb4).1 | exact hn0 | exact hnn | omega | exact absurd (of_decide_eq_true hb1) (by omega)), (by first | exact (q1 hb4).1 | exact (q2 hb4).1 | exact hn0 | exact hnn | omega | exact absurd (of_decide_eq_true hb1) (by omega)), hb5, trivial⟩ (by first | (rw [f1 hb5]; done) | (rw [f2 hb5, (q1 hb4).2]; done) | (rw [f1 hb6]; done) | (rw [f2 hb6, (q2 hb4).2]; done) | (rw [f1 hb5]; rfl) | (rw [f2 hb5, (q1 hb4).2]; rfl) | (rw [f1 hb6]; rfl) | (rw [f2 hb6, (q2 hb4).2]; rfl) | exact absurd (of_decide_eq_true hb1) (by omega)) hsim
      · skip
        rcases Bool.eq_false_or_eq_true (!q.toList == s.toList) with hb6 | hb6
        · skip
          exact go_ret (UN_ok q) rfl rfl Tryd.func52 (sr' := ⟨0, [.tup [.d (.raw (.int .i64 ((0 : Int)))), .d (.raw (.int .i64 ((4 : Int))))]], []⟩) (cs := [((decide (i < (↑d.size : Int))) = false), (((↑d.size : Int) == (↑s.size : Int)) = false), (q = numJ n), ((-9223372036854775808 : Int) ≤ n ∧ n < (9223372036854775808 : Int)), ((!q.toList == s.toList) = true)]) [false, false, true] true (by kernel_rfl) (by kernel_rfl) ⟨hb1, hb4, (by first | exact (q1 hb4).1 | exact (q2 hb4).1 | exact hn0 | exact hnn | omega | exact absurd (of_decide_eq_true hb1) (by omega)), (by first | exact (q1 hb4).1 | exact (q2 hb4).1 | exact hn0 | exact hnn | omega | exact absurd (of_decide_eq_true hb1) (by omega)), hb6, trivial⟩ (by first | (rw [f1 hb5]; done) | (rw [f2 hb5, (q1 hb4).2]; done) | (rw [f1 hb6]; done) | (rw [f2 hb6, (q2 hb4).2]; done) | (rw [f1 hb5]; rfl) | (rw [f2 hb5, (q1 hb4).2]; rfl) | (rw [f1 hb6]; rfl) | (rw [f2 hb6, (q2 hb4).2]; rfl) | exact absurd (of_decide_eq_true hb1) (by omega)) hsim
        · skip
          exact go_ret (UN_ok q) rfl rfl Tryd.func52 (sr' := ⟨0, [.tup [.d (.raw (.int .i64 (n))), .d (.raw (.int .i64 ((0 : Int))))]], []⟩) (cs := [((decide (i < (↑d.size : Int))) = false), (((↑d.size : Int) == (↑s.size : Int)) = false), (q = numJ n), ((-9223372036854775808 : Int) ≤ n ∧ n < (9223372036854775808 : Int)), ((!q.toList == s.toList) = false)]) [false, false, false] true (by kernel_rfl) (by kernel_rfl) ⟨hb1, hb4, (by first | exact (q1 hb4).1 | exact (q2 hb4).1 | exact hn0 | exact hnn | omega | exact absurd (of_decide_eq_true hb1) (by omega)), (by first | exact (q1 hb4).1 | exact (q2 hb4).1 | exact hn0 | exact hnn | omega | exact absurd (of_decide_eq_true hb1) (by omega)), hb6, trivial⟩ (by first | (rw [f1 hb5]; done) | (rw [f2 hb5, (q1 hb4).2]; done) | (rw [f1 hb6]; done) | (rw [f2 hb6, (q2 hb4).2]; done) | (rw [f1 hb5]; rfl) | (rw [f2 hb5, (q1 hb4).2]; rfl) | (rw [f1 hb6]; rfl) | (rw [f2 hb6, (q2 hb4).2]; rfl) | exact absurd (of_decide_eq_true hb1) (by omega)) hsim
  | succ j ih =>
    intro k i n hi hk hn E a w hsim
    let q : ByteArray := ByteArray.empty
    have hkd : k < d.size := by omega
    have ti : i.toNat = k := by omega
    have hlt := byteAt_lt d k
    have bad : ¬ (48 ≤ byteAt d k ∧ byteAt d k ≤ 57) → numM s = (0, 4) := fun h => by
      rcases numM_cases s with h2 | ⟨v, h2, h3⟩
      · exact h2
      · exact absurd (by have := digits_of h3 k (by rw [← hd]; exact hkd); rw [← hd] at this; exact this) h
    have w2 : IntKind.i64.wrap (byteAt d i.toNat) = byteAt d k := by rw [ti]; exact wrapI _ (by omega)
    have w3 : IntKind.i64.wrap (IntKind.i64.wrap (byteAt d i.toNat) - 48) = byteAt d k - 48 := by rw [w2]; exact wrapI _ (by omega)
    have hval : valL (d.data.toList.take (k + 1)) = 10 * valL (d.data.toList.take k) + (byteAt d k - 48) := by
      rw [List.take_add_one, List.getElem?_eq_getElem (by rw [← size_ba]; exact hkd), byteAt_list d k hkd]
      exact valL_snoc _ _
    have w4 : IntKind.i64.wrap (IntKind.i64.wrap ((10 : Int) * n) - IntKind.i64.wrap (IntKind.i64.wrap (byteAt d i.toNat) - 48)) = IntKind.i64.wrap (-(valL (d.data.toList.take (k + 1)))) := by
      rw [w3, hval, hn]
      generalize valL (d.data.toList.take k) = V
      generalize byteAt d k = b
      rw [wrapE, wrapE (10 * _), wrapE (-V), wrapE (-(10 * V + (b - 48)))]
      omega
    have ih := fun (g1 : 48 ≤ byteAt d k) (g2 : byteAt d k ≤ 57) => ih (k + 1) (IntKind.i64.wrap (i + 1)) (IntKind.i64.wrap (IntKind.i64.wrap ((10 : Int) * n) - IntKind.i64.wrap (IntKind.i64.wrap (byteAt d i.toNat) - 48))) (by rw [wrapI (i + 1) (by omega)]; omega) (by omega) w4
    rcases Bool.eq_false_or_eq_true (decide (i < (↑d.size : Int))) with hb1 | hb1
    · skip
      rcases Bool.eq_false_or_eq_true (decide (byteAt d i.toNat < (48 : Int))) with hb2 | hb2
      · skip
        exact go_ret (UN_ok q) rfl rfl Tryd.func52 (sr' := ⟨0, [.tup [.d (.raw (.int .i64 ((0 : Int)))), .d (.raw (.int .i64 ((4 : Int))))]], []⟩) (cs := [((decide (i < (↑d.size : Int))) = true), ((0 : Int) ≤ i ∧ i < (↑d.size : Int)), ((decide (byteAt d i.toNat < (48 : Int))) = true)]) [true, true] true (by kernel_rfl) (by kernel_rfl) ⟨hb1, (by first | omega | exact absurd (of_decide_eq_false hb1) (by omega)), hb2, trivial⟩ (by first | (have := of_decide_eq_true hb2; rw [ti] at this; rw [bad (by omega)]; done) | (have := of_decide_eq_true hb3; rw [ti] at this; rw [bad (by omega)]; done) | (have := of_decide_eq_true hb2; rw [ti] at this; rw [bad (by omega)]; rfl) | (have := of_decide_eq_true hb3; rw [ti] at this; rw [bad (by omega)]; rfl) | exact absurd (of_decide_eq_false hb1) (by omega)) hsim
      · skip
        rcases Bool.eq_false_or_eq_true (decide (byteAt d i.toNat > (57 : Int))) with hb3 | hb3
        · skip
          have q0_ : ((0 : Int) ≤ i ∧ i < (↑d.size : Int)) := (by first | omega | exact absurd (of_decide_eq_false hb1) (by omega))
          exact go_ret (UN_ok q) rfl rfl Tryd.func52 (sr' := ⟨0, [.tup [.d (.raw (.int .i64 ((0 : Int)))), .d (.raw (.int .i64 ((4 : Int))))]], []⟩) (cs := ((fun (c0 : Prop) => [((decide (i < (↑d.size : Int))) = true), c0, ((decide (byteAt d i.toNat < (48 : Int))) = false), c0, ((decide (byteAt d i.toNat > (57 : Int))) = true)]) ((0 : Int) ≤ i ∧ i < (↑d.size : Int)))) [true, false, true] true (by kernel_rfl) (by kernel_rfl) ⟨hb1, q0_, hb2, q0_, hb3, trivial⟩ (by first | (have := of_decide_eq_true hb2; rw [ti] at this; rw [bad (by omega)]; done) | (have := of_decide_eq_true hb3; rw [ti] at this; rw [bad (by omega)]; done) | (have := of_decide_eq_true hb2; rw [ti] at this; rw [bad (by omega)]; rfl) | (have := of_decide_eq_true hb3; rw [ti] at this; rw [bad (by omega)]; rfl) | exact absurd (of_decide_eq_false hb1) (by omega)) hsim
        · skip
          have q0_ : ((0 : Int) ≤ i ∧ i < (↑d.size : Int)) := (by first | omega | exact absurd (of_decide_eq_false hb1) (by omega))
          refine go_head (UN_ok q) rfl rfl (k' := loopAt Tryd.f52 0) (s' := mk 0 62 [(0, .d (.raw (.string (s)))), (4, .d (.raw (.string (d)))), (5, .d (.raw (.int .i64 (IntKind.i64.wrap (IntKind.i64.wrap ((10 : Int) * n) - IntKind.i64.wrap (IntKind.i64.wrap (byteAt d i.toNat) - (48 : Int))))))), (6, .d (.raw (.int .i64 (IntKind.i64.wrap (i + (1 : Int))))))] []) (cs := ((fun (c0 : Prop) => [((decide (i < (↑d.size : Int))) = true), c0, ((decide (byteAt d i.toNat < (48 : Int))) = false), c0, ((decide (byteAt d i.toNat > (57 : Int))) = false), c0]) ((0 : Int) ≤ i ∧ i < (↑d.size : Int)))) [true, false, false] [0,4,5,6] (by kernel_rfl) (by kernel_rfl) ⟨hb1, q0_, hb2, q0_, hb3, q0_, trivial⟩ hsim fun E a w hsim => ?_
          have g1 := of_decide_eq_false hb2
          have g2 := of_decide_eq_false hb3
          rw [ti] at g1 g2
          exact ih (by omega) (by omega) E a w hsim
    · skip
      rcases Bool.eq_false_or_eq_true ((↑d.size : Int) == (↑s.size : Int)) with hb4 | hb4
      · skip
        rcases Bool.eq_false_or_eq_true (!q.toList == s.toList) with hb5 | hb5
        · skip
          exact go_ret (UN_ok q) rfl rfl Tryd.func52 (sr' := ⟨0, [.tup [.d (.raw (.int .i64 ((0 : Int)))), .d (.raw (.int .i64 ((4 : Int))))]], []⟩) (cs := [((decide (i < (↑d.size : Int))) = false), (((↑d.size : Int) == (↑s.size : Int)) = true), (q = numJ (IntKind.i64.wrap ((0 : Int) - n))), ((-9223372036854775808 : Int) ≤ IntKind.i64.wrap ((0 : Int) - n) ∧ IntKind.i64.wrap ((0 : Int) - n) < (9223372036854775808 : Int)), ((!q.toList == s.toList) = true)]) [false, true, true] true (by kernel_rfl) (by kernel_rfl) ⟨hb1, hb4, (by first | omega | exact absurd (of_decide_eq_false hb1) (by omega)), (by first | omega | exact absurd (of_decide_eq_false hb1) (by omega)), hb5, trivial⟩ (by first | (have := of_decide_eq_true hb2; rw [ti] at this; rw [bad (by omega)]; done) | (have := of_decide_eq_true hb3; rw [ti] at this; rw [bad (by omega)]; done) | (have := of_decide_eq_true hb2; rw [ti] at this; rw [bad (by omega)]; rfl) | (have := of_decide_eq_true hb3; rw [ti] at this; rw [bad (by omega)]; rfl) | exact absurd (of_decide_eq_false hb1) (by omega)) hsim
        · skip
          exact go_ret (UN_ok q) rfl rfl Tryd.func52 (sr' := ⟨0, [.tup [.d (.raw (.int .i64 (IntKind.i64.wrap ((0 : Int) - n)))), .d (.raw (.int .i64 ((0 : Int))))]], []⟩) (cs := [((decide (i < (↑d.size : Int))) = false), (((↑d.size : Int) == (↑s.size : Int)) = true), (q = numJ (IntKind.i64.wrap ((0 : Int) - n))), ((-9223372036854775808 : Int) ≤ IntKind.i64.wrap ((0 : Int) - n) ∧ IntKind.i64.wrap ((0 : Int) - n) < (9223372036854775808 : Int)), ((!q.toList == s.toList) = false)]) [false, true, false] true (by kernel_rfl) (by kernel_rfl) ⟨hb1, hb4, (by first | omega | exact absurd (of_decide_eq_false hb1) (by omega)), (by first | omega | exact absurd (of_decide_eq_false hb1) (by omega)), hb5, trivial⟩ (by first | (have := of_decide_eq_true hb2; rw [ti] at this; rw [bad (by omega)]; done) | (have := of_decide_eq_true hb3; rw [ti] at this; rw [bad (by omega)]; done) | (have := of_decide_eq_true hb2; rw [ti] at this; rw [bad (by omega)]; rfl) | (have := of_decide_eq_true hb3; rw [ti] at this; rw [bad (by omega)]; rfl) | exact absurd (of_decide_eq_false hb1) (by omega)) hsim
      · skip
        rcases Bool.eq_false_or_eq_true (!q.toList == s.toList) with hb6 | hb6
        · skip
          exact go_ret (UN_ok q) rfl rfl Tryd.func52 (sr' := ⟨0, [.tup [.d (.raw (.int .i64 ((0 : Int)))), .d (.raw (.int .i64 ((4 : Int))))]], []⟩) (cs := [((decide (i < (↑d.size : Int))) = false), (((↑d.size : Int) == (↑s.size : Int)) = false), (q = numJ n), ((-9223372036854775808 : Int) ≤ n ∧ n < (9223372036854775808 : Int)), ((!q.toList == s.toList) = true)]) [false, false, true] true (by kernel_rfl) (by kernel_rfl) ⟨hb1, hb4, (by first | omega | exact absurd (of_decide_eq_false hb1) (by omega)), (by first | omega | exact absurd (of_decide_eq_false hb1) (by omega)), hb6, trivial⟩ (by first | (have := of_decide_eq_true hb2; rw [ti] at this; rw [bad (by omega)]; done) | (have := of_decide_eq_true hb3; rw [ti] at this; rw [bad (by omega)]; done) | (have := of_decide_eq_true hb2; rw [ti] at this; rw [bad (by omega)]; rfl) | (have := of_decide_eq_true hb3; rw [ti] at this; rw [bad (by omega)]; rfl) | exact absurd (of_decide_eq_false hb1) (by omega)) hsim
        · skip
          exact go_ret (UN_ok q) rfl rfl Tryd.func52 (sr' := ⟨0, [.tup [.d (.raw (.int .i64 (n))), .d (.raw (.int .i64 ((0 : Int))))]], []⟩) (cs := [((decide (i < (↑d.size : Int))) = false), (((↑d.size : Int) == (↑s.size : Int)) = false), (q = numJ n), ((-9223372036854775808 : Int) ≤ n ∧ n < (9223372036854775808 : Int)), ((!q.toList == s.toList) = false)]) [false, false, false] true (by kernel_rfl) (by kernel_rfl) ⟨hb1, hb4, (by first | omega | exact absurd (of_decide_eq_false hb1) (by omega)), (by first | omega | exact absurd (of_decide_eq_false hb1) (by omega)), hb6, trivial⟩ (by first | (have := of_decide_eq_true hb2; rw [ti] at this; rw [bad (by omega)]; done) | (have := of_decide_eq_true hb3; rw [ti] at this; rw [bad (by omega)]; done) | (have := of_decide_eq_true hb2; rw [ti] at this; rw [bad (by omega)]; rfl) | (have := of_decide_eq_true hb3; rw [ti] at this; rw [bad (by omega)]; rfl) | exact absurd (of_decide_eq_false hb1) (by omega)) hsim
theorem toNumR_ok (s : ByteArray) (hs : s.size ≤ 1073741824) : Eng.Spec Tryd.prog (fun _ => none) 52 [.d (.raw (.string s))] [] (.tup [.d (.raw (.int .i64 (numM s).1)), .d (.raw (.int .i64 (numM s).2))]) [] := by
  refine spec_fn Tryd.func52 rfl fun {w N E a} hsim => ?_
  let q : ByteArray := ByteArray.empty
  have hlen : (dOf s).size < 1 → numM s = (0, 4) := fun h => by
    rcases numM_cases s with h2 | ⟨v, h2, h3⟩
    · exact h2
    · exfalso
      have := (dOf_itoa h3).1
      rw [size_ba, this] at h
      cases hl : Lib.decDigits v.natAbs with
      | nil => exact absurd hl (dec_ne _)
      | cons c r => rw [hl] at h; simp at h
  have d1 : decide ((s.size : Int) > 0) = true → (byteAt s 0 == (45 : Int)) = true → s.extract 1 (s.size : Int).toNat = dOf s := fun a b => by
    have a := of_decide_eq_true a
    have b : byteAt s 0 = 45 := by simpa using b
    unfold dOf; rw [if_pos ⟨by omega, b⟩, Int.toNat_natCast]
  have d2 : (byteAt s 0 == (45 : Int)) = false → s = dOf s := fun b => by
    have b : ¬ byteAt s 0 = 45 := by simpa using b
    unfold dOf; rw [if_neg (fun h => b h.2)]
  have d3 : decide ((s.size : Int) > 0) = false → s = dOf s := fun a => by
    have a := of_decide_eq_false a
    unfold dOf; rw [if_neg (fun h => by omega)]
  have hlen2 : 19 < (dOf s).size → numM s = (0, 4) := fun h => by
    rcases numM_cases s with h2 | ⟨v, h2, h3⟩
    · exact h2
    · exfalso
      have hvb := numM_bounds s
      rw [h2] at hvb
      have hvb : -9223372036854775808 ≤ v ∧ v ≤ 9223372036854775807 := hvb
      have := (dOf_itoa h3).1
      rw [size_ba, this] at h
      have := dec_len19 v (by omega)
      omega
  have z0 : (0 : Int) = IntKind.i64.wrap (-(valL (List.take 0 s.data.toList))) := by rw [List.take_zero]; decide +kernel
  have z1 : (0 : Int) = IntKind.i64.wrap (-(valL (List.take 0 (s.extract 1 (s.size : Int).toNat).data.toList))) := by rw [List.take_zero]; decide +kernel
  rcases Bool.eq_false_or_eq_true (decide ((↑s.size : Int) > (0 : Int))) with hb1 | hb1
  · skip
    rcases Bool.eq_false_or_eq_true (byteAt s (0 : Nat) == (45 : Int)) with hb2 | hb2
    · skip
      rcases Bool.eq_false_or_eq_true (decide ((↑(s.extract (1 : Nat) (↑s.size : Int).toNat).size : Int) < (1 : Int))) with hb3 | hb3
      · skip
        exact go_ret (UN_ok q) rfl rfl Tryd.func52 (sr' := ⟨0, [.tup [.d (.raw (.int .i64 ((0 : Int)))), .d (.raw (.int .i64 ((4 : Int))))]], []⟩) (cs := [((decide ((↑s.size : Int) > (0 : Int))) = true), ((0 : Int) ≤ (0 : Int) ∧ (0 : Int) < (↑s.size : Int)), ((byteAt s (0 : Nat) == (45 : Int)) = true), ((0 : Int) ≤ (1 : Int) ∧ (1 : Int) ≤ (↑s.size : Int) ∧ (↑s.size : Int) ≤ (↑s.size : Int)), ((decide ((↑(s.extract (1 : Nat) (↑s.size : Int).toNat).size : Int) < (1 : Int))) = true)]) [true, true, true] true (by kernel_rfl) (by kernel_rfl) ⟨hb1, (by first | omega | (have := of_decide_eq_true hb1; omega)), hb2, (by first | omega | (have := of_decide_eq_true hb1; omega)), hb3, trivial⟩ (by first | (have h := of_decide_eq_true hb3; rw [d1 hb1 hb2] at h; rw [hlen (by omega)]; done) | (have h := of_decide_eq_true hb5; rw [hlen (by rw [← d2 hb2]; omega)]; done) | (have h := of_decide_eq_true hb7; rw [hlen (by rw [← d3 hb1]; omega)]; done) | (have h := of_decide_eq_true hb3; rw [d1 hb1 hb2] at h; rw [hlen (by omega)]; rfl) | (have h := of_decide_eq_true hb5; rw [hlen (by rw [← d2 hb2]; omega)]; rfl) | (have h := of_decide_eq_true hb7; rw [hlen (by rw [← d3 hb1]; omega)]; rfl) | (have h := of_decide_eq_true hb4; rw [d1 hb1 hb2] at h; rw [hlen2 (by omega)]; done) | (have h := of_decide_eq_true hb6; rw [hlen2 (by rw [← d2 hb2]; omega)]; done) | (have h := of_decide_eq_true hb8; rw [hlen2 (by rw [← d3 hb1]; omega)]; done) | (have h := of_decide_eq_true hb4; rw [d1 hb1 hb2] at h; rw [hlen2 (by omega)]; rfl) | (have h := of_decide_eq_true hb6; rw [hlen2 (by rw [← d2 hb2]; omega)]; rfl) | (have h := of_decide_eq_true hb8; rw [hlen2 (by rw [← d3 hb1]; omega)]; rfl)) hsim
      · skip
        rcases Bool.eq_false_or_eq_true (decide ((↑(s.extract (1 : Nat) (↑s.size : Int).toNat).size : Int) > (19 : Int))) with hb4 | hb4
        · skip
          exact go_ret (UN_ok q) rfl rfl Tryd.func52 (sr' := ⟨0, [.tup [.d (.raw (.int .i64 ((0 : Int)))), .d (.raw (.int .i64 ((4 : Int))))]], []⟩) (cs := [((decide ((↑s.size : Int) > (0 : Int))) = true), ((0 : Int) ≤ (0 : Int) ∧ (0 : Int) < (↑s.size : Int)), ((byteAt s (0 : Nat) == (45 : Int)) = true), ((0 : Int) ≤ (1 : Int) ∧ (1 : Int) ≤ (↑s.size : Int) ∧ (↑s.size : Int) ≤ (↑s.size : Int)), ((decide ((↑(s.extract (1 : Nat) (↑s.size : Int).toNat).size : Int) < (1 : Int))) = false), ((decide ((↑(s.extract (1 : Nat) (↑s.size : Int).toNat).size : Int) > (19 : Int))) = true)]) [true, true, false, true] true (by kernel_rfl) (by kernel_rfl) ⟨hb1, (by first | omega | (have := of_decide_eq_true hb1; omega)), hb2, (by first | omega | (have := of_decide_eq_true hb1; omega)), hb3, hb4, trivial⟩ (by first | (have h := of_decide_eq_true hb3; rw [d1 hb1 hb2] at h; rw [hlen (by omega)]; done) | (have h := of_decide_eq_true hb5; rw [hlen (by rw [← d2 hb2]; omega)]; done) | (have h := of_decide_eq_true hb7; rw [hlen (by rw [← d3 hb1]; omega)]; done) | (have h := of_decide_eq_true hb3; rw [d1 hb1 hb2] at h; rw [hlen (by omega)]; rfl) | (have h := of_decide_eq_true hb5; rw [hlen (by rw [← d2 hb2]; omega)]; rfl) | (have h := of_decide_eq_true hb7; rw [hlen (by rw [← d3 hb1]; omega)]; rfl) | (have h := of_decide_eq_true hb4; rw [d1 hb1 hb2] at h; rw [hlen2 (by omega)]; done) | (have h := of_decide_eq_true hb6; rw [hlen2 (by rw [← d2 hb2]; omega)]; done) | (have h := of_decide_eq_true hb8; rw [hlen2 (by rw [← d3 hb1]; omega)]; done) | (have h := of_decide_eq_true hb4; rw [d1 hb1 hb2] at h; rw [hlen2 (by omega)]; rfl) | (have h := of_decide_eq_true hb6; rw [hlen2 (by rw [← d2 hb2]; omega)]; rfl) | (have h := of_decide_eq_true hb8; rw [hlen2 (by rw [← d3 hb1]; omega)]; rfl)) hsim
        · skip
          refine go_head (UN_ok q) rfl rfl (k' := loopAt Tryd.f52 0) (s' := mk 0 62 [(0, .d (.raw (.string (s)))), (4, .d (.raw (.string (s.extract (1 : Nat) (↑s.size : Int).toNat)))), (5, .d (.raw (.int .i64 ((0 : Int))))), (6, .d (.raw (.int .i64 ((0 : Int)))))] []) (cs := [((decide ((↑s.size : Int) > (0 : Int))) = true), ((0 : Int) ≤ (0 : Int) ∧ (0 : Int) < (↑s.size : Int)), ((byteAt s (0 : Nat) == (45 : Int)) = true), ((0 : Int) ≤ (1 : Int) ∧ (1 : Int) ≤ (↑s.size : Int) ∧ (↑s.size : Int) ≤ (↑s.size : Int)), ((decide ((↑(s.extract (1 : Nat) (↑s.size : Int).toNat).size : Int) < (1 : Int))) = false), ((decide ((↑(s.extract (1 : Nat) (↑s.size : Int).toNat).size : Int) > (19 : Int))) = false)]) [true, true, false, false] [0,4,5,6] (by kernel_rfl) (by kernel_rfl) ⟨hb1, (by first | omega | (have := of_decide_eq_true hb1; omega)), hb2, (by first | omega | (have := of_decide_eq_true hb1; omega)), hb3, hb4, trivial⟩ hsim fun E a w hsim => ?_
          first | exact tn_go s (s.extract 1 (s.size : Int).toNat) (d1 hb1 hb2) (by have h := of_decide_eq_false hb4; omega) (s.extract 1 (s.size : Int).toNat).size 0 0 0 rfl (by omega) z1 E a w hsim | exact tn_go s s (d2 hb2) (by have h := of_decide_eq_false hb6; omega) s.size 0 0 0 rfl (by omega) z0 E a w hsim | exact tn_go s s (d3 hb1) (by have h := of_decide_eq_false hb8; omega) s.size 0 0 0 rfl (by omega) z0 E a w hsim
    · skip
      rcases Bool.eq_false_or_eq_true (decide ((↑s.size : Int) < (1 : Int))) with hb5 | hb5
      · skip
        exact go_ret (UN_ok q) rfl rfl Tryd.func52 (sr' := ⟨0, [.tup [.d (.raw (.int .i64 ((0 : Int)))), .d (.raw (.int .i64 ((4 : Int))))]], []⟩) (cs := [((decide ((↑s.size : Int) > (0 : Int))) = true), ((0 : Int) ≤ (0 : Int) ∧ (0 : Int) < (↑s.size : Int)), ((byteAt s (0 : Nat) == (45 : Int)) = false), ((decide ((↑s.size : Int) < (1 : Int))) = true)]) [true, false, true] true (by kernel_rfl) (by kernel_rfl) ⟨hb1, (by first | omega | (have := of_decide_eq_true hb1; omega)), hb2, hb5, trivial⟩ (by first | (have h := of_decide_eq_true hb3; rw [d1 hb1 hb2] at h; rw [hlen (by omega)]; done) | (have h := of_decide_eq_true hb5; rw [hlen (by rw [← d2 hb2]; omega)]; done) | (have h := of_decide_eq_true hb7; rw [hlen (by rw [← d3 hb1]; omega)]; done) | (have h := of_decide_eq_true hb3; rw [d1 hb1 hb2] at h; rw [hlen (by omega)]; rfl) | (have h := of_decide_eq_true hb5; rw [hlen (by rw [← d2 hb2]; omega)]; rfl) | (have h := of_decide_eq_true hb7; rw [hlen (by rw [← d3 hb1]; omega)]; rfl) | (have h := of_decide_eq_true hb4; rw [d1 hb1 hb2] at h; rw [hlen2 (by omega)]; done) | (have h := of_decide_eq_true hb6; rw [hlen2 (by rw [← d2 hb2]; omega)]; done) | (have h := of_decide_eq_true hb8; rw [hlen2 (by rw [← d3 hb1]; omega)]; done) | (have h := of_decide_eq_true hb4; rw [d1 hb1 hb2] at h; rw [hlen2 (by omega)]; rfl) | (have h := of_decide_eq_true hb6; rw [hlen2 (by rw [← d2 hb2]; omega)]; rfl) | (have h := of_decide_eq_true hb8; rw [hlen2 (by rw [← d3 hb1]; omega)]; rfl)) hsim
      · skip
        rcases Bool.eq_false_or_eq_true (decide ((↑s.size : Int) > (19 : Int))) with hb6 | hb6
        · skip
          exact go_ret (UN_ok q) rfl rfl Tryd.func52 (sr' := ⟨0, [.tup [.d (.raw (.int .i64 ((0 : Int)))), .d (.raw (.int .i64 ((4 : Int))))]], []⟩) (cs := [((decide ((↑s.size : Int) > (0 : Int))) = true), ((0 : Int) ≤ (0 : Int) ∧ (0 : Int) < (↑s.size : Int)), ((byteAt s (0 : Nat) == (45 : Int)) = false), ((decide ((↑s.size : Int) < (1 : Int))) = false), ((decide ((↑s.size : Int) > (19 : Int))) = true)]) [true, false, false, true] true (by kernel_rfl) (by kernel_rfl) ⟨hb1, (by first | omega | (have := of_decide_eq_true hb1; omega)), hb2, hb5, hb6, trivial⟩ (by first | (have h := of_decide_eq_true hb3; rw [d1 hb1 hb2] at h; rw [hlen (by omega)]; done) | (have h := of_decide_eq_true hb5; rw [hlen (by rw [← d2 hb2]; omega)]; done) | (have h := of_decide_eq_true hb7; rw [hlen (by rw [← d3 hb1]; omega)]; done) | (have h := of_decide_eq_true hb3; rw [d1 hb1 hb2] at h; rw [hlen (by omega)]; rfl) | (have h := of_decide_eq_true hb5; rw [hlen (by rw [← d2 hb2]; omega)]; rfl) | (have h := of_decide_eq_true hb7; rw [hlen (by rw [← d3 hb1]; omega)]; rfl) | (have h := of_decide_eq_true hb4; rw [d1 hb1 hb2] at h; rw [hlen2 (by omega)]; done) | (have h := of_decide_eq_true hb6; rw [hlen2 (by rw [← d2 hb2]; omega)]; done) | (have h := of_decide_eq_true hb8; rw [hlen2 (by rw [← d3 hb1]; omega)]; done) | (have h := of_decide_eq_true hb4; rw [d1 hb1 hb2] at h; rw [hlen2 (by omega)]; rfl) | (have h := of_decide_eq_true hb6; rw [hlen2 (by rw [← d2 hb2]; omega)]; rfl) | (have h := of_decide_eq_true hb8; rw [hlen2 (by rw [← d3 hb1]; omega)]; rfl)) hsim
        · skip
          refine go_head (UN_ok q) rfl rfl (k' := loopAt Tryd.f52 0) (s' := mk 0 62 [(0, .d (.raw (.string (s)))), (4, .d (.raw (.string (s)))), (5, .d (.raw (.int .i64 ((0 : Int))))), (6, .d (.raw (.int .i64 ((0 : Int)))))] []) (cs := [((decide ((↑s.size : Int) > (0 : Int))) = true), ((0 : Int) ≤ (0 : Int) ∧ (0 : Int) < (↑s.size : Int)), ((byteAt s (0 : Nat) == (45 : Int)) = false), ((decide ((↑s.size : Int) < (1 : Int))) = false), ((decide ((↑s.size : Int) > (19 : Int))) = false)]) [true, false, false, false] [0,4,5,6] (by kernel_rfl) (by kernel_rfl) ⟨hb1, (by first | omega | (have := of_decide_eq_true hb1; omega)), hb2, hb5, hb6, trivial⟩ hsim fun E a w hsim => ?_
          first | exact tn_go s (s.extract 1 (s.size : Int).toNat) (d1 hb1 hb2) (by have h := of_decide_eq_false hb4; omega) (s.extract 1 (s.size : Int).toNat).size 0 0 0 rfl (by omega) z1 E a w hsim | exact tn_go s s (d2 hb2) (by have h := of_decide_eq_false hb6; omega) s.size 0 0 0 rfl (by omega) z0 E a w hsim | exact tn_go s s (d3 hb1) (by have h := of_decide_eq_false hb8; omega) s.size 0 0 0 rfl (by omega) z0 E a w hsim
  · skip
    rcases Bool.eq_false_or_eq_true (decide ((↑s.size : Int) < (1 : Int))) with hb7 | hb7
    · skip
      exact go_ret (UN_ok q) rfl rfl Tryd.func52 (sr' := ⟨0, [.tup [.d (.raw (.int .i64 ((0 : Int)))), .d (.raw (.int .i64 ((4 : Int))))]], []⟩) (cs := [((decide ((↑s.size : Int) > (0 : Int))) = false), ((decide ((↑s.size : Int) < (1 : Int))) = true)]) [false, true] true (by kernel_rfl) (by kernel_rfl) ⟨hb1, hb7, trivial⟩ (by first | (have h := of_decide_eq_true hb3; rw [d1 hb1 hb2] at h; rw [hlen (by omega)]; done) | (have h := of_decide_eq_true hb5; rw [hlen (by rw [← d2 hb2]; omega)]; done) | (have h := of_decide_eq_true hb7; rw [hlen (by rw [← d3 hb1]; omega)]; done) | (have h := of_decide_eq_true hb3; rw [d1 hb1 hb2] at h; rw [hlen (by omega)]; rfl) | (have h := of_decide_eq_true hb5; rw [hlen (by rw [← d2 hb2]; omega)]; rfl) | (have h := of_decide_eq_true hb7; rw [hlen (by rw [← d3 hb1]; omega)]; rfl) | (have h := of_decide_eq_true hb4; rw [d1 hb1 hb2] at h; rw [hlen2 (by omega)]; done) | (have h := of_decide_eq_true hb6; rw [hlen2 (by rw [← d2 hb2]; omega)]; done) | (have h := of_decide_eq_true hb8; rw [hlen2 (by rw [← d3 hb1]; omega)]; done) | (have h := of_decide_eq_true hb4; rw [d1 hb1 hb2] at h; rw [hlen2 (by omega)]; rfl) | (have h := of_decide_eq_true hb6; rw [hlen2 (by rw [← d2 hb2]; omega)]; rfl) | (have h := of_decide_eq_true hb8; rw [hlen2 (by rw [← d3 hb1]; omega)]; rfl)) hsim
    · skip
      rcases Bool.eq_false_or_eq_true (decide ((↑s.size : Int) > (19 : Int))) with hb8 | hb8
      · skip
        exact go_ret (UN_ok q) rfl rfl Tryd.func52 (sr' := ⟨0, [.tup [.d (.raw (.int .i64 ((0 : Int)))), .d (.raw (.int .i64 ((4 : Int))))]], []⟩) (cs := [((decide ((↑s.size : Int) > (0 : Int))) = false), ((decide ((↑s.size : Int) < (1 : Int))) = false), ((decide ((↑s.size : Int) > (19 : Int))) = true)]) [false, false, true] true (by kernel_rfl) (by kernel_rfl) ⟨hb1, hb7, hb8, trivial⟩ (by first | (have h := of_decide_eq_true hb3; rw [d1 hb1 hb2] at h; rw [hlen (by omega)]; done) | (have h := of_decide_eq_true hb5; rw [hlen (by rw [← d2 hb2]; omega)]; done) | (have h := of_decide_eq_true hb7; rw [hlen (by rw [← d3 hb1]; omega)]; done) | (have h := of_decide_eq_true hb3; rw [d1 hb1 hb2] at h; rw [hlen (by omega)]; rfl) | (have h := of_decide_eq_true hb5; rw [hlen (by rw [← d2 hb2]; omega)]; rfl) | (have h := of_decide_eq_true hb7; rw [hlen (by rw [← d3 hb1]; omega)]; rfl) | (have h := of_decide_eq_true hb4; rw [d1 hb1 hb2] at h; rw [hlen2 (by omega)]; done) | (have h := of_decide_eq_true hb6; rw [hlen2 (by rw [← d2 hb2]; omega)]; done) | (have h := of_decide_eq_true hb8; rw [hlen2 (by rw [← d3 hb1]; omega)]; done) | (have h := of_decide_eq_true hb4; rw [d1 hb1 hb2] at h; rw [hlen2 (by omega)]; rfl) | (have h := of_decide_eq_true hb6; rw [hlen2 (by rw [← d2 hb2]; omega)]; rfl) | (have h := of_decide_eq_true hb8; rw [hlen2 (by rw [← d3 hb1]; omega)]; rfl)) hsim
      · skip
        refine go_head (UN_ok q) rfl rfl (k' := loopAt Tryd.f52 0) (s' := mk 0 62 [(0, .d (.raw (.string (s)))), (4, .d (.raw (.string (s)))), (5, .d (.raw (.int .i64 ((0 : Int))))), (6, .d (.raw (.int .i64 ((0 : Int)))))] []) (cs := [((decide ((↑s.size : Int) > (0 : Int))) = false), ((decide ((↑s.size : Int) < (1 : Int))) = false), ((decide ((↑s.size : Int) > (19 : Int))) = false)]) [false, false, false] [0,4,5,6] (by kernel_rfl) (by kernel_rfl) ⟨hb1, hb7, hb8, trivial⟩ hsim fun E a w hsim => ?_
        first | exact tn_go s (s.extract 1 (s.size : Int).toNat) (d1 hb1 hb2) (by have h := of_decide_eq_false hb4; omega) (s.extract 1 (s.size : Int).toNat).size 0 0 0 rfl (by omega) z1 E a w hsim | exact tn_go s s (d2 hb2) (by have h := of_decide_eq_false hb6; omega) s.size 0 0 0 rfl (by omega) z0 E a w hsim | exact tn_go s s (d3 hb1) (by have h := of_decide_eq_false hb8; omega) s.size 0 0 0 rfl (by omega) z0 E a w hsim
end Go.Nest

namespace Go.Nest
open Go Go.Eng Go.Proofs
set_option linter.unusedVariables false
set_option linter.unusedSimpArgs false
set_option maxRecDepth 100000
set_option maxHeartbeats 4000000
theorem UK_ok (n f : Int) : OrcOK Tryd.prog (UK n f) := (OrcOK.none _).add _ false (mToNumR n f) fun args H r H' cs h hc => by
  unfold mToNumR at h
  split at h
  · cases h; obtain ⟨hs, rfl, rfl, -⟩ := hc; exact toNumR_ok _ hs
  · cases h
abbrev GoK (s : ByteArray) (w0 : World) (N : Nat → Prop) (E0 : Env) (k : List Item) (st : St) : Prop := ∀ (E : Env) (a : Act) (w : World), Sim (cx Tryd.prog (fun _ => none) w0 N E0 []) E st a w → Goes Tryd.prog 42 k (RSpec (cx Tryd.prog (fun _ => none) w0 N E0 []) ⟨0, [.tup [.d (.raw (.string (takeM s).1)), .d (.raw (.string (takeM s).2.1)), .d (.raw (.int .i64 (takeM s).2.2))]], []⟩) a w
theorem tk_go {w0 : World} {N : Nat → Prop} {E0 : Env} (s : ByteArray) (hs : s.size ≤ 1073741824) : ∀ (j k : Nat) (i : Int), i = (k : Int) → k + j = 10 → noC s k → GoK s w0 N E0 (loopAt Tryd.f42 0) (tk1 s i) := by
  intro j
  induction j with
  | zero =>
    intro k i hi hk hno E a w hsim
    have e := take_none hno (.inr (by omega))
    let n : Int := 0
    let f : Int := 0
    rcases Bool.eq_false_or_eq_true (decide (i < (↑s.size : Int))) with hb1 | hb1
    · skip
      rcases Bool.eq_false_or_eq_true (decide (i ≤ (9 : Int))) with hb2 | hb2
      · skip
        rcases Bool.eq_false_or_eq_true (byteAt s i.toNat != (58 : Int)) with hb3 | hb3
        · skip
          refine go_head (UK_ok n f) rfl rfl (k' := loopAt Tryd.f42 0) (s' := mk 0 67 [(0, .d (.raw (.string (s)))), (5, .d (.raw (.int .i64 (IntKind.i64.wrap (i + (1 : Int))))))] []) (cs := [((decide (i < (↑s.size : Int))) = true), ((decide (i ≤ (9 : Int))) = true), ((0 : Int) ≤ i ∧ i < (↑s.size : Int)), ((byteAt s i.toNat != (58 : Int)) = true)]) [true, true, true] [0,5] (by kernel_rfl) (by kernel_rfl) ⟨hb1, hb2, (by first | omega | exact absurd (of_decide_eq_true hb2) (by omega)), hb3, trivial⟩ hsim fun E a w hsim => ?_
          exact absurd (of_decide_eq_true hb2) (by omega)
        · skip
          rcases Bool.eq_false_or_eq_true (f != (0 : Int)) with hb4 | hb4
          · skip
            exact go_ret (UK_ok n f) rfl rfl Tryd.func42 (sr' := ⟨0, [.tup [.d (.raw (.string (ByteArray.mk #[]))), .d (.raw (.string (ByteArray.mk #[]))), .d (.raw (.int .i64 ((4 : Int))))]], []⟩) (cs := [((decide (i < (↑s.size : Int))) = true), ((decide (i ≤ (9 : Int))) = true), ((0 : Int) ≤ i ∧ i < (↑s.size : Int)), ((byteAt s i.toNat != (58 : Int)) = false), ((0 : Int) ≤ (0 : Int) ∧ (0 : Int) ≤ i ∧ i ≤ (↑s.size : Int)), ((s.extract (0 : Nat) i.toNat).size ≤ (1073741824 : Nat)), (n = (numM (s.extract (0 : Nat) i.toNat)).fst), (f = (numM (s.extract (0 : Nat) i.toNat)).snd), ((f != (0 : Int)) = true)]) [true, true, false, true] true (by kernel_rfl) (by kernel_rfl) ⟨hb1, hb2, (by first | omega | exact absurd (of_decide_eq_true hb2) (by omega)), hb3, (by first | omega | exact absurd (of_decide_eq_true hb2) (by omega)), (by first | omega | exact absurd (of_decide_eq_true hb2) (by omega)), (by first | omega | exact absurd (of_decide_eq_true hb2) (by omega)), (by first | omega | exact absurd (of_decide_eq_true hb2) (by omega)), hb4, trivial⟩ (by first | (rw [e]; rfl) | exact absurd (of_decide_eq_true hb2) (by omega)) hsim
          · skip
            rcases Bool.eq_false_or_eq_true (decide (n < (0 : Int))) with hb5 | hb5
            · skip
              exact go_ret (UK_ok n f) rfl rfl Tryd.func42 (sr' := ⟨0, [.tup [.d (.raw (.string (ByteArray.mk #[]))), .d (.raw (.string (ByteArray.mk #[]))), .d (.raw (.int .i64 ((4 : Int))))]], []⟩) (cs := [((decide (i < (↑s.size : Int))) = true), ((decide (i ≤ (9 : Int))) = true), ((0 : Int) ≤ i ∧ i < (↑s.size : Int)), ((byteAt s i.toNat != (58 : Int)) = false), ((0 : Int) ≤ (0 : Int) ∧ (0 : Int) ≤ i ∧ i ≤ (↑s.size : Int)), ((s.extract (0 : Nat) i.toNat).size ≤ (1073741824 : Nat)), (n = (numM (s.extract (0 : Nat) i.toNat)).fst), (f = (numM (s.extract (0 : Nat) i.toNat)).snd), ((f != (0 : Int)) = false), ((decide (n < (0 : Int))) = true)]) [true, true, false, false, true] true (by kernel_rfl) (by kernel_rfl) ⟨hb1, hb2, (by first | omega | exact absurd (of_decide_eq_true hb2) (by omega)), hb3, (by first | omega | exact absurd (of_decide_eq_true hb2) (by omega)), (by first | omega | exact absurd (of_decide_eq_true hb2) (by omega)), (by first | omega | exact absurd (of_decide_eq_true hb2) (by omega)), (by first | omega | exact absurd (of_decide_eq_true hb2) (by omega)), hb4, hb5, trivial⟩ (by first | (rw [e]; rfl) | exact absurd (of_decide_eq_true hb2) (by omega)) hsim
            · skip
              rcases Bool.eq_false_or_eq_true (decide (IntKind.i64.wrap (IntKind.i64.wrap ((↑s.size : Int) - i) - (1 : Int)) ≤ n)) with hb6 | hb6
              · skip
                exact go_ret (UK_ok n f) rfl rfl Tryd.func42 (sr' := ⟨0, [.tup [.d (.raw (.string (ByteArray.mk #[]))), .d (.raw (.string (ByteArray.mk #[]))), .d (.raw (.int .i64 ((4 : Int))))]], []⟩) (cs := [((decide (i < (↑s.size : Int))) = true), ((decide (i ≤ (9 : Int))) = true), ((0 : Int) ≤ i ∧ i < (↑s.size : Int)), ((byteAt s i.toNat != (58 : Int)) = false), ((0 : Int) ≤ (0 : Int) ∧ (0 : Int) ≤ i ∧ i ≤ (↑s.size : Int)), ((s.extract (0 : Nat) i.toNat).size ≤ (1073741824 : Nat)), (n = (numM (s.extract (0 : Nat) i.toNat)).fst), (f = (numM (s.extract (0 : Nat) i.toNat)).snd), ((f != (0 : Int)) = false), ((decide (n < (0 : Int))) = false), ((decide (IntKind.i64.wrap (IntKind.i64.wrap ((↑s.size : Int) - i) - (1 : Int)) ≤ n)) = true)]) [true, true, false, false, false, true] true (by kernel_rfl) (by kernel_rfl) ⟨hb1, hb2, (by first | omega | exact absurd (of_decide_eq_true hb2) (by omega)), hb3, (by first | omega | exact absurd (of_decide_eq_true hb2) (by omega)), (by first | omega | exact absurd (of_decide_eq_true hb2) (by omega)), (by first | omega | exact absurd (of_decide_eq_true hb2) (by omega)), (by first | omega | exact absurd (of_decide_eq_true hb2) (by omega)), hb4, hb5, hb6, trivial⟩ (by first | (rw [e]; rfl) | exact absurd (of_decide_eq_true hb2) (by omega)) hsim
              · skip
                rcases Bool.eq_false_or_eq_true (byteAt s (IntKind.i64.wrap (IntKind.i64.wrap (i + (1 : Int)) + n)).toNat != (44 : Int)) with hb7 | hb7
                · skip
                  exact go_ret (UK_ok n f) rfl rfl Tryd.func42 (sr' := ⟨0, [.tup [.d (.raw (.string (ByteArray.mk #[]))), .d (.raw (.string (ByteArray.mk #[]))), .d (.raw (.int .i64 ((4 : Int))))]], []⟩) (cs := [((decide (i < (↑s.size : Int))) = true), ((decide (i ≤ (9 : Int))) = true), ((0 : Int) ≤ i ∧ i < (↑s.size : Int)), ((byteAt s i.toNat != (58 : Int)) = false), ((0 : Int) ≤ (0 : Int) ∧ (0 : Int) ≤ i ∧ i ≤ (↑s.size : Int)), ((s.extract (0 : Nat) i.toNat).size ≤ (1073741824 : Nat)), (n = (numM (s.extract (0 : Nat) i.toNat)).fst), (f = (numM (s.extract (0 : Nat) i.toNat)).snd), ((f != (0 : Int)) = false), ((decide (n < (0 : Int))) = false), ((decide (IntKind.i64.wrap (IntKind.i64.wrap ((↑s.size : Int) - i) - (1 : Int)) ≤ n)) = false), ((0 : Int) ≤ IntKind.i64.wrap (IntKind.i64.wrap (i + (1 : Int)) + n) ∧ IntKind.i64.wrap (IntKind.i64.wrap (i + (1 : Int)) + n) < (↑s.size : Int)), ((byteAt s (IntKind.i64.wrap (IntKind.i64.wrap (i + (1 : Int)) + n)).toNat != (44 : Int)) = true)]) ([true, true] ++ (List.replicate 4 false) ++ [true]) true (by kernel_rfl) (by kernel_rfl) ⟨hb1, hb2, (by first | omega | exact absurd (of_decide_eq_true hb2) (by omega)), hb3, (by first | omega | exact absurd (of_decide_eq_true hb2) (by omega)), (by first | omega | exact absurd (of_decide_eq_true hb2) (by omega)), (by first | omega | exact absurd (of_decide_eq_true hb2) (by omega)), (by first | omega | exact absurd (of_decide_eq_true hb2) (by omega)), hb4, hb5, hb6, (by first | omega | exact absurd (of_decide_eq_true hb2) (by omega)), hb7, trivial⟩ (by first | (rw [e]; rfl) | exact absurd (of_decide_eq_true hb2) (by omega)) hsim
                · skip
                  exact go_ret (UK_ok n f) rfl rfl Tryd.func42 (sr' := ⟨0, [.tup [.d (.raw (.string (s.extract (IntKind.i64.wrap (i + (1 : Int))).toNat (IntKind.i64.wrap (IntKind.i64.wrap (i + (1 : Int)) + n)).toNat))), .d (.raw (.string (s.extract (IntKind.i64.wrap (IntKind.i64.wrap (i + (2 : Int)) + n)).toNat (↑s.size : Int).toNat))), .d (.raw (.int .i64 ((0 : Int))))]], []⟩) (cs := [((decide (i < (↑s.size : Int))) = true), ((decide (i ≤ (9 : Int))) = true), ((0 : Int) ≤ i ∧ i < (↑s.size : Int)), ((byteAt s i.toNat != (58 : Int)) = false), ((0 : Int) ≤ (0 : Int) ∧ (0 : Int) ≤ i ∧ i ≤ (↑s.size : Int)), ((s.extract (0 : Nat) i.toNat).size ≤ (1073741824 : Nat)), (n = (numM (s.extract (0 : Nat) i.toNat)).fst), (f = (numM (s.extract (0 : Nat) i.toNat)).snd), ((f != (0 : Int)) = false), ((decide (n < (0 : Int))) = false), ((decide (IntKind.i64.wrap (IntKind.i64.wrap ((↑s.size : Int) - i) - (1 : Int)) ≤ n)) = false), ((0 : Int) ≤ IntKind.i64.wrap (IntKind.i64.wrap (i + (1 : Int)) + n) ∧ IntKind.i64.wrap (IntKind.i64.wrap (i + (1 : Int)) + n) < (↑s.size : Int)), ((byteAt s (IntKind.i64.wrap (IntKind.i64.wrap (i + (1 : Int)) + n)).toNat != (44 : Int)) = false), ((0 : Int) ≤ IntKind.i64.wrap (i + (1 : Int)) ∧ IntKind.i64.wrap (i + (1 : Int)) ≤ IntKind.i64.wrap (IntKind.i64.wrap (i + (1 : Int)) + n) ∧ IntKind.i64.wrap (IntKind.i64.wrap (i + (1 : Int)) + n) ≤ (↑s.size : Int)), ((0 : Int) ≤ IntKind.i64.wrap (IntKind.i64.wrap (i + (2 : Int)) + n) ∧ IntKind.i64.wrap (IntKind.i64.wrap (i + (2 : Int)) + n) ≤ (↑s.size : Int) ∧ (↑s.size : Int) ≤ (↑s.size : Int))]) ([true, true] ++ (List.replicate 5 false)) true (by kernel_rfl) (by kernel_rfl) ⟨hb1, hb2, (by first | omega | exact absurd (of_decide_eq_true hb2) (by omega)), hb3, (by first | omega | exact absurd (of_decide_eq_true hb2) (by omega)), (by first | omega | exact absurd (of_decide_eq_true hb2) (by omega)), (by first | omega | exact absurd (of_decide_eq_true hb2) (by omega)), (by first | omega | exact absurd (of_decide_eq_true hb2) (by omega)), hb4, hb5, hb6, (by first | omega | exact absurd (of_decide_eq_true hb2) (by omega)), hb7, (by first | omega | exact absurd (of_decide_eq_true hb2) (by omega)), (by first | omega | exact absurd (of_decide_eq_true hb2) (by omega)), trivial⟩ (by first | (rw [e]; rfl) | exact absurd (of_decide_eq_true hb2) (by omega)) hsim
      · skip
        exact go_ret (UK_ok n f) rfl rfl Tryd.func42 (sr' := ⟨0, [.tup [.d (.raw (.string (ByteArray.mk #[]))), .d (.raw (.string (ByteArray.mk #[]))), .d (.raw (.int .i64 ((4 : Int))))]], []⟩) (cs := [((decide (i < (↑s.size : Int))) = true), ((decide (i ≤ (9 : Int))) = false)]) [true, false] true (by kernel_rfl) (by kernel_rfl) ⟨hb1, hb2, trivial⟩ (by first | (rw [e]; rfl) | exact absurd (of_decide_eq_true hb2) (by omega)) hsim
    · skip
      exact go_ret (UK_ok n f) rfl rfl Tryd.func42 (sr' := ⟨0, [.tup [.d (.raw (.string (ByteArray.mk #[]))), .d (.raw (.string (ByteArray.mk #[]))), .d (.raw (.int .i64 ((4 : Int))))]], []⟩) (cs := [((decide (i < (↑s.size : Int))) = false)]) [false] true (by kernel_rfl) (by kernel_rfl) ⟨hb1, trivial⟩ (by first | (rw [e]; rfl) | exact absurd (of_decide_eq_true hb2) (by omega)) hsim
  | succ j ih =>
    intro k i hi hk hno E a w hsim
    have ti : i.toNat = k := by omega
    obtain ⟨n, hn⟩ : ∃ n, n = (numM (s.extract (0 : Nat) i.toNat)).1 := ⟨_, rfl⟩
    obtain ⟨f, hf⟩ : ∃ f, f = (numM (s.extract (0 : Nat) i.toNat)).2 := ⟨_, rfl⟩
    have hnb := numM_bounds (s.extract (0 : Nat) i.toNat)
    rw [← hn] at hnb
    have hend : decide (i < (s.size : Int)) = false → takeM s = (ByteArray.empty, ByteArray.empty, 4) := fun h => take_none hno (.inl (by have := of_decide_eq_false h; omega))
    have hex : i.toNat ≤ 9 → (s.extract (0 : Nat) i.toNat).size ≤ 9 := fun h => by rw [ByteArray.size_extract]; omega
    have hnext : (byteAt s i.toNat != (58 : Int)) = true → noC s (k + 1) := fun h j hj hjs => by
      rcases Nat.lt_or_ge j k with h2 | h2
      · exact hno j h2 hjs
      · obtain rfl : j = k := by omega
        rw [ti] at h; simpa using h
    have ih := fun h => ih (k + 1) (IntKind.i64.wrap (i + 1)) (by rw [wrapI (i + 1) (by omega)]; omega) (by omega) h
    have hT : decide (i < (s.size : Int)) = true → (byteAt s i.toNat != (58 : Int)) = false → takeM s = if f = 0 ∧ 0 ≤ n ∧ n < (s.size : Int) - (k + 1) ∧ byteAt s (k + 1 + n.toNat) = 44 then (s.extract (k + 1) (k + 1 + n.toNat), s.extract (k + 1 + (n.toNat + 1)) s.size, 0) else (ByteArray.empty, ByteArray.empty, 4) := fun a b => by
      have a := of_decide_eq_true a
      have b : byteAt s k = 58 := by rw [ti] at b; simpa using b
      obtain ⟨g1, g2, g3⟩ := cut_at hno (by omega) b
      have hrs : (restM s).size = s.size - (k + 1) := by rw [g2, ByteArray.size_extract]; omega
      have hhs : (headM s).size ≤ 9 := by rw [g1, ByteArray.size_extract]; omega
      have g1' : headM s = s.extract 0 i.toNat := by rw [g1, ti]
      unfold takeM
      rw [g1', ← hn, ← hf, g3]
      have hby : ∀ m, m < s.size - (k + 1) → byteAt (restM s) m = byteAt s (k + 1 + m) := fun m hm => by
        rw [byteAt_list _ m (by rw [hrs]; exact hm), byteAt_list s (k + 1 + m) (by omega)]
        congr 2
        have e := extract_ba s (k + 1) s.size
        rw [← g2] at e
        have : (restM s).data.toList[m]? = s.data.toList[k + 1 + m]? := by
          rw [e, List.getElem?_take, if_pos (by omega), List.getElem?_drop]
        rw [List.getElem?_eq_getElem (by rw [← size_ba, hrs]; exact hm), List.getElem?_eq_getElem (by rw [← size_ba]; omega)] at this
        exact Option.some.inj this
      by_cases hc : f = 0 ∧ 0 ≤ n ∧ n < (s.size : Int) - (k + 1) ∧ byteAt s (k + 1 + n.toNat) = 44
      · obtain ⟨c1, c2, c3, c4⟩ := hc
        rw [if_pos (show f = 0 ∧ 0 ≤ n ∧ n < (s.size : Int) - (k + 1) ∧ byteAt s (k + 1 + n.toNat) = 44 from ⟨c1, c2, c3, c4⟩), if_pos (show true = true ∧ f = 0 ∧ (s.extract 0 i.toNat).size ≤ 9 ∧ 0 ≤ n ∧ n < ((restM s).size : Int) ∧ byteAt (restM s) n.toNat = 44 from ⟨rfl, c1, by rw [← g1']; exact hhs, c2, by rw [hrs]; omega, by rw [hby _ (by omega)]; exact c4⟩), g2]
        have x1 : (s.extract (k + 1) s.size).extract 0 n.toNat = s.extract (k + 1) (k + 1 + n.toNat) := by
          apply ext_ba
          simp only [extract_ba]
          rw [List.drop_zero, List.take_take]
          congr 1; omega
        have x2 : (s.extract (k + 1) s.size).extract (n.toNat + 1) (s.extract (k + 1) s.size).size = s.extract (k + 1 + (n.toNat + 1)) s.size := by
          apply ext_ba
          rw [ByteArray.size_extract]
          simp only [extract_ba]
          rw [List.drop_take, List.drop_drop, List.take_take]
          congr 1; omega
        rw [x1, x2]
      · rw [if_neg hc, if_neg]
        rintro ⟨-, c1, -, c2, c3, c4⟩
        rw [hrs] at c3
        exact hc ⟨c1, c2, by omega, by rw [← hby _ (by omega)]; exact c4⟩
    have wa : decide (i < (s.size : Int)) = true → IntKind.i64.wrap (IntKind.i64.wrap ((s.size : Int) - i) - (1 : Int)) = (s.size : Int) - i - 1 := fun a => by
      have a := of_decide_eq_true a
      rw [wrapI ((s.size : Int) - i) (by omega), wrapI _ (by omega)]
    have w1 : IntKind.i64.wrap (i + (1 : Int)) = i + 1 := wrapI _ (by omega)
    have w2 : IntKind.i64.wrap (i + (2 : Int)) = i + 2 := wrapI _ (by omega)
    have wb : 0 ≤ n → n < (s.size : Int) → IntKind.i64.wrap (IntKind.i64.wrap (i + (1 : Int)) + n) = i + 1 + n := fun a b => by rw [w1]; exact wrapI _ (by omega)
    have wc : 0 ≤ n → n < (s.size : Int) → IntKind.i64.wrap (IntKind.i64.wrap (i + (2 : Int)) + n) = i + 2 + n := fun a b => by rw [w2]; exact wrapI _ (by omega)
    have n4 : (f != (0 : Int)) = true → ¬ (f = 0 ∧ 0 ≤ n ∧ n < (s.size : Int) - (k + 1) ∧ byteAt s (k + 1 + n.toNat) = 44) := fun h c => by rw [c.1] at h; cases h
    have n5 : decide (n < (0 : Int)) = true → ¬ (f = 0 ∧ 0 ≤ n ∧ n < (s.size : Int) - (k + 1) ∧ byteAt s (k + 1 + n.toNat) = 44) := fun h c => by have := of_decide_eq_true h; omega
    have n6 : decide (i < (s.size : Int)) = true → decide (IntKind.i64.wrap (IntKind.i64.wrap ((s.size : Int) - i) - (1 : Int)) ≤ n) = true → ¬ (f = 0 ∧ 0 ≤ n ∧ n < (s.size : Int) - (k + 1) ∧ byteAt s (k + 1 + n.toNat) = 44) := fun a h c => by have := of_decide_eq_true h; rw [wa a] at this; omega
    have n7 : (byteAt s (IntKind.i64.wrap (IntKind.i64.wrap (i + (1 : Int)) + n)).toNat != (44 : Int)) = true → ¬ (f = 0 ∧ 0 ≤ n ∧ n < (s.size : Int) - (k + 1) ∧ byteAt s (k + 1 + n.toNat) = 44) := fun h c => by
      rw [wb c.2.1 (by omega), show (i + 1 + n).toNat = k + 1 + n.toNat by omega, c.2.2.2] at h; cases h
    have p7 : decide (i < (s.size : Int)) = true → (f != (0 : Int)) = false → decide (n < (0 : Int)) = false → decide (IntKind.i64.wrap (IntKind.i64.wrap ((s.size : Int) - i) - (1 : Int)) ≤ n) = false → (byteAt s (IntKind.i64.wrap (IntKind.i64.wrap (i + (1 : Int)) + n)).toNat != (44 : Int)) = false →
        (f = 0 ∧ 0 ≤ n ∧ n < (s.size : Int) - (k + 1) ∧ byteAt s (k + 1 + n.toNat) = 44) ∧ (s.extract (IntKind.i64.wrap (i + (1 : Int))).toNat (IntKind.i64.wrap (IntKind.i64.wrap (i + (1 : Int)) + n)).toNat = s.extract (k + 1) (k + 1 + n.toNat)) ∧ s.extract (IntKind.i64.wrap (IntKind.i64.wrap (i + (2 : Int)) + n)).toNat (s.size : Int).toNat = s.extract (k + 1 + (n.toNat + 1)) s.size := fun a b c d e => by
      have k5 := of_decide_eq_false c
      have k6 := of_decide_eq_false d
      rw [wa a] at k6
      have x1 := wb (by omega) (by omega)
      have x2 := wc (by omega) (by omega)
      rw [x1, show (i + 1 + n).toNat = k + 1 + n.toNat by omega] at e
      refine ⟨⟨by simpa using b, by omega, by omega, by simpa using e⟩, ?_, ?_⟩
      · rw [x1, w1, show (i + 1).toNat = k + 1 by omega, show (i + 1 + n).toNat = k + 1 + n.toNat by omega]
      · rw [x2, show (i + 2 + n).toNat = k + 1 + (n.toNat + 1) by omega, Int.toNat_natCast]
    rcases Bool.eq_false_or_eq_true (decide (i < (↑s.size : Int))) with hb1 | hb1
    · skip
      rcases Bool.eq_false_or_eq_true (decide (i ≤ (9 : Int))) with hb2 | hb2
      · skip
        rcases Bool.eq_false_or_eq_true (byteAt s i.toNat != (58 : Int)) with hb3 | hb3
        · skip
          refine go_head (UK_ok n f) rfl rfl (k' := loopAt Tryd.f42 0) (s' := mk 0 67 [(0, .d (.raw (.string (s)))), (5, .d (.raw (.int .i64 (IntKind.i64.wrap (i + (1 : Int))))))] []) (cs := [((decide (i < (↑s.size : Int))) = true), ((decide (i ≤ (9 : Int))) = true), ((0 : Int) ≤ i ∧ i < (↑s.size : Int)), ((byteAt s i.toNat != (58 : Int)) = true)]) [true, true, true] [0,5] (by kernel_rfl) (by kernel_rfl) ⟨hb1, hb2, (by first | exact hn | exact hf | exact hex (by (have := of_decide_eq_true hb2; omega)) | omega | (have k1 := of_decide_eq_true hb1; omega) | (have k1 := of_decide_eq_true hb1; have k5 := of_decide_eq_false hb5; have k6 := of_decide_eq_false hb6; rw [wa hb1] at k6; rw [wb (by omega) (by omega)]; omega) | (have k1 := of_decide_eq_true hb1; have k5 := of_decide_eq_false hb5; have k6 := of_decide_eq_false hb6; rw [wa hb1] at k6; rw [wb (by omega) (by omega), w1]; omega) | (have k1 := of_decide_eq_true hb1; have k5 := of_decide_eq_false hb5; have k6 := of_decide_eq_false hb6; rw [wa hb1] at k6; rw [wc (by omega) (by omega)]; omega)), hb3, trivial⟩ hsim fun E a w hsim => ?_
          exact ih (hnext hb3) E a w hsim
        · skip
          rcases Bool.eq_false_or_eq_true (f != (0 : Int)) with hb4 | hb4
          · skip
            exact go_ret (UK_ok n f) rfl rfl Tryd.func42 (sr' := ⟨0, [.tup [.d (.raw (.string (ByteArray.mk #[]))), .d (.raw (.string (ByteArray.mk #[]))), .d (.raw (.int .i64 ((4 : Int))))]], []⟩) (cs := [((decide (i < (↑s.size : Int))) = true), ((decide (i ≤ (9 : Int))) = true), ((0 : Int) ≤ i ∧ i < (↑s.size : Int)), ((byteAt s i.toNat != (58 : Int)) = false), ((0 : Int) ≤ (0 : Int) ∧ (0 : Int) ≤ i ∧ i ≤ (↑s.size : Int)), ((s.extract (0 : Nat) i.toNat).size ≤ (1073741824 : Nat)), (n = (numM (s.extract (0 : Nat) i.toNat)).fst), (f = (numM (s.extract (0 : Nat) i.toNat)).snd), ((f != (0 : Int)) = true)]) [true, true, false, true] true (by kernel_rfl) (by kernel_rfl) ⟨hb1, hb2, (by first | exact hn | exact hf | exact hex (by (have := of_decide_eq_true hb2; omega)) | omega | (have k1 := of_decide_eq_true hb1; omega) | (have k1 := of_decide_eq_true hb1; have k5 := of_decide_eq_false hb5; have k6 := of_decide_eq_false hb6; rw [wa hb1] at k6; rw [wb (by omega) (by omega)]; omega) | (have k1 := of_decide_eq_true hb1; have k5 := of_decide_eq_false hb5; have k6 := of_decide_eq_false hb6; rw [wa hb1] at k6; rw [wb (by omega) (by omega), w1]; omega) | (have k1 := of_decide_eq_true hb1; have k5 := of_decide_eq_false hb5; have k6 := of_decide_eq_false hb6; rw [wa hb1] at k6; rw [wc (by omega) (by omega)]; omega)), hb3, (by first | exact hn | exact hf | exact hex (by (have := of_decide_eq_true hb2; omega)) | omega | (have k1 := of_decide_eq_true hb1; omega) | (have k1 := of_decide_eq_true hb1; have k5 := of_decide_eq_false hb5; have k6 := of_decide_eq_false hb6; rw [wa hb1] at k6; rw [wb (by omega) (by omega)]; omega) | (have k1 := of_decide_eq_true hb1; have k5 := of_decide_eq_false hb5; have k6 := of_decide_eq_false hb6; rw [wa hb1] at k6; rw [wb (by omega) (by omega), w1]; omega) | (have k1 := of_decide_eq_true hb1; have k5 := of_decide_eq_false hb5; have k6 := of_decide_eq_false hb6; rw [wa hb1] at k6; rw [wc (by omega) (by omega)]; omega)), (by first | exact hn | exact hf | exact hex (by (have := of_decide_eq_true hb2; omega)) | omega | (have k1 := of_decide_eq_true hb1; omega) | (have k1 := of_decide_eq_true hb1; have k5 := of_decide_eq_false hb5; have k6 := of_decide_eq_false hb6; rw [wa hb1] at k6; rw [wb (by omega) (by omega)]; omega) | (have k1 := of_decide_eq_true hb1; have k5 := of_decide_eq_false hb5; have k6 := of_decide_eq_false hb6; rw [wa hb1] at k6; rw [wb (by omega) (by omega), w1]; omega) | (have k1 := of_decide_eq_true hb1; have k5 := of_decide_eq_false hb5; have k6 := of_decide_eq_false hb6; rw [wa hb1] at k6; rw [wc (by omega) (by omega)]; omega)), (by first | exact hn | exact hf | exact hex (by (have := of_decide_eq_true hb2; omega)) | omega | (have k1 := of_decide_eq_true hb1; omega) | (have k1 := of_decide_eq_true hb1; have k5 := of_decide_eq_false hb5; have k6 := of_decide_eq_false hb6; rw [wa hb1] at k6; rw [wb (by omega) (by omega)]; omega) | (have k1 := of_decide_eq_true hb1; have k5 := of_decide_eq_false hb5; have k6 := of_decide_eq_false hb6; rw [wa hb1] at k6; rw [wb (by omega) (by omega), w1]; omega) | (have k1 := of_decide_eq_true hb1; have k5 := of_decide_eq_false hb5; have k6 := of_decide_eq_false hb6; rw [wa hb1] at k6; rw [wc (by omega) (by omega)]; omega)), (by first | exact hn | exact hf | exact hex (by (have := of_decide_eq_true hb2; omega)) | omega | (have k1 := of_decide_eq_true hb1; omega) | (have k1 := of_decide_eq_true hb1; have k5 := of_decide_eq_false hb5; have k6 := of_decide_eq_false hb6; rw [wa hb1] at k6; rw [wb (by omega) (by omega)]; omega) | (have k1 := of_decide_eq_true hb1; have k5 := of_decide_eq_false hb5; have k6 := of_decide_eq_false hb6; rw [wa hb1] at k6; rw [wb (by omega) (by omega), w1]; omega) | (have k1 := of_decide_eq_true hb1; have k5 := of_decide_eq_false hb5; have k6 := of_decide_eq_false hb6; rw [wa hb1] at k6; rw [wc (by omega) (by omega)]; omega)), hb4, trivial⟩ (by first | (rw [hend hb8]; done) | (rw [hend hb1]; done) | (rw [(hT hb1 hb3).trans (if_neg (n4 hb4))]; done) | (rw [(hT hb1 hb3).trans (if_neg (n5 hb5))]; done) | (rw [(hT hb1 hb3).trans (if_neg (n6 hb1 hb6))]; done) | (rw [(hT hb1 hb3).trans (if_neg (n7 hb7))]; done) | (rw [(hT hb1 hb3).trans (if_pos (p7 hb1 hb4 hb5 hb6 hb7).1), (p7 hb1 hb4 hb5 hb6 hb7).2.1, (p7 hb1 hb4 hb5 hb6 hb7).2.2]; done) | (rw [hend hb8]; rfl) | (rw [hend hb1]; rfl) | (rw [(hT hb1 hb3).trans (if_neg (n4 hb4))]; rfl) | (rw [(hT hb1 hb3).trans (if_neg (n5 hb5))]; rfl) | (rw [(hT hb1 hb3).trans (if_neg (n6 hb1 hb6))]; rfl) | (rw [(hT hb1 hb3).trans (if_neg (n7 hb7))]; rfl) | (rw [(hT hb1 hb3).trans (if_pos (p7 hb1 hb4 hb5 hb6 hb7).1), (p7 hb1 hb4 hb5 hb6 hb7).2.1, (p7 hb1 hb4 hb5 hb6 hb7).2.2]; rfl) | (exfalso; have := of_decide_eq_false hb2; omega)) hsim
          · skip
            rcases Bool.eq_false_or_eq_true (decide (n < (0 : Int))) with hb5 | hb5
            · skip
              exact go_ret (UK_ok n f) rfl rfl Tryd.func42 (sr' := ⟨0, [.tup [.d (.raw (.string (ByteArray.mk #[]))), .d (.raw (.string (ByteArray.mk #[]))), .d (.raw (.int .i64 ((4 : Int))))]], []⟩) (cs := [((decide (i < (↑s.size : Int))) = true), ((decide (i ≤ (9 : Int))) = true), ((0 : Int) ≤ i ∧ i < (↑s.size : Int)), ((byteAt s i.toNat != (58 : Int)) = false), ((0 : Int) ≤ (0 : Int) ∧ (0 : Int) ≤ i ∧ i ≤ (↑s.size : Int)), ((s.extract (0 : Nat) i.toNat).size ≤ (1073741824 : Nat)), (n = (numM (s.extract (0 : Nat) i.toNat)).fst), (f = (numM (s.extract (0 : Nat) i.toNat)).snd), ((f != (0 : Int)) = false), ((decide (n < (0 : Int))) = true)]) [true, true, false, false, true] true (by kernel_rfl) (by kernel_rfl) ⟨hb1, hb2, (by first | exact hn | exact hf | exact hex (by (have := of_decide_eq_true hb2; omega)) | omega | (have k1 := of_decide_eq_true hb1; omega) | (have k1 := of_decide_eq_true hb1; have k5 := of_decide_eq_false hb5; have k6 := of_decide_eq_false hb6; rw [wa hb1] at k6; rw [wb (by omega) (by omega)]; omega) | (have k1 := of_decide_eq_true hb1; have k5 := of_decide_eq_false hb5; have k6 := of_decide_eq_false hb6; rw [wa hb1] at k6; rw [wb (by omega) (by omega), w1]; omega) | (have k1 := of_decide_eq_true hb1; have k5 := of_decide_eq_false hb5; have k6 := of_decide_eq_false hb6; rw [wa hb1] at k6; rw [wc (by omega) (by omega)]; omega)), hb3, (by first | exact hn | exact hf | exact hex (by (have := of_decide_eq_true hb2; omega)) | omega | (have k1 := of_decide_eq_true hb1; omega) | (have k1 := of_decide_eq_true hb1; have k5 := of_decide_eq_false hb5; have k6 := of_decide_eq_false hb6; rw [wa hb1] at k6; rw [wb (by omega) (by omega)]; omega) | (have k1 := of_decide_eq_true hb1; have k5 := of_decide_eq_false hb5; have k6 := of_decide_eq_false hb6; rw [wa hb1] at k6; rw [wb (by omega) (by omega), w1]; omega) | (have k1 := of_decide_eq_true hb1; have k5 := of_decide_eq_false hb5; have k6 := of_decide_eq_false hb6; rw [wa hb1] at k6; rw [wc (by omega) (by omega)]; omega)), (by first | exact hn | exact hf | exact hex (by (have := of_decide_eq_true hb2; omega)) | omega | (have k1 := of_decide_eq_true hb1; omega) | (have k1 := of_decide_eq_true hb1; have k5 := of_decide_eq_false hb5; have k6 := of_decide_eq_false hb6; rw [wa hb1] at k6; rw [wb (by omega) (by omega)]; omega) | (have k1 := of_decide_eq_true hb1; have k5 := of_decide_eq_false hb5; have k6 := of_decide_eq_false hb6; rw [wa hb1] at k6; rw [wb (by omega) (by omega), w1]; omega) | (have k1 := of_decide_eq_true hb1; have k5 := of_decide_eq_false hb5; have k6 := of_decide_eq_false hb6; rw [wa hb1] at k6; rw [wc (by omega) (by omega)]; omega)), (by first | exact hn | exact hf | exact hex (by (have := of_decide_eq_true hb2; omega)) | omega | (have k1 := of_decide_eq_true hb1; omega) | (have k1 := of_decide_eq_true hb1; have k5 := of_decide_eq_false hb5; have k6 := of_decide_eq_false hb6; rw [wa hb1] at k6; rw [wb (by omega) (by omega)]; omega) | (have k1 := of_decide_eq_true hb1; have k5 := of_decide_eq_false hb5; have k6 := of_decide_eq_false hb6; rw [wa hb1] at k6; rw [wb (by omega) (by omega), w1]; omega) | (have k1 := of_decide_eq_true hb1; have k5 := of_decide_eq_false hb5; have k6 := of_decide_eq_false hb6; rw [wa hb1] at k6; rw [wc (by omega) (by omega)]; omega)), (by first | exact hn | exact hf | exact hex (by (have := of_decide_eq_true hb2; omega)) | omega | (have k1 := of_decide_eq_true hb1; omega) | (have k1 := of_decide_eq_true hb1; have k5 := of_decide_eq_false hb5; have k6 := of_decide_eq_false hb6; rw [wa hb1] at k6; rw [wb (by omega) (by omega)]; omega) | (have k1 := of_decide_eq_true hb1; have k5 := of_decide_eq_false hb5; have k6 := of_decide_eq_false hb6; rw [wa hb1] at k6; rw [wb (by omega) (by omega), w1]; omega) | (have k1 := of_decide_eq_true hb1; have k5 := of_decide_eq_false hb5; have k6 := of_decide_eq_false hb6; rw [wa hb1] at k6; rw [wc (by omega) (by omega)]; omega)), hb4, hb5, trivial⟩ (by first | (rw [hend hb8]; done) | (rw [hend hb1]; done) | (rw [(hT hb1 hb3).trans (if_neg (n4 hb4))]; done) | (rw [(hT hb1 hb3).trans (if_neg (n5 hb5))]; done) | (rw [(hT hb1 hb3).trans (if_neg (n6 hb1 hb6))]; done) | (rw [(hT hb1 hb3).trans (if_neg (n7 hb7))]; done) | (rw [(hT hb1 hb3).trans (if_pos (p7 hb1 hb4 hb5 hb6 hb7).1), (p7 hb1 hb4 hb5 hb6 hb7).2.1, (p7 hb1 hb4 hb5 hb6 hb7).2.2]; done) | (rw [hend hb8]; rfl) | (rw [hend hb1]; rfl) | (rw [(hT hb1 hb3).trans (if_neg (n4 hb4))]; rfl) | (rw [(hT hb1 hb3).trans (if_neg (n5 hb5))]; rfl) | (rw [(hT hb1 hb3).trans (if_neg (n6 hb1 hb6))]; rfl) | (rw [(hT hb1 hb3).trans (if_neg (n7 hb7))]; rfl) | (rw [(hT hb1 hb3).trans (if_pos (p7 hb1 hb4 hb5 hb6 hb7).1), (p7 hb1 hb4 hb5 hb6 hb7).2.1, (p7 hb1 hb4 hb5 hb6 hb7).2.2]; rfl) | (exfalso; have := of_decide_eq_false hb2; omega)) hsim
            · skip
              rcases Bool.eq_false_or_eq_true (decide (IntKind.i64.wrap (IntKind.i64.wrap ((↑s.size : Int) - i) - (1 : Int)) ≤ n)) with hb6 | hb6
              · skip
                exact go_ret (UK_ok n f) rfl rfl Tryd.func42 (sr' := ⟨0, [.tup [.d (.raw (.string (ByteArray.mk #[]))), .d (.raw (.string (ByteArray.mk #[]))), .d (.raw (.int .i64 ((4 : Int))))]], []⟩) (cs := [((decide (i < (↑s.size : Int))) = true), ((decide (i ≤ (9 : Int))) = true), ((0 : Int) ≤ i ∧ i < (↑s.size : Int)), ((byteAt s i.toNat != (58 : Int)) = false), ((0 : Int) ≤ (0 : Int) ∧ (0 : Int) ≤ i ∧ i ≤ (↑s.size : Int)), ((s.extract (0 : Nat) i.toNat).size ≤ (1073741824 : Nat)), (n = (numM (s.extract (0 : Nat) i.toNat)).fst), (f = (numM (s.extract (0 : Nat) i.toNat)).snd), ((f != (0 : Int)) = false), ((decide (n < (0 : Int))) = false), ((decide (IntKind.i64.wrap (IntKind.i64.wrap ((↑s.size : Int) - i) - (1 : Int)) ≤ n)) = true)]) [true, true, false, false, false, true] true (by kernel_rfl) (by kernel_rfl) ⟨hb1, hb2, (by first | exact hn | exact hf | exact hex (by (have := of_decide_eq_true hb2; omega)) | omega | (have k1 := of_decide_eq_true hb1; omega) | (have k1 := of_decide_eq_true hb1; have k5 := of_decide_eq_false hb5; have k6 := of_decide_eq_false hb6; rw [wa hb1] at k6; rw [wb (by omega) (by omega)]; omega) | (have k1 := of_decide_eq_true hb1; have k5 := of_decide_eq_false hb5; have k6 := of_decide_eq_false hb6; rw [wa hb1] at k6; rw [wb (by omega) (by omega), w1]; omega) | (have k1 := of_decide_eq_true hb1; have k5 := of_decide_eq_false hb5; have k6 := of_decide_eq_false hb6; rw [wa hb1] at k6; rw [wc (by omega) (by omega)]; omega)), hb3, (by first | exact hn | exact hf | exact hex (by (have := of_decide_eq_true hb2; omega)) | omega | (have k1 := of_decide_eq_true hb1; omega) | (have k1 := of_decide_eq_true hb1; have k5 := of_decide_eq_false hb5; have k6 := of_decide_eq_false hb6; rw [wa hb1] at k6; rw [wb (by omega) (by omega)]; omega) | (have k1 := of_decide_eq_true hb1; have k5 := of_decide_eq_false hb5; have k6 := of_decide_eq_false hb6; rw [wa hb1] at k6; rw [wb (by omega) (by omega), w1]; omega) | (have k1 := of_decide_eq_true hb1; have k5 := of_decide_eq_false hb5; have k6 := of_decide_eq_false hb6; rw [wa hb1] at k6; rw [wc (by omega) (by omega)]; omega)), (by first | exact hn | exact hf | exact hex (by (have := of_decide_eq_true hb2; omega)) | omega | (have k1 := of_decide_eq_true hb1; omega) | (have k1 := of_decide_eq_true hb1; have k5 := of_decide_eq_false hb5; have k6 := of_decide_eq_false hb6; rw [wa hb1] at k6; rw [wb (by omega) (by omega)]; omega) | (have k1 := of_decide_eq_true hb1; have k5 := of_decide_eq_false hb5; have k6 := of_decide_eq_false hb6; rw [wa hb1] at k6; rw [wb (by omega) (by omega), w1]; omega) | (have k1 := of_decide_eq_true hb1; have k5 := of_decide_eq_false hb5; have k6 := of_decide_eq_false hb6; rw [wa hb1] at k6; rw [wc (by omega) (by omega)]; omega)), (by first | exact hn | exact hf | exact hex (by (have := of_decide_eq_true hb2; omega)) | omega | (have k1 := of_decide_eq_true hb1; omega) | (have k1 := of_decide_eq_true hb1; have k5 := of_decide_eq_false hb5; have k6 := of_decide_eq_false hb6; rw [wa hb1] at k6; rw [wb (by omega) (by omega)]; omega) | (have k1 := of_decide_eq_true hb1; have k5 := of_decide_eq_false hb5; have k6 := of_decide_eq_false hb6; rw [wa hb1] at k6; rw [wb (by omega) (by omega), w1]; omega) | (have k1 := of_decide_eq_true hb1; have k5 := of_decide_eq_false hb5; have k6 := of_decide_eq_false hb6; rw [wa hb1] at k6; rw [wc (by omega) (by omega)]; omega)), (by first | exact hn | exact hf | exact hex (by (have := of_decide_eq_true hb2; omega)) | omega | (have k1 := of_decide_eq_true hb1; omega) | (have k1 := of_decide_eq_true hb1; have k5 := of_decide_eq_false hb5; have k6 := of_decide_eq_false hb6; rw [wa hb1] at k6; rw [wb (by omega) (by omega)]; omega) | (have k1 := of_decide_eq_true hb1; have k5 := of_decide_eq_false hb5; have k6 := of_decide_eq_false hb6; rw [wa hb1] at k6; rw [wb (by omega) (by omega), w1]; omega) | (have k1 := of_decide_eq_true hb1; have k5 := of_decide_eq_false hb5; have k6 := of_decide_eq_false hb6; rw [wa hb1] at k6; rw [wc (by omega) (by omega)]; omega)), hb4, hb5, hb6, trivial⟩ (by first | (rw [hend hb8]; done) | (rw [hend hb1]; done) | (rw [(hT hb1 hb3).trans (if_neg (n4 hb4))]; done) | (rw [(hT hb1 hb3).trans (if_neg (n5 hb5))]; done) | (rw [(hT hb1 hb3).trans (if_neg (n6 hb1 hb6))]; done) | (rw [(hT hb1 hb3).trans (if_neg (n7 hb7))]; done) | (rw [(hT hb1 hb3).trans (if_pos (p7 hb1 hb4 hb5 hb6 hb7).1), (p7 hb1 hb4 hb5 hb6 hb7).2.1, (p7 hb1 hb4 hb5 hb6 hb7).2.2]; done) | (rw [hend hb8]; rfl) | (rw [hend hb1]; rfl) | (rw [(hT hb1 hb3).trans (if_neg (n4 hb4))]; rfl) | (rw [(hT hb1 hb3).trans (if_neg (n5 hb5))]; rfl) | (rw [(hT hb1 hb3).trans (if_neg (n6 hb1 hb6))]; rfl) | (rw [(hT hb1 hb3).trans (if_neg (n7 hb7))]; rfl) | (rw [(hT hb1 hb3).trans (if_pos (p7 hb1 hb4 hb5 hb6 hb7).1), (p7 hb1 hb4 hb5 hb6 hb7).2.1, (p7 hb1 hb4 hb5 hb6 hb7).2.2]; rfl) | (exfalso; have := of_decide_eq_false hb2; omega)) hsim
              · skip
                rcases Bool.eq_false_or_eq_true (byteAt s (IntKind.i64.wrap (IntKind.i64.wrap (i + (1 : Int)) + n)).toNat != (44 : Int)) with hb7 | hb7
                · skip
                  exact go_ret (UK_ok n f) rfl rfl Tryd.func42 (sr' := ⟨0, [.tup [.d (.raw (.string (ByteArray.mk #[]))), .d (.raw (.string (ByteArray.mk #[]))), .d (.raw (.int .i64 ((4 : Int))))]], []⟩) (cs := [((decide (i < (↑s.size : Int))) = true), ((decide (i ≤ (9 : Int))) = true), ((0 : Int) ≤ i ∧ i < (↑s.size : Int)), ((byteAt s i.toNat != (58 : Int)) = false), ((0 : Int) ≤ (0 : Int) ∧ (0 : Int) ≤ i ∧ i ≤ (↑s.size : Int)), ((s.extract (0 : Nat) i.toNat).size ≤ (1073741824 : Nat)), (n = (numM (s.extract (0 : Nat) i.toNat)).fst), (f = (numM (s.extract (0 : Nat) i.toNat)).snd), ((f != (0 : Int)) = false), ((decide (n < (0 : Int))) = false), ((decide (IntKind.i64.wrap (IntKind.i64.wrap ((↑s.size : Int) - i) - (1 : Int)) ≤ n)) = false), ((0 : Int) ≤ IntKind.i64.wrap (IntKind.i64.wrap (i + (1 : Int)) + n) ∧ IntKind.i64.wrap (IntKind.i64.wrap (i + (1 : Int)) + n) < (↑s.size : Int)), ((byteAt s (IntKind.i64.wrap (IntKind.i64.wrap (i + (1 : Int)) + n)).toNat != (44 : Int)) = true)]) ([true, true] ++ (List.replicate 4 false) ++ [true]) true (by kernel_rfl) (by kernel_rfl) ⟨hb1, hb2, (by first | exact hn | exact hf | exact hex (by (have := of_decide_eq_true hb2; omega)) | omega | (have k1 := of_decide_eq_true hb1; omega) | (have k1 := of_decide_eq_true hb1; have k5 := of_decide_eq_false hb5; have k6 := of_decide_eq_false hb6; rw [wa hb1] at k6; rw [wb (by omega) (by omega)]; omega) | (have k1 := of_decide_eq_true hb1; have k5 := of_decide_eq_false hb5; have k6 := of_decide_eq_false hb6; rw [wa hb1] at k6; rw [wb (by omega) (by omega), w1]; omega) | (have k1 := of_decide_eq_true hb1; have k5 := of_decide_eq_false hb5; have k6 := of_decide_eq_false hb6; rw [wa hb1] at k6; rw [wc (by omega) (by omega)]; omega)), hb3, (by first | exact hn | exact hf | exact hex (by (have := of_decide_eq_true hb2; omega)) | omega | (have k1 := of_decide_eq_true hb1; omega) | (have k1 := of_decide_eq_true hb1; have k5 := of_decide_eq_false hb5; have k6 := of_decide_eq_false hb6; rw [wa hb1] at k6; rw [wb (by omega) (by omega)]; omega) | (have k1 := of_decide_eq_true hb1; have k5 := of_decide_eq_false hb5; have k6 := of_decide_eq_false hb6; rw [wa hb1] at k6; rw [wb (by omega) (by omega), w1]; omega) | (have k1 := of_decide_eq_true hb1; have k5 := of_decide_eq_false hb5; have k6 := of_decide_eq_false hb6; rw [wa hb1] at k6; rw [wc (by omega) (by omega)]; omega)), (by first | exact hn | exact hf | exact hex (by (have := of_decide_eq_true hb2; omega)) | omega | (have k1 := of_decide_eq_true hb1; omega) | (have k1 := of_decide_eq_true hb1; have k5 := of_decide_eq_false hb5; have k6 := of_decide_eq_false hb6; rw [wa hb1] at k6; rw [wb (by omega) (by omega)]; omega) | (have k1 := of_decide_eq_true hb1; have k5 := of_decide_eq_false hb5; have k6 := of_decide_eq_false hb6; rw [wa hb1] at k6; rw [wb (by omega) (by omega), w1]; omega) | (have k1 := of_decide_eq_true hb1; have k5 := of_decide_eq_false hb5; have k6 := of_decide_eq_false hb6; rw [wa hb1] at k6; rw [wc (by omega) (by omega)]; omega)), (by first | exact hn | exact hf | exact hex (by (have := of_decide_eq_true hb2; omega)) | omega | (have k1 := of_decide_eq_true hb1; omega) | (have k1 := of_decide_eq_true hb1; have k5 := of_decide_eq_false hb5; have k6 := of_decide_eq_false hb6; rw [wa hb1] at k6; rw [wb (by omega) (by omega)]; omega) | (have k1 := of_decide_eq_true hb1; have k5 := of_decide_eq_false hb5; have k6 := of_decide_eq_false hb6; rw [wa hb1] at k6; rw [wb (by omega) (by omega), w1]; omega) | (have k1 := of_decide_eq_true hb1; have k5 := of_decide_eq_false hb5; have k6 := of_decide_eq_false hb6; rw [wa hb1] at k6; rw [wc (by omega) (by omega)]; omega)), (by first | exact hn | exact hf | exact hex (by (have := of_decide_eq_true hb2; omega)) | omega | (have k1 := of_decide_eq_true hb1; omega) | (have k1 := of_decide_eq_true hb1; have k5 := of_decide_eq_false hb5; have k6 := of_decide_eq_false hb6; rw [wa hb1] at k6; rw [wb (by omega) (by omega)]; omega) | (have k1 := of_decide_eq_true hb1; have k5 := of_decide_eq_false hb5; have k6 := of_decide_eq_false hb6; rw [wa hb1] at k6; rw [wb (by omega) (by omega), w1]; omega) | (have k1 := of_decide_eq_true hb1; have k5 := of_decide_eq_false hb5; have k6 := of_decide_eq_false hb6; rw [wa hb1] at k6; rw [wc (by omega) (by omega)]; omega)), hb4, hb5, hb6, (by first | exact hn | exact hf | exact hex (by (have := of_decide_eq_true hb2; omega)) | omega | (have k1 := of_decide_eq_true hb1; omega) | (have k1 := of_decide_eq_true hb1; have k5 := of_decide_eq_false hb5; have k6 := of_decide_eq_false hb6; rw [wa hb1] at k6; rw [wb (by omega) (by omega)]; omega) | (have k1 := of_decide_eq_true hb1; have k5 := of_decide_eq_false hb5; have k6 := of_decide_eq_false hb6; rw [wa hb1] at k6; rw [wb (by omega) (by omega), w1]; omega) | (have k1 := of_decide_eq_true hb1; have k5 := of_decide_eq_false hb5; have k6 := of_decide_eq_false hb6; rw [wa hb1] at k6; rw [wc (by omega) (by omega)]; omega)), hb7, trivial⟩ (by first | (rw [hend hb8]; done) | (rw [hend hb1]; done) | (rw [(hT hb1 hb3).trans (if_neg (n4 hb4))]; done) | (rw [(hT hb1 hb3).trans (if_neg (n5 hb5))]; done) | (rw [(hT hb1 hb3).trans (if_neg (n6 hb1 hb6))]; done) | (rw [(hT hb1 hb3).trans (if_neg (n7 hb7))]; done) | (rw [(hT hb1 hb3).trans (if_pos (p7 hb1 hb4 hb5 hb6 hb7).1), (p7 hb1 hb4 hb5 hb6 hb7).2.1, (p7 hb1 hb4 hb5 hb6 hb7).2.2]; done) | (rw [hend hb8]; rfl) | (rw [hend hb1]; rfl) | (rw [(hT hb1 hb3).trans (if_neg (n4 hb4))]; rfl) | (rw [(hT hb1 hb3).trans (if_neg (n5 hb5))]; rfl) | (rw [(hT hb1 hb3).trans (if_neg (n6 hb1 hb6))]; rfl) | (rw [(hT hb1 hb3).trans (if_neg (n7 hb7))]; rfl) | (rw [(hT hb1 hb3).trans (if_pos (p7 hb1 hb4 hb5 hb6 hb7).1), (p7 hb1 hb4 hb5 hb6 hb7).2.1, (p7 hb1 hb4 hb5 hb6 hb7).2.2]; rfl) | (exfalso; have := of_decide_eq_false hb2; omega)) hsim
                · skip
                  exact go_ret (UK_ok n f) rfl rfl Tryd.func42 (sr' := ⟨0, [.tup [.d (.raw (.string (s.extract (IntKind.i64.wrap (i + (1 : Int))).toNat (IntKind.i64.wrap (IntKind.i64.wrap (i + (1 : Int)) + n)).toNat))), .d (.raw (.string (s.extract (IntKind.i64.wrap (IntKind.i64.wrap (i + (2 : Int)) + n)).toNat (↑s.size : Int).toNat))), .d (.raw (.int .i64 ((0 : Int))))]], []⟩) (cs := [((decide (i < (↑s.size : Int))) = true), ((decide (i ≤ (9 : Int))) = true), ((0 : Int) ≤ i ∧ i < (↑s.size : Int)), ((byteAt s i.toNat != (58 : Int)) = false), ((0 : Int) ≤ (0 : Int) ∧ (0 : Int) ≤ i ∧ i ≤ (↑s.size : Int)), ((s.extract (0 : Nat) i.toNat).size ≤ (1073741824 : Nat)), (n = (numM (s.extract (0 : Nat) i.toNat)).fst), (f = (numM (s.extract (0 : Nat) i.toNat)).snd), ((f != (0 : Int)) = false), ((decide (n < (0 : Int))) = false), ((decide (IntKind.i64.wrap (IntKind.i64.wrap ((↑s.size : Int) - i) - (1 : Int)) ≤ n)) = false), ((0 : Int) ≤ IntKind.i64.wrap (IntKind.i64.wrap (i + (1 : Int)) + n) ∧ IntKind.i64.wrap (IntKind.i64.wrap (i + (1 : Int)) + n) < (↑s.size : Int)), ((byteAt s (IntKind.i64.wrap (IntKind.i64.wrap (i + (1 : Int)) + n)).toNat != (44 : Int)) = false), ((0 : Int) ≤ IntKind.i64.wrap (i + (1 : Int)) ∧ IntKind.i64.wrap (i + (1 : Int)) ≤ IntKind.i64.wrap (IntKind.i64.wrap (i + (1 : Int)) + n) ∧ IntKind.i64.wrap (IntKind.i64.wrap (i + (1 : Int)) + n) ≤ (↑s.size : Int)), ((0 : Int) ≤ IntKind.i64.wrap (IntKind.i64.wrap (i + (2 : Int)) + n) ∧ IntKind.i64.wrap (IntKind.i64.wrap (i + (2 : Int)) + n) ≤ (↑s.size : Int) ∧ (↑s.size : Int) ≤ (↑s.size : Int))]) ([true, true] ++ (List.replicate 5 false)) true (by kernel_rfl) (by kernel_rfl) ⟨hb1, hb2, (by first | exact hn | exact hf | exact hex (by (have := of_decide_eq_true hb2; omega)) | omega | (have k1 := of_decide_eq_true hb1; omega) | (have k1 := of_decide_eq_true hb1; have k5 := of_decide_eq_false hb5; have k6 := of_decide_eq_false hb6; rw [wa hb1] at k6; rw [wb (by omega) (by omega)]; omega) | (have k1 := of_decide_eq_true hb1; have k5 := of_decide_eq_false hb5; have k6 := of_decide_eq_false hb6; rw [wa hb1] at k6; rw [wb (by omega) (by omega), w1]; omega) | (have k1 := of_decide_eq_true hb1; have k5 := of_decide_eq_false hb5; have k6 := of_decide_eq_false hb6; rw [wa hb1] at k6; rw [wc (by omega) (by omega)]; omega)), hb3, (by first | exact hn | exact hf | exact hex (by (have := of_decide_eq_true hb2; omega)) | omega | (have k1 := of_decide_eq_true hb1; omega) | (have k1 := of_decide_eq_true hb1; have k5 := of_decide_eq_false hb5; have k6 := of_decide_eq_false hb6; rw [wa hb1] at k6; rw [wb (by omega) (by omega)]; omega) | (have k1 := of_decide_eq_true hb1; have k5 := of_decide_eq_false hb5; have k6 := of_decide_eq_false hb6; rw [wa hb1] at k6; rw [wb (by omega) (by omega), w1]; omega) | (have k1 := of_decide_eq_true hb1; have k5 := of_decide_eq_false hb5; have k6 := of_decide_eq_false hb6; rw [wa hb1] at k6; rw [wc (by omega) (by omega)]; omega)), (by first | exact hn | exact hf | exact hex (by (have := of_decide_eq_true hb2; omega)) | omega | (have k1 := of_decide_eq_true hb1; omega) | (have k1 := of_decide_eq_true hb1; have k5 := of_decide_eq_false hb5; have k6 := of_decide_eq_false hb6; rw [wa hb1] at k6; rw [wb (by omega) (by omega)]; omega) | (have k1 := of_decide_eq_true hb1; have k5 := of_decide_eq_false hb5; have k6 := of_decide_eq_false hb6; rw [wa hb1] at k6; rw [wb (by omega) (by omega), w1]; omega) | (have k1 := of_decide_eq_true hb1; have k5 := of_decide_eq_false hb5; have k6 := of_decide_eq_false hb6; rw [wa hb1] at k6; rw [wc (by omega) (by omega)]; omega)), (by first | exact hn | exact hf | exact hex (by (have := of_decide_eq_true hb2; omega)) | omega | (have k1 := of_decide_eq_true hb1; omega) | (have k1 := of_decide_eq_true hb1; have k5 := of_decide_eq_false hb5; have k6 := of_decide_eq_false hb6; rw [wa hb1] at k6; rw [wb (by omega) (by omega)]; omega) | (have k1 := of_decide_eq_true hb1; have k5 := of_decide_eq_false hb5; have k6 := of_decide_eq_false hb6; rw [wa hb1] at k6; rw [wb (by omega) (by omega), w1]; omega) | (have k1 := of_decide_eq_true hb1; have k5 := of_decide_eq_false hb5; have k6 := of_decide_eq_false hb6; rw [wa hb1] at k6; rw [wc (by omega) (by omega)]; omega)), (by first | exact hn | exact hf | exact hex (by (have := of_decide_eq_true hb2; omega)) | omega | (have k1 := of_decide_eq_true hb1; omega) | (have k1 := of_decide_eq_true hb1; have k5 := of_decide_eq_false hb5; have k6 := of_decide_eq_false hb6; rw [wa hb1] at k6; rw [wb (by omega) (by omega)]; omega) | (have k1 := of_decide_eq_true hb1; have k5 := of_decide_eq_false hb5; have k6 := of_decide_eq_false hb6; rw [wa hb1] at k6; rw [wb (by omega) (by omega), w1]; omega) | (have k1 := of_decide_eq_true hb1; have k5 := of_decide_eq_false hb5; have k6 := of_decide_eq_false hb6; rw [wa hb1] at k6; rw [wc (by omega) (by omega)]; omega)), hb4, hb5, hb6, (by first | exact hn | exact hf | exact hex (by (have := of_decide_eq_true hb2; omega)) | omega | (have k1 := of_decide_eq_true hb1; omega) | (have k1 := of_decide_eq_true hb1; have k5 := of_decide_eq_false hb5; have k6 := of_decide_eq_false hb6; rw [wa hb1] at k6; rw [wb (by omega) (by omega)]; omega) | (have k1 := of_decide_eq_true hb1; have k5 := of_decide_eq_false hb5; have k6 := of_decide_eq_false hb6; rw [wa hb1] at k6; rw [wb (by omega) (by omega), w1]; omega) | (have k1 := of_decide_eq_true hb1; have k5 := of_decide_eq_false hb5; have k6 := of_decide_eq_false hb6; rw [wa hb1] at k6; rw [wc (by omega) (by omega)]; omega)), hb7, (by first | exact hn | exact hf | exact hex (by (have := of_decide_eq_true hb2; omega)) | omega | (have k1 := of_decide_eq_true hb1; omega) | (have k1 := of_decide_eq_true hb1; have k5 := of_decide_eq_false hb5; have k6 := of_decide_eq_false hb6; rw [wa hb1] at k6; rw [wb (by omega) (by omega)]; omega) | (have k1 := of_decide_eq_true hb1; have k5 := of_decide_eq_false hb5; have k6 := of_decide_eq_false hb6; rw [wa hb1] at k6; rw [wb (by omega) (by omega), w1]; omega) | (have k1 := of_decide_eq_true hb1; have k5 := of_decide_eq_false hb5; have k6 := of_decide_eq_false hb6; rw [wa hb1] at k6; rw [wc (by omega) (by omega)]; omega)), (by first | exact hn | exact hf | exact hex (by (have := of_decide_eq_true hb2; omega)) | omega | (have k1 := of_decide_eq_true hb1; omega) | (have k1 := of_decide_eq_true hb1; have k5 := of_decide_eq_false hb5; have k6 := of_decide_eq_false hb6; rw [wa hb1] at k6; rw [wb (by omega) (by omega)]; omega) | (have k1 := of_decide_eq_true hb1; have k5 := of_decide_eq_false hb5; have k6 := of_decide_eq_false hb6; rw [wa hb1] at k6; rw [wb (by omega) (by omega), w1]; omega) | (have k1 := of_decide_eq_true hb1; have k5 := of_decide_eq_false hb5; have k6 := of_decide_eq_false hb6; rw [wa hb1] at k6; rw [wc (by omega) (by omega)]; omega)), trivial⟩ (by first | (rw [hend hb8]; done) | (rw [hend hb1]; done) | (rw [(hT hb1 hb3).trans (if_neg (n4 hb4))]; done) | (rw [(hT hb1 hb3).trans (if_neg (n5 hb5))]; done) | (rw [(hT hb1 hb3).trans (if_neg (n6 hb1 hb6))]; done) | (rw [(hT hb1 hb3).trans (if_neg (n7 hb7))]; done) | (rw [(hT hb1 hb3).trans (if_pos (p7 hb1 hb4 hb5 hb6 hb7).1), (p7 hb1 hb4 hb5 hb6 hb7).2.1, (p7 hb1 hb4 hb5 hb6 hb7).2.2]; done) | (rw [hend hb8]; rfl) | (rw [hend hb1]; rfl) | (rw [(hT hb1 hb3).trans (if_neg (n4 hb4))]; rfl) | (rw [(hT hb1 hb3).trans (if_neg (n5 hb5))]; rfl) | (rw [(hT hb1 hb3).trans (if_neg (n6 hb1 hb6))]; rfl) | (rw [(hT hb1 hb3).trans (if_neg (n7 hb7))]; rfl) | (rw [(hT hb1 hb3).trans (if_pos (p7 hb1 hb4 hb5 hb6 hb7).1), (p7 hb1 hb4 hb5 hb6 hb7).2.1, (p7 hb1 hb4 hb5 hb6 hb7).2.2]; rfl) | (exfalso; have := of_decide_eq_false hb2; omega)) hsim
      · skip
        exact go_ret (UK_ok n f) rfl rfl Tryd.func42 (sr' := ⟨0, [.tup [.d (.raw (.string (ByteArray.mk #[]))), .d (.raw (.string (ByteArray.mk #[]))), .d (.raw (.int .i64 ((4 : Int))))]], []⟩) (cs := [((decide (i < (↑s.size : Int))) = true), ((decide (i ≤ (9 : Int))) = false)]) [true, false] true (by kernel_rfl) (by kernel_rfl) ⟨hb1, hb2, trivial⟩ (by first | (rw [hend hb8]; done) | (rw [hend hb1]; done) | (rw [(hT hb1 hb3).trans (if_neg (n4 hb4))]; done) | (rw [(hT hb1 hb3).trans (if_neg (n5 hb5))]; done) | (rw [(hT hb1 hb3).trans (if_neg (n6 hb1 hb6))]; done) | (rw [(hT hb1 hb3).trans (if_neg (n7 hb7))]; done) | (rw [(hT hb1 hb3).trans (if_pos (p7 hb1 hb4 hb5 hb6 hb7).1), (p7 hb1 hb4 hb5 hb6 hb7).2.1, (p7 hb1 hb4 hb5 hb6 hb7).2.2]; done) | (rw [hend hb8]; rfl) | (rw [hend hb1]; rfl) | (rw [(hT hb1 hb3).trans (if_neg (n4 hb4))]; rfl) | (rw [(hT hb1 hb3).trans (if_neg (n5 hb5))]; rfl) | (rw [(hT hb1 hb3).trans (if_neg (n6 hb1 hb6))]; rfl) | (rw [(hT hb1 hb3).trans (if_neg (n7 hb7))]; rfl) | (rw [(hT hb1 hb3).trans (if_pos (p7 hb1 hb4 hb5 hb6 hb7).1), (p7 hb1 hb4 hb5 hb6 hb7).2.1, (p7 hb1 hb4 hb5 hb6 hb7).2.2]; rfl) | (exfalso; have := of_decide_eq_false hb2; omega)) hsim
    · skip
      exact go_ret (UK_ok n f) rfl rfl Tryd.func42 (sr' := ⟨0, [.tup [.d (.raw (.string (ByteArray.mk #[]))), .d (.raw (.string (ByteArray.mk #[]))), .d (.raw (.int .i64 ((4 : Int))))]], []⟩) (cs := [((decide (i < (↑s.size : Int))) = false)]) [false] true (by kernel_rfl) (by kernel_rfl) ⟨hb1, trivial⟩ (by first | (rw [hend hb8]; done) | (rw [hend hb1]; done) | (rw [(hT hb1 hb3).trans (if_neg (n4 hb4))]; done) | (rw [(hT hb1 hb3).trans (if_neg (n5 hb5))]; done) | (rw [(hT hb1 hb3).trans (if_neg (n6 hb1 hb6))]; done) | (rw [(hT hb1 hb3).trans (if_neg (n7 hb7))]; done) | (rw [(hT hb1 hb3).trans (if_pos (p7 hb1 hb4 hb5 hb6 hb7).1), (p7 hb1 hb4 hb5 hb6 hb7).2.1, (p7 hb1 hb4 hb5 hb6 hb7).2.2]; done) | (rw [hend hb8]; rfl) | (rw [hend hb1]; rfl) | (rw [(hT hb1 hb3).trans (if_neg (n4 hb4))]; rfl) | (rw [(hT hb1 hb3).trans (if_neg (n5 hb5))]; rfl) | (rw [(hT hb1 hb3).trans (if_neg (n6 hb1 hb6))]; rfl) | (rw [(hT hb1 hb3).trans (if_neg (n7 hb7))]; rfl) | (rw [(hT hb1 hb3).trans (if_pos (p7 hb1 hb4 hb5 hb6 hb7).1), (p7 hb1 hb4 hb5 hb6 hb7).2.1, (p7 hb1 hb4 hb5 hb6 hb7).2.2]; rfl) | (exfalso; have := of_decide_eq_false hb2; omega)) hsim
theorem takeR_ok (s : ByteArray) (hs : s.size ≤ 1073741824) : Eng.Spec Tryd.prog (fun _ => none) 42 [.d (.raw (.string s))] [] (.tup [.d (.raw (.string (takeM s).1)), .d (.raw (.string (takeM s).2.1)), .d (.raw (.int .i64 (takeM s).2.2))]) [] := by
  refine spec_fn Tryd.func42 rfl fun {w N E a} hsim => ?_
  let n : Int := 0
  let f : Int := 0
  refine go_head (UK_ok n f) rfl rfl (k' := loopAt Tryd.f42 0) (s' := mk 0 67 [(0, .d (.raw (.string (s)))), (5, .d (.raw (.int .i64 ((0 : Int)))))] []) (cs := []) [] [0,5] (by kernel_rfl) (by kernel_rfl) trivial hsim fun E a w hsim => ?_
  exact tk_go s hs 10 0 0 rfl (by omega) (fun j h => by omega) E a w hsim
theorem UV_ok (a b : ByteArray) (f : Int) : OrcOK Tryd.prog (UV a b f) := (OrcOK.none _).add _ false (mTakeV a b f) fun args H r H' cs h hc => by
  unfold mTakeV at h
  split at h
  · cases h; obtain ⟨hs, rfl, rfl, rfl, -⟩ := hc; exact takeR_ok _ hs
  · cases h
theorem says_tupnil {C : Cx} (x : D) (el : Nat → D) : Says C ⟨0, [.tup [.d (.raw (.slice none 0 0)), .d x]], []⟩ ⟨0, [.tup [.d (.list 1 0 el), .d x]], []⟩ := ⟨fun E a w hs => ⟨E, hs.fit.tmps _, by
  have h1 := hs.tm
  change VAs E w (Stable C E ⟨0, [.tup [.d (.raw (.slice none 0 0)), .d x]], []⟩ w) [.tup [.d (.raw (.slice none 0 0)), .d x]] a.tmps.toList at h1
  show VAs E w (Stable C E ⟨0, [.tup [.d (.raw (.slice none 0 0)), .d x]], []⟩ w) [.tup [.d (.list 1 0 el), .d x]] a.tmps.toList
  rw [VAs_cons] at h1 ⊢
  obtain ⟨v, vs, e, h2, h3⟩ := h1
  refine ⟨v, vs, e, ?_, h3⟩
  unfold VA at h2 ⊢
  obtain ⟨us, e2, h4⟩ := h2
  refine ⟨us, e2, ?_⟩
  rw [VAs_cons] at h4 ⊢
  obtain ⟨u, us', rfl, h5, h6⟩ := h4
  refine ⟨u, us', rfl, ?_, h6⟩
  unfold VA at h5 ⊢
  rw [(VD_raw_inv h5).1]
  unfold VD VC
  exact ⟨_, rfl, .inl ⟨rfl, rfl⟩⟩, hs.df⟩⟩
abbrev GoU (s : ByteArray) (w0 : World) (N : Nat → Prop) (E0 : Env) (k : List Item) (st : St) : Prop := ∀ (E : Env) (a : Act) (w : World), Sim (cx Tryd.prog (fun _ => none) w0 N E0 []) E st a w → Goes Tryd.prog 33 k (RSpec (cx Tryd.prog (fun _ => none) w0 N E0 []) ⟨0, [.tup [.d (.list 1 (unpR s).1.length (strEl (unpR s).1)), .d (.raw (.int .i64 (unpR s).2))]], []⟩) a w
theorem un_go {w0 : World} {N : Nat → Prop} {E0 : Env} (s : ByteArray) (hs : s.size ≤ 1073741824) : ∀ (d : Nat) (r : List ByteArray) (rest : ByteArray), rest.size ≤ d → r.length + d ≤ s.size → unpF s.size s = (unpF d rest).map (r ++ ·) → GoU s w0 N E0 (loopAt Tryd.f33 0) (un1 r rest) := by
  intro d
  induction d with
  | zero =>
    intro r rest hr hl hu E e w hsim
    have h0 : rest.size = 0 := by omega
    rw [unpF_nil 0 rest h0] at hu
    have e1 : unpR s = (r, 0) := by unfold unpR; rw [hu]; simp
    have hne : (!rest.toList == (ByteArray.mk #[]).toList) = false := by
      have : rest = ByteArray.mk #[] := by apply ext_ba; rw [size_ba] at h0; exact List.length_eq_zero_iff.1 h0
      rw [this]; simp
    let ta : ByteArray := ByteArray.empty
    let tb : ByteArray := ByteArray.empty
    let f : Int := 0
    rcases Bool.eq_false_or_eq_true (!rest.toList == (ByteArray.mk #[]).toList) with hb1 | hb1
    · skip
      rcases Bool.eq_false_or_eq_true (f != (0 : Int)) with hb2 | hb2
      · skip
        exact go_says (UV_ok ta tb f) rfl rfl Tryd.func33 (sr' := ⟨0, [.tup [.d (.raw (Value.slice none (0 : Nat) (0 : Nat))), .d (.raw (.int .i64 ((4 : Int))))]], []⟩) (cs := [((!rest.toList == (ByteArray.mk #[]).toList) = true), (rest.size ≤ (1073741824 : Nat)), (ta = (takeM rest).fst), (tb = (takeM rest).snd.fst), (f = (takeM rest).snd.snd), ((f != (0 : Int)) = true)]) [true, true] true (by kernel_rfl) (by kernel_rfl) ⟨hb1, (by first | omega | exact absurd hb1 (by rw [hne]; decide)), (by first | omega | exact absurd hb1 (by rw [hne]; decide)), (by first | omega | exact absurd hb1 (by rw [hne]; decide)), (by first | omega | exact absurd hb1 (by rw [hne]; decide)), hb2, trivial⟩ (by first | exact absurd hb1 (by rw [hne]; decide) | (rw [e1]; exact Says.refl _)) hsim
      · skip
        refine go_head (UV_ok ta tb f) rfl rfl (k' := loopAt Tryd.f33 0) (s' := mk 0 26 [(4, .own 0), (5, .d (.raw (.string (tb))))] [(0, .row 9 1 (r.length + (1 : Nat)) (fun j => if j < r.length then strEl r j else segD false (1 : Nat) (splice (List.map (fun j => (List.map D.raw (Value.string (ByteArray.mk #[])).cells.toList).getD (j % (1 : Nat)) default) (List.range (1 : Nat))) (0 : Nat) (D.raw (Value.string ta)).cells) (j - r.length)))]) (cs := [((!rest.toList == (ByteArray.mk #[]).toList) = true), (rest.size ≤ (1073741824 : Nat)), (ta = (takeM rest).fst), (tb = (takeM rest).snd.fst), (f = (takeM rest).snd.snd), ((f != (0 : Int)) = false), (r.length + (1 : Nat) ≤ (9223372036854775807 : Nat) ∧ (r.length + (1 : Nat)) * (16 : Nat) ≤ (140737488355328 : Nat))]) [true, false] [4,5] (by kernel_rfl) (by kernel_rfl) ⟨hb1, (by first | omega | exact absurd hb1 (by rw [hne]; decide)), (by first | omega | exact absurd hb1 (by rw [hne]; decide)), (by first | omega | exact absurd hb1 (by rw [hne]; decide)), (by first | omega | exact absurd hb1 (by rw [hne]; decide)), hb2, (by first | omega | exact absurd hb1 (by rw [hne]; decide)), trivial⟩ hsim fun E a w hsim => ?_
        exact absurd hb1 (by rw [hne]; decide)
    · skip
      exact go_says (UV_ok ta tb f) rfl rfl Tryd.func33 (sr' := ⟨0, [.tup [.d (.list 1 (r.length) (strEl r)), .d (.raw (.int .i64 ((0 : Int))))]], []⟩) (cs := [((!rest.toList == (ByteArray.mk #[]).toList) = false)]) [false] true (by kernel_rfl) (by kernel_rfl) ⟨hb1, trivial⟩ (by first | exact absurd hb1 (by rw [hne]; decide) | (rw [e1]; exact Says.refl _)) hsim
  | succ d ih =>
    intro r rest hr hl hu E e w hsim
    obtain ⟨ta, ha⟩ : ∃ ta, ta = (takeM rest).1 := ⟨_, rfl⟩
    obtain ⟨tb, hb⟩ : ∃ tb, tb = (takeM rest).2.1 := ⟨_, rfl⟩
    obtain ⟨f, hf⟩ : ∃ f, f = (takeM rest).2.2 := ⟨_, rfl⟩
    have hsz : rest.size ≤ 1073741824 := by omega
    have hdone : (!rest.toList == (ByteArray.mk #[]).toList) = false → unpR s = (r, 0) := fun h => by
      have h : rest.toList = (ByteArray.mk #[]).toList := by simpa using h
      have h0 : rest.size = 0 := by
        rw [toList_ba, toList_ba] at h
        rw [size_ba, h]; rfl
      rw [unpF_nil _ rest h0] at hu
      unfold unpR; rw [hu]; simp
    have hstep : (!rest.toList == (ByteArray.mk #[]).toList) = true → unpF (d + 1) rest = if f = 0 then (unpF d tb).map (ta :: ·) else none := fun h => by
      have h0 : rest.size ≠ 0 := fun h0 => by
        have : rest = ByteArray.mk #[] := by apply ext_ba; rw [size_ba] at h0; exact List.length_eq_zero_iff.1 h0
        rw [this] at h; simp at h
      show (if rest.size = 0 then _ else _) = _
      rw [if_neg h0, ha, hb, hf]
    have hbad : (!rest.toList == (ByteArray.mk #[]).toList) = true → (f != (0 : Int)) = true → unpR s = ([], 4) := fun h h2 => by
      have : ¬ f = 0 := by simpa using h2
      rw [hstep h, if_neg this] at hu
      unfold unpR; rw [hu]; rfl
    have hlen : r.length + 1 = (r ++ [ta]).length := by simp
    have hlo : ∀ j, j < r.length → strEl r j = strEl (r ++ [ta]) j := fun j hj => by
      unfold strEl; simp [List.getD, List.getElem?_append_left hj]
    have hh0 : strEl (r ++ [ta]) r.length = .raw (.string ta) := by unfold strEl; simp [List.getD]
    have ih := fun (h : (!rest.toList == (ByteArray.mk #[]).toList) = true) (h2 : (f != (0 : Int)) = false) => ih (r ++ [ta]) tb (by
      have hf0 : f = 0 := by simpa using h2
      have := take_less (s := rest) (by rw [← hf]; exact hf0)
      rw [← hb] at this; omega) (by rw [List.length_append, List.length_singleton]; omega) (by
      have hf0 : f = 0 := by simpa using h2
      rw [hu, hstep h, if_pos hf0, Option.map_map]
      congr 1; funext xs; simp)
    rcases Bool.eq_false_or_eq_true (!rest.toList == (ByteArray.mk #[]).toList) with hb1 | hb1
    · skip
      rcases Bool.eq_false_or_eq_true (f != (0 : Int)) with hb2 | hb2
      · skip
        exact go_says (UV_ok ta tb f) rfl rfl Tryd.func33 (sr' := ⟨0, [.tup [.d (.raw (Value.slice none (0 : Nat) (0 : Nat))), .d (.raw (.int .i64 ((4 : Int))))]], []⟩) (cs := [((!rest.toList == (ByteArray.mk #[]).toList) = true), (rest.size ≤ (1073741824 : Nat)), (ta = (takeM rest).fst), (tb = (takeM rest).snd.fst), (f = (takeM rest).snd.snd), ((f != (0 : Int)) = true)]) [true, true] true (by kernel_rfl) (by kernel_rfl) ⟨hb1, (by first | exact hsz | exact ha | exact hb | exact hf | omega), (by first | exact hsz | exact ha | exact hb | exact hf | omega), (by first | exact hsz | exact ha | exact hb | exact hf | omega), (by first | exact hsz | exact ha | exact hb | exact hf | omega), hb2, trivial⟩ (by first | (rw [hdone hb1]; exact Says.refl _) | (rw [hbad hb1 hb2]; exact says_tupnil _ _)) hsim
      · skip
        refine go_head (UV_ok ta tb f) rfl rfl (k' := loopAt Tryd.f33 0) (s' := mk 0 26 [(4, .own 0), (5, .d (.raw (.string (tb))))] [(0, .row 9 1 (r.length + (1 : Nat)) (fun j => if j < r.length then strEl r j else segD false (1 : Nat) (splice (List.map (fun j => (List.map D.raw (Value.string (ByteArray.mk #[])).cells.toList).getD (j % (1 : Nat)) default) (List.range (1 : Nat))) (0 : Nat) (D.raw (Value.string ta)).cells) (j - r.length)))]) (cs := [((!rest.toList == (ByteArray.mk #[]).toList) = true), (rest.size ≤ (1073741824 : Nat)), (ta = (takeM rest).fst), (tb = (takeM rest).snd.fst), (f = (takeM rest).snd.snd), ((f != (0 : Int)) = false), (r.length + (1 : Nat) ≤ (9223372036854775807 : Nat) ∧ (r.length + (1 : Nat)) * (16 : Nat) ≤ (140737488355328 : Nat))]) [true, false] [4,5] (by kernel_rfl) (by kernel_rfl) ⟨hb1, (by first | exact hsz | exact ha | exact hb | exact hf | omega), (by first | exact hsz | exact ha | exact hb | exact hf | omega), (by first | exact hsz | exact ha | exact hb | exact hf | omega), (by first | exact hsz | exact ha | exact hb | exact hf | omega), hb2, (by first | exact hsz | exact ha | exact hb | exact hf | omega), trivial⟩ hsim fun E a w hsim => ?_
        (
          obtain ⟨E2, hs2⟩ := (says_rowTo (k := 0) rfl (r ++ [ta]).length (strEl (r ++ [ta])) hlen (fun j hj => by
            by_cases hjr : j < r.length
            · exact (if_pos hjr).trans (hlo j hjr)
            · obtain rfl : j = r.length := by omega
              rw [hh0]
              exact (if_neg hjr).trans (by rw [Nat.sub_self]; rfl))).out E _ w hsim
          exact ih hb1 hb2 E2 _ w hs2)
    · skip
      exact go_says (UV_ok ta tb f) rfl rfl Tryd.func33 (sr' := ⟨0, [.tup [.d (.list 1 (r.length) (strEl r)), .d (.raw (.int .i64 ((0 : Int))))]], []⟩) (cs := [((!rest.toList == (ByteArray.mk #[]).toList) = false)]) [false] true (by kernel_rfl) (by kernel_rfl) ⟨hb1, trivial⟩ (by first | (rw [hdone hb1]; exact Says.refl _) | (rw [hbad hb1 hb2]; exact says_tupnil _ _)) hsim
theorem unpackR_ok (s : ByteArray) (hs : s.size ≤ 1073741824) : Eng.Spec Tryd.prog (fun _ => none) 33 [.d (.raw (.string s))] [] (.tup [.d (.list 1 (unpR s).1.length (strEl (unpR s).1)), .d (.raw (.int .i64 (unpR s).2))]) [] := by
  refine spec_fn Tryd.func33 rfl fun {w N E e} hsim => ?_
  let ta : ByteArray := ByteArray.empty
  let tb : ByteArray := ByteArray.empty
  let f : Int := 0
  refine go_head (UV_ok ta tb f) rfl rfl (k' := loopAt Tryd.f33 0) (s' := mk 0 26 [(4, .d (.raw (Value.slice none (0 : Nat) (0 : Nat)))), (5, .d (.raw (.string (s))))] []) (cs := []) [] [4,5] (by kernel_rfl) (by kernel_rfl) trivial hsim fun E a w hsim => ?_
  obtain ⟨E2, hs2⟩ := hsim.nilRow (t := 4) rfl 9 1 (strEl [])
  exact un_go s hs s.size [] s (Nat.le_refl _) (by simp) (by simp) E2 _ w hs2
end Go.Nest
