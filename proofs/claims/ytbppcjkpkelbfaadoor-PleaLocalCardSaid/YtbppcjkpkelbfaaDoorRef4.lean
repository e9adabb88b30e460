/-
  Contracts of given functions, plain laws. No condition.
-/
import Derived.Test.YtbppcjkpkelbfaaDoorPrfG
import Derived.Test.YtbppcjkpkelbfaaDoorRefI
import Derived.Test.YtbppcjkpkelbfaaDoorProg
import Derived.Test.YtbppcjkpkelbfaaDoorRowS
import Derived.Test.YtbppcjkpkelbfaaDoorRowK
import Derived.Test.YtbppcjkpkelbfaaDoorBla9
namespace Go.Bla
open Go Go.Eng Go.Proofs
set_option maxRecDepth 100000
set_option maxHeartbeats 4000000
theorem rh0 : ∀ n, n ≤ 32 → 1795745383#32 ^^^ BitVec.ofNat 32 (256 * n + 32) = 0x6A09E667#32 ^^^ (0x01010020#32 ^^^ BitVec.ofNat 32 (n * 256)) := by decide
theorem rh0_word (n : Nat) (hn : n ≤ 32) : IntKind.i64.wrap (((BitVec.ofInt (64 : Nat) (IntKind.i64.wrap ((1795745383 : Nat) : Int)) ^^^ BitVec.ofInt (64 : Nat) (IntKind.i64.wrap (IntKind.i64.wrap ((256 : Int) * (n : Int)) + (32 : Int)))).toNat : Nat) : Int) = ((0x6A09E667#32 ^^^ (0x01010020#32 ^^^ BitVec.ofNat 32 (n * 256))).toNat : Int) := by
 have e1 : IntKind.i64.wrap (IntKind.i64.wrap ((256 : Int) * (n : Int)) + (32 : Int)) = ((BitVec.ofNat 32 (256 * n + 32)).toNat : Int) := by
  rw [wrap_i64 ((256 : Int) * (n : Int)) (by omega), wrap_i64 _ (by omega), BitVec.toNat_ofNat]; omega
 have e2 : IntKind.i64.wrap ((1795745383 : Nat) : Int) = ((1795745383#32).toNat : Int) := rfl
 rw [e1, e2, xor64, rh0 n hn]
theorem rs_pad {w0 : World} {N : Nat → Prop} {E0 : Env} (key text : ByteArray) (hk : key.size ≤ 32) (ht : text.size ≤ 140737488351232) : ∀ (d n : Nat), n + d = 64 * blksM (cntM key text) → cntM key text ≤ n → ∀ (E : Env) (a : Act) (w : World), Sim (cx Tryd.prog gl w0 N E0 []) E (ss1 key n (cntM key text) (msgF key text)) a w →
  Goes Tryd.prog 53 (loopAt Tryd.f53 1) (RSpec (cx Tryd.prog gl w0 N E0 []) ⟨0, [.tup [.d (.raw (.string (rsumM key text))), .d (I 0)]], []⟩) a w := by
 intro d
 have hcb : cntM key text ≤ 64 + text.size := by unfold cntM; split <;> omega
 induction d with
 | zero =>
  intro n hn hc E a w hsim
  have h0 : n ≠ 0 ∧ n % 64 = 0 := by
    unfold blksM at hn
    split at hn <;> omega
  have hnb : n < 140737488351232 + 200 := by
    unfold blksM at hn
    split at hn <;> omega
  have g1 : ((n : Int) == 0) = false := by rw [beq_eq_false_iff_ne]; omega
  have g2 : ((n : Int).tmod 64 != 0) = false := by rw [Int.tmod_eq_emod_of_nonneg (by omega), bne_eq_false_iff_eq]; omega
  have hhl : (h0M key.size).length = 8 := by simp [h0M, ivM]
  have hfin := fun E a w => rs_loop2 (w0 := w0) (N := N) (E0 := E0) (msgF key text) (msgF_lt key text) n (cntM key text) (by omega) (by omega) (blksM (cntM key text)) 0 (h0M key.size) hhl (by omega) E a w
  have en : n = 64 * blksM (cntM key text) := by omega
  have er : rsumM key text = outM (rgoM (msgF key text) n (cntM key text) (blksM (cntM key text)) 0 (h0M key.size)) := by unfold rsumM; rw [en]
  rw [er]
  generalize msgF key text = f at *
  generalize hcc : ((cntM key text : Nat) : Int) = c at *
  rcases bd ((↑n : Int) == (0 : Int)) with hb1 | hb1
  ·
   refine gh Q6_ok (k' := loopAt Tryd.f53 1) (s' := mk 0 108 [(0, vS key), (6, .own 0), (8, vI c)] [(0, .row 5 1 (n + 1) (fun j => if j < n then u8 f j else segD false 1 (splice (List.map (fun j => (List.map D.raw (Value.int IntKind.u8 (0 : Int)).cells.toList).getD (j % 1) default) (List.range 1)) 0 (D.raw (Value.int IntKind.u8 (0 : Int))).cells) (j - n)))]) (cs := [_, (n + 1 ≤ 9223372036854775807 ∧ (n + 1) * 1 ≤ 140737488355328)]) [true] [0,6,8,9,10] ⟨hb1, (by first | decide | exact absurd hb1 (by rw [g1]; decide) | exact absurd hb2 (by rw [g2]; decide)), trivial⟩ hsim fun E a w hsim => ?_
   first | exact absurd hb1 (by rw [g1]; decide) | exact absurd hb2 (by rw [g2]; decide)
  ·
   rcases bd ((↑n : Int).tmod (64 : Int) != (0 : Int)) with hb2 | hb2
   ·
    refine gh Q6_ok (k' := loopAt Tryd.f53 1) (s' := mk 0 108 [(0, vS key), (6, .own 0), (8, vI c)] [(0, .row 5 1 (n + 1) (fun j => if j < n then u8 f j else segD false 1 (splice (List.map (fun j => (List.map D.raw (Value.int IntKind.u8 (0 : Int)).cells.toList).getD (j % 1) default) (List.range 1)) 0 (D.raw (Value.int IntKind.u8 (0 : Int))).cells) (j - n)))]) (cs := [_, (Nz 64), _, (n + 1 ≤ 9223372036854775807 ∧ (n + 1) * 1 ≤ 140737488355328)]) [false, true] [0,6,8,9,10] ⟨hb1, (by decide), hb2, (by first | decide | exact absurd hb1 (by rw [g1]; decide) | exact absurd hb2 (by rw [g2]; decide)), trivial⟩ hsim fun E a w hsim => ?_
    first | exact absurd hb1 (by rw [g1]; decide) | exact absurd hb2 (by rw [g2]; decide)
   ·
    have q0_ : ((0 : Nat) < (8 : Nat)) := (by first | decide | exact absurd hb1 (by rw [g1]; decide) | exact absurd hb2 (by rw [g2]; decide))
    refine gh Q6_ok (k' := loopAt Tryd.f53 2) (s' := mk 0 108 [(0, vS key), (6, .own 0), (8, vI c), (9, .own 1), (10, vI 0)] [(0, .row 5 1 n (u8 f)), (1, .row 3 1 8 (fun j => mrg (j.beq 0) (rI (IntKind.i64.wrap (↑(BitVec.ofInt 64 (IntKind.i64.wrap (↑1795745383 : Int)) ^^^ BitVec.ofInt 64 (IntKind.i64.wrap (IntKind.i64.wrap ((256 : Int) * (↑key.size : Int)) + 32))).toNat : Int))) (wel ivM j)))]) (cs := ((fun (c0 : Prop) => [_, (Nz 64), _, (Ix 0 8), c0, (Ix 0 8), c0]) _)) [false, false] [0,6,8,9,10] ⟨hb1, (by decide), hb2, (by decide), q0_, (by decide), q0_, trivial⟩ hsim fun E a w hsim => ?_
    obtain ⟨E2, hs⟩ := hsim.rowEq (k := 1) rfl (wel (h0M key.size)) (by
      intro j hj
      match j, hj with | 1, _ | 2, _ | 3, _ | 4, _ | 5, _ | 6, _ | 7, _ => rfl | 0, _ => exact congrArg I (rh0_word key.size hk) | j + 8, h => exact absurd h (by omega))
    obtain ⟨E3, hs3⟩ := (hs.freeze fun _ => true).keep [6, 8, 9, 10]
    exact hfin E3 a w (hs3.tell (by kernel_rfl))
 | succ d ih =>
  intro n hn hc E a w hsim
  have h0 : n = 0 ∨ n % 64 ≠ 0 := by
    unfold blksM at hn
    split at hn <;> omega
  have hnb : n < 140737488351232 + 200 := by
    unfold blksM at hn
    split at hn <;> omega
  have ih := fun E a w hs => ih (n + 1) (by omega) (by omega) E a w hs
  have g3 : ((n : Int) == 0) = false → ((n : Int).tmod 64 != 0) = false → False := fun h1 h2 => by
    rw [beq_eq_false_iff_ne] at h1
    rw [Int.tmod_eq_emod_of_nonneg (by omega), bne_eq_false_iff_eq] at h2
    omega
  have hz : msgF key text n = 0 := by
    unfold cntM at hc
    unfold msgF
    split
    · rename_i e; rw [if_pos e] at hc; exact byteAt_out _ _ (by omega)
    · rename_i e; rw [if_neg e] at hc; rw [if_neg (by omega)]; exact byteAt_out _ _ (by omega)
  generalize msgF key text = f at *
  generalize hcc : ((cntM key text : Nat) : Int) = c at *
  rcases bd ((↑n : Int) == (0 : Int)) with hb1 | hb1
  ·
   refine gh Q6_ok (k' := loopAt Tryd.f53 1) (s' := mk 0 108 [(0, vS key), (6, .own 0), (8, vI c)] [(0, .row 5 1 (n + 1) (fun j => if j < n then u8 f j else segD false 1 (splice (List.map (fun j => (List.map D.raw (Value.int IntKind.u8 (0 : Int)).cells.toList).getD (j % 1) default) (List.range 1)) 0 (D.raw (Value.int IntKind.u8 (0 : Int))).cells) (j - n)))]) (cs := [_, (n + 1 ≤ 9223372036854775807 ∧ (n + 1) * 1 ≤ 140737488355328)]) [true] [0,6,8,9,10] ⟨hb1, (by first | decide | omega | exact (g3 hb1 hb2).elim), trivial⟩ hsim fun E a w hsim => ?_
   obtain ⟨E2, hs⟩ := hsim.rowEq (k := 0) rfl (u8 f) (by
     intro j hj
     try simp only
     split
     ·
      rfl
     ·
      have e : j = n := by omega
      subst e
      rw [Nat.sub_self]
      unfold u8; rw [hz]; rfl)
   exact ih E2 a w (hs.tell (by kernel_rfl))
  ·
   rcases bd ((↑n : Int).tmod (64 : Int) != (0 : Int)) with hb2 | hb2
   ·
    refine gh Q6_ok (k' := loopAt Tryd.f53 1) (s' := mk 0 108 [(0, vS key), (6, .own 0), (8, vI c)] [(0, .row 5 1 (n + 1) (fun j => if j < n then u8 f j else segD false 1 (splice (List.map (fun j => (List.map D.raw (Value.int IntKind.u8 (0 : Int)).cells.toList).getD (j % 1) default) (List.range 1)) 0 (D.raw (Value.int IntKind.u8 (0 : Int))).cells) (j - n)))]) (cs := [_, (Nz 64), _, (n + 1 ≤ 9223372036854775807 ∧ (n + 1) * 1 ≤ 140737488355328)]) [false, true] [0,6,8,9,10] ⟨hb1, (by decide), hb2, (by first | decide | omega | exact (g3 hb1 hb2).elim), trivial⟩ hsim fun E a w hsim => ?_
    obtain ⟨E2, hs⟩ := hsim.rowEq (k := 0) rfl (u8 f) (by
      intro j hj
      try simp only
      split
      ·
       rfl
      ·
       have e : j = n := by omega
       subst e
       rw [Nat.sub_self]
       unfold u8; rw [hz]; rfl)
    exact ih E2 a w (hs.tell (by kernel_rfl))
   ·
    have q0_ : ((0 : Nat) < (8 : Nat)) := (by first | decide | omega | exact (g3 hb1 hb2).elim)
    refine gh Q6_ok (k' := loopAt Tryd.f53 2) (s' := mk 0 108 [(0, vS key), (6, .own 0), (8, vI c), (9, .own 1), (10, vI 0)] [(0, .row 5 1 n (u8 f)), (1, .row 3 1 8 (fun j => mrg (j.beq 0) (rI (IntKind.i64.wrap (↑(BitVec.ofInt 64 (IntKind.i64.wrap (↑1795745383 : Int)) ^^^ BitVec.ofInt 64 (IntKind.i64.wrap (IntKind.i64.wrap ((256 : Int) * (↑key.size : Int)) + 32))).toNat : Int))) (wel ivM j)))]) (cs := ((fun (c0 : Prop) => [_, (Nz 64), _, (Ix 0 8), c0, (Ix 0 8), c0]) _)) [false, false] [0,6,8,9,10] ⟨hb1, (by decide), hb2, (by decide), q0_, (by decide), q0_, trivial⟩ hsim fun E a w hsim => ?_
    exact (g3 hb1 hb2).elim
theorem rs_key {w0 : World} {N : Nat → Prop} {E0 : Env} (key text : ByteArray) (h0 : key.size ≠ 0) (hk : key.size ≤ 32) (ht : text.size ≤ 140737488351232) : ∀ (d k : Nat), k + d = key.size → ∀ (E : Env) (a : Act) (w : World), Sim (cx Tryd.prog gl w0 N E0 []) E (ss0 key text k (fun j => if j < k then byteAt key j else 0)) a w →
  Goes Tryd.prog 53 (loopAt Tryd.f53 0) (RSpec (cx Tryd.prog gl w0 N E0 []) ⟨0, [.tup [.d (.raw (.string (rsumM key text))), .d (I 0)]], []⟩) a w := by
 intro d
 induction d with
 | zero =>
  intro k hkd E a w hsim
  have hfin := fun E a w => rs_pad (w0 := w0) (N := N) (E0 := E0) key text hk ht (64 * blksM (cntM key text) - (64 + text.size)) (64 + text.size) (by unfold cntM blksM; rw [if_neg h0]; split <;> omega) (by unfold cntM; rw [if_neg h0]; omega) E a w
  have hc : cntM key text = 64 + text.size := by unfold cntM; rw [if_neg h0]
  rw [hc] at hfin
  have hd : ∀ i : Int, i = k → decide (i < (key.size : Int)) = false := fun i hi => decide_eq_false (by omega)
  generalize hff : (fun j => if j < k then byteAt key j else 0) = f at hsim
  have hf : ∀ j, j < 64 → f j = byteAt key j := fun j hj => by
    rw [← hff]
    show (if j < k then byteAt key j else 0) = _
    split
    · rfl
    · rw [byteAt_out _ _ (by omega)]
  generalize hi : (k : Int) = i at hsim
  have hd := hd i hi.symm
  rcases bd (decide (i < (↑key.size : Int))) with hb1 | hb1
  ·
   exact absurd hb1 (by rw [hd]; decide)
  ·
   refine gh Q6_ok (k' := loopAt Tryd.f53 1) (s' := mk 0 108 [(0, vS key), (1, vS text), (6, .own 0), (7, vI i), (8, vI ((↑(64 + text.size) : Int)))] [(0, .row 5 1 (64 + text.size) (fun j => if j < 64 then u8 f j else D.raw (Value.int IntKind.u8 (byteAt text (j - 64)))))]) (cs := [_, (64 + text.size ≤ 9223372036854775807 ∧ (64 + text.size) * 1 ≤ 140737488355328)]) [false] [0,1,6,7,8] ⟨hb1, (by first | omega | exact absurd hb1 (by rw [hd]; decide)), trivial⟩ hsim fun E a w hsim => ?_
   obtain ⟨E2, hs⟩ := hsim.rowEq (k := 0) rfl (u8 (msgF key text)) (by
     intro j hj
     unfold u8 msgF
     rw [if_neg h0]
     split
     ·
      rename_i hlt; rw [hf j hlt]
     ·
      rfl)
   obtain ⟨E3, hs3⟩ := hs.keep [0, 6, 8]
   exact hfin E3 a w (hs3.tell (by kernel_rfl))
 | succ d ih =>
  intro k hkd E a w hsim
  have ih := fun E a w hs => ih (k + 1) (by omega) E a w hs
  have hd : ∀ i : Int, i = k → decide (i < (key.size : Int)) = true := fun i hi => decide_eq_true (by omega)
  have hw : ∀ i : Int, i = k → IntKind.i64.wrap (i + 1) = ((k + 1 : Nat) : Int) := fun i hi => by rw [wrap_i64 _ (by omega)]; omega
  have hf : ∀ j, (if j < k + 1 then byteAt key j else 0) = if j = k then byteAt key k else if j < k then byteAt key j else 0 := fun j => by
    by_cases e : j = k
    · subst e; rw [if_pos (by omega), if_pos rfl]
    ·
      rw [if_neg e]
      by_cases e2 : j < k
      · rw [if_pos (by omega), if_pos e2]
      · rw [if_neg (by omega), if_neg e2]
  generalize hg : (fun j => if j < k + 1 then byteAt key j else 0) = g at ih
  have hf : ∀ j, g j = if j = k then byteAt key k else if j < k then byteAt key j else 0 := fun j => by rw [← hg]; exact hf j
  generalize hff : (fun j => if j < k then byteAt key j else 0) = f at hsim
  have hf : ∀ j, g j = if j = k then byteAt key k else f j := fun j => by rw [hf j, ← hff]
  generalize hi : (k : Int) = i at hsim
  have hd := hd i hi.symm
  have hw := hw i hi.symm
  have hik : i.toNat = k := by omega
  rcases bd (decide (i < (↑key.size : Int))) with hb1 | hb1
  ·
   refine gh Q6_ok (k' := loopAt Tryd.f53 0) (s' := mk 0 108 [(0, vS key), (1, vS text), (6, .own 0), (7, vI (IntKind.i64.wrap (i + 1)))] [(0, .row 5 1 64 (fun j => mrg (j.beq i.toNat) (D.raw (Value.int IntKind.u8 (byteAt key i.toNat))) (u8 f j)))]) (cs := [_, ((0 : Int) ≤ i ∧ i < (↑key.size : Int)), ((0 : Int) ≤ i ∧ i < (64 : Int)), (i.toNat < 64)]) [true] [0,1,6,7,8] ⟨hb1, (by first | omega | exact absurd hb1 (by rw [hd]; decide)), (by first | omega | exact absurd hb1 (by rw [hd]; decide)), (by first | omega | exact absurd hb1 (by rw [hd]; decide)), trivial⟩ hsim fun E a w hsim => ?_
   obtain ⟨E2, hs⟩ := hsim.rowEq (k := 0) rfl (u8 g) (by
     intro j hj
     try simp only
     rw [mrg_eq, hik]
     simp only [Nat.beq_eq]
     unfold u8
     rw [hf j]
     split <;> rfl)
   refine ih E2 a w (hs.tell ?_)
   rw [hw]; kernel_rfl
  ·
   exact absurd hb1 (by rw [hd]; decide)
theorem rsum_ok (key text : ByteArray) (ht : text.size ≤ 140737488351232) : Eng.Spec Tryd.prog gl 53 [.d (.raw (.string key)), .d (.raw (.string text))] [] (.tup [.d (.raw (.string (if key.size ≤ 32 then rsumM key text else ByteArray.empty))), .d (I (if key.size ≤ 32 then 0 else 2))]) [] := by
 refine spec_fn Tryd.func53 rfl fun {w0 N E0 a} hsim => ?_
 have hw : ∀ (p : Bool), decide ((key.size : Int) > 32) = p → (p = true → ¬ key.size ≤ 32) ∧ (p = false → key.size ≤ 32) := fun p hp => by
   subst hp; simp only [decide_eq_true_eq, decide_eq_false_iff_not]; omega
 have hz : ∀ (p : Bool), (!(key.toList == ByteArray.empty.toList)) = p → (p = true → key.size ≠ 0) ∧ (p = false → key.size = 0) := fun p hp => by
   subst hp; rw [beq_empty]
   simp only [Bool.not_eq_true', beq_eq_false_iff_ne, Bool.not_eq_false', beq_iff_eq]
   exact ⟨id, id⟩
 have k1 : key.size ≤ 32 → key.size ≠ 0 → ∀ E1 a1 w1, Sim (cx Tryd.prog gl w0 N E0 []) E1 (ss0 key text 0 fun _ => 0) a1 w1 → Goes Tryd.prog 53 (loopAt Tryd.f53 0) (RSpec (cx Tryd.prog gl w0 N E0 []) ⟨0, [.tup [.d (.raw (.string (if key.size ≤ 32 then rsumM key text else ByteArray.empty))), .d (I (if key.size ≤ 32 then 0 else 2))]], []⟩) a1 w1 := fun h1 h2 E1 a1 w1 hs => by
   rw [if_pos h1, if_pos h1]
   have e : (fun j : Nat => if j < 0 then byteAt key j else 0) = fun _ => 0 := by funext j; rw [if_neg (by omega)]
   refine rs_key key text h2 h1 ht key.size 0 (by omega) E1 a1 w1 ?_
   rw [e]; exact hs
 have k2 : key.size ≤ 32 → key.size = 0 → ∀ E1 a1 w1, Sim (cx Tryd.prog gl w0 N E0 []) E1 (ss1 key text.size text.size (msgF key text)) a1 w1 → Goes Tryd.prog 53 (loopAt Tryd.f53 1) (RSpec (cx Tryd.prog gl w0 N E0 []) ⟨0, [.tup [.d (.raw (.string (if key.size ≤ 32 then rsumM key text else ByteArray.empty))), .d (I (if key.size ≤ 32 then 0 else 2))]], []⟩) a1 w1 := fun h1 h2 E1 a1 w1 hs => by
   rw [if_pos h1, if_pos h1]
   have hc : cntM key text = text.size := by unfold cntM; rw [if_pos h2]; omega
   refine rs_pad key text h1 ht (64 * blksM (cntM key text) - text.size) text.size (by rw [hc]; unfold blksM; split <;> omega) (by omega) E1 a1 w1 ?_
   rw [hc]; exact hs
 rcases bd (decide ((↑key.size : Int) > (32 : Int))) with hb1 | hb1
 ·
  exact gr Q6_ok Tryd.func53 (sr' := ⟨0, [.tup [vS (ByteArray.mk #[]), vI 2]], []⟩) (cs := [_]) [true] true ⟨hb1, trivial⟩ (by have h1 := (hw _ hb1).1 rfl; rw [if_neg h1, if_neg h1]; rfl) hsim
 ·
  rcases bd (!key.toList == (ByteArray.mk #[]).toList) with hb2 | hb2
  ·
   refine gh Q6_ok (k' := loopAt Tryd.f53 0) (s' := mk 0 108 [(0, vS key), (1, vS text), (6, .own 0), (7, vI 0)] [(0, .row 5 1 64 (fun x => D.raw (Value.int IntKind.u8 (0 : Int))))]) (cs := [_, _, ((0 : Int) ≤ (64 : Int) ∧ (64 : Int) ≤ (64 : Int) ∧ (64 : Int) ≤ (281474976710656 : Int) ∧ (64 : Int) ≤ (9223372036854775807 : Int))]) [false, true] [0,1,6,7,8] ⟨hb1, hb2, (by first | decide | omega), trivial⟩ hsim fun E a w hsim => ?_
   exact k1 ((hw _ hb1).2 rfl) ((hz _ hb2).1 rfl) E a w (hsim.tell (by kernel_rfl))
  ·
   refine gh Q6_ok (k' := loopAt Tryd.f53 1) (s' := mk 0 108 [(0, vS key), (1, vS text), (6, .own 0), (8, vI ((↑(0 + text.size) : Int)))] [(0, .row 5 1 (0 + text.size) (fun j => if j < 0 then default else D.raw (Value.int IntKind.u8 (byteAt text (j - 0)))))]) (cs := [_, _, (0 + text.size ≤ 9223372036854775807 ∧ (0 + text.size) * 1 ≤ 140737488355328)]) [false, false] [0,1,6,7,8] ⟨hb1, hb2, (by first | decide | omega), trivial⟩ hsim fun E a w hsim => ?_
   have h2 := (hz _ hb2).2 rfl
   obtain ⟨E2, hs⟩ := hsim.rowEq (k := 0) rfl (u8 (msgF key text)) (by
    intro j hj
    try simp only
    unfold u8 msgF
    rw [if_pos h2, if_neg (by omega)]; rfl)
   obtain ⟨E3, hs3⟩ := hs.keep [0, 6, 8]
   have e0 : 0 + text.size = text.size := Nat.zero_add _
   rw [e0] at hs3
   exact k2 ((hw _ hb1).2 rfl) h2 E3 a w (hs3.tell (by kernel_rfl))
end Go.Bla

namespace Go.Bla
open Go Go.Eng
theorem tadd_small (t n : Nat) (h : t + n < 9223372036854775808) (hn : n < 9223372036854775808) : tadd (t : Int) (n : Int) = t + n := by
 unfold tadd
 rw [wrap_u64, wrap_u64]; omega
def nblk (first : Bool) (c : Nat) : Nat := if c = 0 then (if first then 1 else 0) else (c + 63) / 64
theorem nblk_false (c : Nat) : nblk false c = (c + 63) / 64 := by
 unfold nblk
 split
 · rename_i h; rw [h]; rfl
 · rfl
theorem go_eq (f : Nat → Int) : ∀ (fuel : Nat) (first : Bool) (rest : ByteArray) (h : List W) (i : Nat), rest.size + (if first then 1 else 0) < fuel → i + rest.size < 4611686018427387904 → (∀ j, f (i + j) = byteAt rest j) →
  goM fuel first rest h i = rgoM f (i + 64 * nblk first rest.size) (i + rest.size) (nblk first rest.size) i h
 | 0, first, rest, h, i, hf, _, _ => by omega
 | fuel + 1, first, rest, h, i, hf, hi, hb => by
  have hmin : Nat.min rest.size 64 = min rest.size 64 := rfl
  have hext : (rest.extract (Nat.min rest.size 64) rest.size).size = rest.size - min rest.size 64 := by
   rw [size_ba, extract_ba, List.length_take, List.length_drop, ← size_ba]; omega
  rw [goM]
  by_cases hc : (first || !(rest.toList == ByteArray.empty.toList)) = true
  ·
   rw [if_pos hc]
   simp only
   have ht : tadd (i : Int) ((Nat.min rest.size 64 : Nat) : Int) = i + min rest.size 64 := by rw [hmin]; exact tadd_small _ _ (by omega) (by omega)
   rw [ht]
   have hmw : mW (byteAt rest) = mW fun j => f (i + j) := mW_congr fun j _ => (hb j).symm
   rw [hmw]
   by_cases hs : rest.size ≤ 64
   ·
    -- the last block
    have he : (rest.extract (Nat.min rest.size 64) rest.size).size = 0 := by rw [hext]; omega
    have hl : ((rest.extract (Nat.min rest.size 64) rest.size).toList == ByteArray.empty.toList) = true := by rw [beq_empty, he]; rfl
    rw [hl]
    have hn : nblk first rest.size = 1 := by
     unfold nblk
     split
     ·
      rename_i h0
      rw [beq_empty, h0] at hc
      have : first = true := by simpa using hc
      rw [if_pos this]
     · omega
    rw [hn]
    show _ = rgoM f _ _ (0 + 1) i h
    rw [rgoM, rgoM, if_pos rfl, decide_eq_true rfl]
    have hk : i + min rest.size 64 = i + rest.size := by omega
    rw [hk]
    cases fuel with
    | zero =>
     rw [beq_empty] at hc
     cases first with
     | true => simp only [if_true] at hf; omega
     | false =>
      have h1 : rest.size = 0 := by simp only [Bool.false_eq_true, if_false] at hf; omega
      rw [h1] at hc; simp at hc
    | succ fuel =>
     rw [goM, if_neg (by rw [beq_empty, he]; decide)]
   ·
    have hn : nblk first rest.size = nblk false (rest.size - 64) + 1 := by
     unfold nblk
     rw [if_neg (by omega)]
     split
     · omega
     · omega
    have he : (rest.extract (Nat.min rest.size 64) rest.size).size = rest.size - 64 := by rw [hext]; omega
    have hl : ((rest.extract (Nat.min rest.size 64) rest.size).toList == ByteArray.empty.toList) = false := by rw [beq_empty, he, beq_eq_false_iff_ne]; omega
    rw [hl, hn]
    have hpos : 0 < nblk false (rest.size - 64) := by unfold nblk; rw [if_neg (by omega)]; omega
    rw [rgoM, if_neg (by omega), decide_eq_false (by omega)]
    have hk : i + min rest.size 64 = i + 64 := by omega
    rw [hk]
    have ih := go_eq f fuel false (rest.extract (Nat.min rest.size 64) rest.size) (blockM h (mW fun j => f (i + j)) (BitVec.ofNat 32 (i + 64)) (BitVec.ofNat 32 ((i + 64) / 4294967296)) false) (i + 64)
     (by rw [he]; split at hf <;> simp <;> omega) (by rw [he]; omega) (fun j => by
      rw [Nat.add_assoc, hb]
      unfold byteAt
      rw [extract_ba, hmin]
      have e : min rest.size 64 = 64 := by omega
      rw [e, List.getD_eq_getElem?_getD, List.getD_eq_getElem?_getD, List.getElem?_take]
      split
      · rw [List.getElem?_drop]
      ·
       rename_i hj
       rw [List.getElem?_eq_none (by rw [← size_ba]; omega)])
    rw [he] at ih
    rw [ih]
    have e1 : i + 64 + 64 * nblk false (rest.size - 64) = i + 64 * (nblk false (rest.size - 64) + 1) := by omega
    have e2 : i + 64 + (rest.size - 64) = i + rest.size := by omega
    rw [e1, e2]
  ·
   rw [if_neg hc]
   have h0 : first = false ∧ rest.size = 0 := by
    rw [beq_empty] at hc
    simpa using hc
   have hn : nblk first rest.size = 0 := by unfold nblk; rw [h0.1, h0.2]; rfl
   rw [hn, rgoM]
theorem sum_eq (key text : ByteArray) (hk : key.size ≤ 32) (ht : text.size ≤ 140737488351232) : rsumM key text = sumM key text := by
 unfold rsumM sumM
 simp only
 by_cases h0 : key.size = 0
 ·
  rw [if_pos (by rw [beq_empty, h0]; rfl)]
  have hc : cntM key text = text.size := by unfold cntM; rw [if_pos h0]; omega
  have := go_eq (msgF key text) (text.size + 2) true text (h0M key.size) 0 (by simp) (by omega) (fun j => by unfold msgF; rw [if_pos h0, Nat.zero_add])
  have hb : blksM (cntM key text) = nblk true text.size := by rw [hc]; rfl
  rw [hb, hc]
  rw [Nat.zero_add, Nat.zero_add] at this
  have e : ((0 : Nat) : Int) = 0 := rfl
  rw [e] at this
  rw [this]
 ·
  rw [if_neg (by rw [beq_empty, beq_iff_eq]; exact h0)]
  have hc : cntM key text = 64 + text.size := by unfold cntM; rw [if_neg h0]
  have ht64 : tadd 0 64 = 64 := by rfl
  rw [ht64]
  have hmw : mW (byteAt key) = mW fun j => msgF key text (0 + j) := mW_congr fun j hj => by unfold msgF; rw [if_neg h0, Nat.zero_add, if_pos hj]
  have hb : blksM (cntM key text) = nblk false text.size + 1 := by
   rw [hc, nblk_false]; unfold blksM; rw [if_neg (by omega)]; omega
  have hlast : (text.toList == ByteArray.empty.toList) = decide (0 + 64 = 64 * (nblk false text.size + 1)) := by
   rw [beq_empty, Bool.eq_iff_iff, beq_iff_eq, decide_eq_true_eq, nblk_false]; omega
  rw [hb, hc, rgoM, hmw, hlast]
  have := go_eq (msgF key text) (text.size + 2) false text (blockM (h0M key.size) (mW fun j => msgF key text (0 + j)) (BitVec.ofNat 32 64) (BitVec.ofNat 32 (64 / 4294967296)) (decide (0 + 64 = 64 * (nblk false text.size + 1)))) 64 (by simp) (by omega) (fun j => by unfold msgF; rw [if_neg h0, if_neg (by omega), Nat.add_sub_cancel_left])
  rw [this]
  have e1 : (if 0 + 64 = 64 * (nblk false text.size + 1) then 64 + text.size else 0 + 64) = 64 := by
   rw [nblk_false]
   by_cases hz : text.size = 0
   · rw [hz]; rfl
   · rw [if_neg (by omega)]
  rw [e1]
  have e2 : 64 * (nblk false text.size + 1) = 64 + 64 * nblk false text.size := by omega
  rw [e2]
end Go.Bla

namespace Go.Plc
open Go Go.Eng Go.Proofs Go.RowKit
set_option maxRecDepth 100000
set_option maxHeartbeats 4000000
theorem outM_size (h : List Go.Bla.W) : (Go.Bla.outM h).size = 32 := by unfold Go.Bla.outM; rfl
theorem sumM_size (k t : ByteArray) : (Go.Bla.sumM k t).size = 32 := by
 unfold Go.Bla.sumM; simp only; split <;> exact outM_size _
abbrev MoOK (P : Program) (gl : Nat → Option (List D)) (f : FuncId) (mo : Mo) : Prop := ∀ args H r H' cs, mo args H = some (r, H', cs) → Conds cs → Eng.Spec P gl f args H r H'
theorem mSumV_ok (q : ByteArray) : MoOK Tryd.prog Go.Bla.gl 54 (mSumV q) := fun args H ret H' cs h hc => by
 unfold mSumV at h
 split at h
 ·
  cases h
  obtain ⟨rfl, rfl, -⟩ := hc
  exact Go.Bla.sum_ok ByteArray.empty _
 · cases h
theorem mSumRV_ok (q : ByteArray) : MoOK Tryd.prog Go.Bla.gl 53 (mSumV q) := fun args H ret H' cs h hc => by
 unfold mSumV at h
 split at h
 ·
  rename_i k t
  cases h
  obtain ⟨rfl, rfl, ht, -⟩ := hc
  have := Go.Bla.rsum_ok ByteArray.empty t (by omega)
  rw [Go.Bla.sum_eq ByteArray.empty t (by decide) (by omega)] at this
  exact this
 · cases h
theorem X0_ok (q : ByteArray) : OrcOK Tryd.prog (X0 q) := (OrcOK.none _).add _ false _ (mSumV_ok q)
theorem X1_ok (q : ByteArray) : OrcOK Tryd.prog (X1 q) := (OrcOK.none _).add _ false _ (mSumRV_ok q)
theorem plc_bd (key : ByteArray) : 0 ≤ plc key ∧ plc key < 4 := by unfold plc; omega
theorem wrapP {x : Int} (h : -9223372036854775808 ≤ x ∧ x < 9223372036854775808) : IntKind.i64.wrap x = x := by rw [Go.Nest.wrapE]; omega
theorem place_ok (key : ByteArray) (hk : key.size ≤ 1073741824) : Eng.Spec Tryd.prog Go.Bla.gl 34 [.d (.raw (.string (key)))] [] (.d (.raw (.int .i64 (plc key)))) [] := by
 refine spec_fn Tryd.func34 rfl fun {w N E act} hsim => ?_
 obtain ⟨q, hq⟩ : ∃ q, q = Go.Bla.sumM ByteArray.empty key := ⟨_, rfl⟩
 have hz : q.size = 32 := by rw [hq]; exact sumM_size _ _
 have hb := byteAt_lt q 0
 have hr : plc key = (IntKind.i64.wrap (byteAt q 0)).tmod 4 := by unfold plc; rw [← hq, wrapP (by omega), Int.tmod_eq_emod_of_nonneg hb.1]
 exact gr (X0_ok q) Tryd.func34 (sr' := ⟨0, [vI ((wI (byteAt q 0)).tmod (4 : Int))], []⟩) (cs := [(ByteArray.mk #[] = ByteArray.empty), (q = Bla.sumM (ByteArray.mk #[]) key), (key.size ≤ 1073741824), ((0 : Int) ≤ (0 : Int) ∧ (0 : Int) < (↑q.size : Int)), (Nz 4)]) [] true ⟨(by first | rfl | exact hq | exact hk | (rw [hz]; decide) | decide), (by first | rfl | exact hq | exact hk | (rw [hz]; decide) | decide), (by first | rfl | exact hq | exact hk | (rw [hz]; decide) | decide), (by first | rfl | exact hq | exact hk | (rw [hz]; decide) | decide), (by decide), trivial⟩ (by (rw [hr]; rfl)) hsim
theorem placeR_ok (key : ByteArray) (hk : key.size ≤ 1073741824) : Eng.Spec Tryd.prog Go.Bla.gl 33 [.d (.raw (.string (key)))] [] (.d (.raw (.int .i64 (plc key)))) [] := by
 refine spec_fn Tryd.func33 rfl fun {w N E act} hsim => ?_
 obtain ⟨q, hq⟩ : ∃ q, q = Go.Bla.sumM ByteArray.empty key := ⟨_, rfl⟩
 have hz : q.size = 32 := by rw [hq]; exact sumM_size _ _
 have hb := byteAt_lt q 0
 have hr : plc key = (IntKind.i64.wrap (byteAt q 0)).tmod 4 := by unfold plc; rw [← hq, wrapP (by omega), Int.tmod_eq_emod_of_nonneg hb.1]
 exact gr (X1_ok q) Tryd.func33 (sr' := ⟨0, [vI ((wI (byteAt q 0)).tmod (4 : Int))], []⟩) (cs := [(ByteArray.mk #[] = ByteArray.empty), (q = Bla.sumM (ByteArray.mk #[]) key), (key.size ≤ 1073741824), ((0 : Int) ≤ (0 : Int) ∧ (0 : Int) < (↑q.size : Int)), (Nz 4)]) [] true ⟨(by first | rfl | exact hq | exact hk | (rw [hz]; decide) | decide), (by first | rfl | exact hq | exact hk | (rw [hz]; decide) | decide), (by first | rfl | exact hq | exact hk | (rw [hz]; decide) | decide), (by first | rfl | exact hq | exact hk | (rw [hz]; decide) | decide), (by decide), trivial⟩ (by (rw [hr]; rfl)) hsim
end Go.Plc
