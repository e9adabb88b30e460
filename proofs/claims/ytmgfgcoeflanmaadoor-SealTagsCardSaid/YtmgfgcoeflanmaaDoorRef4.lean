/-
  Contracts of given functions, or plain laws that they need. No condition.
-/
import Derived.Test.YtmgfgcoeflanmaaDoorRef3
import Derived.Test.YtmgfgcoeflanmaaDoorProg
namespace Go.Bla
open Go Go.Eng Go.Proofs
set_option linter.unusedVariables false
set_option linter.unusedSimpArgs false
set_option maxRecDepth 100000
set_option maxHeartbeats 4000000
theorem rh0 : ∀ n, n ≤ 32 → 1795745383#32 ^^^ BitVec.ofNat 32 (256 * n + 32) = 0x6A09E667#32 ^^^ (0x01010020#32 ^^^ BitVec.ofNat 32 (n * 256)) := by decide
theorem rh0_word (n : Nat) (hn : n ≤ 32) : IntKind.i64.wrap (((BitVec.ofInt (64 : Nat) (IntKind.i64.wrap ((1795745383 : Nat) : Int)) ^^^ BitVec.ofInt (64 : Nat) (IntKind.i64.wrap (IntKind.i64.wrap ((256 : Int) * (n : Int)) + (32 : Int)))).toNat : Nat) : Int) = ((0x6A09E667#32 ^^^ (0x01010020#32 ^^^ BitVec.ofNat 32 (n * 256))).toNat : Int) := by
  have e1 : IntKind.i64.wrap (IntKind.i64.wrap ((256 : Int) * (n : Int)) + (32 : Int)) = ((BitVec.ofNat 32 (256 * n + 32)).toNat : Int) := by
    rw [wrap_i64 ((256 : Int) * (n : Int)) (by omega), wrap_i64 _ (by omega), BitVec.toNat_ofNat]; omega
  have e2 : IntKind.i64.wrap ((1795745383 : Nat) : Int) = ((1795745383#32).toNat : Int) := rfl
  rw [e1, e2, xor64, rh0 n hn]
theorem rs_pad {w0 : World} {N : Nat → Prop} {E0 : Env} (key text : ByteArray) (hk : key.size ≤ 32) (ht : text.size ≤ 140737488351232) : ∀ (d n : Nat), n + d = 64 * blksM (cntM key text) → cntM key text ≤ n → ∀ (E : Env) (a : Act) (w : World), Sim (cx Tryd.prog gl w0 N E0 []) E (ss1 key n (cntM key text) (msgF key text)) a w →
    Goes Tryd.prog 25 (loopAt Tryd.f25 1) (RSpec (cx Tryd.prog gl w0 N E0 []) ⟨0, [.tup [.d (.raw (.string (rsumM key text))), .d (I 0)]], []⟩) a w := by
  intro d
  have hcb : cntM key text ≤ 64 + text.size := by unfold cntM; split <;> omega
  induction d with
  | zero =>
    intro n hn hc E a w hsim
    have h0 : n ≠ 0 ∧ n % 64 = 0 := by
      unfold blksM at hn
      split at hn <;> omega
    have hnb : n < 140737488351232 + 200 := by
      unfold blksM at hn
      split at hn <;> omega
    have g1 : ((n : Int) == 0) = false := by rw [beq_eq_false_iff_ne]; omega
    have g2 : ((n : Int).tmod 64 != 0) = false := by rw [Int.tmod_eq_emod_of_nonneg (by omega), bne_eq_false_iff_eq]; omega
    have hhl : (h0M key.size).length = 8 := by simp [h0M, ivM]
    have hfin := fun E a w => rs_loop2 (w0 := w0) (N := N) (E0 := E0) (msgF key text) (msgF_lt key text) n (cntM key text) (by omega) (by omega) (blksM (cntM key text)) 0 (h0M key.size) hhl (by omega) E a w
    have en : n = 64 * blksM (cntM key text) := by omega
    have er : rsumM key text = outM (rgoM (msgF key text) n (cntM key text) (blksM (cntM key text)) 0 (h0M key.size)) := by unfold rsumM; rw [en]
    rw [er]
    generalize msgF key text = f at *
    generalize hcc : ((cntM key text : Nat) : Int) = c at *
    rcases Bool.eq_false_or_eq_true ((↑n : Int) == (0 : Int)) with hb1 | hb1
    · skip
      refine go_head Q6_ok rfl rfl (k' := loopAt Tryd.f25 1) (s' := mk 0 108 [(0, .d (.raw (.string (key)))), (6, .own 0), (8, .d (.raw (.int .i64 (c))))] [(0, .row 5 1 (n + (1 : Nat)) (fun j => if j < n then u8 f j else segD false (1 : Nat) (splice (List.map (fun j => (List.map D.raw (Value.int IntKind.u8 (0 : Int)).cells.toList).getD (j % (1 : Nat)) default) (List.range (1 : Nat))) (0 : Nat) (D.raw (Value.int IntKind.u8 (0 : Int))).cells) (j - n)))]) (cs := [(((↑n : Int) == (0 : Int)) = true), (n + (1 : Nat) ≤ (9223372036854775807 : Nat) ∧ (n + (1 : Nat)) * (1 : Nat) ≤ (140737488355328 : Nat))]) [true] [0,6,8,9,10] (by kernel_rfl) (by kernel_rfl) ⟨hb1, (by first | decide | exact absurd hb1 (by rw [g1]; decide) | exact absurd hb2 (by rw [g2]; decide)), trivial⟩ hsim fun E a w hsim => ?_
      first | exact absurd hb1 (by rw [g1]; decide) | exact absurd hb2 (by rw [g2]; decide)
    · skip
      rcases Bool.eq_false_or_eq_true ((↑n : Int).tmod (64 : Int) != (0 : Int)) with hb2 | hb2
      · skip
        refine go_head Q6_ok rfl rfl (k' := loopAt Tryd.f25 1) (s' := mk 0 108 [(0, .d (.raw (.string (key)))), (6, .own 0), (8, .d (.raw (.int .i64 (c))))] [(0, .row 5 1 (n + (1 : Nat)) (fun j => if j < n then u8 f j else segD false (1 : Nat) (splice (List.map (fun j => (List.map D.raw (Value.int IntKind.u8 (0 : Int)).cells.toList).getD (j % (1 : Nat)) default) (List.range (1 : Nat))) (0 : Nat) (D.raw (Value.int IntKind.u8 (0 : Int))).cells) (j - n)))]) (cs := [(((↑n : Int) == (0 : Int)) = false), (Nz 64), (((↑n : Int).tmod (64 : Int) != (0 : Int)) = true), (n + (1 : Nat) ≤ (9223372036854775807 : Nat) ∧ (n + (1 : Nat)) * (1 : Nat) ≤ (140737488355328 : Nat))]) [false, true] [0,6,8,9,10] (by kernel_rfl) (by kernel_rfl) ⟨hb1, (by decide), hb2, (by first | decide | exact absurd hb1 (by rw [g1]; decide) | exact absurd hb2 (by rw [g2]; decide)), trivial⟩ hsim fun E a w hsim => ?_
        first | exact absurd hb1 (by rw [g1]; decide) | exact absurd hb2 (by rw [g2]; decide)
      · skip
        have q0_ : ((0 : Nat) < (8 : Nat)) := (by first | decide | exact absurd hb1 (by rw [g1]; decide) | exact absurd hb2 (by rw [g2]; decide))
        refine go_head Q6_ok rfl rfl (k' := loopAt Tryd.f25 2) (s' := mk 0 108 [(0, .d (.raw (.string (key)))), (6, .own 0), (8, .d (.raw (.int .i64 (c)))), (9, .own 1), (10, .d (.raw (.int .i64 ((0 : Int)))))] [(0, .row 5 1 (n) (u8 f)), (1, .row 3 1 8 (fun j => mrg (j.beq (0 : Nat)) (D.raw (Value.int IntKind.i64 (IntKind.i64.wrap (↑(BitVec.ofInt (64 : Nat) (IntKind.i64.wrap (↑(1795745383 : Nat) : Int)) ^^^ BitVec.ofInt (64 : Nat) (IntKind.i64.wrap (IntKind.i64.wrap ((256 : Int) * (↑key.size : Int)) + (32 : Int)))).toNat : Int)))) (wel ivM j)))]) (cs := ((fun (c0 : Prop) => [(((↑n : Int) == (0 : Int)) = false), (Nz 64), (((↑n : Int).tmod (64 : Int) != (0 : Int)) = false), (Ix 0 8), c0, (Ix 0 8), c0]) ((0 : Nat) < (8 : Nat)))) [false, false] [0,6,8,9,10] (by kernel_rfl) (by kernel_rfl) ⟨hb1, (by decide), hb2, (by decide), q0_, (by decide), q0_, trivial⟩ hsim fun E a w hsim => ?_
        obtain ⟨E2, hs⟩ := hsim.rowEq (k := 1) rfl (wel (h0M key.size)) (by
            intro j hj
            match j, hj with | 1, _ | 2, _ | 3, _ | 4, _ | 5, _ | 6, _ | 7, _ => rfl | 0, _ => exact congrArg I (rh0_word key.size hk) | j + 8, h => exact absurd h (by omega))
        obtain ⟨E3, hs3⟩ := (hs.freeze fun _ => true).keep [6, 8, 9, 10]
        exact hfin E3 a w (hs3.tell (by kernel_rfl))
  | succ d ih =>
    intro n hn hc E a w hsim
    have h0 : n = 0 ∨ n % 64 ≠ 0 := by
      unfold blksM at hn
      split at hn <;> omega
    have hnb : n < 140737488351232 + 200 := by
      unfold blksM at hn
      split at hn <;> omega
    have ih := fun E a w hs => ih (n + 1) (by omega) (by omega) E a w hs
    have g3 : ((n : Int) == 0) = false → ((n : Int).tmod 64 != 0) = false → False := fun h1 h2 => by
      rw [beq_eq_false_iff_ne] at h1
      rw [Int.tmod_eq_emod_of_nonneg (by omega), bne_eq_false_iff_eq] at h2
      omega
    have hz : msgF key text n = 0 := by
      unfold cntM at hc
      unfold msgF
      split
      · rename_i e; rw [if_pos e] at hc; exact byteAt_out _ _ (by omega)
      · rename_i e; rw [if_neg e] at hc; rw [if_neg (by omega)]; exact byteAt_out _ _ (by omega)
    generalize msgF key text = f at *
    generalize hcc : ((cntM key text : Nat) : Int) = c at *
    rcases Bool.eq_false_or_eq_true ((↑n : Int) == (0 : Int)) with hb1 | hb1
    · skip
      refine go_head Q6_ok rfl rfl (k' := loopAt Tryd.f25 1) (s' := mk 0 108 [(0, .d (.raw (.string (key)))), (6, .own 0), (8, .d (.raw (.int .i64 (c))))] [(0, .row 5 1 (n + (1 : Nat)) (fun j => if j < n then u8 f j else segD false (1 : Nat) (splice (List.map (fun j => (List.map D.raw (Value.int IntKind.u8 (0 : Int)).cells.toList).getD (j % (1 : Nat)) default) (List.range (1 : Nat))) (0 : Nat) (D.raw (Value.int IntKind.u8 (0 : Int))).cells) (j - n)))]) (cs := [(((↑n : Int) == (0 : Int)) = true), (n + (1 : Nat) ≤ (9223372036854775807 : Nat) ∧ (n + (1 : Nat)) * (1 : Nat) ≤ (140737488355328 : Nat))]) [true] [0,6,8,9,10] (by kernel_rfl) (by kernel_rfl) ⟨hb1, (by first | decide | omega | exact (g3 hb1 hb2).elim), trivial⟩ hsim fun E a w hsim => ?_
      obtain ⟨E2, hs⟩ := hsim.rowEq (k := 0) rfl (u8 f) (by
          intro j hj
          try simp only
          split
          · rfl
          · have e : j = n := by omega
            subst e
            rw [Nat.sub_self]
            unfold u8; rw [hz]; rfl)
      exact ih E2 a w (hs.tell (by kernel_rfl))
    · skip
      rcases Bool.eq_false_or_eq_true ((↑n : Int).tmod (64 : Int) != (0 : Int)) with hb2 | hb2
      · skip
        refine go_head Q6_ok rfl rfl (k' := loopAt Tryd.f25 1) (s' := mk 0 108 [(0, .d (.raw (.string (key)))), (6, .own 0), (8, .d (.raw (.int .i64 (c))))] [(0, .row 5 1 (n + (1 : Nat)) (fun j => if j < n then u8 f j else segD false (1 : Nat) (splice (List.map (fun j => (List.map D.raw (Value.int IntKind.u8 (0 : Int)).cells.toList).getD (j % (1 : Nat)) default) (List.range (1 : Nat))) (0 : Nat) (D.raw (Value.int IntKind.u8 (0 : Int))).cells) (j - n)))]) (cs := [(((↑n : Int) == (0 : Int)) = false), (Nz 64), (((↑n : Int).tmod (64 : Int) != (0 : Int)) = true), (n + (1 : Nat) ≤ (9223372036854775807 : Nat) ∧ (n + (1 : Nat)) * (1 : Nat) ≤ (140737488355328 : Nat))]) [false, true] [0,6,8,9,10] (by kernel_rfl) (by kernel_rfl) ⟨hb1, (by decide), hb2, (by first | decide | omega | exact (g3 hb1 hb2).elim), trivial⟩ hsim fun E a w hsim => ?_
        obtain ⟨E2, hs⟩ := hsim.rowEq (k := 0) rfl (u8 f) (by
            intro j hj
            try simp only
            split
            · rfl
            · have e : j = n := by omega
              subst e
              rw [Nat.sub_self]
              unfold u8; rw [hz]; rfl)
        exact ih E2 a w (hs.tell (by kernel_rfl))
      · skip
        have q0_ : ((0 : Nat) < (8 : Nat)) := (by first | decide | omega | exact (g3 hb1 hb2).elim)
        refine go_head Q6_ok rfl rfl (k' := loopAt Tryd.f25 2) (s' := mk 0 108 [(0, .d (.raw (.string (key)))), (6, .own 0), (8, .d (.raw (.int .i64 (c)))), (9, .own 1), (10, .d (.raw (.int .i64 ((0 : Int)))))] [(0, .row 5 1 (n) (u8 f)), (1, .row 3 1 8 (fun j => mrg (j.beq (0 : Nat)) (D.raw (Value.int IntKind.i64 (IntKind.i64.wrap (↑(BitVec.ofInt (64 : Nat) (IntKind.i64.wrap (↑(1795745383 : Nat) : Int)) ^^^ BitVec.ofInt (64 : Nat) (IntKind.i64.wrap (IntKind.i64.wrap ((256 : Int) * (↑key.size : Int)) + (32 : Int)))).toNat : Int)))) (wel ivM j)))]) (cs := ((fun (c0 : Prop) => [(((↑n : Int) == (0 : Int)) = false), (Nz 64), (((↑n : Int).tmod (64 : Int) != (0 : Int)) = false), (Ix 0 8), c0, (Ix 0 8), c0]) ((0 : Nat) < (8 : Nat)))) [false, false] [0,6,8,9,10] (by kernel_rfl) (by kernel_rfl) ⟨hb1, (by decide), hb2, (by decide), q0_, (by decide), q0_, trivial⟩ hsim fun E a w hsim => ?_
        exact (g3 hb1 hb2).elim
theorem rs_key {w0 : World} {N : Nat → Prop} {E0 : Env} (key text : ByteArray) (h0 : key.size ≠ 0) (hk : key.size ≤ 32) (ht : text.size ≤ 140737488351232) : ∀ (d k : Nat), k + d = key.size → ∀ (E : Env) (a : Act) (w : World), Sim (cx Tryd.prog gl w0 N E0 []) E (ss0 key text k (fun j => if j < k then byteAt key j else 0)) a w →
    Goes Tryd.prog 25 (loopAt Tryd.f25 0) (RSpec (cx Tryd.prog gl w0 N E0 []) ⟨0, [.tup [.d (.raw (.string (rsumM key text))), .d (I 0)]], []⟩) a w := by
  intro d
  induction d with
  | zero =>
    intro k hkd E a w hsim
    have hfin := fun E a w => rs_pad (w0 := w0) (N := N) (E0 := E0) key text hk ht (64 * blksM (cntM key text) - (64 + text.size)) (64 + text.size) (by unfold cntM blksM; rw [if_neg h0]; split <;> omega) (by unfold cntM; rw [if_neg h0]; omega) E a w
    have hc : cntM key text = 64 + text.size := by unfold cntM; rw [if_neg h0]
    rw [hc] at hfin
    have hd : ∀ i : Int, i = k → decide (i < (key.size : Int)) = false := fun i hi => decide_eq_false (by omega)
    generalize hff : (fun j => if j < k then byteAt key j else 0) = f at hsim
    have hf : ∀ j, j < 64 → f j = byteAt key j := fun j hj => by
      rw [← hff]
      show (if j < k then byteAt key j else 0) = _
      split
      · rfl
      · rw [byteAt_out _ _ (by omega)]
    generalize hi : (k : Int) = i at hsim
    have hd := hd i hi.symm
    rcases Bool.eq_false_or_eq_true (decide (i < (↑key.size : Int))) with hb1 | hb1
    · skip
      refine go_head Q6_ok rfl rfl (k' := loopAt Tryd.f25 0) (s' := mk 0 108 [(0, .d (.raw (.string (key)))), (1, .d (.raw (.string (text)))), (6, .own 0), (7, .d (.raw (.int .i64 (IntKind.i64.wrap (i + (1 : Int))))))] [(0, .row 5 1 64 (fun j => mrg (j.beq i.toNat) (D.raw (Value.int IntKind.u8 (byteAt key i.toNat))) (u8 f j)))]) (cs := [((decide (i < (↑key.size : Int))) = true), ((0 : Int) ≤ i ∧ i < (↑key.size : Int)), ((0 : Int) ≤ i ∧ i < (64 : Int)), (i.toNat < (64 : Nat))]) [true] [0,1,6,7,8] (by kernel_rfl) (by kernel_rfl) ⟨hb1, (by first | omega | exact absurd hb1 (by rw [hd]; decide)), (by first | omega | exact absurd hb1 (by rw [hd]; decide)), (by first | omega | exact absurd hb1 (by rw [hd]; decide)), trivial⟩ hsim fun E a w hsim => ?_
      exact absurd hb1 (by rw [hd]; decide)
    · skip
      refine go_head Q6_ok rfl rfl (k' := loopAt Tryd.f25 1) (s' := mk 0 108 [(0, .d (.raw (.string (key)))), (1, .d (.raw (.string (text)))), (6, .own 0), (7, .d (.raw (.int .i64 (i)))), (8, .d (.raw (.int .i64 ((↑((64 : Nat) + text.size) : Int)))))] [(0, .row 5 1 ((64 : Nat) + text.size) (fun j => if j < (64 : Nat) then u8 f j else D.raw (Value.int IntKind.u8 (byteAt text (j - (64 : Nat))))))]) (cs := [((decide (i < (↑key.size : Int))) = false), ((64 : Nat) + text.size ≤ (9223372036854775807 : Nat) ∧ ((64 : Nat) + text.size) * (1 : Nat) ≤ (140737488355328 : Nat))]) [false] [0,1,6,7,8] (by kernel_rfl) (by kernel_rfl) ⟨hb1, (by first | omega | exact absurd hb1 (by rw [hd]; decide)), trivial⟩ hsim fun E a w hsim => ?_
      obtain ⟨E2, hs⟩ := hsim.rowEq (k := 0) rfl (u8 (msgF key text)) (by
          intro j hj
          unfold u8 msgF
          rw [if_neg h0]
          split
          · rename_i hlt; rw [hf j hlt]
          · rfl)
      obtain ⟨E3, hs3⟩ := hs.keep [0, 6, 8]
      exact hfin E3 a w (hs3.tell (by kernel_rfl))
  | succ d ih =>
    intro k hkd E a w hsim
    have ih := fun E a w hs => ih (k + 1) (by omega) E a w hs
    have hd : ∀ i : Int, i = k → decide (i < (key.size : Int)) = true := fun i hi => decide_eq_true (by omega)
    have hw : ∀ i : Int, i = k → IntKind.i64.wrap (i + 1) = ((k + 1 : Nat) : Int) := fun i hi => by rw [wrap_i64 _ (by omega)]; omega
    have hf : ∀ j, (if j < k + 1 then byteAt key j else 0) = if j = k then byteAt key k else if j < k then byteAt key j else 0 := fun j => by
      by_cases e : j = k
      · subst e; rw [if_pos (by omega), if_pos rfl]
      · rw [if_neg e]
        by_cases e2 : j < k
        · rw [if_pos (by omega), if_pos e2]
        · rw [if_neg (by omega), if_neg e2]
    generalize hg : (fun j => if j < k + 1 then byteAt key j else 0) = g at ih
    have hf : ∀ j, g j = if j = k then byteAt key k else if j < k then byteAt key j else 0 := fun j => by rw [← hg]; exact hf j
    generalize hff : (fun j => if j < k then byteAt key j else 0) = f at hsim
    have hf : ∀ j, g j = if j = k then byteAt key k else f j := fun j => by rw [hf j, ← hff]
    generalize hi : (k : Int) = i at hsim
    have hd := hd i hi.symm
    have hw := hw i hi.symm
    have hik : i.toNat = k := by omega
    rcases Bool.eq_false_or_eq_true (decide (i < (↑key.size : Int))) with hb1 | hb1
    · skip
      refine go_head Q6_ok rfl rfl (k' := loopAt Tryd.f25 0) (s' := mk 0 108 [(0, .d (.raw (.string (key)))), (1, .d (.raw (.string (text)))), (6, .own 0), (7, .d (.raw (.int .i64 (IntKind.i64.wrap (i + (1 : Int))))))] [(0, .row 5 1 64 (fun j => mrg (j.beq i.toNat) (D.raw (Value.int IntKind.u8 (byteAt key i.toNat))) (u8 f j)))]) (cs := [((decide (i < (↑key.size : Int))) = true), ((0 : Int) ≤ i ∧ i < (↑key.size : Int)), ((0 : Int) ≤ i ∧ i < (64 : Int)), (i.toNat < (64 : Nat))]) [true] [0,1,6,7,8] (by kernel_rfl) (by kernel_rfl) ⟨hb1, (by first | omega | exact absurd hb1 (by rw [hd]; decide)), (by first | omega | exact absurd hb1 (by rw [hd]; decide)), (by first | omega | exact absurd hb1 (by rw [hd]; decide)), trivial⟩ hsim fun E a w hsim => ?_
      obtain ⟨E2, hs⟩ := hsim.rowEq (k := 0) rfl (u8 g) (by
          intro j hj
          try simp only
          rw [mrg_eq, hik]
          simp only [Nat.beq_eq]
          unfold u8
          rw [hf j]
          split <;> rfl)
      refine ih E2 a w (hs.tell ?_)
      rw [hw]; kernel_rfl
    · skip
      refine go_head Q6_ok rfl rfl (k' := loopAt Tryd.f25 1) (s' := mk 0 108 [(0, .d (.raw (.string (key)))), (1, .d (.raw (.string (text)))), (6, .own 0), (7, .d (.raw (.int .i64 (i)))), (8, .d (.raw (.int .i64 ((↑((64 : Nat) + text.size) : Int)))))] [(0, .row 5 1 ((64 : Nat) + text.size) (fun j => if j < (64 : Nat) then u8 f j else D.raw (Value.int IntKind.u8 (byteAt text (j - (64 : Nat))))))]) (cs := [((decide (i < (↑key.size : Int))) = false), ((64 : Nat) + text.size ≤ (9223372036854775807 : Nat) ∧ ((64 : Nat) + text.size) * (1 : Nat) ≤ (140737488355328 : Nat))]) [false] [0,1,6,7,8] (by kernel_rfl) (by kernel_rfl) ⟨hb1, (by first | omega | exact absurd hb1 (by rw [hd]; decide)), trivial⟩ hsim fun E a w hsim => ?_
      exact absurd hb1 (by rw [hd]; decide)
theorem rsum_ok (key text : ByteArray) (ht : text.size ≤ 140737488351232) : Eng.Spec Tryd.prog gl 25 [.d (.raw (.string key)), .d (.raw (.string text))] [] (.tup [.d (.raw (.string (if key.size ≤ 32 then rsumM key text else ByteArray.empty))), .d (I (if key.size ≤ 32 then 0 else 2))]) [] := by
  refine spec_fn Tryd.func25 rfl fun {w0 N E0 a} hsim => ?_
  have hw : ∀ (p : Bool), decide ((key.size : Int) > 32) = p → (p = true → ¬ key.size ≤ 32) ∧ (p = false → key.size ≤ 32) := fun p hp => by
    subst hp; simp only [decide_eq_true_eq, decide_eq_false_iff_not]; omega
  have hz : ∀ (p : Bool), (!(key.toList == ByteArray.empty.toList)) = p → (p = true → key.size ≠ 0) ∧ (p = false → key.size = 0) := fun p hp => by
    subst hp; rw [beq_empty]
    simp only [Bool.not_eq_true', beq_eq_false_iff_ne, Bool.not_eq_false', beq_iff_eq]
    exact ⟨id, id⟩
  have k1 : key.size ≤ 32 → key.size ≠ 0 → ∀ E1 a1 w1, Sim (cx Tryd.prog gl w0 N E0 []) E1 (ss0 key text 0 fun _ => 0) a1 w1 → Goes Tryd.prog 25 (loopAt Tryd.f25 0) (RSpec (cx Tryd.prog gl w0 N E0 []) ⟨0, [.tup [.d (.raw (.string (if key.size ≤ 32 then rsumM key text else ByteArray.empty))), .d (I (if key.size ≤ 32 then 0 else 2))]], []⟩) a1 w1 := fun h1 h2 E1 a1 w1 hs => by
    rw [if_pos h1, if_pos h1]
    have e : (fun j : Nat => if j < 0 then byteAt key j else 0) = fun _ => 0 := by funext j; rw [if_neg (by omega)]
    refine rs_key key text h2 h1 ht key.size 0 (by omega) E1 a1 w1 ?_
    rw [e]; exact hs
  have k2 : key.size ≤ 32 → key.size = 0 → ∀ E1 a1 w1, Sim (cx Tryd.prog gl w0 N E0 []) E1 (ss1 key text.size text.size (msgF key text)) a1 w1 → Goes Tryd.prog 25 (loopAt Tryd.f25 1) (RSpec (cx Tryd.prog gl w0 N E0 []) ⟨0, [.tup [.d (.raw (.string (if key.size ≤ 32 then rsumM key text else ByteArray.empty))), .d (I (if key.size ≤ 32 then 0 else 2))]], []⟩) a1 w1 := fun h1 h2 E1 a1 w1 hs => by
    rw [if_pos h1, if_pos h1]
    have hc : cntM key text = text.size := by unfold cntM; rw [if_pos h2]; omega
    refine rs_pad key text h1 ht (64 * blksM (cntM key text) - text.size) text.size (by rw [hc]; unfold blksM; split <;> omega) (by omega) E1 a1 w1 ?_
    rw [hc]; exact hs
  rcases Bool.eq_false_or_eq_true (decide ((↑key.size : Int) > (32 : Int))) with hb1 | hb1
  · skip
    exact go_ret Q6_ok rfl rfl Tryd.func25 (sr' := ⟨0, [.tup [.d (.raw (.string (ByteArray.mk #[]))), .d (.raw (.int .i64 ((2 : Int))))]], []⟩) (cs := [((decide ((↑key.size : Int) > (32 : Int))) = true)]) [true] true (by kernel_rfl) (by kernel_rfl) ⟨hb1, trivial⟩ (by have h1 := (hw _ hb1).1 rfl; rw [if_neg h1, if_neg h1]; rfl) hsim
  · skip
    rcases Bool.eq_false_or_eq_true (!key.toList == (ByteArray.mk #[]).toList) with hb2 | hb2
    · skip
      refine go_head Q6_ok rfl rfl (k' := loopAt Tryd.f25 0) (s' := mk 0 108 [(0, .d (.raw (.string (key)))), (1, .d (.raw (.string (text)))), (6, .own 0), (7, .d (.raw (.int .i64 ((0 : Int)))))] [(0, .row 5 1 64 (fun x => D.raw (Value.int IntKind.u8 (0 : Int))))]) (cs := [((decide ((↑key.size : Int) > (32 : Int))) = false), ((!key.toList == (ByteArray.mk #[]).toList) = true), ((0 : Int) ≤ (64 : Int) ∧ (64 : Int) ≤ (64 : Int) ∧ (64 : Int) ≤ (281474976710656 : Int) ∧ (64 : Int) ≤ (9223372036854775807 : Int))]) [false, true] [0,1,6,7,8] (by kernel_rfl) (by kernel_rfl) ⟨hb1, hb2, (by first | decide | omega), trivial⟩ hsim fun E a w hsim => ?_
      exact k1 ((hw _ hb1).2 rfl) ((hz _ hb2).1 rfl) E a w (hsim.tell (by kernel_rfl))
    · skip
      refine go_head Q6_ok rfl rfl (k' := loopAt Tryd.f25 1) (s' := mk 0 108 [(0, .d (.raw (.string (key)))), (1, .d (.raw (.string (text)))), (6, .own 0), (8, .d (.raw (.int .i64 ((↑((0 : Nat) + text.size) : Int)))))] [(0, .row 5 1 ((0 : Nat) + text.size) (fun j => if j < (0 : Nat) then default else D.raw (Value.int IntKind.u8 (byteAt text (j - (0 : Nat))))))]) (cs := [((decide ((↑key.size : Int) > (32 : Int))) = false), ((!key.toList == (ByteArray.mk #[]).toList) = false), ((0 : Nat) + text.size ≤ (9223372036854775807 : Nat) ∧ ((0 : Nat) + text.size) * (1 : Nat) ≤ (140737488355328 : Nat))]) [false, false] [0,1,6,7,8] (by kernel_rfl) (by kernel_rfl) ⟨hb1, hb2, (by first | decide | omega), trivial⟩ hsim fun E a w hsim => ?_
      have h2 := (hz _ hb2).2 rfl
      obtain ⟨E2, hs⟩ := hsim.rowEq (k := 0) rfl (u8 (msgF key text)) (by
          intro j hj
          try simp only
          unfold u8 msgF
          rw [if_pos h2, if_neg (by omega)]; rfl)
      obtain ⟨E3, hs3⟩ := hs.keep [0, 6, 8]
      have e0 : 0 + text.size = text.size := Nat.zero_add _
      rw [e0] at hs3
      exact k2 ((hw _ hb1).2 rfl) h2 E3 a w (hs3.tell (by kernel_rfl))
end Go.Bla
