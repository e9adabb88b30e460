/-
  Contracts of given functions, or plain laws that they need. No condition.
-/
import Derived.Test.YtmgfgcoeflanmaaDoorSeaB
import Derived.Test.YtmgfgcoeflanmaaDoorSeaLG
import Derived.Test.YtmgfgcoeflanmaaDoorSeaT
namespace Go.Sea
open Go Go.Eng Go.Proofs Go.Nest Go.RowKit Go.Memo
set_option linter.unusedVariables false
set_option linter.unusedSimpArgs false
set_option maxRecDepth 100000
set_option maxHeartbeats 4000000
theorem mNewL_ok : MoOK Tryd.prog (fun _ => none) 8 mNewL := fun args H ret H' cs h hc => by
  unfold mNewL at h
  split at h
  · cases h; exact new_ok _ hc.1
  · cases h
theorem mNewE_ok : MoOK Tryd.prog (fun _ => none) 8 mNewE := fun args H ret H' cs h hc => by
  unfold mNewE at h
  split at h
  · cases h; exact newE_ok _ hc.1
  · cases h
theorem mSignL_ok : MoOK Tryd.prog glT 12 mSignL := fun args H ret H' cs h hc => by
  unfold mSignL at h
  split at h
  · cases h; obtain ⟨rfl, hs, -⟩ := hc; exact sign_ok _ hs _ _ _
  · cases h
theorem mTagL_ok : MoOK Tryd.prog glT 10 mTagL := fun args H ret H' cs h hc => by
  unfold mTagL at h
  split at h
  · cases h; obtain ⟨rfl, hs, -⟩ := hc; exact tag_ok _ hs _ _ _
  · cases h
theorem mChkL_ok : MoOK Tryd.prog glT 13 mChkL := fun args H ret H' cs h hc => by
  unfold mChkL at h
  split at h
  · cases h; obtain ⟨rfl, hs, -⟩ := hc; exact check_ok _ hs _ _ _ _
  · cases h
theorem mSignN_ok : MoOK Tryd.prog glT 12 mSignN := fun args H ret H' cs h hc => by
  unfold mSignN at h
  split at h
  · cases h; exact signN_ok _ _ _
  · cases h
theorem mTagN_ok : MoOK Tryd.prog glT 10 mTagN := fun args H ret H' cs h hc => by
  unfold mTagN at h
  split at h
  · cases h; exact tagN_ok _ _ _
  · cases h
theorem mChkN_ok : MoOK Tryd.prog glT 13 mChkN := fun args H ret H' cs h hc => by
  unfold mChkN at h
  split at h
  · cases h; exact checkN_ok _ _ _ _
  · cases h
theorem mNameL_ok : MoOK Tryd.prog glP 16 mNameL := fun args H ret H' cs h hc => by
  unfold mNameL at h
  split at h
  · cases h; exact nameP_ok _ _
  · cases h
theorem mPartyL_ok (m : Int) (e1 e2 : Value) (h1 : ErrV e1) (h2 : ErrV e2) : MoOK Tryd.prog (glU m e1 e2) 18 mPartyL := fun args H ret H' cs h hc => by
  unfold mPartyL at h
  split at h
  · cases h; exact party_ok m e1 e2 h1 h2 _ hc.1
  · cases h
theorem mEncL_ok : MoOK Tryd.prog glP 20 mEncL := fun args H ret H' cs h hc => by
  unfold mEncL at h
  split at h
  · cases h; exact encS_ok _ _ _ _ hc.1
  · cases h
theorem mDecL_ok (m : Int) (e1 e2 : Value) (h1 : ErrV e1) (h2 : ErrV e2) : MoOK Tryd.prog (glU m e1 e2) 22 mDecL := fun args H ret H' cs h hc => by
  unfold mDecL at h
  split at h
  · cases h; exact decS_ok m e1 e2 h1 h2 _ hc.1
  · cases h
theorem mNameLR_ok : MoOK Tryd.prog gz 17 mNameL := fun args H ret H' cs h hc => by
  unfold mNameL at h
  split at h
  · cases h; exact nameR_ok _ _
  · cases h
theorem mPartyLR_ok : MoOK Tryd.prog gz 19 mPartyL := fun args H ret H' cs h hc => by
  unfold mPartyL at h
  split at h
  · cases h; exact partyR_ok _
  · cases h
theorem mEncLR_ok : MoOK Tryd.prog gz 21 mEncRL := fun args H ret H' cs h hc => by
  unfold mEncRL at h
  split at h
  · cases h; exact encR_ok _ _ _ _ hc.1
  · cases h
theorem mDecLR_ok : MoOK Tryd.prog gz 23 mDecL := fun args H ret H' cs h hc => by
  unfold mDecL at h
  split at h
  · cases h; exact decR_ok _ hc.1
  · cases h
theorem C1_ok (z : ByteArray) : OrcOK Tryd.prog (C1 z) := ((((OrcOK.none glT).add _ false _ mNewL_ok.any).add _ false (mSign1 z) fun args H ret H' cs h hc => by
  unfold mSign1 at h
  split at h
  · cases h
    obtain ⟨rfl, rfl, rfl, rfl, rfl, rfl, -⟩ := hc
    exact sign_ok sLit (by decide) 0 3 aLit
  · cases h).add _ false mName1 fun args H ret H' cs h hc => by
  unfold mName1 at h
  split at h
  · cases h
    obtain ⟨rfl, rfl, -⟩ := hc
    have := nameP_ok 0 3
    rw [show nameM 0 3 = (⟨#[49, 58, 48, 44, 49, 58, 51, 44]⟩, 0) by decide +kernel] at this
    exact Spec.mono pT this
  · cases h).add _ false (mChk1 z) fun args H ret H' cs h hc => by
  unfold mChk1 at h
  split at h
  · split at h
    · cases h
      obtain ⟨rfl, rfl, rfl, rfl, rfl, rfl, rfl, -⟩ := hc
      have := check_ok sLit (by decide) 0 3 aLit (tag16 sLit 0 3 aLit)
      rw [show chkS sLit 0 3 aLit (tag16 sLit 0 3 aLit) = 0 from by unfold chkS; rw [if_pos (by decide), if_pos rfl]] at this
      exact this
    · cases h
      obtain ⟨rfl, rfl, rfl, rfl, rfl, rfl, rfl, -⟩ := hc
      have := check_ok sLit (by decide) 0 3 bLit (tag16 sLit 0 3 aLit)
      rw [show chkS sLit 0 3 bLit (tag16 sLit 0 3 aLit) = 30 from by unfold chkS; rw [if_pos (by decide), if_neg (show ¬ tag16 sLit 0 3 aLit = tag16 sLit 0 3 bLit from tags_ab)]] at this
      exact this
  · cases h
theorem one_ok : Eng.Spec Tryd.prog glT 9 [] [] (.d (.raw (.bool true))) [] := by
  refine spec_fn Tryd.func9 rfl fun {w N E a} hsim => ?_
  obtain ⟨z, hz⟩ : ∃ z, z = tag16 sLit 0 3 aLit := ⟨_, rfl⟩
  have q0_ : ((57 : Nat) = (57 : Nat)) := (by first | rfl | exact hz | decide)
  have q1_ : ((0 : Int) = (0 : Int)) := (by first | rfl | exact hz | decide)
  have q2_ : ((3 : Int) = (3 : Int)) := (by first | rfl | exact hz | decide)
  have q3_ : (z = tag16 sLit (0 : Int) (3 : Int) aLit) := (by first | rfl | exact hz | decide)
  have q4_ : (sLit = sLit) := (by first | rfl | exact hz | decide)
  have q5_ : (z = z) := (by first | rfl | exact hz | decide)
  exact go_ret (C1_ok z) rfl rfl Tryd.func9 (sr' := ⟨0, [.d (.raw (.bool (true)))], []⟩) (cs := ((fun (c0 c1 c2 c3 c4 c5 : Prop) => [((1 : Nat) ≤ (32 : Nat)), ((false) = false), c0, (ByteArray.mk #[(115 : UInt8)] = sLit), c1, c2, (ByteArray.mk #[(97 : UInt8)] = aLit), c3, c1, c2, ((true) = true), ((true) = true), ((true) = true), c0, c4, c1, c2, (aLit = aLit), c5, c3, ((true) = true), c0, c4, c1, c2, (ByteArray.mk #[(98 : UInt8)] = bLit), c5, c3]) ((57 : Nat) = (57 : Nat)) ((0 : Int) = (0 : Int)) ((3 : Int) = (3 : Int)) (z = tag16 sLit (0 : Int) (3 : Int) aLit) (sLit = sLit) (z = z))) ([false] ++ (List.replicate 4 true)) true (by kernel_rfl) (by kernel_rfl) ⟨(by first | rfl | exact hz | decide), rfl, q0_, (by first | rfl | exact hz | decide), q1_, q2_, (by first | rfl | exact hz | decide), q3_, q1_, q2_, rfl, rfl, rfl, q0_, q4_, q1_, q2_, (by first | rfl | exact hz | decide), q5_, q3_, rfl, q0_, q4_, q1_, q2_, (by first | rfl | exact hz | decide), q5_, q3_, trivial⟩ (by rfl) hsim
theorem mOne_ok : MoOK Tryd.prog glT 9 mOne := fun args H ret H' cs h hc => by
  unfold mOne at h
  split at h
  · cases h; exact one_ok
  · cases h
theorem beqB (a b : ByteArray) : (a == b) = decide (a = b) := by
  rw [Bool.eq_iff_iff, decide_eq_true_eq]
  rcases a with ⟨d⟩
  rcases b with ⟨e⟩
  constructor
  · intro h
    have h : (d == e) = true := h
    rw [eq_of_beq h]
  · intro h; cases h; exact beq_self_eq_true d
theorem tag_zero {g n : Int} : tagE g n = 0 ↔ isM g n = true := by unfold tagE; rw [name_e]; split <;> simp [*]
theorem CN_ok (m : Int) (e1 e2 : Value) (h1 : ErrV e1) (h2 : ErrV e2) : OrcOK Tryd.prog (CN m e1 e2) := ((((((OrcOK.none (glS m e1 e2)).add _ false _ ((mNameL_ok.up pT).up (tS m e1 e2))).add _ false _ ((mPartyL_ok m e1 e2 h1 h2).up (uS m e1 e2))).add _ false _ mNameLR_ok.any).add _ false _ mPartyLR_ok.any).add _ false _ (mOne_ok.up (tS m e1 e2)))
theorem law_names_ok (m : Int) (e1 e2 : Value) (h1 : ErrV e1) (h2 : ErrV e2) (g n : Int) (s : ByteArray) (hs : s.size ≤ 1048576) : Eng.Spec Tryd.prog (glS m e1 e2) 5 [.d (.agg [.raw (.int .i64 g), .raw (.int .i64 n)]), .d (.raw (.string s))] [] (.d (.raw (.bool true))) [] := by
  refine spec_fn Tryd.func5 rfl fun {w N E a} hsim => ?_
  have hs2 : s.size ≤ 1073741824 := by omega
  have hns : (nameB g n).size ≤ 1073741824 := Nat.le_trans (name_small g n) (by decide)
  have x1 : tagE g n = 0 → pE (nameB g n) = 0 ∧ pG (nameB g n) = g ∧ pN (nameB g n) = n := fun h => by
    have := party_name (tag_zero.1 h); unfold pE pG pN nameB; rw [this]; exact ⟨rfl, rfl, rfl⟩
  rcases Bool.eq_false_or_eq_true (!(nameB g n).toList == (nameB g n).toList) with hb1 | hb1
  · skip
    have q0_ : (s.size ≤ (1073741824 : Nat)) := (by first | rfl | exact hs2 | exact hns)
    exact go_ret (CN_ok m e1 e2 h1 h2) rfl rfl Tryd.func5 (sr' := ⟨0, [.d (.raw (.bool (false)))], []⟩) (cs := ((fun (c0 : Prop) => [c0, c0, ((!(nameB g n).toList == (nameB g n).toList) = true)]) (s.size ≤ (1073741824 : Nat)))) [true] true (by kernel_rfl) (by kernel_rfl) ⟨q0_, q0_, hb1, trivial⟩ (by first | rfl | (exfalso; clear hsim; simp only [eqcs, eqc, beqB, beq_ba] at *; grind)) hsim
  · skip
    rcases Bool.eq_false_or_eq_true (tagE g n != tagE g n) with hb2 | hb2
    · skip
      have q0_ : (s.size ≤ (1073741824 : Nat)) := (by first | rfl | exact hs2 | exact hns)
      exact go_ret (CN_ok m e1 e2 h1 h2) rfl rfl Tryd.func5 (sr' := ⟨0, [.d (.raw (.bool (false)))], []⟩) (cs := ((fun (c0 : Prop) => [c0, c0, ((!(nameB g n).toList == (nameB g n).toList) = false), ((tagE g n != tagE g n) = true)]) (s.size ≤ (1073741824 : Nat)))) [false, true] true (by kernel_rfl) (by kernel_rfl) ⟨q0_, q0_, hb1, hb2, trivial⟩ (by first | rfl | (exfalso; clear hsim; simp only [eqcs, eqc, beqB, beq_ba] at *; grind)) hsim
    · skip
      rcases Bool.eq_false_or_eq_true (!eqcs [Value.int IntKind.i64 (pG s), Value.int IntKind.i64 (pN s)] [Value.int IntKind.i64 (pG s), Value.int IntKind.i64 (pN s)]) with hb3 | hb3
      · skip
        have q0_ : (s.size ≤ (1073741824 : Nat)) := (by first | rfl | exact hs2 | exact hns)
        exact go_ret (CN_ok m e1 e2 h1 h2) rfl rfl Tryd.func5 (sr' := ⟨0, [.d (.raw (.bool (false)))], []⟩) (cs := ((fun (c0 : Prop) => [c0, c0, ((!(nameB g n).toList == (nameB g n).toList) = false), ((tagE g n != tagE g n) = false), ((!eqcs [Value.int IntKind.i64 (pG s), Value.int IntKind.i64 (pN s)] [Value.int IntKind.i64 (pG s), Value.int IntKind.i64 (pN s)]) = true)]) (s.size ≤ (1073741824 : Nat)))) [false, false, true] true (by kernel_rfl) (by kernel_rfl) ⟨q0_, q0_, hb1, hb2, hb3, trivial⟩ (by first | rfl | (exfalso; clear hsim; simp only [eqcs, eqc, beqB, beq_ba] at *; grind)) hsim
      · skip
        rcases Bool.eq_false_or_eq_true (pE s != pE s) with hb4 | hb4
        · skip
          have q0_ : (s.size ≤ (1073741824 : Nat)) := (by first | rfl | exact hs2 | exact hns)
          exact go_ret (CN_ok m e1 e2 h1 h2) rfl rfl Tryd.func5 (sr' := ⟨0, [.d (.raw (.bool (false)))], []⟩) (cs := ((fun (c0 : Prop) => [c0, c0, ((!(nameB g n).toList == (nameB g n).toList) = false), ((tagE g n != tagE g n) = false), ((!eqcs [Value.int IntKind.i64 (pG s), Value.int IntKind.i64 (pN s)] [Value.int IntKind.i64 (pG s), Value.int IntKind.i64 (pN s)]) = false), ((pE s != pE s) = true)]) (s.size ≤ (1073741824 : Nat)))) [false, false, false, true] true (by kernel_rfl) (by kernel_rfl) ⟨q0_, q0_, hb1, hb2, hb3, hb4, trivial⟩ (by first | rfl | (exfalso; clear hsim; simp only [eqcs, eqc, beqB, beq_ba] at *; grind)) hsim
        · skip
          rcases Bool.eq_false_or_eq_true (tagE g n == (0 : Int)) with hb5 | hb5
          · skip
            rcases Bool.eq_false_or_eq_true (pE (nameB g n) == (0 : Int)) with hb6 | hb6
            · skip
              rcases Bool.eq_false_or_eq_true (eqcs [Value.int IntKind.i64 (pG (nameB g n)), Value.int IntKind.i64 (pN (nameB g n))] [Value.int IntKind.i64 g, Value.int IntKind.i64 n]) with hb7 | hb7
              · skip
                have q0_ : (s.size ≤ (1073741824 : Nat)) := (by first | rfl | exact hs2 | exact hns)
                exact go_ret (CN_ok m e1 e2 h1 h2) rfl rfl Tryd.func5 (sr' := ⟨0, [.d (.raw (.bool (true)))], []⟩) (cs := ((fun (c0 : Prop) => [c0, c0, ((!(nameB g n).toList == (nameB g n).toList) = false), ((tagE g n != tagE g n) = false), ((!eqcs [Value.int IntKind.i64 (pG s), Value.int IntKind.i64 (pN s)] [Value.int IntKind.i64 (pG s), Value.int IntKind.i64 (pN s)]) = false), ((pE s != pE s) = false), ((tagE g n == (0 : Int)) = true), ((nameB g n).size ≤ (1073741824 : Nat)), ((pE (nameB g n) == (0 : Int)) = true), ((eqcs [Value.int IntKind.i64 (pG (nameB g n)), Value.int IntKind.i64 (pN (nameB g n))] [Value.int IntKind.i64 g, Value.int IntKind.i64 n]) = true)]) (s.size ≤ (1073741824 : Nat)))) ((List.replicate 4 false) ++ [true, true, true]) true (by kernel_rfl) (by kernel_rfl) ⟨q0_, q0_, hb1, hb2, hb3, hb4, hb5, (by first | rfl | exact hs2 | exact hns), hb6, hb7, trivial⟩ (by first | rfl | (exfalso; clear hsim; simp only [eqcs, eqc, beqB, beq_ba] at *; grind)) hsim
              · skip
                have q0_ : (s.size ≤ (1073741824 : Nat)) := (by first | rfl | exact hs2 | exact hns)
                exact go_ret (CN_ok m e1 e2 h1 h2) rfl rfl Tryd.func5 (sr' := ⟨0, [.d (.raw (.bool (false)))], []⟩) (cs := ((fun (c0 : Prop) => [c0, c0, ((!(nameB g n).toList == (nameB g n).toList) = false), ((tagE g n != tagE g n) = false), ((!eqcs [Value.int IntKind.i64 (pG s), Value.int IntKind.i64 (pN s)] [Value.int IntKind.i64 (pG s), Value.int IntKind.i64 (pN s)]) = false), ((pE s != pE s) = false), ((tagE g n == (0 : Int)) = true), ((nameB g n).size ≤ (1073741824 : Nat)), ((pE (nameB g n) == (0 : Int)) = true), ((eqcs [Value.int IntKind.i64 (pG (nameB g n)), Value.int IntKind.i64 (pN (nameB g n))] [Value.int IntKind.i64 g, Value.int IntKind.i64 n]) = false)]) (s.size ≤ (1073741824 : Nat)))) ((List.replicate 4 false) ++ [true, true, false]) true (by kernel_rfl) (by kernel_rfl) ⟨q0_, q0_, hb1, hb2, hb3, hb4, hb5, (by first | rfl | exact hs2 | exact hns), hb6, hb7, trivial⟩ (by first | rfl | (exfalso; clear hsim; simp only [eqcs, eqc, beqB, beq_ba] at *; grind)) hsim
            · skip
              have q0_ : (s.size ≤ (1073741824 : Nat)) := (by first | rfl | exact hs2 | exact hns)
              exact go_ret (CN_ok m e1 e2 h1 h2) rfl rfl Tryd.func5 (sr' := ⟨0, [.d (.raw (.bool (false)))], []⟩) (cs := ((fun (c0 : Prop) => [c0, c0, ((!(nameB g n).toList == (nameB g n).toList) = false), ((tagE g n != tagE g n) = false), ((!eqcs [Value.int IntKind.i64 (pG s), Value.int IntKind.i64 (pN s)] [Value.int IntKind.i64 (pG s), Value.int IntKind.i64 (pN s)]) = false), ((pE s != pE s) = false), ((tagE g n == (0 : Int)) = true), ((nameB g n).size ≤ (1073741824 : Nat)), ((pE (nameB g n) == (0 : Int)) = false)]) (s.size ≤ (1073741824 : Nat)))) ((List.replicate 4 false) ++ [true, false]) true (by kernel_rfl) (by kernel_rfl) ⟨q0_, q0_, hb1, hb2, hb3, hb4, hb5, (by first | rfl | exact hs2 | exact hns), hb6, trivial⟩ (by first | rfl | (exfalso; clear hsim; simp only [eqcs, eqc, beqB, beq_ba] at *; grind)) hsim
          · skip
            have q0_ : (s.size ≤ (1073741824 : Nat)) := (by first | rfl | exact hs2 | exact hns)
            exact go_ret (CN_ok m e1 e2 h1 h2) rfl rfl Tryd.func5 (sr' := ⟨0, [.d (.raw (.bool (true)))], []⟩) (cs := ((fun (c0 : Prop) => [c0, c0, ((!(nameB g n).toList == (nameB g n).toList) = false), ((tagE g n != tagE g n) = false), ((!eqcs [Value.int IntKind.i64 (pG s), Value.int IntKind.i64 (pN s)] [Value.int IntKind.i64 (pG s), Value.int IntKind.i64 (pN s)]) = false), ((pE s != pE s) = false), ((tagE g n == (0 : Int)) = false)]) (s.size ≤ (1073741824 : Nat)))) ((List.replicate 5 false)) true (by kernel_rfl) (by kernel_rfl) ⟨q0_, q0_, hb1, hb2, hb3, hb4, hb5, trivial⟩ (by first | rfl | (exfalso; clear hsim; simp only [eqcs, eqc, beqB, beq_ba] at *; grind)) hsim
theorem CB_ok (m : Int) (e1 e2 : Value) (h1 : ErrV e1) (h2 : ErrV e2) : OrcOK Tryd.prog (CB m e1 e2) := ((((((OrcOK.none (glS m e1 e2)).add _ false _ ((mEncL_ok.up pT).up (tS m e1 e2))).add _ false _ ((mDecL_ok m e1 e2 h1 h2).up (uS m e1 e2))).add _ false _ mEncLR_ok.any).add _ false _ mDecLR_ok.any).add _ false _ (mOne_ok.up (tS m e1 e2)))
theorem eB_size {g n : Int} {t tag : ByteArray} (ht : t.size ≤ 600000) : (eB g n t tag).size ≤ 1073741824 := by
  unfold eB encS
  split
  · split
    · rename_i h; rw [packB_size]; exact Nat.le_trans (pack3_len ht h) (by decide)
    · decide
  · decide
theorem law_bytes_ok (m : Int) (e1 e2 : Value) (h1 : ErrV e1) (h2 : ErrV e2) (g n : Int) (t tag s : ByteArray) (hs : s.size ≤ 140737488351232) (ht : t.size ≤ 140737488351232) : Eng.Spec Tryd.prog (glS m e1 e2) 6 [.d (.agg [.raw (.int .i64 g), .raw (.int .i64 n), .raw (.string t), .raw (.string tag)]), .d (.raw (.string s))] [] (.d (.raw (.bool true))) [] := by
  refine spec_fn Tryd.func6 rfl fun {w N E a} hsim => ?_
  have hw : IntKind.i64.wrap ((s.size : Int) + (t.size : Int)) = s.size + t.size := wrapI _ (by omega)
  have hs2 : decide (IntKind.i64.wrap ((s.size : Int) + (t.size : Int)) > (20000 : Int)) = false → s.size ≤ 1073741824 := fun h => by
    have := of_decide_eq_false h; rw [hw] at this; omega
  have hg : decide (IntKind.i64.wrap ((s.size : Int) + (t.size : Int)) > (20000 : Int)) = false → t.size ≤ 600000 ∧ s.size ≤ 20000 := fun h => by
    have := of_decide_eq_false h; rw [hw] at this; omega
  have hz : decide (IntKind.i64.wrap ((s.size : Int) + (t.size : Int)) > (20000 : Int)) = false → (eB g n t tag).size ≤ 1073741824 := fun h => eB_size (hg h).1
  have hdt : s.size ≤ 20000 → (dT s).size ≤ 600000 := fun h => by
    unfold dT decS
    split
    · rename_i hc
      show (at' (unpR s).1 1).size ≤ 600000
      have : (unpR s).1.getD 1 ByteArray.empty ∈ (unpR s).1 := by rw [List.getD_eq_getElem?_getD, List.getElem?_eq_getElem (by omega)]; exact List.getElem_mem _
      have := unp_mem hc.1 _ this
      unfold at'; omega
    · decide
  have x1 : decide (IntKind.i64.wrap ((s.size : Int) + (t.size : Int)) > (20000 : Int)) = false → eC g n t tag = 0 → dE (eB g n t tag) = 0 ∧ dG (eB g n t tag) = g ∧ dN (eB g n t tag) = n ∧ dT (eB g n t tag) = t ∧ dTag (eB g n t tag) = tag := fun h h0 => by
    have := decS_enc (hg h).1 h0; unfold dE dG dN dT dTag eB; rw [this]; exact ⟨rfl, rfl, rfl, rfl, rfl⟩
  have x2 : dE s = 0 → eC (dG s) (dN s) (dT s) (dTag s) = 0 ∧ eB (dG s) (dN s) (dT s) (dTag s) = s := fun h => by
    have := encS_dec h; unfold eC eB dG dN dT dTag; rw [this]; exact ⟨rfl, rfl⟩
  rcases Bool.eq_false_or_eq_true (decide (IntKind.i64.wrap ((↑s.size : Int) + (↑t.size : Int)) > (20000 : Int))) with hb1 | hb1
  · skip
    exact go_ret (CB_ok m e1 e2 h1 h2) rfl rfl Tryd.func6 (sr' := ⟨0, [.d (.raw (.bool (true)))], []⟩) (cs := [((decide (IntKind.i64.wrap ((↑s.size : Int) + (↑t.size : Int)) > (20000 : Int))) = true)]) [true] true (by kernel_rfl) (by kernel_rfl) ⟨hb1, trivial⟩ (by first | rfl | (exfalso; have x1 := x1 hb1; clear hsim hw hg hz hdt; simp only [eqcs, eqc, beqB, beq_ba] at *; grind)) hsim
  · skip
    rcases Bool.eq_false_or_eq_true (!(eB g n t tag).toList == (eB g n t tag).toList) with hb2 | hb2
    · skip
      have q0_ : (t.size ≤ (600000 : Nat)) := (by first | rfl | exact hs2 hb1 | exact (hg hb1).1 | exact hz hb1 | exact hdt (hg hb1).2)
      have q1_ : (s.size ≤ (1073741824 : Nat)) := (by first | rfl | exact hs2 hb1 | exact (hg hb1).1 | exact hz hb1 | exact hdt (hg hb1).2)
      exact go_ret (CB_ok m e1 e2 h1 h2) rfl rfl Tryd.func6 (sr' := ⟨0, [.d (.raw (.bool (false)))], []⟩) (cs := ((fun (c0 c1 : Prop) => [((decide (IntKind.i64.wrap ((↑s.size : Int) + (↑t.size : Int)) > (20000 : Int))) = false), c0, c0, c1, c1, ((!(eB g n t tag).toList == (eB g n t tag).toList) = true)]) (t.size ≤ (600000 : Nat)) (s.size ≤ (1073741824 : Nat)))) [false, true] true (by kernel_rfl) (by kernel_rfl) ⟨hb1, q0_, q0_, q1_, q1_, hb2, trivial⟩ (by first | rfl | (exfalso; have x1 := x1 hb1; clear hsim hw hg hz hdt; simp only [eqcs, eqc, beqB, beq_ba] at *; grind)) hsim
    · skip
      rcases Bool.eq_false_or_eq_true (eC g n t tag != eC g n t tag) with hb3 | hb3
      · skip
        have q0_ : (t.size ≤ (600000 : Nat)) := (by first | rfl | exact hs2 hb1 | exact (hg hb1).1 | exact hz hb1 | exact hdt (hg hb1).2)
        have q1_ : (s.size ≤ (1073741824 : Nat)) := (by first | rfl | exact hs2 hb1 | exact (hg hb1).1 | exact hz hb1 | exact hdt (hg hb1).2)
        exact go_ret (CB_ok m e1 e2 h1 h2) rfl rfl Tryd.func6 (sr' := ⟨0, [.d (.raw (.bool (false)))], []⟩) (cs := ((fun (c0 c1 : Prop) => [((decide (IntKind.i64.wrap ((↑s.size : Int) + (↑t.size : Int)) > (20000 : Int))) = false), c0, c0, c1, c1, ((!(eB g n t tag).toList == (eB g n t tag).toList) = false), ((eC g n t tag != eC g n t tag) = true)]) (t.size ≤ (600000 : Nat)) (s.size ≤ (1073741824 : Nat)))) [false, false, true] true (by kernel_rfl) (by kernel_rfl) ⟨hb1, q0_, q0_, q1_, q1_, hb2, hb3, trivial⟩ (by first | rfl | (exfalso; have x1 := x1 hb1; clear hsim hw hg hz hdt; simp only [eqcs, eqc, beqB, beq_ba] at *; grind)) hsim
      · skip
        rcases Bool.eq_false_or_eq_true (!eqcs [Value.int IntKind.i64 (dG s), Value.int IntKind.i64 (dN s)] [Value.int IntKind.i64 (dG s), Value.int IntKind.i64 (dN s)]) with hb4 | hb4
        · skip
          have q0_ : (t.size ≤ (600000 : Nat)) := (by first | rfl | exact hs2 hb1 | exact (hg hb1).1 | exact hz hb1 | exact hdt (hg hb1).2)
          have q1_ : (s.size ≤ (1073741824 : Nat)) := (by first | rfl | exact hs2 hb1 | exact (hg hb1).1 | exact hz hb1 | exact hdt (hg hb1).2)
          exact go_ret (CB_ok m e1 e2 h1 h2) rfl rfl Tryd.func6 (sr' := ⟨0, [.d (.raw (.bool (false)))], []⟩) (cs := ((fun (c0 c1 : Prop) => [((decide (IntKind.i64.wrap ((↑s.size : Int) + (↑t.size : Int)) > (20000 : Int))) = false), c0, c0, c1, c1, ((!(eB g n t tag).toList == (eB g n t tag).toList) = false), ((eC g n t tag != eC g n t tag) = false), ((!eqcs [Value.int IntKind.i64 (dG s), Value.int IntKind.i64 (dN s)] [Value.int IntKind.i64 (dG s), Value.int IntKind.i64 (dN s)]) = true)]) (t.size ≤ (600000 : Nat)) (s.size ≤ (1073741824 : Nat)))) [false, false, false, true] true (by kernel_rfl) (by kernel_rfl) ⟨hb1, q0_, q0_, q1_, q1_, hb2, hb3, hb4, trivial⟩ (by first | rfl | (exfalso; have x1 := x1 hb1; clear hsim hw hg hz hdt; simp only [eqcs, eqc, beqB, beq_ba] at *; grind)) hsim
        · skip
          rcases Bool.eq_false_or_eq_true (!(dT s).toList == (dT s).toList) with hb5 | hb5
          · skip
            have q0_ : (t.size ≤ (600000 : Nat)) := (by first | rfl | exact hs2 hb1 | exact (hg hb1).1 | exact hz hb1 | exact hdt (hg hb1).2)
            have q1_ : (s.size ≤ (1073741824 : Nat)) := (by first | rfl | exact hs2 hb1 | exact (hg hb1).1 | exact hz hb1 | exact hdt (hg hb1).2)
            exact go_ret (CB_ok m e1 e2 h1 h2) rfl rfl Tryd.func6 (sr' := ⟨0, [.d (.raw (.bool (false)))], []⟩) (cs := ((fun (c0 c1 : Prop) => [((decide (IntKind.i64.wrap ((↑s.size : Int) + (↑t.size : Int)) > (20000 : Int))) = false), c0, c0, c1, c1, ((!(eB g n t tag).toList == (eB g n t tag).toList) = false), ((eC g n t tag != eC g n t tag) = false), ((!eqcs [Value.int IntKind.i64 (dG s), Value.int IntKind.i64 (dN s)] [Value.int IntKind.i64 (dG s), Value.int IntKind.i64 (dN s)]) = false), ((!(dT s).toList == (dT s).toList) = true)]) (t.size ≤ (600000 : Nat)) (s.size ≤ (1073741824 : Nat)))) ((List.replicate 4 false) ++ [true]) true (by kernel_rfl) (by kernel_rfl) ⟨hb1, q0_, q0_, q1_, q1_, hb2, hb3, hb4, hb5, trivial⟩ (by first | rfl | (exfalso; have x1 := x1 hb1; clear hsim hw hg hz hdt; simp only [eqcs, eqc, beqB, beq_ba] at *; grind)) hsim
          · skip
            rcases Bool.eq_false_or_eq_true (!(dTag s).toList == (dTag s).toList) with hb6 | hb6
            · skip
              have q0_ : (t.size ≤ (600000 : Nat)) := (by first | rfl | exact hs2 hb1 | exact (hg hb1).1 | exact hz hb1 | exact hdt (hg hb1).2)
              have q1_ : (s.size ≤ (1073741824 : Nat)) := (by first | rfl | exact hs2 hb1 | exact (hg hb1).1 | exact hz hb1 | exact hdt (hg hb1).2)
              exact go_ret (CB_ok m e1 e2 h1 h2) rfl rfl Tryd.func6 (sr' := ⟨0, [.d (.raw (.bool (false)))], []⟩) (cs := ((fun (c0 c1 : Prop) => [((decide (IntKind.i64.wrap ((↑s.size : Int) + (↑t.size : Int)) > (20000 : Int))) = false), c0, c0, c1, c1, ((!(eB g n t tag).toList == (eB g n t tag).toList) = false), ((eC g n t tag != eC g n t tag) = false), ((!eqcs [Value.int IntKind.i64 (dG s), Value.int IntKind.i64 (dN s)] [Value.int IntKind.i64 (dG s), Value.int IntKind.i64 (dN s)]) = false), ((!(dT s).toList == (dT s).toList) = false), ((!(dTag s).toList == (dTag s).toList) = true)]) (t.size ≤ (600000 : Nat)) (s.size ≤ (1073741824 : Nat)))) ((List.replicate 5 false) ++ [true]) true (by kernel_rfl) (by kernel_rfl) ⟨hb1, q0_, q0_, q1_, q1_, hb2, hb3, hb4, hb5, hb6, trivial⟩ (by first | rfl | (exfalso; have x1 := x1 hb1; clear hsim hw hg hz hdt; simp only [eqcs, eqc, beqB, beq_ba] at *; grind)) hsim
            · skip
              rcases Bool.eq_false_or_eq_true (dE s != dE s) with hb7 | hb7
              · skip
                have q0_ : (t.size ≤ (600000 : Nat)) := (by first | rfl | exact hs2 hb1 | exact (hg hb1).1 | exact hz hb1 | exact hdt (hg hb1).2)
                have q1_ : (s.size ≤ (1073741824 : Nat)) := (by first | rfl | exact hs2 hb1 | exact (hg hb1).1 | exact hz hb1 | exact hdt (hg hb1).2)
                exact go_ret (CB_ok m e1 e2 h1 h2) rfl rfl Tryd.func6 (sr' := ⟨0, [.d (.raw (.bool (false)))], []⟩) (cs := ((fun (c0 c1 : Prop) => [((decide (IntKind.i64.wrap ((↑s.size : Int) + (↑t.size : Int)) > (20000 : Int))) = false), c0, c0, c1, c1, ((!(eB g n t tag).toList == (eB g n t tag).toList) = false), ((eC g n t tag != eC g n t tag) = false), ((!eqcs [Value.int IntKind.i64 (dG s), Value.int IntKind.i64 (dN s)] [Value.int IntKind.i64 (dG s), Value.int IntKind.i64 (dN s)]) = false), ((!(dT s).toList == (dT s).toList) = false), ((!(dTag s).toList == (dTag s).toList) = false), ((dE s != dE s) = true)]) (t.size ≤ (600000 : Nat)) (s.size ≤ (1073741824 : Nat)))) ((List.replicate 6 false) ++ [true]) true (by kernel_rfl) (by kernel_rfl) ⟨hb1, q0_, q0_, q1_, q1_, hb2, hb3, hb4, hb5, hb6, hb7, trivial⟩ (by first | rfl | (exfalso; have x1 := x1 hb1; clear hsim hw hg hz hdt; simp only [eqcs, eqc, beqB, beq_ba] at *; grind)) hsim
              · skip
                rcases Bool.eq_false_or_eq_true (eC g n t tag == (0 : Int)) with hb8 | hb8
                · skip
                  rcases Bool.eq_false_or_eq_true (dE (eB g n t tag) != (0 : Int)) with hb9 | hb9
                  · skip
                    have q0_ : (t.size ≤ (600000 : Nat)) := (by first | rfl | exact hs2 hb1 | exact (hg hb1).1 | exact hz hb1 | exact hdt (hg hb1).2)
                    have q1_ : (s.size ≤ (1073741824 : Nat)) := (by first | rfl | exact hs2 hb1 | exact (hg hb1).1 | exact hz hb1 | exact hdt (hg hb1).2)
                    exact go_ret (CB_ok m e1 e2 h1 h2) rfl rfl Tryd.func6 (sr' := ⟨0, [.d (.raw (.bool (false)))], []⟩) (cs := ((fun (c0 c1 : Prop) => [((decide (IntKind.i64.wrap ((↑s.size : Int) + (↑t.size : Int)) > (20000 : Int))) = false), c0, c0, c1, c1, ((!(eB g n t tag).toList == (eB g n t tag).toList) = false), ((eC g n t tag != eC g n t tag) = false), ((!eqcs [Value.int IntKind.i64 (dG s), Value.int IntKind.i64 (dN s)] [Value.int IntKind.i64 (dG s), Value.int IntKind.i64 (dN s)]) = false), ((!(dT s).toList == (dT s).toList) = false), ((!(dTag s).toList == (dTag s).toList) = false), ((dE s != dE s) = false), ((eC g n t tag == (0 : Int)) = true), ((eB g n t tag).size ≤ (1073741824 : Nat)), ((dE (eB g n t tag) != (0 : Int)) = true)]) (t.size ≤ (600000 : Nat)) (s.size ≤ (1073741824 : Nat)))) ((List.replicate 7 false) ++ [true, true]) true (by kernel_rfl) (by kernel_rfl) ⟨hb1, q0_, q0_, q1_, q1_, hb2, hb3, hb4, hb5, hb6, hb7, hb8, (by first | rfl | exact hs2 hb1 | exact (hg hb1).1 | exact hz hb1 | exact hdt (hg hb1).2), hb9, trivial⟩ (by first | rfl | (exfalso; have x1 := x1 hb1; clear hsim hw hg hz hdt; simp only [eqcs, eqc, beqB, beq_ba] at *; grind)) hsim
                  · skip
                    rcases Bool.eq_false_or_eq_true (!eqcs [Value.int IntKind.i64 (dG (eB g n t tag)), Value.int IntKind.i64 (dN (eB g n t tag)), Value.string (dT (eB g n t tag)), Value.string (dTag (eB g n t tag))] [Value.int IntKind.i64 g, Value.int IntKind.i64 n, Value.string t, Value.string tag]) with hb10 | hb10
                    · skip
                      have q0_ : (t.size ≤ (600000 : Nat)) := (by first | rfl | exact hs2 hb1 | exact (hg hb1).1 | exact hz hb1 | exact hdt (hg hb1).2)
                      have q1_ : (s.size ≤ (1073741824 : Nat)) := (by first | rfl | exact hs2 hb1 | exact (hg hb1).1 | exact hz hb1 | exact hdt (hg hb1).2)
                      exact go_ret (CB_ok m e1 e2 h1 h2) rfl rfl Tryd.func6 (sr' := ⟨0, [.d (.raw (.bool (false)))], []⟩) (cs := ((fun (c0 c1 : Prop) => [((decide (IntKind.i64.wrap ((↑s.size : Int) + (↑t.size : Int)) > (20000 : Int))) = false), c0, c0, c1, c1, ((!(eB g n t tag).toList == (eB g n t tag).toList) = false), ((eC g n t tag != eC g n t tag) = false), ((!eqcs [Value.int IntKind.i64 (dG s), Value.int IntKind.i64 (dN s)] [Value.int IntKind.i64 (dG s), Value.int IntKind.i64 (dN s)]) = false), ((!(dT s).toList == (dT s).toList) = false), ((!(dTag s).toList == (dTag s).toList) = false), ((dE s != dE s) = false), ((eC g n t tag == (0 : Int)) = true), ((eB g n t tag).size ≤ (1073741824 : Nat)), ((dE (eB g n t tag) != (0 : Int)) = false), ((!eqcs [Value.int IntKind.i64 (dG (eB g n t tag)), Value.int IntKind.i64 (dN (eB g n t tag)), Value.string (dT (eB g n t tag)), Value.string (dTag (eB g n t tag))] [Value.int IntKind.i64 g, Value.int IntKind.i64 n, Value.string t, Value.string tag]) = true)]) (t.size ≤ (600000 : Nat)) (s.size ≤ (1073741824 : Nat)))) ((List.replicate 7 false) ++ [true, false, true]) true (by kernel_rfl) (by kernel_rfl) ⟨hb1, q0_, q0_, q1_, q1_, hb2, hb3, hb4, hb5, hb6, hb7, hb8, (by first | rfl | exact hs2 hb1 | exact (hg hb1).1 | exact hz hb1 | exact hdt (hg hb1).2), hb9, hb10, trivial⟩ (by first | rfl | (exfalso; have x1 := x1 hb1; clear hsim hw hg hz hdt; simp only [eqcs, eqc, beqB, beq_ba] at *; grind)) hsim
                    · skip
                      rcases Bool.eq_false_or_eq_true (dE s == (0 : Int)) with hb11 | hb11
                      · skip
                        rcases Bool.eq_false_or_eq_true (eC (dG s) (dN s) (dT s) (dTag s) != (0 : Int)) with hb12 | hb12
                        · skip
                          have q0_ : (t.size ≤ (600000 : Nat)) := (by first | rfl | exact hs2 hb1 | exact (hg hb1).1 | exact hz hb1 | exact hdt (hg hb1).2)
                          have q1_ : (s.size ≤ (1073741824 : Nat)) := (by first | rfl | exact hs2 hb1 | exact (hg hb1).1 | exact hz hb1 | exact hdt (hg hb1).2)
                          exact go_ret (CB_ok m e1 e2 h1 h2) rfl rfl Tryd.func6 (sr' := ⟨0, [.d (.raw (.bool (false)))], []⟩) (cs := ((fun (c0 c1 : Prop) => [((decide (IntKind.i64.wrap ((↑s.size : Int) + (↑t.size : Int)) > (20000 : Int))) = false), c0, c0, c1, c1, ((!(eB g n t tag).toList == (eB g n t tag).toList) = false), ((eC g n t tag != eC g n t tag) = false), ((!eqcs [Value.int IntKind.i64 (dG s), Value.int IntKind.i64 (dN s)] [Value.int IntKind.i64 (dG s), Value.int IntKind.i64 (dN s)]) = false), ((!(dT s).toList == (dT s).toList) = false), ((!(dTag s).toList == (dTag s).toList) = false), ((dE s != dE s) = false), ((eC g n t tag == (0 : Int)) = true), ((eB g n t tag).size ≤ (1073741824 : Nat)), ((dE (eB g n t tag) != (0 : Int)) = false), ((!eqcs [Value.int IntKind.i64 (dG (eB g n t tag)), Value.int IntKind.i64 (dN (eB g n t tag)), Value.string (dT (eB g n t tag)), Value.string (dTag (eB g n t tag))] [Value.int IntKind.i64 g, Value.int IntKind.i64 n, Value.string t, Value.string tag]) = false), ((dE s == (0 : Int)) = true), ((dT s).size ≤ (600000 : Nat)), ((eC (dG s) (dN s) (dT s) (dTag s) != (0 : Int)) = true)]) (t.size ≤ (600000 : Nat)) (s.size ≤ (1073741824 : Nat)))) ((List.replicate 7 false) ++ [true, false, false, true, true]) true (by kernel_rfl) (by kernel_rfl) ⟨hb1, q0_, q0_, q1_, q1_, hb2, hb3, hb4, hb5, hb6, hb7, hb8, (by first | rfl | exact hs2 hb1 | exact (hg hb1).1 | exact hz hb1 | exact hdt (hg hb1).2), hb9, hb10, hb11, (by first | rfl | exact hs2 hb1 | exact (hg hb1).1 | exact hz hb1 | exact hdt (hg hb1).2), hb12, trivial⟩ (by first | rfl | (exfalso; have x1 := x1 hb1; clear hsim hw hg hz hdt; simp only [eqcs, eqc, beqB, beq_ba] at *; grind)) hsim
                        · skip
                          rcases Bool.eq_false_or_eq_true (!(eB (dG s) (dN s) (dT s) (dTag s)).toList == s.toList) with hb13 | hb13
                          · skip
                            have q0_ : (t.size ≤ (600000 : Nat)) := (by first | rfl | exact hs2 hb1 | exact (hg hb1).1 | exact hz hb1 | exact hdt (hg hb1).2)
                            have q1_ : (s.size ≤ (1073741824 : Nat)) := (by first | rfl | exact hs2 hb1 | exact (hg hb1).1 | exact hz hb1 | exact hdt (hg hb1).2)
                            exact go_ret (CB_ok m e1 e2 h1 h2) rfl rfl Tryd.func6 (sr' := ⟨0, [.d (.raw (.bool (false)))], []⟩) (cs := ((fun (c0 c1 : Prop) => [((decide (IntKind.i64.wrap ((↑s.size : Int) + (↑t.size : Int)) > (20000 : Int))) = false), c0, c0, c1, c1, ((!(eB g n t tag).toList == (eB g n t tag).toList) = false), ((eC g n t tag != eC g n t tag) = false), ((!eqcs [Value.int IntKind.i64 (dG s), Value.int IntKind.i64 (dN s)] [Value.int IntKind.i64 (dG s), Value.int IntKind.i64 (dN s)]) = false), ((!(dT s).toList == (dT s).toList) = false), ((!(dTag s).toList == (dTag s).toList) = false), ((dE s != dE s) = false), ((eC g n t tag == (0 : Int)) = true), ((eB g n t tag).size ≤ (1073741824 : Nat)), ((dE (eB g n t tag) != (0 : Int)) = false), ((!eqcs [Value.int IntKind.i64 (dG (eB g n t tag)), Value.int IntKind.i64 (dN (eB g n t tag)), Value.string (dT (eB g n t tag)), Value.string (dTag (eB g n t tag))] [Value.int IntKind.i64 g, Value.int IntKind.i64 n, Value.string t, Value.string tag]) = false), ((dE s == (0 : Int)) = true), ((dT s).size ≤ (600000 : Nat)), ((eC (dG s) (dN s) (dT s) (dTag s) != (0 : Int)) = false), ((!(eB (dG s) (dN s) (dT s) (dTag s)).toList == s.toList) = true)]) (t.size ≤ (600000 : Nat)) (s.size ≤ (1073741824 : Nat)))) ((List.replicate 7 false) ++ [true, false, false, true, false, true]) true (by kernel_rfl) (by kernel_rfl) ⟨hb1, q0_, q0_, q1_, q1_, hb2, hb3, hb4, hb5, hb6, hb7, hb8, (by first | rfl | exact hs2 hb1 | exact (hg hb1).1 | exact hz hb1 | exact hdt (hg hb1).2), hb9, hb10, hb11, (by first | rfl | exact hs2 hb1 | exact (hg hb1).1 | exact hz hb1 | exact hdt (hg hb1).2), hb12, hb13, trivial⟩ (by first | rfl | (exfalso; have x1 := x1 hb1; clear hsim hw hg hz hdt; simp only [eqcs, eqc, beqB, beq_ba] at *; grind)) hsim
                          · skip
                            have q0_ : (t.size ≤ (600000 : Nat)) := (by first | rfl | exact hs2 hb1 | exact (hg hb1).1 | exact hz hb1 | exact hdt (hg hb1).2)
                            have q1_ : (s.size ≤ (1073741824 : Nat)) := (by first | rfl | exact hs2 hb1 | exact (hg hb1).1 | exact hz hb1 | exact hdt (hg hb1).2)
                            exact go_ret (CB_ok m e1 e2 h1 h2) rfl rfl Tryd.func6 (sr' := ⟨0, [.d (.raw (.bool (true)))], []⟩) (cs := ((fun (c0 c1 : Prop) => [((decide (IntKind.i64.wrap ((↑s.size : Int) + (↑t.size : Int)) > (20000 : Int))) = false), c0, c0, c1, c1, ((!(eB g n t tag).toList == (eB g n t tag).toList) = false), ((eC g n t tag != eC g n t tag) = false), ((!eqcs [Value.int IntKind.i64 (dG s), Value.int IntKind.i64 (dN s)] [Value.int IntKind.i64 (dG s), Value.int IntKind.i64 (dN s)]) = false), ((!(dT s).toList == (dT s).toList) = false), ((!(dTag s).toList == (dTag s).toList) = false), ((dE s != dE s) = false), ((eC g n t tag == (0 : Int)) = true), ((eB g n t tag).size ≤ (1073741824 : Nat)), ((dE (eB g n t tag) != (0 : Int)) = false), ((!eqcs [Value.int IntKind.i64 (dG (eB g n t tag)), Value.int IntKind.i64 (dN (eB g n t tag)), Value.string (dT (eB g n t tag)), Value.string (dTag (eB g n t tag))] [Value.int IntKind.i64 g, Value.int IntKind.i64 n, Value.string t, Value.string tag]) = false), ((dE s == (0 : Int)) = true), ((dT s).size ≤ (600000 : Nat)), ((eC (dG s) (dN s) (dT s) (dTag s) != (0 : Int)) = false), ((!(eB (dG s) (dN s) (dT s) (dTag s)).toList == s.toList) = false)]) (t.size ≤ (600000 : Nat)) (s.size ≤ (1073741824 : Nat)))) ((List.replicate 7 false) ++ [true, false, false, true, false, false]) true (by kernel_rfl) (by kernel_rfl) ⟨hb1, q0_, q0_, q1_, q1_, hb2, hb3, hb4, hb5, hb6, hb7, hb8, (by first | rfl | exact hs2 hb1 | exact (hg hb1).1 | exact hz hb1 | exact hdt (hg hb1).2), hb9, hb10, hb11, (by first | rfl | exact hs2 hb1 | exact (hg hb1).1 | exact hz hb1 | exact hdt (hg hb1).2), hb12, hb13, trivial⟩ (by first | rfl | (exfalso; have x1 := x1 hb1; clear hsim hw hg hz hdt; simp only [eqcs, eqc, beqB, beq_ba] at *; grind)) hsim
                      · skip
                        have q0_ : (t.size ≤ (600000 : Nat)) := (by first | rfl | exact hs2 hb1 | exact (hg hb1).1 | exact hz hb1 | exact hdt (hg hb1).2)
                        have q1_ : (s.size ≤ (1073741824 : Nat)) := (by first | rfl | exact hs2 hb1 | exact (hg hb1).1 | exact hz hb1 | exact hdt (hg hb1).2)
                        exact go_ret (CB_ok m e1 e2 h1 h2) rfl rfl Tryd.func6 (sr' := ⟨0, [.d (.raw (.bool (true)))], []⟩) (cs := ((fun (c0 c1 : Prop) => [((decide (IntKind.i64.wrap ((↑s.size : Int) + (↑t.size : Int)) > (20000 : Int))) = false), c0, c0, c1, c1, ((!(eB g n t tag).toList == (eB g n t tag).toList) = false), ((eC g n t tag != eC g n t tag) = false), ((!eqcs [Value.int IntKind.i64 (dG s), Value.int IntKind.i64 (dN s)] [Value.int IntKind.i64 (dG s), Value.int IntKind.i64 (dN s)]) = false), ((!(dT s).toList == (dT s).toList) = false), ((!(dTag s).toList == (dTag s).toList) = false), ((dE s != dE s) = false), ((eC g n t tag == (0 : Int)) = true), ((eB g n t tag).size ≤ (1073741824 : Nat)), ((dE (eB g n t tag) != (0 : Int)) = false), ((!eqcs [Value.int IntKind.i64 (dG (eB g n t tag)), Value.int IntKind.i64 (dN (eB g n t tag)), Value.string (dT (eB g n t tag)), Value.string (dTag (eB g n t tag))] [Value.int IntKind.i64 g, Value.int IntKind.i64 n, Value.string t, Value.string tag]) = false), ((dE s == (0 : Int)) = false)]) (t.size ≤ (600000 : Nat)) (s.size ≤ (1073741824 : Nat)))) ((List.replicate 7 false) ++ [true, false, false, false]) true (by kernel_rfl) (by kernel_rfl) ⟨hb1, q0_, q0_, q1_, q1_, hb2, hb3, hb4, hb5, hb6, hb7, hb8, (by first | rfl | exact hs2 hb1 | exact (hg hb1).1 | exact hz hb1 | exact hdt (hg hb1).2), hb9, hb10, hb11, trivial⟩ (by first | rfl | (exfalso; have x1 := x1 hb1; clear hsim hw hg hz hdt; simp only [eqcs, eqc, beqB, beq_ba] at *; grind)) hsim
                · skip
                  rcases Bool.eq_false_or_eq_true (dE s == (0 : Int)) with hb14 | hb14
                  · skip
                    rcases Bool.eq_false_or_eq_true (eC (dG s) (dN s) (dT s) (dTag s) != (0 : Int)) with hb15 | hb15
                    · skip
                      have q0_ : (t.size ≤ (600000 : Nat)) := (by first | rfl | exact hs2 hb1 | exact (hg hb1).1 | exact hz hb1 | exact hdt (hg hb1).2)
                      have q1_ : (s.size ≤ (1073741824 : Nat)) := (by first | rfl | exact hs2 hb1 | exact (hg hb1).1 | exact hz hb1 | exact hdt (hg hb1).2)
                      exact go_ret (CB_ok m e1 e2 h1 h2) rfl rfl Tryd.func6 (sr' := ⟨0, [.d (.raw (.bool (false)))], []⟩) (cs := ((fun (c0 c1 : Prop) => [((decide (IntKind.i64.wrap ((↑s.size : Int) + (↑t.size : Int)) > (20000 : Int))) = false), c0, c0, c1, c1, ((!(eB g n t tag).toList == (eB g n t tag).toList) = false), ((eC g n t tag != eC g n t tag) = false), ((!eqcs [Value.int IntKind.i64 (dG s), Value.int IntKind.i64 (dN s)] [Value.int IntKind.i64 (dG s), Value.int IntKind.i64 (dN s)]) = false), ((!(dT s).toList == (dT s).toList) = false), ((!(dTag s).toList == (dTag s).toList) = false), ((dE s != dE s) = false), ((eC g n t tag == (0 : Int)) = false), ((dE s == (0 : Int)) = true), ((dT s).size ≤ (600000 : Nat)), ((eC (dG s) (dN s) (dT s) (dTag s) != (0 : Int)) = true)]) (t.size ≤ (600000 : Nat)) (s.size ≤ (1073741824 : Nat)))) ((List.replicate 8 false) ++ [true, true]) true (by kernel_rfl) (by kernel_rfl) ⟨hb1, q0_, q0_, q1_, q1_, hb2, hb3, hb4, hb5, hb6, hb7, hb8, hb14, (by first | rfl | exact hs2 hb1 | exact (hg hb1).1 | exact hz hb1 | exact hdt (hg hb1).2), hb15, trivial⟩ (by first | rfl | (exfalso; have x1 := x1 hb1; clear hsim hw hg hz hdt; simp only [eqcs, eqc, beqB, beq_ba] at *; grind)) hsim
                    · skip
                      rcases Bool.eq_false_or_eq_true (!(eB (dG s) (dN s) (dT s) (dTag s)).toList == s.toList) with hb16 | hb16
                      · skip
                        have q0_ : (t.size ≤ (600000 : Nat)) := (by first | rfl | exact hs2 hb1 | exact (hg hb1).1 | exact hz hb1 | exact hdt (hg hb1).2)
                        have q1_ : (s.size ≤ (1073741824 : Nat)) := (by first | rfl | exact hs2 hb1 | exact (hg hb1).1 | exact hz hb1 | exact hdt (hg hb1).2)
                        exact go_ret (CB_ok m e1 e2 h1 h2) rfl rfl Tryd.func6 (sr' := ⟨0, [.d (.raw (.bool (false)))], []⟩) (cs := ((fun (c0 c1 : Prop) => [((decide (IntKind.i64.wrap ((↑s.size : Int) + (↑t.size : Int)) > (20000 : Int))) = false), c0, c0, c1, c1, ((!(eB g n t tag).toList == (eB g n t tag).toList) = false), ((eC g n t tag != eC g n t tag) = false), ((!eqcs [Value.int IntKind.i64 (dG s), Value.int IntKind.i64 (dN s)] [Value.int IntKind.i64 (dG s), Value.int IntKind.i64 (dN s)]) = false), ((!(dT s).toList == (dT s).toList) = false), ((!(dTag s).toList == (dTag s).toList) = false), ((dE s != dE s) = false), ((eC g n t tag == (0 : Int)) = false), ((dE s == (0 : Int)) = true), ((dT s).size ≤ (600000 : Nat)), ((eC (dG s) (dN s) (dT s) (dTag s) != (0 : Int)) = false), ((!(eB (dG s) (dN s) (dT s) (dTag s)).toList == s.toList) = true)]) (t.size ≤ (600000 : Nat)) (s.size ≤ (1073741824 : Nat)))) ((List.replicate 8 false) ++ [true, false, true]) true (by kernel_rfl) (by kernel_rfl) ⟨hb1, q0_, q0_, q1_, q1_, hb2, hb3, hb4, hb5, hb6, hb7, hb8, hb14, (by first | rfl | exact hs2 hb1 | exact (hg hb1).1 | exact hz hb1 | exact hdt (hg hb1).2), hb15, hb16, trivial⟩ (by first | rfl | (exfalso; have x1 := x1 hb1; clear hsim hw hg hz hdt; simp only [eqcs, eqc, beqB, beq_ba] at *; grind)) hsim
                      · skip
                        have q0_ : (t.size ≤ (600000 : Nat)) := (by first | rfl | exact hs2 hb1 | exact (hg hb1).1 | exact hz hb1 | exact hdt (hg hb1).2)
                        have q1_ : (s.size ≤ (1073741824 : Nat)) := (by first | rfl | exact hs2 hb1 | exact (hg hb1).1 | exact hz hb1 | exact hdt (hg hb1).2)
                        exact go_ret (CB_ok m e1 e2 h1 h2) rfl rfl Tryd.func6 (sr' := ⟨0, [.d (.raw (.bool (true)))], []⟩) (cs := ((fun (c0 c1 : Prop) => [((decide (IntKind.i64.wrap ((↑s.size : Int) + (↑t.size : Int)) > (20000 : Int))) = false), c0, c0, c1, c1, ((!(eB g n t tag).toList == (eB g n t tag).toList) = false), ((eC g n t tag != eC g n t tag) = false), ((!eqcs [Value.int IntKind.i64 (dG s), Value.int IntKind.i64 (dN s)] [Value.int IntKind.i64 (dG s), Value.int IntKind.i64 (dN s)]) = false), ((!(dT s).toList == (dT s).toList) = false), ((!(dTag s).toList == (dTag s).toList) = false), ((dE s != dE s) = false), ((eC g n t tag == (0 : Int)) = false), ((dE s == (0 : Int)) = true), ((dT s).size ≤ (600000 : Nat)), ((eC (dG s) (dN s) (dT s) (dTag s) != (0 : Int)) = false), ((!(eB (dG s) (dN s) (dT s) (dTag s)).toList == s.toList) = false)]) (t.size ≤ (600000 : Nat)) (s.size ≤ (1073741824 : Nat)))) ((List.replicate 8 false) ++ [true, false, false]) true (by kernel_rfl) (by kernel_rfl) ⟨hb1, q0_, q0_, q1_, q1_, hb2, hb3, hb4, hb5, hb6, hb7, hb8, hb14, (by first | rfl | exact hs2 hb1 | exact (hg hb1).1 | exact hz hb1 | exact hdt (hg hb1).2), hb15, hb16, trivial⟩ (by first | rfl | (exfalso; have x1 := x1 hb1; clear hsim hw hg hz hdt; simp only [eqcs, eqc, beqB, beq_ba] at *; grind)) hsim
                  · skip
                    have q0_ : (t.size ≤ (600000 : Nat)) := (by first | rfl | exact hs2 hb1 | exact (hg hb1).1 | exact hz hb1 | exact hdt (hg hb1).2)
                    have q1_ : (s.size ≤ (1073741824 : Nat)) := (by first | rfl | exact hs2 hb1 | exact (hg hb1).1 | exact hz hb1 | exact hdt (hg hb1).2)
                    exact go_ret (CB_ok m e1 e2 h1 h2) rfl rfl Tryd.func6 (sr' := ⟨0, [.d (.raw (.bool (true)))], []⟩) (cs := ((fun (c0 c1 : Prop) => [((decide (IntKind.i64.wrap ((↑s.size : Int) + (↑t.size : Int)) > (20000 : Int))) = false), c0, c0, c1, c1, ((!(eB g n t tag).toList == (eB g n t tag).toList) = false), ((eC g n t tag != eC g n t tag) = false), ((!eqcs [Value.int IntKind.i64 (dG s), Value.int IntKind.i64 (dN s)] [Value.int IntKind.i64 (dG s), Value.int IntKind.i64 (dN s)]) = false), ((!(dT s).toList == (dT s).toList) = false), ((!(dTag s).toList == (dTag s).toList) = false), ((dE s != dE s) = false), ((eC g n t tag == (0 : Int)) = false), ((dE s == (0 : Int)) = false)]) (t.size ≤ (600000 : Nat)) (s.size ≤ (1073741824 : Nat)))) ((List.replicate 9 false)) true (by kernel_rfl) (by kernel_rfl) ⟨hb1, q0_, q0_, q1_, q1_, hb2, hb3, hb4, hb5, hb6, hb7, hb8, hb14, trivial⟩ (by first | rfl | (exfalso; have x1 := x1 hb1; clear hsim hw hg hz hdt; simp only [eqcs, eqc, beqB, beq_ba] at *; grind)) hsim
theorem CZ_ok : OrcOK Tryd.prog CZ := ((((((OrcOK.none glT).add _ false _ mTagN_ok).add _ false _ mSignN_ok).add _ false _ mChkN_ok).add _ false _ mIsR_ok.any).add _ false _ mOne_ok)
theorem law_nil_ok (g n : Int) (t tag : ByteArray) : Eng.Spec Tryd.prog glT 4 [.d (.agg [.raw (.int .i64 g), .raw (.int .i64 n), .raw (.string t), .raw (.string tag)])] [] (.d (.raw (.bool true))) [] := by
  refine spec_fn Tryd.func4 rfl fun {w N E a} hsim => ?_
  have x1 : nilE g n = if isM g n = true then 7 else 1 := rfl
  rcases Bool.eq_false_or_eq_true (!isM g n) with hb1 | hb1
  · skip
    rcases Bool.eq_false_or_eq_true (nilE g n == (1 : Int)) with hb2 | hb2
    · skip
      have q0_ : ((nilE g n == (1 : Int)) = true) := hb2
      exact go_ret CZ_ok rfl rfl Tryd.func4 (sr' := ⟨0, [.d (.raw (.bool (true)))], []⟩) (cs := ((fun (c0 : Prop) => [((!isM g n) = true), c0, c0, c0]) ((nilE g n == (1 : Int)) = true))) ((List.replicate 4 true)) true (by kernel_rfl) (by kernel_rfl) ⟨hb1, q0_, q0_, q0_, trivial⟩ (by first | rfl | (exfalso; clear hsim; grind)) hsim
    · skip
      exact go_ret CZ_ok rfl rfl Tryd.func4 (sr' := ⟨0, [.d (.raw (.bool (false)))], []⟩) (cs := [((!isM g n) = true), ((nilE g n == (1 : Int)) = false)]) [true, false] true (by kernel_rfl) (by kernel_rfl) ⟨hb1, hb2, trivial⟩ (by first | rfl | (exfalso; clear hsim; grind)) hsim
  · skip
    rcases Bool.eq_false_or_eq_true (nilE g n == (7 : Int)) with hb3 | hb3
    · skip
      have q0_ : ((nilE g n == (7 : Int)) = true) := hb3
      exact go_ret CZ_ok rfl rfl Tryd.func4 (sr' := ⟨0, [.d (.raw (.bool (true)))], []⟩) (cs := ((fun (c0 : Prop) => [((!isM g n) = false), c0, c0, c0]) ((nilE g n == (7 : Int)) = true))) [false, true, true, true] true (by kernel_rfl) (by kernel_rfl) ⟨hb1, q0_, q0_, q0_, trivial⟩ (by first | rfl | (exfalso; clear hsim; grind)) hsim
    · skip
      exact go_ret CZ_ok rfl rfl Tryd.func4 (sr' := ⟨0, [.d (.raw (.bool (false)))], []⟩) (cs := [((!isM g n) = false), ((nilE g n == (7 : Int)) = false)]) [false, false] true (by kernel_rfl) (by kernel_rfl) ⟨hb1, hb3, trivial⟩ (by first | rfl | (exfalso; clear hsim; grind)) hsim
end Go.Sea
