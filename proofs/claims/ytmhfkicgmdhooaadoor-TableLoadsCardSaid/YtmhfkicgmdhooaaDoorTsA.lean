/-
  Contracts of given functions, or plain laws that they need. No condition.
-/
import Derived.Test.YtmhfkicgmdhooaaDoorTabF
import Derived.Test.YtmhfkicgmdhooaaDoorTsG
namespace Go.Tab
open Go Go.Eng Go.Proofs Go.Nest
set_option linter.unusedVariables false
set_option linter.unusedSimpArgs false
set_option maxRecDepth 100000
set_option maxHeartbeats 4000000
theorem rcheck_ok (k : Int) (key val old : ByteArray) : Eng.Spec Tryd.prog g0 16 [.d (.agg [.raw (.int .i64 k), .raw (.string key), .raw (.string val), .raw (.string old)])] [] (.d (.raw (.int .i64 (checkM k key val old)))) [] := by
  refine spec_fn Tryd.func16 rfl fun {w N E a} hsim => ?_
  rcases Bool.eq_false_or_eq_true (decide (k < (1 : Int))) with hb1 | hb1
  · skip
    exact go_ret (OrcOK.none g0) rfl rfl Tryd.func16 (sr' := ⟨0, [.d (.raw (.int .i64 ((1 : Int))))], []⟩) (cs := [((decide (k < (1 : Int))) = true)]) [true] true (by kernel_rfl) (by kernel_rfl) ⟨hb1, trivial⟩ (by exact ck_ret (by unfold checkM; simp only [beq_mk, bne, beq_mk, Bool.not_eq_true', Bool.not_eq_false', decide_eq_true_eq, decide_eq_false_iff_not, beq_iff_eq, beq_eq_false_iff_ne, bne_iff_ne, bne_eq_false_iff_eq] at *; (repeat' split) <;> omega)) hsim
  · skip
    rcases Bool.eq_false_or_eq_true (decide (k > (5 : Int))) with hb2 | hb2
    · skip
      exact go_ret (OrcOK.none g0) rfl rfl Tryd.func16 (sr' := ⟨0, [.d (.raw (.int .i64 ((1 : Int))))], []⟩) (cs := [((decide (k < (1 : Int))) = false), ((decide (k > (5 : Int))) = true)]) [false, true] true (by kernel_rfl) (by kernel_rfl) ⟨hb1, hb2, trivial⟩ (by exact ck_ret (by unfold checkM; simp only [beq_mk, bne, beq_mk, Bool.not_eq_true', Bool.not_eq_false', decide_eq_true_eq, decide_eq_false_iff_not, beq_iff_eq, beq_eq_false_iff_ne, bne_iff_ne, bne_eq_false_iff_eq] at *; (repeat' split) <;> omega)) hsim
    · skip
      rcases Bool.eq_false_or_eq_true (decide ((↑key.size : Int) < (1 : Int))) with hb3 | hb3
      · skip
        exact go_ret (OrcOK.none g0) rfl rfl Tryd.func16 (sr' := ⟨0, [.d (.raw (.int .i64 ((130 : Int))))], []⟩) (cs := [((decide (k < (1 : Int))) = false), ((decide (k > (5 : Int))) = false), ((decide ((↑key.size : Int) < (1 : Int))) = true)]) [false, false, true] true (by kernel_rfl) (by kernel_rfl) ⟨hb1, hb2, hb3, trivial⟩ (by exact ck_ret (by unfold checkM; simp only [beq_mk, bne, beq_mk, Bool.not_eq_true', Bool.not_eq_false', decide_eq_true_eq, decide_eq_false_iff_not, beq_iff_eq, beq_eq_false_iff_ne, bne_iff_ne, bne_eq_false_iff_eq] at *; (repeat' split) <;> omega)) hsim
      · skip
        rcases Bool.eq_false_or_eq_true (decide ((↑key.size : Int) > (16 : Int))) with hb4 | hb4
        · skip
          exact go_ret (OrcOK.none g0) rfl rfl Tryd.func16 (sr' := ⟨0, [.d (.raw (.int .i64 ((130 : Int))))], []⟩) (cs := [((decide (k < (1 : Int))) = false), ((decide (k > (5 : Int))) = false), ((decide ((↑key.size : Int) < (1 : Int))) = false), ((decide ((↑key.size : Int) > (16 : Int))) = true)]) [false, false, false, true] true (by kernel_rfl) (by kernel_rfl) ⟨hb1, hb2, hb3, hb4, trivial⟩ (by exact ck_ret (by unfold checkM; simp only [beq_mk, bne, beq_mk, Bool.not_eq_true', Bool.not_eq_false', decide_eq_true_eq, decide_eq_false_iff_not, beq_iff_eq, beq_eq_false_iff_ne, bne_iff_ne, bne_eq_false_iff_eq] at *; (repeat' split) <;> omega)) hsim
        · skip
          rcases Bool.eq_false_or_eq_true (decide ((↑val.size : Int) > (64 : Int))) with hb5 | hb5
          · skip
            exact go_ret (OrcOK.none g0) rfl rfl Tryd.func16 (sr' := ⟨0, [.d (.raw (.int .i64 ((130 : Int))))], []⟩) (cs := [((decide (k < (1 : Int))) = false), ((decide (k > (5 : Int))) = false), ((decide ((↑key.size : Int) < (1 : Int))) = false), ((decide ((↑key.size : Int) > (16 : Int))) = false), ((decide ((↑val.size : Int) > (64 : Int))) = true)]) ((List.replicate 4 false) ++ [true]) true (by kernel_rfl) (by kernel_rfl) ⟨hb1, hb2, hb3, hb4, hb5, trivial⟩ (by exact ck_ret (by unfold checkM; simp only [beq_mk, bne, beq_mk, Bool.not_eq_true', Bool.not_eq_false', decide_eq_true_eq, decide_eq_false_iff_not, beq_iff_eq, beq_eq_false_iff_ne, bne_iff_ne, bne_eq_false_iff_eq] at *; (repeat' split) <;> omega)) hsim
          · skip
            rcases Bool.eq_false_or_eq_true (decide ((↑old.size : Int) > (64 : Int))) with hb6 | hb6
            · skip
              exact go_ret (OrcOK.none g0) rfl rfl Tryd.func16 (sr' := ⟨0, [.d (.raw (.int .i64 ((130 : Int))))], []⟩) (cs := [((decide (k < (1 : Int))) = false), ((decide (k > (5 : Int))) = false), ((decide ((↑key.size : Int) < (1 : Int))) = false), ((decide ((↑key.size : Int) > (16 : Int))) = false), ((decide ((↑val.size : Int) > (64 : Int))) = false), ((decide ((↑old.size : Int) > (64 : Int))) = true)]) ((List.replicate 5 false) ++ [true]) true (by kernel_rfl) (by kernel_rfl) ⟨hb1, hb2, hb3, hb4, hb5, hb6, trivial⟩ (by exact ck_ret (by unfold checkM; simp only [beq_mk, bne, beq_mk, Bool.not_eq_true', Bool.not_eq_false', decide_eq_true_eq, decide_eq_false_iff_not, beq_iff_eq, beq_eq_false_iff_ne, bne_iff_ne, bne_eq_false_iff_eq] at *; (repeat' split) <;> omega)) hsim
            · skip
              rcases Bool.eq_false_or_eq_true (!val.toList == (ByteArray.mk #[]).toList) with hb7 | hb7
              · skip
                rcases Bool.eq_false_or_eq_true (k == (1 : Int)) with hb8 | hb8
                · skip
                  exact go_ret (OrcOK.none g0) rfl rfl Tryd.func16 (sr' := ⟨0, [.d (.raw (.int .i64 ((4 : Int))))], []⟩) (cs := [((decide (k < (1 : Int))) = false), ((decide (k > (5 : Int))) = false), ((decide ((↑key.size : Int) < (1 : Int))) = false), ((decide ((↑key.size : Int) > (16 : Int))) = false), ((decide ((↑val.size : Int) > (64 : Int))) = false), ((decide ((↑old.size : Int) > (64 : Int))) = false), ((!val.toList == (ByteArray.mk #[]).toList) = true), ((k == (1 : Int)) = true)]) ((List.replicate 6 false) ++ [true, true]) true (by kernel_rfl) (by kernel_rfl) ⟨hb1, hb2, hb3, hb4, hb5, hb6, hb7, hb8, trivial⟩ (by exact ck_ret (by unfold checkM; simp only [beq_mk, bne, beq_mk, Bool.not_eq_true', Bool.not_eq_false', decide_eq_true_eq, decide_eq_false_iff_not, beq_iff_eq, beq_eq_false_iff_ne, bne_iff_ne, bne_eq_false_iff_eq] at *; (repeat' split) <;> omega)) hsim
                · skip
                  rcases Bool.eq_false_or_eq_true (k == (4 : Int)) with hb9 | hb9
                  · skip
                    exact go_ret (OrcOK.none g0) rfl rfl Tryd.func16 (sr' := ⟨0, [.d (.raw (.int .i64 ((4 : Int))))], []⟩) (cs := [((decide (k < (1 : Int))) = false), ((decide (k > (5 : Int))) = false), ((decide ((↑key.size : Int) < (1 : Int))) = false), ((decide ((↑key.size : Int) > (16 : Int))) = false), ((decide ((↑val.size : Int) > (64 : Int))) = false), ((decide ((↑old.size : Int) > (64 : Int))) = false), ((!val.toList == (ByteArray.mk #[]).toList) = true), ((k == (1 : Int)) = false), ((k == (4 : Int)) = true)]) ((List.replicate 6 false) ++ [true, false, true]) true (by kernel_rfl) (by kernel_rfl) ⟨hb1, hb2, hb3, hb4, hb5, hb6, hb7, hb8, hb9, trivial⟩ (by exact ck_ret (by unfold checkM; simp only [beq_mk, bne, beq_mk, Bool.not_eq_true', Bool.not_eq_false', decide_eq_true_eq, decide_eq_false_iff_not, beq_iff_eq, beq_eq_false_iff_ne, bne_iff_ne, bne_eq_false_iff_eq] at *; (repeat' split) <;> omega)) hsim
                  · skip
                    rcases Bool.eq_false_or_eq_true (!old.toList == (ByteArray.mk #[]).toList) with hb10 | hb10
                    · skip
                      rcases Bool.eq_false_or_eq_true (k != (5 : Int)) with hb11 | hb11
                      · skip
                        exact go_ret (OrcOK.none g0) rfl rfl Tryd.func16 (sr' := ⟨0, [.d (.raw (.int .i64 ((4 : Int))))], []⟩) (cs := [((decide (k < (1 : Int))) = false), ((decide (k > (5 : Int))) = false), ((decide ((↑key.size : Int) < (1 : Int))) = false), ((decide ((↑key.size : Int) > (16 : Int))) = false), ((decide ((↑val.size : Int) > (64 : Int))) = false), ((decide ((↑old.size : Int) > (64 : Int))) = false), ((!val.toList == (ByteArray.mk #[]).toList) = true), ((k == (1 : Int)) = false), ((k == (4 : Int)) = false), ((!old.toList == (ByteArray.mk #[]).toList) = true), ((k != (5 : Int)) = true)]) ((List.replicate 6 false) ++ [true, false, false, true, true]) true (by kernel_rfl) (by kernel_rfl) ⟨hb1, hb2, hb3, hb4, hb5, hb6, hb7, hb8, hb9, hb10, hb11, trivial⟩ (by exact ck_ret (by unfold checkM; simp only [beq_mk, bne, beq_mk, Bool.not_eq_true', Bool.not_eq_false', decide_eq_true_eq, decide_eq_false_iff_not, beq_iff_eq, beq_eq_false_iff_ne, bne_iff_ne, bne_eq_false_iff_eq] at *; (repeat' split) <;> omega)) hsim
                      · skip
                        exact go_ret (OrcOK.none g0) rfl rfl Tryd.func16 (sr' := ⟨0, [.d (.raw (.int .i64 ((0 : Int))))], []⟩) (cs := [((decide (k < (1 : Int))) = false), ((decide (k > (5 : Int))) = false), ((decide ((↑key.size : Int) < (1 : Int))) = false), ((decide ((↑key.size : Int) > (16 : Int))) = false), ((decide ((↑val.size : Int) > (64 : Int))) = false), ((decide ((↑old.size : Int) > (64 : Int))) = false), ((!val.toList == (ByteArray.mk #[]).toList) = true), ((k == (1 : Int)) = false), ((k == (4 : Int)) = false), ((!old.toList == (ByteArray.mk #[]).toList) = true), ((k != (5 : Int)) = false)]) ((List.replicate 6 false) ++ [true, false, false, true, false]) true (by kernel_rfl) (by kernel_rfl) ⟨hb1, hb2, hb3, hb4, hb5, hb6, hb7, hb8, hb9, hb10, hb11, trivial⟩ (by exact ck_ret (by unfold checkM; simp only [beq_mk, bne, beq_mk, Bool.not_eq_true', Bool.not_eq_false', decide_eq_true_eq, decide_eq_false_iff_not, beq_iff_eq, beq_eq_false_iff_ne, bne_iff_ne, bne_eq_false_iff_eq] at *; (repeat' split) <;> omega)) hsim
                    · skip
                      exact go_ret (OrcOK.none g0) rfl rfl Tryd.func16 (sr' := ⟨0, [.d (.raw (.int .i64 ((0 : Int))))], []⟩) (cs := [((decide (k < (1 : Int))) = false), ((decide (k > (5 : Int))) = false), ((decide ((↑key.size : Int) < (1 : Int))) = false), ((decide ((↑key.size : Int) > (16 : Int))) = false), ((decide ((↑val.size : Int) > (64 : Int))) = false), ((decide ((↑old.size : Int) > (64 : Int))) = false), ((!val.toList == (ByteArray.mk #[]).toList) = true), ((k == (1 : Int)) = false), ((k == (4 : Int)) = false), ((!old.toList == (ByteArray.mk #[]).toList) = false)]) ((List.replicate 6 false) ++ [true, false, false, false]) true (by kernel_rfl) (by kernel_rfl) ⟨hb1, hb2, hb3, hb4, hb5, hb6, hb7, hb8, hb9, hb10, trivial⟩ (by exact ck_ret (by unfold checkM; simp only [beq_mk, bne, beq_mk, Bool.not_eq_true', Bool.not_eq_false', decide_eq_true_eq, decide_eq_false_iff_not, beq_iff_eq, beq_eq_false_iff_ne, bne_iff_ne, bne_eq_false_iff_eq] at *; (repeat' split) <;> omega)) hsim
              · skip
                rcases Bool.eq_false_or_eq_true (!old.toList == (ByteArray.mk #[]).toList) with hb12 | hb12
                · skip
                  rcases Bool.eq_false_or_eq_true (k != (5 : Int)) with hb13 | hb13
                  · skip
                    exact go_ret (OrcOK.none g0) rfl rfl Tryd.func16 (sr' := ⟨0, [.d (.raw (.int .i64 ((4 : Int))))], []⟩) (cs := [((decide (k < (1 : Int))) = false), ((decide (k > (5 : Int))) = false), ((decide ((↑key.size : Int) < (1 : Int))) = false), ((decide ((↑key.size : Int) > (16 : Int))) = false), ((decide ((↑val.size : Int) > (64 : Int))) = false), ((decide ((↑old.size : Int) > (64 : Int))) = false), ((!val.toList == (ByteArray.mk #[]).toList) = false), ((!old.toList == (ByteArray.mk #[]).toList) = true), ((k != (5 : Int)) = true)]) ((List.replicate 7 false) ++ [true, true]) true (by kernel_rfl) (by kernel_rfl) ⟨hb1, hb2, hb3, hb4, hb5, hb6, hb7, hb12, hb13, trivial⟩ (by exact ck_ret (by unfold checkM; simp only [beq_mk, bne, beq_mk, Bool.not_eq_true', Bool.not_eq_false', decide_eq_true_eq, decide_eq_false_iff_not, beq_iff_eq, beq_eq_false_iff_ne, bne_iff_ne, bne_eq_false_iff_eq] at *; (repeat' split) <;> omega)) hsim
                  · skip
                    exact go_ret (OrcOK.none g0) rfl rfl Tryd.func16 (sr' := ⟨0, [.d (.raw (.int .i64 ((0 : Int))))], []⟩) (cs := [((decide (k < (1 : Int))) = false), ((decide (k > (5 : Int))) = false), ((decide ((↑key.size : Int) < (1 : Int))) = false), ((decide ((↑key.size : Int) > (16 : Int))) = false), ((decide ((↑val.size : Int) > (64 : Int))) = false), ((decide ((↑old.size : Int) > (64 : Int))) = false), ((!val.toList == (ByteArray.mk #[]).toList) = false), ((!old.toList == (ByteArray.mk #[]).toList) = true), ((k != (5 : Int)) = false)]) ((List.replicate 7 false) ++ [true, false]) true (by kernel_rfl) (by kernel_rfl) ⟨hb1, hb2, hb3, hb4, hb5, hb6, hb7, hb12, hb13, trivial⟩ (by exact ck_ret (by unfold checkM; simp only [beq_mk, bne, beq_mk, Bool.not_eq_true', Bool.not_eq_false', decide_eq_true_eq, decide_eq_false_iff_not, beq_iff_eq, beq_eq_false_iff_ne, bne_iff_ne, bne_eq_false_iff_eq] at *; (repeat' split) <;> omega)) hsim
                · skip
                  exact go_ret (OrcOK.none g0) rfl rfl Tryd.func16 (sr' := ⟨0, [.d (.raw (.int .i64 ((0 : Int))))], []⟩) (cs := [((decide (k < (1 : Int))) = false), ((decide (k > (5 : Int))) = false), ((decide ((↑key.size : Int) < (1 : Int))) = false), ((decide ((↑key.size : Int) > (16 : Int))) = false), ((decide ((↑val.size : Int) > (64 : Int))) = false), ((decide ((↑old.size : Int) > (64 : Int))) = false), ((!val.toList == (ByteArray.mk #[]).toList) = false), ((!old.toList == (ByteArray.mk #[]).toList) = false)]) ((List.replicate 8 false)) true (by kernel_rfl) (by kernel_rfl) ⟨hb1, hb2, hb3, hb4, hb5, hb6, hb7, hb12, trivial⟩ (by exact ck_ret (by unfold checkM; simp only [beq_mk, bne, beq_mk, Bool.not_eq_true', Bool.not_eq_false', decide_eq_true_eq, decide_eq_false_iff_not, beq_iff_eq, beq_eq_false_iff_ne, bne_iff_ne, bne_eq_false_iff_eq] at *; (repeat' split) <;> omega)) hsim
theorem R0_ok : OrcOK Tryd.prog R0 := (OrcOK.none g0).add _ false mCheck fun args H r H' cs h hc => by
  unfold mCheck at h
  split at h
  · cases h; exact rcheck_ok _ _ _ _
  · cases h
theorem ref_ok (o : OpV) : Eng.Spec Tryd.prog g0 14 [.d (opD o)] [] (.d (opD o)) [] := by
  refine spec_fn Tryd.func14 rfl fun {w N E a} hsim => ?_
  exact go_ret R0_ok rfl rfl Tryd.func14 (sr' := ⟨0, [.d (.agg [.raw (.int .i64 (o.fst)), .raw (.string (o.snd.fst)), .raw (.string (o.snd.snd.fst)), .raw (.string (o.snd.snd.snd.fst))])], []⟩) (cs := []) [] true (by kernel_rfl) (by kernel_rfl) trivial (by rfl) hsim
theorem hasM_idx {q : List Rw} {key : ByteArray} (h : hasM q key = true) : idxR q key < q.length ∧ (q.getD (idxR q key) (ByteArray.empty, ByteArray.empty)).1 = key := by
  unfold hasM at h
  obtain ⟨r, hr, e⟩ := List.any_eq_true.1 h
  have h1 : idxR q key < q.length := List.findIdx_lt_length_of_exists ⟨r, hr, e⟩
  refine ⟨h1, ?_⟩
  have h2 : decide ((q[idxR q key]'h1).1 = key) = true := List.findIdx_getElem (p := fun r : Rw => decide (r.1 = key)) (w := h1)
  rw [getD_get h1]
  exact of_decide_eq_true h2
theorem at_go {w0 : World} {N : Nat → Prop} {E0 : Env} (q : List Rw) (key : ByteArray) (hq : q.length ≤ 1000) : ∀ (d : Nat) (n i : Int), n = (q.length : Int) → 0 ≤ i → i + d = n → hasM (q.take i.toNat) key = false → ∀ (E : Env) (a : Act) (w : World),
    Sim (cx Tryd.prog g0 w0 N E0 (rt0 q)) E (at1 q key n i) a w → Goes Tryd.prog 25 (loopAt Tryd.f25 0) (RSpec (cx Tryd.prog g0 w0 N E0 (rt0 q)) ⟨2, [.d (.raw (.int .i64 (atI q key)))], rt0 q⟩) a w := by
  intro d
  induction d with
  | zero =>
    intro n i en h0 hd hn E a w hsim
    have e : atI q key = -1 := by
      rw [List.take_of_length_le (by omega)] at hn
      unfold atI; rw [hn]; rfl
    rcases Bool.eq_false_or_eq_true (decide (i < n)) with hb1 | hb1
    · skip
      rcases Bool.eq_false_or_eq_true ((q.getD i.toNat (ByteArray.empty, ByteArray.empty)).fst.toList == key.toList) with hb2 | hb2
      · skip
        exact go_ret (OrcOK.none g0) rfl rfl Tryd.func25 (sr' := ⟨2, [.d (.raw (.int .i64 (i)))], [(0, .obj 36 [.own 1]), (1, .row 65 2 (q.length) (rowEl q))]⟩) (cs := [((decide (i < n)) = true), ((0 : Int) ≤ i ∧ i < (↑q.length : Int)), (i.toNat < q.length), (((q.getD i.toNat (ByteArray.empty, ByteArray.empty)).fst.toList == key.toList) = true)]) [true, true] true (by kernel_rfl) (by kernel_rfl) ⟨hb1, (by first | omega | exact absurd (of_decide_eq_true hb1) (by omega)), (by first | omega | exact absurd (of_decide_eq_true hb1) (by omega)), hb2, trivial⟩ (by first | (rw [e]; rfl) | exact absurd (of_decide_eq_true hb1) (by omega)) hsim
      · skip
        refine go_head (OrcOK.none g0) rfl rfl (k' := loopAt Tryd.f25 0) (s' := mk 2 23 [(1, .d (.raw (.string (key)))), (10, .own 1), (11, .d (.raw (.int .i64 (n)))), (12, .d (.raw (.int .i64 (IntKind.i64.wrap (i + (1 : Int))))))] [(0, .obj 36 [.own 1]), (1, .row 65 2 (q.length) (rowEl q))]) (cs := [((decide (i < n)) = true), ((0 : Int) ≤ i ∧ i < (↑q.length : Int)), (i.toNat < q.length), (((q.getD i.toNat (ByteArray.empty, ByteArray.empty)).fst.toList == key.toList) = false)]) [true, false] [1,10,11,12] (by kernel_rfl) (by kernel_rfl) ⟨hb1, (by first | omega | exact absurd (of_decide_eq_true hb1) (by omega)), (by first | omega | exact absurd (of_decide_eq_true hb1) (by omega)), hb2, trivial⟩ hsim fun E a w hsim => ?_
        exact absurd (of_decide_eq_true hb1) (by omega)
    · skip
      exact go_ret (OrcOK.none g0) rfl rfl Tryd.func25 (sr' := ⟨2, [.d (.raw (.int .i64 ((-1 : Int))))], [(0, .obj 36 [.own 1]), (1, .row 65 2 (q.length) (rowEl q))]⟩) (cs := [((decide (i < n)) = false)]) [false] true (by kernel_rfl) (by kernel_rfl) ⟨hb1, trivial⟩ (by first | (rw [e]; rfl) | exact absurd (of_decide_eq_true hb1) (by omega)) hsim
  | succ d ih =>
    intro n i en h0 hd hn E a w hsim
    have hi : i.toNat < q.length := by omega
    have hstep : hasM (q.take (i.toNat + 1)) key = (decide ((q.getD i.toNat (ByteArray.empty, ByteArray.empty)).1 = key)) := by
      rw [List.take_add_one, hasM_append, hn, List.getD_eq_getElem?_getD, List.getElem?_eq_getElem hi]
      simp [hasM]
    have hfound : (q.getD i.toNat (ByteArray.empty, ByteArray.empty)).1 = key → atI q key = i := fun e => by
      have h1 : hasM q key = true := by
        have : hasM (q.take (i.toNat + 1)) key = true := by rw [hstep, e]; simp
        unfold hasM at this ⊢
        obtain ⟨r, hr, e⟩ := List.any_eq_true.1 this
        exact List.any_eq_true.2 ⟨r, List.mem_of_mem_take hr, e⟩
      have h2 : idxR q key = i.toNat := by
        unfold idxR
        rw [List.findIdx_eq hi]
        refine ⟨by rw [← getD_get hi]; exact decide_eq_true e, fun j hj => ?_⟩
        cases hx : decide ((q[j]'(Nat.lt_trans hj hi)).1 = key) with
        | false => rfl
        | true =>
          have : hasM (q.take i.toNat) key = true := by
            unfold hasM
            exact List.any_eq_true.2 ⟨q[j]'(Nat.lt_trans hj hi), List.mem_take_iff_getElem.2 ⟨j, by omega, rfl⟩, hx⟩
          rw [hn] at this; cases this
      unfold atI; rw [if_pos h1, h2]; omega
    have ih := fun (h : decide ((q.getD i.toNat (ByteArray.empty, ByteArray.empty)).1 = key) = false) E a w hs => ih n (IntKind.i64.wrap (i + 1)) en (by rw [wrapI (i + 1) (by omega)]; omega) (by rw [wrapI (i + 1) (by omega)]; omega) (by rw [wrapI (i + 1) (by omega), show (i + 1).toNat = i.toNat + 1 by omega, hstep]; exact h) E a w hs
    rcases Bool.eq_false_or_eq_true (decide (i < n)) with hb1 | hb1
    · skip
      rcases Bool.eq_false_or_eq_true ((q.getD i.toNat (ByteArray.empty, ByteArray.empty)).fst.toList == key.toList) with hb2 | hb2
      · skip
        exact go_ret (OrcOK.none g0) rfl rfl Tryd.func25 (sr' := ⟨2, [.d (.raw (.int .i64 (i)))], [(0, .obj 36 [.own 1]), (1, .row 65 2 (q.length) (rowEl q))]⟩) (cs := [((decide (i < n)) = true), ((0 : Int) ≤ i ∧ i < (↑q.length : Int)), (i.toNat < q.length), (((q.getD i.toNat (ByteArray.empty, ByteArray.empty)).fst.toList == key.toList) = true)]) [true, true] true (by kernel_rfl) (by kernel_rfl) ⟨hb1, (by first | omega | exact absurd (of_decide_eq_false hb1) (by omega)), (by first | omega | exact absurd (of_decide_eq_false hb1) (by omega)), hb2, trivial⟩ (by first | (rw [hfound (of_decide_eq_true ((tl_eq _ _).symm.trans hb2))]; rfl) | exact absurd (of_decide_eq_false hb1) (by omega)) hsim
      · skip
        refine go_head (OrcOK.none g0) rfl rfl (k' := loopAt Tryd.f25 0) (s' := mk 2 23 [(1, .d (.raw (.string (key)))), (10, .own 1), (11, .d (.raw (.int .i64 (n)))), (12, .d (.raw (.int .i64 (IntKind.i64.wrap (i + (1 : Int))))))] [(0, .obj 36 [.own 1]), (1, .row 65 2 (q.length) (rowEl q))]) (cs := [((decide (i < n)) = true), ((0 : Int) ≤ i ∧ i < (↑q.length : Int)), (i.toNat < q.length), (((q.getD i.toNat (ByteArray.empty, ByteArray.empty)).fst.toList == key.toList) = false)]) [true, false] [1,10,11,12] (by kernel_rfl) (by kernel_rfl) ⟨hb1, (by first | omega | exact absurd (of_decide_eq_false hb1) (by omega)), (by first | omega | exact absurd (of_decide_eq_false hb1) (by omega)), hb2, trivial⟩ hsim fun E a w hsim => ?_
        exact ih ((tl_eq _ _).symm.trans hb2) E a w hsim
    · skip
      exact go_ret (OrcOK.none g0) rfl rfl Tryd.func25 (sr' := ⟨2, [.d (.raw (.int .i64 ((-1 : Int))))], [(0, .obj 36 [.own 1]), (1, .row 65 2 (q.length) (rowEl q))]⟩) (cs := [((decide (i < n)) = false)]) [false] true (by kernel_rfl) (by kernel_rfl) ⟨hb1, trivial⟩ (by first | (rw [hfound (of_decide_eq_true ((tl_eq _ _).symm.trans hb2))]; rfl) | exact absurd (of_decide_eq_false hb1) (by omega)) hsim
theorem at_ok (q : List Rw) (key : ByteArray) (hq : q.length ≤ 1000) : Eng.Spec Tryd.prog g0 25 [.ref 0 0, .d (.raw (.string key))] (rt0 q) (.d (.raw (.int .i64 (atI q key)))) (rt0 q) := by
  refine spec_fn Tryd.func25 rfl fun {w N E a} hsim => ?_
  refine go_head (OrcOK.none g0) rfl rfl (k' := loopAt Tryd.f25 0) (s' := mk 2 23 [(1, .d (.raw (.string (key)))), (10, .own 1), (11, .d (.raw (.int .i64 ((↑q.length : Int))))), (12, .d (.raw (.int .i64 ((0 : Int)))))] [(0, .obj 36 [.own 1]), (1, .row 65 2 (q.length) (rowEl q))]) (cs := []) [] [1,10,11,12] (by kernel_rfl) (by kernel_rfl) trivial hsim fun E a w hsim => ?_
  exact at_go q key hq q.length (q.length : Int) 0 rfl (by omega) (by omega) rfl E a w hsim
end Go.Tab
