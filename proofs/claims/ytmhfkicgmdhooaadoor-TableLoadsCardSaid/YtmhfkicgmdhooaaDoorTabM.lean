/-
  Contracts of given functions, or plain laws that they need. No condition.
-/
import Derived.Test.YtmhfkicgmdhooaaDoorTab5
import Derived.Test.YtmhfkicgmdhooaaDoorTabL
namespace Go.Tab
open Go Go.Eng Go.Proofs Go.Nest
set_option linter.unusedVariables false
set_option linter.unusedSimpArgs false
set_option maxRecDepth 100000
set_option maxHeartbeats 4000000
theorem tidy_nil : Tidy [] := ⟨List.Pairwise.nil, by decide, fun r h => by cases h⟩
theorem tidy_one (v : ByteArray) (h : v.size ≤ 64) : Tidy [(kB, v)] := ⟨List.pairwise_singleton _ _, by simp, fun r hr => by
  rw [List.mem_singleton.1 hr]; exact ⟨(by decide : 0 < kB.size), (by decide : kB.size ≤ 16), h⟩⟩
theorem pos_one (v : ByteArray) : posM [(kB, v)] kB = 0 := by unfold posM; simp [bl_irrefl]
theorem has_one (v : ByteArray) : hasM [(kB, v)] kB = true := by unfold hasM; simp
theorem had_one (v : ByteArray) : hadM [(kB, v)] kB = v := by unfold hadM; rw [has_one, pos_one]; rfl
theorem put_one (v u : ByteArray) : putM [(kB, v)] kB u = [(kB, u)] := by unfold putM; rw [has_one, pos_one]; rfl
theorem full_one (v : ByteArray) : fullM [(kB, v)] kB = false := by unfold fullM; rw [has_one]; rfl
theorem d2 : doM [] 2 kB aB ByteArray.empty = (ByteArray.empty, 0, [(kB, aB)]) := by
  unfold doM
  rw [if_pos (by decide)]; rfl
theorem d3 : doM [(kB, aB)] 3 kB bB ByteArray.empty = (abB, 0, [(kB, abB)]) := by
  unfold doM
  rw [if_pos (by decide), full_one, had_one, if_neg (by decide), if_pos rfl, if_neg (by decide), if_pos (by decide), put_one]; rfl
theorem d5 : doM [(kB, abB)] 5 kB cB abB = (abB, 0, [(kB, cB)]) := by
  unfold doM
  rw [if_pos (by decide), if_neg (by decide), if_neg (by decide), has_one, if_pos rfl, if_neg (by decide), if_pos rfl, had_one, if_pos rfl, put_one]
theorem d1 : doM [(kB, cB)] 1 kB ByteArray.empty ByteArray.empty = (cB, 0, [(kB, cB)]) := by
  unfold doM
  rw [if_pos (by decide), if_neg (by decide), if_neg (by decide), has_one, if_pos rfl, if_neg (by decide), if_neg (by decide), had_one]
theorem packed : packB (flatM [(kB, cB)]) = tB := by
  apply ext_ba
  show packL [kB, cB] = _
  decide +kernel
theorem do4 {l l2 : List Rw} {k : Int} {key val old s : ByteArray} (ht : Tidy l) (h : doM l k key val old = (s, 0, l2)) : Eng.Spec Tryd.prog g0 11 [.ref 0 0, .d (.agg [.raw (.int .i64 k), .raw (.string key), .raw (.string val), .raw (.string old)])] (tab0 l) (.tup [.d (.raw (.string s)), .d (.raw (.int .i64 0))]) (tab2 l2) := by
  have := do_ok l k key val old ht
  rw [h] at this; exact this
theorem F0_ok : OrcOK Tryd.prog F0 := ((((OrcOK.none g0).add _ false mNew fun args H r H' cs h hc => by
  unfold mNew at h
  split at h
  · cases h; exact new_ok
  · cases h).add _ false mDo4 fun args H r H' cs h hc => by
  unfold mDo4 at h
  split at h
  · split at h
    · rename_i hk; cases h; obtain ⟨rfl, rfl, rfl, rfl, rfl, rfl, rfl, -⟩ := hc; subst hk; exact do4 tidy_nil d2
    · split at h
      · rename_i hk; cases h; obtain ⟨rfl, rfl, rfl, rfl, rfl, rfl, rfl, -⟩ := hc; subst hk; exact do4 (tidy_one _ (by decide)) d3
      · split at h
        · rename_i hk; cases h; obtain ⟨rfl, rfl, rfl, rfl, rfl, rfl, rfl, -⟩ := hc; subst hk; exact do4 (tidy_one _ (by decide)) d5
        · cases h; obtain ⟨rfl, rfl, rfl, rfl, rfl, rfl, rfl, rfl, -⟩ := hc; exact do4 (tidy_one _ (by decide)) d1
  · cases h).add _ false mText4 fun args H r H' cs h hc => by
  unfold mText4 at h
  split at h
  · cases h; obtain ⟨rfl, rfl, rfl, rfl, -⟩ := hc
    have := text_ok [(kB, cB)] (tidy_one _ (by decide))
    rw [packed] at this; exact this
  · cases h)
theorem four_ok : Eng.Spec Tryd.prog g0 10 [] [] (.d (.raw (.bool true))) [] := by
  refine spec_fn Tryd.func10 rfl fun {w N E a} hsim => ?_
  let r : ByteArray := ByteArray.empty
  have q0_ : ((56 : Nat) = (56 : Nat)) := (by first | rfl | decide)
  have q1_ : ((60 : Nat) = (60 : Nat)) := (by first | rfl | decide)
  have q2_ : (ByteArray.mk #[(107 : UInt8)] = kB) := (by first | rfl | decide)
  have q3_ : (ByteArray.mk #[] = ByteArray.empty) := (by first | rfl | decide)
  have q4_ : ((1 : Nat) = (1 : Nat)) := (by first | rfl | decide)
  have q5_ : (rowEl [(kB, cB)] = rowEl [(kB, cB)]) := (by first | rfl | decide)
  exact go_ret F0_ok rfl rfl Tryd.func10 (sr' := ⟨0, [.d (.raw (.bool (true)))], []⟩) (cs := ((fun (c0 c1 c2 c3 c4 c5 : Prop) => [c0, c1, ((0 : Nat) = (0 : Nat)), (rowEl [] = rowEl []), c2, (ByteArray.mk #[(97 : UInt8)] = aB), c3, c0, c1, c4, (rowEl [(kB, aB)] = rowEl [(kB, aB)]), c2, (ByteArray.mk #[(98 : UInt8)] = bB), c3, c0, c1, c4, (rowEl [(kB, abB)] = rowEl [(kB, abB)]), c2, (ByteArray.mk #[(99 : UInt8)] = cB), (ByteArray.mk #[(97 : UInt8), (98 : UInt8)] = abB), c0, c1, c4, c5, ((1 : Int) = (1 : Int)), c2, c3, c3, ((true) = true), ((true) = true), ((true) = true), ((true) = true), ((true) = true), ((true) = true), ((true) = true), ((true) = true), c0, c1, c4, c5]) ((56 : Nat) = (56 : Nat)) ((60 : Nat) = (60 : Nat)) (ByteArray.mk #[(107 : UInt8)] = kB) (ByteArray.mk #[] = ByteArray.empty) ((1 : Nat) = (1 : Nat)) (rowEl [(kB, cB)] = rowEl [(kB, cB)]))) ((List.replicate 8 true)) true (by kernel_rfl) (by kernel_rfl) ⟨q0_, q1_, (by first | rfl | decide), (by first | rfl | decide), q2_, (by first | rfl | decide), q3_, q0_, q1_, q4_, (by first | rfl | decide), q2_, (by first | rfl | decide), q3_, q0_, q1_, q4_, (by first | rfl | decide), q2_, (by first | rfl | decide), (by first | rfl | decide), q0_, q1_, q4_, q5_, (by first | rfl | decide), q2_, q3_, q3_, rfl, rfl, rfl, rfl, rfl, rfl, rfl, rfl, q0_, q1_, q4_, q5_, trivial⟩ (by rfl) hsim
theorem F1_ok : OrcOK Tryd.prog F1 := ((((((OrcOK.none g0).add _ false mDoNil fun args H r H' cs h hc => by
  unfold mDoNil at h
  split at h
  · cases h; exact do_nil_ok _ _ _ _
  · cases h).add _ false mCheck fun args H r H' cs h hc => by
  unfold mCheck at h
  split at h
  · cases h; exact check_ok _ _ _ _
  · cases h).add _ false mTextNil fun args H r H' cs h hc => by
  unfold mTextNil at h
  split at h
  · cases h; exact text_nil_ok
  · cases h).add _ false mLenNil fun args H r H' cs h hc => by
  unfold mLenNil at h
  split at h
  · cases h; exact len_nil_ok
  · cases h).add _ false mFour fun args H r H' cs h hc => by
  unfold mFour at h
  split at h
  · cases h; exact four_ok
  · cases h)
theorem law_nil_ok (k : Int) (key val old : ByteArray) : Eng.Spec Tryd.prog g0 5 [.d (.agg [.raw (.int .i64 k), .raw (.string key), .raw (.string val), .raw (.string old)])] [] (.d (.raw (.bool true))) [] := by
  refine spec_fn Tryd.func5 rfl fun {w N E a} hsim => ?_
  rcases Bool.eq_false_or_eq_true (checkM k key val old == (0 : Int)) with hb1 | hb1
  · skip
    rcases Bool.eq_false_or_eq_true ((if checkM k key val old = (0 : Int) then (7 : Int) else checkM k key val old) == (7 : Int)) with hb2 | hb2
    · skip
      exact go_ret F1_ok rfl rfl Tryd.func5 (sr' := ⟨0, [.d (.raw (.bool (true)))], []⟩) (cs := [((checkM k key val old == (0 : Int)) = true), ((true) = true), (((if checkM k key val old = (0 : Int) then (7 : Int) else checkM k key val old) == (7 : Int)) = true), ((true) = true), ((true) = true)]) ((List.replicate 5 true)) true (by kernel_rfl) (by kernel_rfl) ⟨hb1, rfl, hb2, rfl, rfl, trivial⟩ (by first | rfl | (exfalso; clear hsim; simp_all; done)) hsim
    · skip
      exact go_ret F1_ok rfl rfl Tryd.func5 (sr' := ⟨0, [.d (.raw (.bool (false)))], []⟩) (cs := [((checkM k key val old == (0 : Int)) = true), ((true) = true), (((if checkM k key val old = (0 : Int) then (7 : Int) else checkM k key val old) == (7 : Int)) = false)]) [true, true, false] true (by kernel_rfl) (by kernel_rfl) ⟨hb1, rfl, hb2, trivial⟩ (by first | rfl | (exfalso; clear hsim; simp_all; done)) hsim
  · skip
    rcases Bool.eq_false_or_eq_true ((if checkM k key val old = (0 : Int) then (7 : Int) else checkM k key val old) == checkM k key val old) with hb3 | hb3
    · skip
      exact go_ret F1_ok rfl rfl Tryd.func5 (sr' := ⟨0, [.d (.raw (.bool (true)))], []⟩) (cs := [((checkM k key val old == (0 : Int)) = false), ((true) = true), (((if checkM k key val old = (0 : Int) then (7 : Int) else checkM k key val old) == checkM k key val old) = true), ((true) = true), ((true) = true)]) ([false] ++ (List.replicate 4 true)) true (by kernel_rfl) (by kernel_rfl) ⟨hb1, rfl, hb3, rfl, rfl, trivial⟩ (by first | rfl | (exfalso; clear hsim; simp_all; done)) hsim
    · skip
      exact go_ret F1_ok rfl rfl Tryd.func5 (sr' := ⟨0, [.d (.raw (.bool (false)))], []⟩) (cs := [((checkM k key val old == (0 : Int)) = false), ((true) = true), (((if checkM k key val old = (0 : Int) then (7 : Int) else checkM k key val old) == checkM k key val old) = false)]) [false, true, false] true (by kernel_rfl) (by kernel_rfl) ⟨hb1, rfl, hb3, trivial⟩ (by first | rfl | (exfalso; clear hsim; simp_all; done)) hsim
end Go.Tab
