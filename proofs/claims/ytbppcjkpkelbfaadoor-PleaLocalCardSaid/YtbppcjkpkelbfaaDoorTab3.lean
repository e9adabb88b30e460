/-
  Contracts of given functions, plain laws. No condition.
-/
import Derived.Test.YtbppcjkpkelbfaaDoorTab1
namespace Go.Tab
open Go Go.Eng Go.Proofs
set_option maxRecDepth 100000
set_option maxHeartbeats 4000000
theorem C5_ok (l : List Rw) : OrcOK Tryd.prog (C5 l) := ((C0_ok.add _ false mCheck fun args H r H' cs h hc => by
 unfold mCheck at h
 split at h
 · cases h; exact check_ok _ _ _ _
 · cases h).add _ false (mFind l) fun args H r H' cs h hc => by
 unfold mFind at h
 split at h
 ·
  cases h
  obtain ⟨rfl, rfl, rfl, rfl, h1, -⟩ := hc
  exact find_ok l _ h1
 · cases h).add _ false (mSet l) fun args H r H' cs h hc => by
 unfold mSet at h
 split at h
 ·
  cases h
  obtain ⟨rfl, rfl, rfl, rfl, h1, -⟩ := hc
  exact set_ok l _ _ h1
 · cases h
section
variable {C : Cx} {l l2 : List Rw} {k : Int} {key val old s : ByteArray} {e : Int}
theorem do_says1 (h : doM l k key val old = (s, e, l)) : Says C ⟨2, [.tup [.d (.raw (.string s)), .d (.raw (.int .i64 e))]], tab0 l⟩ ⟨2, [.tup [.d (.raw (.string (doM l k key val old).1)), .d (.raw (.int .i64 (doM l k key val old).2.1))]], tab2 (doM l k key val old).2.2⟩ := by
 rw [h]; exact tab_ren l _ rfl
theorem do_says2 (h : doM l k key val old = (s, e, l2)) : Says C ⟨2, [.tup [.d (.raw (.string s)), .d (.raw (.int .i64 e))]], tab2 l2⟩ ⟨2, [.tup [.d (.raw (.string (doM l k key val old).1)), .d (.raw (.int .i64 (doM l k key val old).2.1))]], tab2 (doM l k key val old).2.2⟩ := by
 rw [h]; exact Says.refl _
theorem do_says3 (h : doM l k key val old = (s, e, l.eraseIdx (posM l key))) (hp : posM l key < l.length) (n : Nat) (hn : n = l.length - 1) (f : Nat → D)
  (h1 : ∀ j, j < posM l key → f j = rowEl l j) (h2 : ∀ j, posM l key ≤ j → j < n → f j = rowEl l (j + 1)) :
  Says C ⟨2, [.tup [.d (.raw (.string s)), .d (.raw (.int .i64 e))]], [(0, .obj 145 [.own 2]), (2, .row 148 2 n f)]⟩ ⟨2, [.tup [.d (.raw (.string (doM l k key val old).1)), .d (.raw (.int .i64 (doM l k key val old).2.1))]], tab2 (doM l k key val old).2.2⟩ := by
 rw [h]
 refine says_rowTo (k := 2) rfl (l.eraseIdx (posM l key)).length (rowEl (l.eraseIdx (posM l key))) (by rw [List.length_eraseIdx, if_pos hp, hn]) fun j hj => ?_
 by_cases hlt : j < posM l key
 ·
  rw [h1 j hlt]
  have : ∀ d, (l.eraseIdx (posM l key)).getD j d = l.getD j d := fun d => by
   rw [List.getD_eq_getElem?_getD, List.getD_eq_getElem?_getD, List.getElem?_eraseIdx, if_pos hlt]
  unfold rowEl; rw [this]
 ·
  rw [h2 j (by omega) hj]
  have : ∀ d, (l.eraseIdx (posM l key)).getD j d = l.getD (j + 1) d := fun d => by
   rw [List.getD_eq_getElem?_getD, List.getD_eq_getElem?_getD, List.getElem?_eraseIdx, if_neg hlt]
  unfold rowEl; rw [this]
end
theorem do_ok (l : List Rw) (k : Int) (key val old : ByteArray) (ht : Tidy l) : Eng.Spec Tryd.prog g0 59 [.ref 0 0, .d (.agg [.raw (.int .i64 k), .raw (.string key), .raw (.string val), .raw (.string old)])] (tab0 l) (.tup [.d (.raw (.string (doM l k key val old).1)), .d (.raw (.int .i64 (doM l k key val old).2.1))]) (tab2 (doM l k key val old).2.2) := by
 refine spec_fn Tryd.func59 rfl fun {w N E a} hsim => ?_
 have hf := ht.few
 have hp := posM_le l key
 have hh : hasM l key = true → posM l key < l.length := fun h => (hasM_true ht.sorted h).1
 have hL : ((l.length : Int) == 16) = (l.length == 16) := by rw [Bool.eq_iff_iff, beq_iff_eq, beq_iff_eq]; omega
 have hv : (checkM k key val old != 0) = false → val.size ≤ 64 := fun h => by
   have h : checkM k key val old = 0 := by simpa using h
   unfold checkM at h
   split at h
   · cases h
   ·
     split at h
     · cases h
     · omega
 have hs : hasM l key = true → (l.getD ((posM l key : Nat) : Int).toNat (ByteArray.empty, ByteArray.empty)).2.size ≤ 64 := fun h => by
   have h1 := hh h
   show (l.getD (posM l key) (ByteArray.empty, ByteArray.empty)).2.size ≤ 64
   rw [getD_get h1]
   exact (ht.sized _ (List.getElem_mem h1)).2.2
 rcases bd (checkM k key val old != (0 : Int)) with hb1 | hb1
 ·
  exact gs (C5_ok l) Tryd.func59 (sr' := ⟨2, [.tup [vS (ByteArray.mk #[]), vI (checkM k key val old)]], [(0, .obj 145 [.own 1]), (1, .row 148 2 l.length (rowEl l))]⟩) (cs := [_]) [true] true ⟨hb1, trivial⟩ (by (refine do_says1 ?_; clear hsim hs hv hh; simp only [hL] at *; clear hL; simp_all [doM, hadM, fullM, beq_ba, mk_empty]; done)) hsim
 ·
  rcases bd (hasM l key) with hb2 | hb2
  ·
   rcases bd (k == (2 : Int)) with hb3 | hb3
   ·
    rcases bd ((if fullM l key = true then (5 : Int) else (0 : Int)) != (0 : Int)) with hb4 | hb4
    ·
     have q0_ : ((145 : Nat) = (145 : Nat)) := (by rfl)
     have q1_ : ((148 : Nat) = (148 : Nat)) := (by rfl)
     have q2_ : (l.length = l.length) := (by rfl)
     have q3_ : (rowEl l = rowEl l) := (by rfl)
     have q4_ : (Tidy l) := (by exact ht)
     exact gs (C5_ok l) Tryd.func59 (sr' := ⟨2, [.tup [vS (ByteArray.mk #[]), vI (if fullM l key = true then (5 : Int) else (0 : Int))]], [(0, .obj 145 [.own 2]), (2, .row 148 2 ((setM l key val).length) (rowEl (setM l key val)))]⟩) (cs := ((fun (c0 c1 c2 c3 c4 : Prop) => [_, c0, c1, c2, c3, c4, _, ((0 : Int) ≤ (↑(posM l key) : Int) ∧ (↑(posM l key) : Int) < (↑l.length : Int)), ((↑(posM l key) : Int).toNat < l.length), _, c0, c1, c2, c3, c4, _]) _ _ _ _ _)) [false, true, true, true] true ⟨hb1, q0_, q1_, q2_, q3_, q4_, hb2, (by (have := hh hb2; omega)), (by (have := hh hb2; omega)), hb3, q0_, q1_, q2_, q3_, q4_, hb4, trivial⟩ (by (refine do_says2 ?_; clear hsim hs hv hh; simp only [hL] at *; clear hL; simp_all [doM, hadM, setM, fullM, beq_ba, mk_empty]; done)) hsim
    ·
     have q0_ : ((145 : Nat) = (145 : Nat)) := (by rfl)
     have q1_ : ((148 : Nat) = (148 : Nat)) := (by rfl)
     have q2_ : (l.length = l.length) := (by rfl)
     have q3_ : (rowEl l = rowEl l) := (by rfl)
     have q4_ : (Tidy l) := (by exact ht)
     exact gs (C5_ok l) Tryd.func59 (sr' := ⟨2, [.tup [vS ((l.getD (↑(posM l key) : Int).toNat (ByteArray.empty, ByteArray.empty)).snd), vI 0]], [(0, .obj 145 [.own 2]), (2, .row 148 2 ((setM l key val).length) (rowEl (setM l key val)))]⟩) (cs := ((fun (c0 c1 c2 c3 c4 : Prop) => [_, c0, c1, c2, c3, c4, _, ((0 : Int) ≤ (↑(posM l key) : Int) ∧ (↑(posM l key) : Int) < (↑l.length : Int)), ((↑(posM l key) : Int).toNat < l.length), _, c0, c1, c2, c3, c4, _]) _ _ _ _ _)) [false, true, true, false] true ⟨hb1, q0_, q1_, q2_, q3_, q4_, hb2, (by (have := hh hb2; omega)), (by (have := hh hb2; omega)), hb3, q0_, q1_, q2_, q3_, q4_, hb4, trivial⟩ (by (refine do_says2 ?_; clear hsim hs hv hh; simp only [hL] at *; clear hL; simp_all [doM, hadM, setM, fullM, beq_ba, mk_empty]; done)) hsim
   ·
    rcases bd (k == (3 : Int)) with hb5 | hb5
    ·
     rcases bd (!hasM l key) with hb6 | hb6
     ·
      rcases bd ((↑l.length : Int) == (16 : Int)) with hb7 | hb7
      ·
       exact gs (C5_ok l) Tryd.func59 (sr' := ⟨2, [.tup [vS (ByteArray.mk #[]), vI 5]], [(0, .obj 145 [.own 1]), (1, .row 148 2 l.length (rowEl l))]⟩) (cs := [_, (145 = 145), (148 = 148), (l.length = l.length), (rowEl l = rowEl l), (Tidy l), _, ((0 : Int) ≤ (↑(posM l key) : Int) ∧ (↑(posM l key) : Int) < (↑l.length : Int)), ((↑(posM l key) : Int).toNat < l.length), _, _, _, _]) [false, true, false, true, true, true] true ⟨hb1, (by rfl), (by rfl), (by rfl), (by rfl), (by exact ht), hb2, (by (have := hh hb2; omega)), (by (have := hh hb2; omega)), hb3, hb5, hb6, hb7, trivial⟩ (by (refine do_says1 ?_; clear hsim hs hv hh; simp only [hL] at *; clear hL; simp_all [doM, hadM, fullM, beq_ba, mk_empty]; done)) hsim
      ·
       rcases bd (!decide (((l.getD (↑(posM l key) : Int).toNat (ByteArray.empty, ByteArray.empty)).snd ++ val).size ≤ (64 : Nat))) with hb8 | hb8
       ·
        exact gs (C5_ok l) Tryd.func59 (sr' := ⟨2, [.tup [vS (ByteArray.mk #[]), vI 2]], [(0, .obj 145 [.own 1]), (1, .row 148 2 l.length (rowEl l))]⟩) (cs := [_, (145 = 145), (148 = 148), (l.length = l.length), (rowEl l = rowEl l), (Tidy l), _, ((0 : Int) ≤ (↑(posM l key) : Int) ∧ (↑(posM l key) : Int) < (↑l.length : Int)), ((↑(posM l key) : Int).toNat < l.length), _, _, _, _, ((l.getD (↑(posM l key) : Int).toNat (ByteArray.empty, ByteArray.empty)).snd.size + val.size ≤ 9223372036854775807), _]) [false, true, false, true, true, false, true] true ⟨hb1, (by rfl), (by rfl), (by rfl), (by rfl), (by exact ht), hb2, (by (have := hh hb2; omega)), (by (have := hh hb2; omega)), hb3, hb5, hb6, hb7, (by (have := hv hb1; have := hs hb2; omega)), hb8, trivial⟩ (by (refine do_says1 ?_; clear hsim hs hv hh; simp only [hL] at *; clear hL; simp_all [doM, hadM, fullM, beq_ba, mk_empty]; done)) hsim
       ·
        have q0_ : ((145 : Nat) = (145 : Nat)) := (by rfl)
        have q1_ : ((148 : Nat) = (148 : Nat)) := (by rfl)
        have q2_ : (l.length = l.length) := (by rfl)
        have q3_ : (rowEl l = rowEl l) := (by rfl)
        have q4_ : (Tidy l) := (by exact ht)
        have q5_ : ((l.getD (↑(posM l key) : Int).toNat (ByteArray.empty, ByteArray.empty)).snd.size + val.size ≤ (9223372036854775807 : Nat)) := (by (have := hv hb1; have := hs hb2; omega))
        exact gs (C5_ok l) Tryd.func59 (sr' := let za := (l.getD (↑(posM l key) : Int).toNat (ByteArray.empty, ByteArray.empty)).snd ++ val; ⟨2, [.tup [vS za, vI 0]], [(0, .obj 145 [.own 2]), (2, .row 148 2 ((setM l key za).length) (rowEl (setM l key za)))]⟩) (cs := ((fun (c0 c1 c2 c3 c4 c5 : Prop) => [_, c0, c1, c2, c3, c4, _, ((0 : Int) ≤ (↑(posM l key) : Int) ∧ (↑(posM l key) : Int) < (↑l.length : Int)), ((↑(posM l key) : Int).toNat < l.length), _, _, _, _, c5, _, c5, c0, c1, c2, c3, c4, c5]) _ _ _ _ _ _)) [false, true, false, true, true, false, false] true ⟨hb1, q0_, q1_, q2_, q3_, q4_, hb2, (by (have := hh hb2; omega)), (by (have := hh hb2; omega)), hb3, hb5, hb6, hb7, q5_, hb8, q5_, q0_, q1_, q2_, q3_, q4_, q5_, trivial⟩ (by (refine do_says2 ?_; clear hsim hs hv hh; simp only [hL] at *; clear hL; simp_all [doM, hadM, setM, fullM, beq_ba, mk_empty]; done)) hsim
     ·
      rcases bd (!decide (((l.getD (↑(posM l key) : Int).toNat (ByteArray.empty, ByteArray.empty)).snd ++ val).size ≤ (64 : Nat))) with hb9 | hb9
      ·
       exact gs (C5_ok l) Tryd.func59 (sr' := ⟨2, [.tup [vS (ByteArray.mk #[]), vI 2]], [(0, .obj 145 [.own 1]), (1, .row 148 2 l.length (rowEl l))]⟩) (cs := [_, (145 = 145), (148 = 148), (l.length = l.length), (rowEl l = rowEl l), (Tidy l), _, ((0 : Int) ≤ (↑(posM l key) : Int) ∧ (↑(posM l key) : Int) < (↑l.length : Int)), ((↑(posM l key) : Int).toNat < l.length), _, _, _, ((l.getD (↑(posM l key) : Int).toNat (ByteArray.empty, ByteArray.empty)).snd.size + val.size ≤ 9223372036854775807), _]) [false, true, false, true, false, true] true ⟨hb1, (by rfl), (by rfl), (by rfl), (by rfl), (by exact ht), hb2, (by (have := hh hb2; omega)), (by (have := hh hb2; omega)), hb3, hb5, hb6, (by (have := hv hb1; have := hs hb2; omega)), hb9, trivial⟩ (by (refine do_says1 ?_; clear hsim hs hv hh; simp only [hL] at *; clear hL; simp_all [doM, hadM, fullM, beq_ba, mk_empty]; done)) hsim
      ·
       have q0_ : ((145 : Nat) = (145 : Nat)) := (by rfl)
       have q1_ : ((148 : Nat) = (148 : Nat)) := (by rfl)
       have q2_ : (l.length = l.length) := (by rfl)
       have q3_ : (rowEl l = rowEl l) := (by rfl)
       have q4_ : (Tidy l) := (by exact ht)
       have q5_ : ((l.getD (↑(posM l key) : Int).toNat (ByteArray.empty, ByteArray.empty)).snd.size + val.size ≤ (9223372036854775807 : Nat)) := (by (have := hv hb1; have := hs hb2; omega))
       exact gs (C5_ok l) Tryd.func59 (sr' := let za := (l.getD (↑(posM l key) : Int).toNat (ByteArray.empty, ByteArray.empty)).snd ++ val; ⟨2, [.tup [vS za, vI 0]], [(0, .obj 145 [.own 2]), (2, .row 148 2 ((setM l key za).length) (rowEl (setM l key za)))]⟩) (cs := ((fun (c0 c1 c2 c3 c4 c5 : Prop) => [_, c0, c1, c2, c3, c4, _, ((0 : Int) ≤ (↑(posM l key) : Int) ∧ (↑(posM l key) : Int) < (↑l.length : Int)), ((↑(posM l key) : Int).toNat < l.length), _, _, _, c5, _, c5, c0, c1, c2, c3, c4, c5]) _ _ _ _ _ _)) [false, true, false, true, false, false] true ⟨hb1, q0_, q1_, q2_, q3_, q4_, hb2, (by (have := hh hb2; omega)), (by (have := hh hb2; omega)), hb3, hb5, hb6, q5_, hb9, q5_, q0_, q1_, q2_, q3_, q4_, q5_, trivial⟩ (by (refine do_says2 ?_; clear hsim hs hv hh; simp only [hL] at *; clear hL; simp_all [doM, hadM, setM, fullM, beq_ba, mk_empty]; done)) hsim
    ·
     rcases bd (!hasM l key) with hb10 | hb10
     ·
      exact gs (C5_ok l) Tryd.func59 (sr' := ⟨2, [.tup [vS (ByteArray.mk #[]), vI 6]], [(0, .obj 145 [.own 1]), (1, .row 148 2 l.length (rowEl l))]⟩) (cs := [_, (145 = 145), (148 = 148), (l.length = l.length), (rowEl l = rowEl l), (Tidy l), _, ((0 : Int) ≤ (↑(posM l key) : Int) ∧ (↑(posM l key) : Int) < (↑l.length : Int)), ((↑(posM l key) : Int).toNat < l.length), _, _, _]) [false, true, false, false, true] true ⟨hb1, (by rfl), (by rfl), (by rfl), (by rfl), (by exact ht), hb2, (by (have := hh hb2; omega)), (by (have := hh hb2; omega)), hb3, hb5, hb10, trivial⟩ (by (refine do_says1 ?_; clear hsim hs hv hh; simp only [hL] at *; clear hL; simp_all [doM, hadM, fullM, beq_ba, mk_empty]; done)) hsim
     ·
      rcases bd (k == (4 : Int)) with hb11 | hb11
      ·
       have q0_ : ((0 : Int) ≤ (0 : Int) ∧ (0 : Int) ≤ (↑(posM l key) : Int) ∧ (↑(posM l key) : Int) ≤ (↑(posM l key) : Int) ∧ (↑(posM l key) : Int) ≤ (↑l.length : Int)) := (by omega)
       have q1_ : ((0 : Int) ≤ IntKind.i64.wrap ((↑(posM l key) : Int) + (1 : Int)) ∧ IntKind.i64.wrap ((↑(posM l key) : Int) + (1 : Int)) ≤ (↑l.length : Int) ∧ (↑l.length : Int) ≤ (↑l.length : Int)) := (by (have := hh hb2; rw [wrapI (((posM l key : Nat) : Int) + 1) (by omega)]; omega))
       have q2_ : (((↑(posM l key) : Int) - (0 : Int)).toNat + ((↑l.length : Int) - IntKind.i64.wrap ((↑(posM l key) : Int) + (1 : Int))).toNat ≤ (9223372036854775807 : Nat) ∧ (((↑(posM l key) : Int) - (0 : Int)).toNat + ((↑l.length : Int) - IntKind.i64.wrap ((↑(posM l key) : Int) + (1 : Int))).toNat) * (32 : Nat) ≤ (140737488355328 : Nat)) := (by omega)
       exact gs (C5_ok l) Tryd.func59 (sr' := let za := (↑(posM l key) : Int); ⟨2, [.tup [vS ((l.getD za.toNat (ByteArray.empty, ByteArray.empty)).snd), vI 0]], [(0, .obj 145 [.own 2]), (2, .row 148 2 ((za - 0).toNat + ((↑l.length : Int) - IntKind.i64.wrap (za + 1)).toNat) (fun j => if j < (za - 0).toNat then rowEl l j else rowEl l ((IntKind.i64.wrap (za + 1)).toNat + (j - (za - 0).toNat))))]⟩) (cs := ((fun (c0 c1 c2 : Prop) => [_, (145 = 145), (148 = 148), (l.length = l.length), (rowEl l = rowEl l), (Tidy l), _, ((0 : Int) ≤ (↑(posM l key) : Int) ∧ (↑(posM l key) : Int) < (↑l.length : Int)), ((↑(posM l key) : Int).toNat < l.length), _, _, _, _, c0, c1, c2, c1, c0, c2]) _ _ _)) [false, true, false, false, false, true] true ⟨hb1, (by rfl), (by rfl), (by rfl), (by rfl), (by exact ht), hb2, (by (have := hh hb2; omega)), (by (have := hh hb2; omega)), hb3, hb5, hb10, hb11, q0_, q1_, q2_, q1_, q0_, q2_, trivial⟩ (by (refine do_says3 ?_ (hh hb2) _ (by have := hh hb2; rw [wrapI (((posM l key : Nat) : Int) + 1) (by omega)]; omega) _ (fun j hj => if_pos (by omega)) (fun j hj hjn => (if_neg (by omega)).trans (congrArg (rowEl l) (by have := hh hb2; rw [wrapI (((posM l key : Nat) : Int) + 1) (by omega)]; omega))); clear hsim hs hv hh; simp_all [doM, hadM, fullM, beq_ba, mk_empty]; done)) hsim
      ·
       rcases bd (k == (5 : Int)) with hb12 | hb12
       ·
        rcases bd (!(l.getD (↑(posM l key) : Int).toNat (ByteArray.empty, ByteArray.empty)).snd.toList == old.toList) with hb13 | hb13
        ·
         exact gs (C5_ok l) Tryd.func59 (sr' := ⟨2, [.tup [vS (ByteArray.mk #[]), vI 7]], [(0, .obj 145 [.own 1]), (1, .row 148 2 l.length (rowEl l))]⟩) (cs := [_, (145 = 145), (148 = 148), (l.length = l.length), (rowEl l = rowEl l), (Tidy l), _, ((0 : Int) ≤ (↑(posM l key) : Int) ∧ (↑(posM l key) : Int) < (↑l.length : Int)), ((↑(posM l key) : Int).toNat < l.length), _, _, _, _, _, _]) ([false, true] ++ (List.replicate 4 false) ++ [true, true]) true ⟨hb1, (by rfl), (by rfl), (by rfl), (by rfl), (by exact ht), hb2, (by (have := hh hb2; omega)), (by (have := hh hb2; omega)), hb3, hb5, hb10, hb11, hb12, hb13, trivial⟩ (by (refine do_says1 ?_; clear hsim hs hv hh; simp only [hL] at *; clear hL; simp_all [doM, hadM, fullM, beq_ba, mk_empty]; done)) hsim
        ·
         have q0_ : ((145 : Nat) = (145 : Nat)) := (by rfl)
         have q1_ : ((148 : Nat) = (148 : Nat)) := (by rfl)
         have q2_ : (l.length = l.length) := (by rfl)
         have q3_ : (rowEl l = rowEl l) := (by rfl)
         have q4_ : (Tidy l) := (by exact ht)
         exact gs (C5_ok l) Tryd.func59 (sr' := ⟨2, [.tup [vS ((l.getD (↑(posM l key) : Int).toNat (ByteArray.empty, ByteArray.empty)).snd), vI 0]], [(0, .obj 145 [.own 2]), (2, .row 148 2 ((setM l key val).length) (rowEl (setM l key val)))]⟩) (cs := ((fun (c0 c1 c2 c3 c4 : Prop) => [_, c0, c1, c2, c3, c4, _, ((0 : Int) ≤ (↑(posM l key) : Int) ∧ (↑(posM l key) : Int) < (↑l.length : Int)), ((↑(posM l key) : Int).toNat < l.length), _, _, _, _, _, _, c0, c1, c2, c3, c4]) _ _ _ _ _)) ([false, true] ++ (List.replicate 4 false) ++ [true, false]) true ⟨hb1, q0_, q1_, q2_, q3_, q4_, hb2, (by (have := hh hb2; omega)), (by (have := hh hb2; omega)), hb3, hb5, hb10, hb11, hb12, hb13, q0_, q1_, q2_, q3_, q4_, trivial⟩ (by (refine do_says2 ?_; clear hsim hs hv hh; simp only [hL] at *; clear hL; simp_all [doM, hadM, setM, fullM, beq_ba, mk_empty]; done)) hsim
       ·
        exact gs (C5_ok l) Tryd.func59 (sr' := ⟨2, [.tup [vS ((l.getD (↑(posM l key) : Int).toNat (ByteArray.empty, ByteArray.empty)).snd), vI 0]], [(0, .obj 145 [.own 1]), (1, .row 148 2 l.length (rowEl l))]⟩) (cs := [_, (145 = 145), (148 = 148), (l.length = l.length), (rowEl l = rowEl l), (Tidy l), _, ((0 : Int) ≤ (↑(posM l key) : Int) ∧ (↑(posM l key) : Int) < (↑l.length : Int)), ((↑(posM l key) : Int).toNat < l.length), _, _, _, _, _]) ([false, true] ++ (List.replicate 5 false)) true ⟨hb1, (by rfl), (by rfl), (by rfl), (by rfl), (by exact ht), hb2, (by (have := hh hb2; omega)), (by (have := hh hb2; omega)), hb3, hb5, hb10, hb11, hb12, trivial⟩ (by (refine do_says1 ?_; clear hsim hs hv hh; simp only [hL] at *; clear hL; simp_all [doM, hadM, fullM, beq_ba, mk_empty]; done)) hsim
  ·
   rcases bd (k == (2 : Int)) with hb14 | hb14
   ·
    rcases bd ((if fullM l key = true then (5 : Int) else (0 : Int)) != (0 : Int)) with hb15 | hb15
    ·
     have q0_ : ((145 : Nat) = (145 : Nat)) := (by rfl)
     have q1_ : ((148 : Nat) = (148 : Nat)) := (by rfl)
     have q2_ : (l.length = l.length) := (by rfl)
     have q3_ : (rowEl l = rowEl l) := (by rfl)
     have q4_ : (Tidy l) := (by exact ht)
     exact gs (C5_ok l) Tryd.func59 (sr' := ⟨2, [.tup [vS (ByteArray.mk #[]), vI (if fullM l key = true then (5 : Int) else (0 : Int))]], [(0, .obj 145 [.own 2]), (2, .row 148 2 ((setM l key val).length) (rowEl (setM l key val)))]⟩) (cs := ((fun (c0 c1 c2 c3 c4 : Prop) => [_, c0, c1, c2, c3, c4, _, _, c0, c1, c2, c3, c4, _]) _ _ _ _ _)) [false, false, true, true] true ⟨hb1, q0_, q1_, q2_, q3_, q4_, hb2, hb14, q0_, q1_, q2_, q3_, q4_, hb15, trivial⟩ (by (refine do_says2 ?_; clear hsim hs hv hh; simp only [hL] at *; clear hL; simp_all [doM, hadM, setM, fullM, beq_ba, mk_empty]; done)) hsim
    ·
     have q0_ : ((145 : Nat) = (145 : Nat)) := (by rfl)
     have q1_ : ((148 : Nat) = (148 : Nat)) := (by rfl)
     have q2_ : (l.length = l.length) := (by rfl)
     have q3_ : (rowEl l = rowEl l) := (by rfl)
     have q4_ : (Tidy l) := (by exact ht)
     exact gs (C5_ok l) Tryd.func59 (sr' := ⟨2, [.tup [vS (ByteArray.mk #[]), vI 0]], [(0, .obj 145 [.own 2]), (2, .row 148 2 ((setM l key val).length) (rowEl (setM l key val)))]⟩) (cs := ((fun (c0 c1 c2 c3 c4 : Prop) => [_, c0, c1, c2, c3, c4, _, _, c0, c1, c2, c3, c4, _]) _ _ _ _ _)) [false, false, true, false] true ⟨hb1, q0_, q1_, q2_, q3_, q4_, hb2, hb14, q0_, q1_, q2_, q3_, q4_, hb15, trivial⟩ (by (refine do_says2 ?_; clear hsim hs hv hh; simp only [hL] at *; clear hL; simp_all [doM, hadM, setM, fullM, beq_ba, mk_empty]; done)) hsim
   ·
    rcases bd (k == (3 : Int)) with hb16 | hb16
    ·
     rcases bd (!hasM l key) with hb17 | hb17
     ·
      rcases bd ((↑l.length : Int) == (16 : Int)) with hb18 | hb18
      ·
       exact gs (C5_ok l) Tryd.func59 (sr' := ⟨2, [.tup [vS (ByteArray.mk #[]), vI 5]], [(0, .obj 145 [.own 1]), (1, .row 148 2 l.length (rowEl l))]⟩) (cs := [_, (145 = 145), (148 = 148), (l.length = l.length), (rowEl l = rowEl l), (Tidy l), _, _, _, _, _]) [false, false, false, true, true, true] true ⟨hb1, (by rfl), (by rfl), (by rfl), (by rfl), (by exact ht), hb2, hb14, hb16, hb17, hb18, trivial⟩ (by (refine do_says1 ?_; clear hsim hs hv hh; simp only [hL] at *; clear hL; simp_all [doM, hadM, fullM, beq_ba, mk_empty]; done)) hsim
      ·
       rcases bd (!decide ((ByteArray.mk #[] ++ val).size ≤ (64 : Nat))) with hb19 | hb19
       ·
        exact gs (C5_ok l) Tryd.func59 (sr' := ⟨2, [.tup [vS (ByteArray.mk #[]), vI 2]], [(0, .obj 145 [.own 1]), (1, .row 148 2 l.length (rowEl l))]⟩) (cs := [_, (145 = 145), (148 = 148), (l.length = l.length), (rowEl l = rowEl l), (Tidy l), _, _, _, _, _, (0 + val.size ≤ 9223372036854775807), _]) [false, false, false, true, true, false, true] true ⟨hb1, (by rfl), (by rfl), (by rfl), (by rfl), (by exact ht), hb2, hb14, hb16, hb17, hb18, (by (have := hv hb1; omega)), hb19, trivial⟩ (by (refine do_says1 ?_; clear hsim hs hv hh; simp only [hL] at *; clear hL; simp_all [doM, hadM, fullM, beq_ba, mk_empty]; done)) hsim
       ·
        have q0_ : ((145 : Nat) = (145 : Nat)) := (by rfl)
        have q1_ : ((148 : Nat) = (148 : Nat)) := (by rfl)
        have q2_ : (l.length = l.length) := (by rfl)
        have q3_ : (rowEl l = rowEl l) := (by rfl)
        have q4_ : (Tidy l) := (by exact ht)
        have q5_ : ((0 : Nat) + val.size ≤ (9223372036854775807 : Nat)) := (by (have := hv hb1; omega))
        exact gs (C5_ok l) Tryd.func59 (sr' := ⟨2, [.tup [vS (ByteArray.mk #[] ++ val), vI 0]], [(0, .obj 145 [.own 2]), (2, .row 148 2 ((setM l key (ByteArray.mk #[] ++ val)).length) (rowEl (setM l key (ByteArray.mk #[] ++ val))))]⟩) (cs := ((fun (c0 c1 c2 c3 c4 c5 : Prop) => [_, c0, c1, c2, c3, c4, _, _, _, _, _, c5, _, c5, c0, c1, c2, c3, c4, c5]) _ _ _ _ _ _)) [false, false, false, true, true, false, false] true ⟨hb1, q0_, q1_, q2_, q3_, q4_, hb2, hb14, hb16, hb17, hb18, q5_, hb19, q5_, q0_, q1_, q2_, q3_, q4_, q5_, trivial⟩ (by (refine do_says2 ?_; clear hsim hs hv hh; simp only [hL] at *; clear hL; simp_all [doM, hadM, setM, fullM, beq_ba, mk_empty]; done)) hsim
     ·
      rcases bd (!decide ((ByteArray.mk #[] ++ val).size ≤ (64 : Nat))) with hb20 | hb20
      ·
       exact gs (C5_ok l) Tryd.func59 (sr' := ⟨2, [.tup [vS (ByteArray.mk #[]), vI 2]], [(0, .obj 145 [.own 1]), (1, .row 148 2 l.length (rowEl l))]⟩) (cs := [_, (145 = 145), (148 = 148), (l.length = l.length), (rowEl l = rowEl l), (Tidy l), _, _, _, _, (0 + val.size ≤ 9223372036854775807), _]) [false, false, false, true, false, true] true ⟨hb1, (by rfl), (by rfl), (by rfl), (by rfl), (by exact ht), hb2, hb14, hb16, hb17, (by (have := hv hb1; omega)), hb20, trivial⟩ (by (refine do_says1 ?_; clear hsim hs hv hh; simp only [hL] at *; clear hL; simp_all [doM, hadM, fullM, beq_ba, mk_empty]; done)) hsim
      ·
       have q0_ : ((145 : Nat) = (145 : Nat)) := (by rfl)
       have q1_ : ((148 : Nat) = (148 : Nat)) := (by rfl)
       have q2_ : (l.length = l.length) := (by rfl)
       have q3_ : (rowEl l = rowEl l) := (by rfl)
       have q4_ : (Tidy l) := (by exact ht)
       have q5_ : ((0 : Nat) + val.size ≤ (9223372036854775807 : Nat)) := (by (have := hv hb1; omega))
       exact gs (C5_ok l) Tryd.func59 (sr' := ⟨2, [.tup [vS (ByteArray.mk #[] ++ val), vI 0]], [(0, .obj 145 [.own 2]), (2, .row 148 2 ((setM l key (ByteArray.mk #[] ++ val)).length) (rowEl (setM l key (ByteArray.mk #[] ++ val))))]⟩) (cs := ((fun (c0 c1 c2 c3 c4 c5 : Prop) => [_, c0, c1, c2, c3, c4, _, _, _, _, c5, _, c5, c0, c1, c2, c3, c4, c5]) _ _ _ _ _ _)) [false, false, false, true, false, false] true ⟨hb1, q0_, q1_, q2_, q3_, q4_, hb2, hb14, hb16, hb17, q5_, hb20, q5_, q0_, q1_, q2_, q3_, q4_, q5_, trivial⟩ (by (refine do_says2 ?_; clear hsim hs hv hh; simp only [hL] at *; clear hL; simp_all [doM, hadM, setM, fullM, beq_ba, mk_empty]; done)) hsim
    ·
     rcases bd (!hasM l key) with hb21 | hb21
     ·
      exact gs (C5_ok l) Tryd.func59 (sr' := ⟨2, [.tup [vS (ByteArray.mk #[]), vI 6]], [(0, .obj 145 [.own 1]), (1, .row 148 2 l.length (rowEl l))]⟩) (cs := [_, (145 = 145), (148 = 148), (l.length = l.length), (rowEl l = rowEl l), (Tidy l), _, _, _, _]) ((List.replicate 4 false) ++ [true]) true ⟨hb1, (by rfl), (by rfl), (by rfl), (by rfl), (by exact ht), hb2, hb14, hb16, hb21, trivial⟩ (by (refine do_says1 ?_; clear hsim hs hv hh; simp only [hL] at *; clear hL; simp_all [doM, hadM, fullM, beq_ba, mk_empty]; done)) hsim
     ·
      rcases bd (k == (4 : Int)) with hb22 | hb22
      ·
       have q0_ : ((0 : Int) ≤ (0 : Int) ∧ (0 : Int) ≤ (↑(posM l key) : Int) ∧ (↑(posM l key) : Int) ≤ (↑(posM l key) : Int) ∧ (↑(posM l key) : Int) ≤ (↑l.length : Int)) := (by omega)
       have q1_ : ((0 : Int) ≤ IntKind.i64.wrap ((↑(posM l key) : Int) + (1 : Int)) ∧ IntKind.i64.wrap ((↑(posM l key) : Int) + (1 : Int)) ≤ (↑l.length : Int) ∧ (↑l.length : Int) ≤ (↑l.length : Int)) := (by (exfalso; clear hsim; simp_all; done))
       have q2_ : (((↑(posM l key) : Int) - (0 : Int)).toNat + ((↑l.length : Int) - IntKind.i64.wrap ((↑(posM l key) : Int) + (1 : Int))).toNat ≤ (9223372036854775807 : Nat) ∧ (((↑(posM l key) : Int) - (0 : Int)).toNat + ((↑l.length : Int) - IntKind.i64.wrap ((↑(posM l key) : Int) + (1 : Int))).toNat) * (32 : Nat) ≤ (140737488355328 : Nat)) := (by omega)
       (exfalso; clear hsim; simp_all; done)
      ·
       rcases bd (k == (5 : Int)) with hb23 | hb23
       ·
        rcases bd (!(ByteArray.mk #[]).toList == old.toList) with hb24 | hb24
        ·
         exact gs (C5_ok l) Tryd.func59 (sr' := ⟨2, [.tup [vS (ByteArray.mk #[]), vI 7]], [(0, .obj 145 [.own 1]), (1, .row 148 2 l.length (rowEl l))]⟩) (cs := [_, (145 = 145), (148 = 148), (l.length = l.length), (rowEl l = rowEl l), (Tidy l), _, _, _, _, _, _, _]) ((List.replicate 6 false) ++ [true, true]) true ⟨hb1, (by rfl), (by rfl), (by rfl), (by rfl), (by exact ht), hb2, hb14, hb16, hb21, hb22, hb23, hb24, trivial⟩ (by (refine do_says1 ?_; clear hsim hs hv hh; simp only [hL] at *; clear hL; simp_all [doM, hadM, fullM, beq_ba, mk_empty]; done)) hsim
        ·
         have q0_ : ((145 : Nat) = (145 : Nat)) := (by rfl)
         have q1_ : ((148 : Nat) = (148 : Nat)) := (by rfl)
         have q2_ : (l.length = l.length) := (by rfl)
         have q3_ : (rowEl l = rowEl l) := (by rfl)
         have q4_ : (Tidy l) := (by exact ht)
         exact gs (C5_ok l) Tryd.func59 (sr' := ⟨2, [.tup [vS (ByteArray.mk #[]), vI 0]], [(0, .obj 145 [.own 2]), (2, .row 148 2 ((setM l key val).length) (rowEl (setM l key val)))]⟩) (cs := ((fun (c0 c1 c2 c3 c4 : Prop) => [_, c0, c1, c2, c3, c4, _, _, _, _, _, _, _, c0, c1, c2, c3, c4]) _ _ _ _ _)) ((List.replicate 6 false) ++ [true, false]) true ⟨hb1, q0_, q1_, q2_, q3_, q4_, hb2, hb14, hb16, hb21, hb22, hb23, hb24, q0_, q1_, q2_, q3_, q4_, trivial⟩ (by (refine do_says2 ?_; clear hsim hs hv hh; simp only [hL] at *; clear hL; simp_all [doM, hadM, setM, fullM, beq_ba, mk_empty]; done)) hsim
       ·
        exact gs (C5_ok l) Tryd.func59 (sr' := ⟨2, [.tup [vS (ByteArray.mk #[]), vI 0]], [(0, .obj 145 [.own 1]), (1, .row 148 2 l.length (rowEl l))]⟩) (cs := [_, (145 = 145), (148 = 148), (l.length = l.length), (rowEl l = rowEl l), (Tidy l), _, _, _, _, _, _]) ((List.replicate 7 false)) true ⟨hb1, (by rfl), (by rfl), (by rfl), (by rfl), (by exact ht), hb2, hb14, hb16, hb21, hb22, hb23, trivial⟩ (by (refine do_says1 ?_; clear hsim hs hv hh; simp only [hL] at *; clear hL; simp_all [doM, hadM, fullM, beq_ba, mk_empty]; done)) hsim
end Go.Tab
