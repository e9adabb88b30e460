/-
  Contracts of given functions, plain laws. No condition.
-/
import Derived.Test.YtbppcjkpkelbfaaDoorTabN
import Derived.Test.YtbppcjkpkelbfaaDoorPleP
import Derived.Test.YtbppcjkpkelbfaaDoorPrfB
namespace Go.Prf
open Go Go.Eng Go.Proofs Go.Tab Go.Plc
set_option maxRecDepth 100000
set_option maxHeartbeats 4000000
theorem tl_eq (a b : ByteArray) : (a.toList == b.toList) = decide (a = b) := beq_ba a b
theorem rcheck_ok (k : Int) (key val old : ByteArray) : Eng.Spec Tryd.prog gz0 56 [.d (.agg [.raw (.int .i64 k), .raw (.string key), .raw (.string val), .raw (.string old)])] [] (.d (.raw (.int .i64 (checkM k key val old)))) [] := by
 refine spec_fn Tryd.func56 rfl fun {w N E a} hsim => ?_
 rcases bd (decide (k < (1 : Int))) with hb1 | hb1
 ·
  exact gr (OrcOK.none _) Tryd.func56 (sr' := ⟨0, [vI 1], []⟩) (cs := [_]) [true] true ⟨hb1, trivial⟩ (by exact ck_ret (by unfold checkM; simp only [beq_mk, bne, beq_mk, Bool.not_eq_true', Bool.not_eq_false', decide_eq_true_eq, decide_eq_false_iff_not, beq_iff_eq, beq_eq_false_iff_ne, bne_iff_ne, bne_eq_false_iff_eq] at *; (repeat' split) <;> omega)) hsim
 ·
  rcases bd (decide (k > (5 : Int))) with hb2 | hb2
  ·
   exact gr (OrcOK.none _) Tryd.func56 (sr' := ⟨0, [vI 1], []⟩) (cs := [_, _]) [false, true] true ⟨hb1, hb2, trivial⟩ (by exact ck_ret (by unfold checkM; simp only [beq_mk, bne, beq_mk, Bool.not_eq_true', Bool.not_eq_false', decide_eq_true_eq, decide_eq_false_iff_not, beq_iff_eq, beq_eq_false_iff_ne, bne_iff_ne, bne_eq_false_iff_eq] at *; (repeat' split) <;> omega)) hsim
  ·
   rcases bd (decide ((↑key.size : Int) < (1 : Int))) with hb3 | hb3
   ·
    exact gr (OrcOK.none _) Tryd.func56 (sr' := ⟨0, [vI 130], []⟩) (cs := [_, _, _]) [false, false, true] true ⟨hb1, hb2, hb3, trivial⟩ (by exact ck_ret (by unfold checkM; simp only [beq_mk, bne, beq_mk, Bool.not_eq_true', Bool.not_eq_false', decide_eq_true_eq, decide_eq_false_iff_not, beq_iff_eq, beq_eq_false_iff_ne, bne_iff_ne, bne_eq_false_iff_eq] at *; (repeat' split) <;> omega)) hsim
   ·
    rcases bd (decide ((↑key.size : Int) > (16 : Int))) with hb4 | hb4
    ·
     exact gr (OrcOK.none _) Tryd.func56 (sr' := ⟨0, [vI 130], []⟩) (cs := [_, _, _, _]) [false, false, false, true] true ⟨hb1, hb2, hb3, hb4, trivial⟩ (by exact ck_ret (by unfold checkM; simp only [beq_mk, bne, beq_mk, Bool.not_eq_true', Bool.not_eq_false', decide_eq_true_eq, decide_eq_false_iff_not, beq_iff_eq, beq_eq_false_iff_ne, bne_iff_ne, bne_eq_false_iff_eq] at *; (repeat' split) <;> omega)) hsim
    ·
     rcases bd (decide ((↑val.size : Int) > (64 : Int))) with hb5 | hb5
     ·
      exact gr (OrcOK.none _) Tryd.func56 (sr' := ⟨0, [vI 130], []⟩) (cs := [_, _, _, _, _]) ((List.replicate 4 false) ++ [true]) true ⟨hb1, hb2, hb3, hb4, hb5, trivial⟩ (by exact ck_ret (by unfold checkM; simp only [beq_mk, bne, beq_mk, Bool.not_eq_true', Bool.not_eq_false', decide_eq_true_eq, decide_eq_false_iff_not, beq_iff_eq, beq_eq_false_iff_ne, bne_iff_ne, bne_eq_false_iff_eq] at *; (repeat' split) <;> omega)) hsim
     ·
      rcases bd (decide ((↑old.size : Int) > (64 : Int))) with hb6 | hb6
      ·
       exact gr (OrcOK.none _) Tryd.func56 (sr' := ⟨0, [vI 130], []⟩) (cs := [_, _, _, _, _, _]) ((List.replicate 5 false) ++ [true]) true ⟨hb1, hb2, hb3, hb4, hb5, hb6, trivial⟩ (by exact ck_ret (by unfold checkM; simp only [beq_mk, bne, beq_mk, Bool.not_eq_true', Bool.not_eq_false', decide_eq_true_eq, decide_eq_false_iff_not, beq_iff_eq, beq_eq_false_iff_ne, bne_iff_ne, bne_eq_false_iff_eq] at *; (repeat' split) <;> omega)) hsim
      ·
       rcases bd (!val.toList == (ByteArray.mk #[]).toList) with hb7 | hb7
       ·
        rcases bd (k == (1 : Int)) with hb8 | hb8
        ·
         exact gr (OrcOK.none _) Tryd.func56 (sr' := ⟨0, [vI 4], []⟩) (cs := [_, _, _, _, _, _, _, _]) ((List.replicate 6 false) ++ [true, true]) true ⟨hb1, hb2, hb3, hb4, hb5, hb6, hb7, hb8, trivial⟩ (by exact ck_ret (by unfold checkM; simp only [beq_mk, bne, beq_mk, Bool.not_eq_true', Bool.not_eq_false', decide_eq_true_eq, decide_eq_false_iff_not, beq_iff_eq, beq_eq_false_iff_ne, bne_iff_ne, bne_eq_false_iff_eq] at *; (repeat' split) <;> omega)) hsim
        ·
         rcases bd (k == (4 : Int)) with hb9 | hb9
         ·
          exact gr (OrcOK.none _) Tryd.func56 (sr' := ⟨0, [vI 4], []⟩) (cs := [_, _, _, _, _, _, _, _, _]) ((List.replicate 6 false) ++ [true, false, true]) true ⟨hb1, hb2, hb3, hb4, hb5, hb6, hb7, hb8, hb9, trivial⟩ (by exact ck_ret (by unfold checkM; simp only [beq_mk, bne, beq_mk, Bool.not_eq_true', Bool.not_eq_false', decide_eq_true_eq, decide_eq_false_iff_not, beq_iff_eq, beq_eq_false_iff_ne, bne_iff_ne, bne_eq_false_iff_eq] at *; (repeat' split) <;> omega)) hsim
         ·
          rcases bd (!old.toList == (ByteArray.mk #[]).toList) with hb10 | hb10
          ·
           rcases bd (k != (5 : Int)) with hb11 | hb11
           ·
            exact gr (OrcOK.none _) Tryd.func56 (sr' := ⟨0, [vI 4], []⟩) (cs := [_, _, _, _, _, _, _, _, _, _, _]) ((List.replicate 6 false) ++ [true, false, false, true, true]) true ⟨hb1, hb2, hb3, hb4, hb5, hb6, hb7, hb8, hb9, hb10, hb11, trivial⟩ (by exact ck_ret (by unfold checkM; simp only [beq_mk, bne, beq_mk, Bool.not_eq_true', Bool.not_eq_false', decide_eq_true_eq, decide_eq_false_iff_not, beq_iff_eq, beq_eq_false_iff_ne, bne_iff_ne, bne_eq_false_iff_eq] at *; (repeat' split) <;> omega)) hsim
           ·
            exact gr (OrcOK.none _) Tryd.func56 (sr' := ⟨0, [vI 0], []⟩) (cs := [_, _, _, _, _, _, _, _, _, _, _]) ((List.replicate 6 false) ++ [true, false, false, true, false]) true ⟨hb1, hb2, hb3, hb4, hb5, hb6, hb7, hb8, hb9, hb10, hb11, trivial⟩ (by exact ck_ret (by unfold checkM; simp only [beq_mk, bne, beq_mk, Bool.not_eq_true', Bool.not_eq_false', decide_eq_true_eq, decide_eq_false_iff_not, beq_iff_eq, beq_eq_false_iff_ne, bne_iff_ne, bne_eq_false_iff_eq] at *; (repeat' split) <;> omega)) hsim
          ·
           exact gr (OrcOK.none _) Tryd.func56 (sr' := ⟨0, [vI 0], []⟩) (cs := [_, _, _, _, _, _, _, _, _, _]) ((List.replicate 6 false) ++ [true, false, false, false]) true ⟨hb1, hb2, hb3, hb4, hb5, hb6, hb7, hb8, hb9, hb10, trivial⟩ (by exact ck_ret (by unfold checkM; simp only [beq_mk, bne, beq_mk, Bool.not_eq_true', Bool.not_eq_false', decide_eq_true_eq, decide_eq_false_iff_not, beq_iff_eq, beq_eq_false_iff_ne, bne_iff_ne, bne_eq_false_iff_eq] at *; (repeat' split) <;> omega)) hsim
       ·
        rcases bd (!old.toList == (ByteArray.mk #[]).toList) with hb12 | hb12
        ·
         rcases bd (k != (5 : Int)) with hb13 | hb13
         ·
          exact gr (OrcOK.none _) Tryd.func56 (sr' := ⟨0, [vI 4], []⟩) (cs := [_, _, _, _, _, _, _, _, _]) ((List.replicate 7 false) ++ [true, true]) true ⟨hb1, hb2, hb3, hb4, hb5, hb6, hb7, hb12, hb13, trivial⟩ (by exact ck_ret (by unfold checkM; simp only [beq_mk, bne, beq_mk, Bool.not_eq_true', Bool.not_eq_false', decide_eq_true_eq, decide_eq_false_iff_not, beq_iff_eq, beq_eq_false_iff_ne, bne_iff_ne, bne_eq_false_iff_eq] at *; (repeat' split) <;> omega)) hsim
         ·
          exact gr (OrcOK.none _) Tryd.func56 (sr' := ⟨0, [vI 0], []⟩) (cs := [_, _, _, _, _, _, _, _, _]) ((List.replicate 7 false) ++ [true, false]) true ⟨hb1, hb2, hb3, hb4, hb5, hb6, hb7, hb12, hb13, trivial⟩ (by exact ck_ret (by unfold checkM; simp only [beq_mk, bne, beq_mk, Bool.not_eq_true', Bool.not_eq_false', decide_eq_true_eq, decide_eq_false_iff_not, beq_iff_eq, beq_eq_false_iff_ne, bne_iff_ne, bne_eq_false_iff_eq] at *; (repeat' split) <;> omega)) hsim
        ·
         exact gr (OrcOK.none _) Tryd.func56 (sr' := ⟨0, [vI 0], []⟩) (cs := [_, _, _, _, _, _, _, _]) ((List.replicate 8 false)) true ⟨hb1, hb2, hb3, hb4, hb5, hb6, hb7, hb12, trivial⟩ (by exact ck_ret (by unfold checkM; simp only [beq_mk, bne, beq_mk, Bool.not_eq_true', Bool.not_eq_false', decide_eq_true_eq, decide_eq_false_iff_not, beq_iff_eq, beq_eq_false_iff_ne, bne_iff_ne, bne_eq_false_iff_eq] at *; (repeat' split) <;> omega)) hsim
theorem Q0_ok : OrcOK Tryd.prog Q0 := (OrcOK.none _).add _ false mChk fun args H r H' cs h hc => by
 unfold mChk at h
 split at h
 · cases h; exact rcheck_ok _ _ _ _
 · cases h
theorem hasM_idx {q : List Rw} {key : ByteArray} (h : hasM q key = true) : idxR q key < q.length ∧ (q.getD (idxR q key) (ByteArray.empty, ByteArray.empty)).1 = key := by
 unfold hasM at h
 obtain ⟨r, hr, e⟩ := List.any_eq_true.1 h
 have h1 : idxR q key < q.length := List.findIdx_lt_length_of_exists ⟨r, hr, e⟩
 refine ⟨h1, ?_⟩
 have h2 : decide ((q[idxR q key]'h1).1 = key) = true := List.findIdx_getElem (p := fun r : Rw => decide (r.1 = key)) (w := h1)
 rw [getD_get h1]
 exact of_decide_eq_true h2
theorem rat_go0 {w0 : World} {N : Nat → Prop} {E0 : Env} (q x y z : List Rw) (key : ByteArray) (hq : q.length ≤ 1000) : ∀ (d : Nat) (n i : Int), n = (q.length : Int) → 0 ≤ i → i + d = n → hasM (q.take i.toNat) key = false → ∀ (E : Env) (a : Act) (w : World),
  Sim (cx Tryd.prog gz0 w0 N E0 (rm0 q x y z)) E (ra0 q x y z key n i) a w → Goes Tryd.prog 63 (loopAt Tryd.f63 0) (RSpec (cx Tryd.prog gz0 w0 N E0 (rm0 q x y z)) ⟨5, [.d (.raw (.int .i64 (atI q key)))], rm0 q x y z⟩) a w := by
 intro d
 induction d with
 | zero =>
  intro n i en h0 hd hn E a w hsim
  have e : atI q key = -1 := by
    rw [List.take_of_length_le (by omega)] at hn
    unfold atI; rw [hn]; rfl
  rcases bd (decide (i < n)) with hb1 | hb1
  ·
   rcases bd ((q.getD i.toNat (ByteArray.empty, ByteArray.empty)).fst.toList == key.toList) with hb2 | hb2
   ·
    exact absurd (of_decide_eq_true hb1) (by omega)
   ·
    exact absurd (of_decide_eq_true hb1) (by omega)
  ·
   exact gr (OrcOK.none _) Tryd.func63 (sr' := ⟨5, [vI ((-1 : Int))], [(0, .obj 107 [.own 1, .own 2, .own 3, .own 4]), (1, .row 142 2 q.length (rowEl q)), (2, .row 142 2 x.length (rowEl x)), (3, .row 142 2 y.length (rowEl y)), (4, .row 142 2 z.length (rowEl z))]⟩) (cs := [_]) [false] true ⟨hb1, trivial⟩ (by (rw [e]; rfl)) hsim
 | succ d ih =>
  intro n i en h0 hd hn E a w hsim
  have hi : i.toNat < q.length := by omega
  have hstep : hasM (q.take (i.toNat + 1)) key = (decide ((q.getD i.toNat (ByteArray.empty, ByteArray.empty)).1 = key)) := by
    rw [List.take_add_one, hasM_append, hn, List.getD_eq_getElem?_getD, List.getElem?_eq_getElem hi]
    simp [hasM]
  have hfound : (q.getD i.toNat (ByteArray.empty, ByteArray.empty)).1 = key → atI q key = i := fun e => by
    have h1 : hasM q key = true := by
     have : hasM (q.take (i.toNat + 1)) key = true := by rw [hstep, e]; simp
     unfold hasM at this ⊢
     obtain ⟨r, hr, e⟩ := List.any_eq_true.1 this
     exact List.any_eq_true.2 ⟨r, List.mem_of_mem_take hr, e⟩
    have h2 : idxR q key = i.toNat := by
     unfold idxR
     rw [List.findIdx_eq hi]
     refine ⟨by rw [← getD_get hi]; exact decide_eq_true e, fun j hj => ?_⟩
     cases hx : decide ((q[j]'(Nat.lt_trans hj hi)).1 = key) with
     | false => rfl
     | true =>
      have : hasM (q.take i.toNat) key = true := by
       unfold hasM
       exact List.any_eq_true.2 ⟨q[j]'(Nat.lt_trans hj hi), List.mem_take_iff_getElem.2 ⟨j, by omega, rfl⟩, hx⟩
      rw [hn] at this; cases this
    unfold atI; rw [if_pos h1, h2]; omega
  have ih := fun (h : decide ((q.getD i.toNat (ByteArray.empty, ByteArray.empty)).1 = key) = false) E a w hs => ih n (IntKind.i64.wrap (i + 1)) en (by rw [wrapI (i + 1) (by omega)]; omega) (by rw [wrapI (i + 1) (by omega)]; omega) (by rw [wrapI (i + 1) (by omega), show (i + 1).toNat = i.toNat + 1 by omega, hstep]; exact h) E a w hs
  rcases bd (decide (i < n)) with hb1 | hb1
  ·
   rcases bd ((q.getD i.toNat (ByteArray.empty, ByteArray.empty)).fst.toList == key.toList) with hb2 | hb2
   ·
    exact gr (OrcOK.none _) Tryd.func63 (sr' := ⟨5, [vI i], [(0, .obj 107 [.own 1, .own 2, .own 3, .own 4]), (1, .row 142 2 q.length (rowEl q)), (2, .row 142 2 x.length (rowEl x)), (3, .row 142 2 y.length (rowEl y)), (4, .row 142 2 z.length (rowEl z))]⟩) (cs := [_, (0 ≤ i ∧ i < q.length), (i.toNat < q.length), _]) [true, true] true ⟨hb1, by omega, by omega, hb2, trivial⟩ (by (rw [hfound (of_decide_eq_true ((tl_eq _ _).symm.trans hb2))]; rfl)) hsim
   ·
    refine gh (OrcOK.none _) (k' := loopAt Tryd.f63 0) (s' := mk 5 23 [(1, vS key), (10, .own 1), (11, vI n), (12, vI (wI (i + 1)))] [(0, .obj 107 [.own 1, .own 2, .own 3, .own 4]), (1, .row 142 2 q.length (rowEl q)), (2, .row 142 2 x.length (rowEl x)), (3, .row 142 2 y.length (rowEl y)), (4, .row 142 2 z.length (rowEl z))]) (cs := [_, (0 ≤ i ∧ i < q.length), (i.toNat < q.length), _]) [true, false] [1,10,11,12] ⟨hb1, by omega, by omega, hb2, trivial⟩ hsim fun E a w hsim => ?_
    exact ih ((tl_eq _ _).symm.trans hb2) E a w hsim
  ·
   exact absurd (of_decide_eq_false hb1) (by omega)
theorem rat_ok0 (q x y z : List Rw) (key : ByteArray) (hq : q.length ≤ 1000) : Eng.Spec Tryd.prog gz0 63 [.ref 0 0, .d (.raw (.string key))] (rm0 q x y z) (.d (.raw (.int .i64 (atI q key)))) (rm0 q x y z) := by
 refine spec_fn Tryd.func63 rfl fun {w N E a} hsim => ?_
 refine gh (OrcOK.none _) (k' := loopAt Tryd.f63 0) (s' := mk 5 23 [(1, vS key), (10, .own 1), (11, vI (↑q.length : Int)), (12, vI 0)] [(0, .obj 107 [.own 1, .own 2, .own 3, .own 4]), (1, .row 142 2 q.length (rowEl q)), (2, .row 142 2 x.length (rowEl x)), (3, .row 142 2 y.length (rowEl y)), (4, .row 142 2 z.length (rowEl z))]) (cs := []) [] [1,10,11,12] trivial hsim fun E a w hsim => ?_
 exact rat_go0 q x y z key hq q.length (q.length : Int) 0 rfl (by omega) (by omega) rfl E a w hsim
theorem rat_go1 {w0 : World} {N : Nat → Prop} {E0 : Env} (q x y z : List Rw) (key : ByteArray) (hq : q.length ≤ 1000) : ∀ (d : Nat) (n i : Int), n = (q.length : Int) → 0 ≤ i → i + d = n → hasM (q.take i.toNat) key = false → ∀ (E : Env) (a : Act) (w : World),
  Sim (cx Tryd.prog gz0 w0 N E0 (rm1 q x y z)) E (ra1 q x y z key n i) a w → Goes Tryd.prog 63 (loopAt Tryd.f63 0) (RSpec (cx Tryd.prog gz0 w0 N E0 (rm1 q x y z)) ⟨5, [.d (.raw (.int .i64 (atI q key)))], rm1 q x y z⟩) a w := by
 intro d
 induction d with
 | zero =>
  intro n i en h0 hd hn E a w hsim
  have e : atI q key = -1 := by
    rw [List.take_of_length_le (by omega)] at hn
    unfold atI; rw [hn]; rfl
  rcases bd (decide (i < n)) with hb1 | hb1
  ·
   rcases bd ((q.getD i.toNat (ByteArray.empty, ByteArray.empty)).fst.toList == key.toList) with hb2 | hb2
   ·
    exact absurd (of_decide_eq_true hb1) (by omega)
   ·
    exact absurd (of_decide_eq_true hb1) (by omega)
  ·
   exact gr (OrcOK.none _) Tryd.func63 (sr' := ⟨5, [vI ((-1 : Int))], [(0, .obj 107 [.own 1, .own 2, .own 3, .own 4]), (1, .row 142 2 x.length (rowEl x)), (2, .row 142 2 q.length (rowEl q)), (3, .row 142 2 y.length (rowEl y)), (4, .row 142 2 z.length (rowEl z))]⟩) (cs := [_]) [false] true ⟨hb1, trivial⟩ (by (rw [e]; rfl)) hsim
 | succ d ih =>
  intro n i en h0 hd hn E a w hsim
  have hi : i.toNat < q.length := by omega
  have hstep : hasM (q.take (i.toNat + 1)) key = (decide ((q.getD i.toNat (ByteArray.empty, ByteArray.empty)).1 = key)) := by
    rw [List.take_add_one, hasM_append, hn, List.getD_eq_getElem?_getD, List.getElem?_eq_getElem hi]
    simp [hasM]
  have hfound : (q.getD i.toNat (ByteArray.empty, ByteArray.empty)).1 = key → atI q key = i := fun e => by
    have h1 : hasM q key = true := by
     have : hasM (q.take (i.toNat + 1)) key = true := by rw [hstep, e]; simp
     unfold hasM at this ⊢
     obtain ⟨r, hr, e⟩ := List.any_eq_true.1 this
     exact List.any_eq_true.2 ⟨r, List.mem_of_mem_take hr, e⟩
    have h2 : idxR q key = i.toNat := by
     unfold idxR
     rw [List.findIdx_eq hi]
     refine ⟨by rw [← getD_get hi]; exact decide_eq_true e, fun j hj => ?_⟩
     cases hx : decide ((q[j]'(Nat.lt_trans hj hi)).1 = key) with
     | false => rfl
     | true =>
      have : hasM (q.take i.toNat) key = true := by
       unfold hasM
       exact List.any_eq_true.2 ⟨q[j]'(Nat.lt_trans hj hi), List.mem_take_iff_getElem.2 ⟨j, by omega, rfl⟩, hx⟩
      rw [hn] at this; cases this
    unfold atI; rw [if_pos h1, h2]; omega
  have ih := fun (h : decide ((q.getD i.toNat (ByteArray.empty, ByteArray.empty)).1 = key) = false) E a w hs => ih n (IntKind.i64.wrap (i + 1)) en (by rw [wrapI (i + 1) (by omega)]; omega) (by rw [wrapI (i + 1) (by omega)]; omega) (by rw [wrapI (i + 1) (by omega), show (i + 1).toNat = i.toNat + 1 by omega, hstep]; exact h) E a w hs
  rcases bd (decide (i < n)) with hb1 | hb1
  ·
   rcases bd ((q.getD i.toNat (ByteArray.empty, ByteArray.empty)).fst.toList == key.toList) with hb2 | hb2
   ·
    exact gr (OrcOK.none _) Tryd.func63 (sr' := ⟨5, [vI i], [(0, .obj 107 [.own 1, .own 2, .own 3, .own 4]), (1, .row 142 2 x.length (rowEl x)), (2, .row 142 2 q.length (rowEl q)), (3, .row 142 2 y.length (rowEl y)), (4, .row 142 2 z.length (rowEl z))]⟩) (cs := [_, (0 ≤ i ∧ i < q.length), (i.toNat < q.length), _]) [true, true] true ⟨hb1, by omega, by omega, hb2, trivial⟩ (by (rw [hfound (of_decide_eq_true ((tl_eq _ _).symm.trans hb2))]; rfl)) hsim
   ·
    refine gh (OrcOK.none _) (k' := loopAt Tryd.f63 0) (s' := mk 5 23 [(1, vS key), (10, .own 2), (11, vI n), (12, vI (wI (i + 1)))] [(0, .obj 107 [.own 1, .own 2, .own 3, .own 4]), (1, .row 142 2 x.length (rowEl x)), (2, .row 142 2 q.length (rowEl q)), (3, .row 142 2 y.length (rowEl y)), (4, .row 142 2 z.length (rowEl z))]) (cs := [_, (0 ≤ i ∧ i < q.length), (i.toNat < q.length), _]) [true, false] [1,10,11,12] ⟨hb1, by omega, by omega, hb2, trivial⟩ hsim fun E a w hsim => ?_
    exact ih ((tl_eq _ _).symm.trans hb2) E a w hsim
  ·
   exact absurd (of_decide_eq_false hb1) (by omega)
theorem rat_ok1 (q x y z : List Rw) (key : ByteArray) (hq : q.length ≤ 1000) : Eng.Spec Tryd.prog gz0 63 [.ref 0 1, .d (.raw (.string key))] (rm1 q x y z) (.d (.raw (.int .i64 (atI q key)))) (rm1 q x y z) := by
 refine spec_fn Tryd.func63 rfl fun {w N E a} hsim => ?_
 refine gh (OrcOK.none _) (k' := loopAt Tryd.f63 0) (s' := mk 5 23 [(1, vS key), (10, .own 2), (11, vI (↑q.length : Int)), (12, vI 0)] [(0, .obj 107 [.own 1, .own 2, .own 3, .own 4]), (1, .row 142 2 x.length (rowEl x)), (2, .row 142 2 q.length (rowEl q)), (3, .row 142 2 y.length (rowEl y)), (4, .row 142 2 z.length (rowEl z))]) (cs := []) [] [1,10,11,12] trivial hsim fun E a w hsim => ?_
 exact rat_go1 q x y z key hq q.length (q.length : Int) 0 rfl (by omega) (by omega) rfl E a w hsim
theorem rat_go2 {w0 : World} {N : Nat → Prop} {E0 : Env} (q x y z : List Rw) (key : ByteArray) (hq : q.length ≤ 1000) : ∀ (d : Nat) (n i : Int), n = (q.length : Int) → 0 ≤ i → i + d = n → hasM (q.take i.toNat) key = false → ∀ (E : Env) (a : Act) (w : World),
  Sim (cx Tryd.prog gz0 w0 N E0 (rm2 q x y z)) E (ra2 q x y z key n i) a w → Goes Tryd.prog 63 (loopAt Tryd.f63 0) (RSpec (cx Tryd.prog gz0 w0 N E0 (rm2 q x y z)) ⟨5, [.d (.raw (.int .i64 (atI q key)))], rm2 q x y z⟩) a w := by
 intro d
 induction d with
 | zero =>
  intro n i en h0 hd hn E a w hsim
  have e : atI q key = -1 := by
    rw [List.take_of_length_le (by omega)] at hn
    unfold atI; rw [hn]; rfl
  rcases bd (decide (i < n)) with hb1 | hb1
  ·
   rcases bd ((q.getD i.toNat (ByteArray.empty, ByteArray.empty)).fst.toList == key.toList) with hb2 | hb2
   ·
    exact absurd (of_decide_eq_true hb1) (by omega)
   ·
    exact absurd (of_decide_eq_true hb1) (by omega)
  ·
   exact gr (OrcOK.none _) Tryd.func63 (sr' := ⟨5, [vI ((-1 : Int))], [(0, .obj 107 [.own 1, .own 2, .own 3, .own 4]), (1, .row 142 2 x.length (rowEl x)), (2, .row 142 2 y.length (rowEl y)), (3, .row 142 2 q.length (rowEl q)), (4, .row 142 2 z.length (rowEl z))]⟩) (cs := [_]) [false] true ⟨hb1, trivial⟩ (by (rw [e]; rfl)) hsim
 | succ d ih =>
  intro n i en h0 hd hn E a w hsim
  have hi : i.toNat < q.length := by omega
  have hstep : hasM (q.take (i.toNat + 1)) key = (decide ((q.getD i.toNat (ByteArray.empty, ByteArray.empty)).1 = key)) := by
    rw [List.take_add_one, hasM_append, hn, List.getD_eq_getElem?_getD, List.getElem?_eq_getElem hi]
    simp [hasM]
  have hfound : (q.getD i.toNat (ByteArray.empty, ByteArray.empty)).1 = key → atI q key = i := fun e => by
    have h1 : hasM q key = true := by
     have : hasM (q.take (i.toNat + 1)) key = true := by rw [hstep, e]; simp
     unfold hasM at this ⊢
     obtain ⟨r, hr, e⟩ := List.any_eq_true.1 this
     exact List.any_eq_true.2 ⟨r, List.mem_of_mem_take hr, e⟩
    have h2 : idxR q key = i.toNat := by
     unfold idxR
     rw [List.findIdx_eq hi]
     refine ⟨by rw [← getD_get hi]; exact decide_eq_true e, fun j hj => ?_⟩
     cases hx : decide ((q[j]'(Nat.lt_trans hj hi)).1 = key) with
     | false => rfl
     | true =>
      have : hasM (q.take i.toNat) key = true := by
       unfold hasM
       exact List.any_eq_true.2 ⟨q[j]'(Nat.lt_trans hj hi), List.mem_take_iff_getElem.2 ⟨j, by omega, rfl⟩, hx⟩
      rw [hn] at this; cases this
    unfold atI; rw [if_pos h1, h2]; omega
  have ih := fun (h : decide ((q.getD i.toNat (ByteArray.empty, ByteArray.empty)).1 = key) = false) E a w hs => ih n (IntKind.i64.wrap (i + 1)) en (by rw [wrapI (i + 1) (by omega)]; omega) (by rw [wrapI (i + 1) (by omega)]; omega) (by rw [wrapI (i + 1) (by omega), show (i + 1).toNat = i.toNat + 1 by omega, hstep]; exact h) E a w hs
  rcases bd (decide (i < n)) with hb1 | hb1
  ·
   rcases bd ((q.getD i.toNat (ByteArray.empty, ByteArray.empty)).fst.toList == key.toList) with hb2 | hb2
   ·
    exact gr (OrcOK.none _) Tryd.func63 (sr' := ⟨5, [vI i], [(0, .obj 107 [.own 1, .own 2, .own 3, .own 4]), (1, .row 142 2 x.length (rowEl x)), (2, .row 142 2 y.length (rowEl y)), (3, .row 142 2 q.length (rowEl q)), (4, .row 142 2 z.length (rowEl z))]⟩) (cs := [_, (0 ≤ i ∧ i < q.length), (i.toNat < q.length), _]) [true, true] true ⟨hb1, by omega, by omega, hb2, trivial⟩ (by (rw [hfound (of_decide_eq_true ((tl_eq _ _).symm.trans hb2))]; rfl)) hsim
   ·
    refine gh (OrcOK.none _) (k' := loopAt Tryd.f63 0) (s' := mk 5 23 [(1, vS key), (10, .own 3), (11, vI n), (12, vI (wI (i + 1)))] [(0, .obj 107 [.own 1, .own 2, .own 3, .own 4]), (1, .row 142 2 x.length (rowEl x)), (2, .row 142 2 y.length (rowEl y)), (3, .row 142 2 q.length (rowEl q)), (4, .row 142 2 z.length (rowEl z))]) (cs := [_, (0 ≤ i ∧ i < q.length), (i.toNat < q.length), _]) [true, false] [1,10,11,12] ⟨hb1, by omega, by omega, hb2, trivial⟩ hsim fun E a w hsim => ?_
    exact ih ((tl_eq _ _).symm.trans hb2) E a w hsim
  ·
   exact absurd (of_decide_eq_false hb1) (by omega)
theorem rat_ok2 (q x y z : List Rw) (key : ByteArray) (hq : q.length ≤ 1000) : Eng.Spec Tryd.prog gz0 63 [.ref 0 2, .d (.raw (.string key))] (rm2 q x y z) (.d (.raw (.int .i64 (atI q key)))) (rm2 q x y z) := by
 refine spec_fn Tryd.func63 rfl fun {w N E a} hsim => ?_
 refine gh (OrcOK.none _) (k' := loopAt Tryd.f63 0) (s' := mk 5 23 [(1, vS key), (10, .own 3), (11, vI (↑q.length : Int)), (12, vI 0)] [(0, .obj 107 [.own 1, .own 2, .own 3, .own 4]), (1, .row 142 2 x.length (rowEl x)), (2, .row 142 2 y.length (rowEl y)), (3, .row 142 2 q.length (rowEl q)), (4, .row 142 2 z.length (rowEl z))]) (cs := []) [] [1,10,11,12] trivial hsim fun E a w hsim => ?_
 exact rat_go2 q x y z key hq q.length (q.length : Int) 0 rfl (by omega) (by omega) rfl E a w hsim
theorem rat_go3 {w0 : World} {N : Nat → Prop} {E0 : Env} (q x y z : List Rw) (key : ByteArray) (hq : q.length ≤ 1000) : ∀ (d : Nat) (n i : Int), n = (q.length : Int) → 0 ≤ i → i + d = n → hasM (q.take i.toNat) key = false → ∀ (E : Env) (a : Act) (w : World),
  Sim (cx Tryd.prog gz0 w0 N E0 (rm3 q x y z)) E (ra3 q x y z key n i) a w → Goes Tryd.prog 63 (loopAt Tryd.f63 0) (RSpec (cx Tryd.prog gz0 w0 N E0 (rm3 q x y z)) ⟨5, [.d (.raw (.int .i64 (atI q key)))], rm3 q x y z⟩) a w := by
 intro d
 induction d with
 | zero =>
  intro n i en h0 hd hn E a w hsim
  have e : atI q key = -1 := by
    rw [List.take_of_length_le (by omega)] at hn
    unfold atI; rw [hn]; rfl
  rcases bd (decide (i < n)) with hb1 | hb1
  ·
   rcases bd ((q.getD i.toNat (ByteArray.empty, ByteArray.empty)).fst.toList == key.toList) with hb2 | hb2
   ·
    exact absurd (of_decide_eq_true hb1) (by omega)
   ·
    exact absurd (of_decide_eq_true hb1) (by omega)
  ·
   exact gr (OrcOK.none _) Tryd.func63 (sr' := ⟨5, [vI ((-1 : Int))], [(0, .obj 107 [.own 1, .own 2, .own 3, .own 4]), (1, .row 142 2 x.length (rowEl x)), (2, .row 142 2 y.length (rowEl y)), (3, .row 142 2 z.length (rowEl z)), (4, .row 142 2 q.length (rowEl q))]⟩) (cs := [_]) [false] true ⟨hb1, trivial⟩ (by (rw [e]; rfl)) hsim
 | succ d ih =>
  intro n i en h0 hd hn E a w hsim
  have hi : i.toNat < q.length := by omega
  have hstep : hasM (q.take (i.toNat + 1)) key = (decide ((q.getD i.toNat (ByteArray.empty, ByteArray.empty)).1 = key)) := by
    rw [List.take_add_one, hasM_append, hn, List.getD_eq_getElem?_getD, List.getElem?_eq_getElem hi]
    simp [hasM]
  have hfound : (q.getD i.toNat (ByteArray.empty, ByteArray.empty)).1 = key → atI q key = i := fun e => by
    have h1 : hasM q key = true := by
     have : hasM (q.take (i.toNat + 1)) key = true := by rw [hstep, e]; simp
     unfold hasM at this ⊢
     obtain ⟨r, hr, e⟩ := List.any_eq_true.1 this
     exact List.any_eq_true.2 ⟨r, List.mem_of_mem_take hr, e⟩
    have h2 : idxR q key = i.toNat := by
     unfold idxR
     rw [List.findIdx_eq hi]
     refine ⟨by rw [← getD_get hi]; exact decide_eq_true e, fun j hj => ?_⟩
     cases hx : decide ((q[j]'(Nat.lt_trans hj hi)).1 = key) with
     | false => rfl
     | true =>
      have : hasM (q.take i.toNat) key = true := by
       unfold hasM
       exact List.any_eq_true.2 ⟨q[j]'(Nat.lt_trans hj hi), List.mem_take_iff_getElem.2 ⟨j, by omega, rfl⟩, hx⟩
      rw [hn] at this; cases this
    unfold atI; rw [if_pos h1, h2]; omega
  have ih := fun (h : decide ((q.getD i.toNat (ByteArray.empty, ByteArray.empty)).1 = key) = false) E a w hs => ih n (IntKind.i64.wrap (i + 1)) en (by rw [wrapI (i + 1) (by omega)]; omega) (by rw [wrapI (i + 1) (by omega)]; omega) (by rw [wrapI (i + 1) (by omega), show (i + 1).toNat = i.toNat + 1 by omega, hstep]; exact h) E a w hs
  rcases bd (decide (i < n)) with hb1 | hb1
  ·
   rcases bd ((q.getD i.toNat (ByteArray.empty, ByteArray.empty)).fst.toList == key.toList) with hb2 | hb2
   ·
    exact gr (OrcOK.none _) Tryd.func63 (sr' := ⟨5, [vI i], [(0, .obj 107 [.own 1, .own 2, .own 3, .own 4]), (1, .row 142 2 x.length (rowEl x)), (2, .row 142 2 y.length (rowEl y)), (3, .row 142 2 z.length (rowEl z)), (4, .row 142 2 q.length (rowEl q))]⟩) (cs := [_, (0 ≤ i ∧ i < q.length), (i.toNat < q.length), _]) [true, true] true ⟨hb1, by omega, by omega, hb2, trivial⟩ (by (rw [hfound (of_decide_eq_true ((tl_eq _ _).symm.trans hb2))]; rfl)) hsim
   ·
    refine gh (OrcOK.none _) (k' := loopAt Tryd.f63 0) (s' := mk 5 23 [(1, vS key), (10, .own 4), (11, vI n), (12, vI (wI (i + 1)))] [(0, .obj 107 [.own 1, .own 2, .own 3, .own 4]), (1, .row 142 2 x.length (rowEl x)), (2, .row 142 2 y.length (rowEl y)), (3, .row 142 2 z.length (rowEl z)), (4, .row 142 2 q.length (rowEl q))]) (cs := [_, (0 ≤ i ∧ i < q.length), (i.toNat < q.length), _]) [true, false] [1,10,11,12] ⟨hb1, by omega, by omega, hb2, trivial⟩ hsim fun E a w hsim => ?_
    exact ih ((tl_eq _ _).symm.trans hb2) E a w hsim
  ·
   exact absurd (of_decide_eq_false hb1) (by omega)
theorem rat_ok3 (q x y z : List Rw) (key : ByteArray) (hq : q.length ≤ 1000) : Eng.Spec Tryd.prog gz0 63 [.ref 0 3, .d (.raw (.string key))] (rm3 q x y z) (.d (.raw (.int .i64 (atI q key)))) (rm3 q x y z) := by
 refine spec_fn Tryd.func63 rfl fun {w N E a} hsim => ?_
 refine gh (OrcOK.none _) (k' := loopAt Tryd.f63 0) (s' := mk 5 23 [(1, vS key), (10, .own 4), (11, vI (↑q.length : Int)), (12, vI 0)] [(0, .obj 107 [.own 1, .own 2, .own 3, .own 4]), (1, .row 142 2 x.length (rowEl x)), (2, .row 142 2 y.length (rowEl y)), (3, .row 142 2 z.length (rowEl z)), (4, .row 142 2 q.length (rowEl q))]) (cs := []) [] [1,10,11,12] trivial hsim fun E a w hsim => ?_
 exact rat_go3 q x y z key hq q.length (q.length : Int) 0 rfl (by omega) (by omega) rfl E a w hsim
end Go.Prf
