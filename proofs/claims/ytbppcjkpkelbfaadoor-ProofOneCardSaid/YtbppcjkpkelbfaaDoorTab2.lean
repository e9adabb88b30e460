/-
  Contracts of given functions, or plain laws that they need. No condition.
-/
import Derived.Test.YtbppcjkpkelbfaaDoorRowB
namespace Go.Tab
open Go Go.Eng Go.Proofs
set_option linter.unusedVariables false
set_option linter.unusedSimpArgs false
set_option maxRecDepth 100000
set_option maxHeartbeats 4000000
theorem mk_empty : (ByteArray.mk #[]) = ByteArray.empty := rfl
theorem beq_mk (b : ByteArray) : (b.toList == (ByteArray.mk #[]).toList) = (b.size == 0) := beq_empty b
theorem value_ok (s : ByteArray) : Eng.Spec Tryd.prog g0 49 [.d (.raw (.string s))] [] (.d (.raw (.bool (decide (s.size ≤ 64))))) [] := by
  refine spec_fn Tryd.func49 rfl fun {w N E a} hsim => ?_
  have e : decide ((s.size : Int) ≤ 64) = decide (s.size ≤ 64) := by rw [decide_eq_decide]; omega
  exact gr (OrcOK.none g0) Tryd.func49 (sr' := ⟨0, [vB (decide ((↑s.size : Int) ≤ (64 : Int)))], []⟩) (cs := []) [] true trivial (by exact congrArg (fun b => (⟨0, [vB b], []⟩ : St)) e) hsim
theorem C0_ok : OrcOK Tryd.prog C0 := (OrcOK.none g0).add _ false mValue fun args H r H' cs h hc => by
  unfold mValue at h
  split at h
  · cases h; exact value_ok _
  · cases h
theorem ck_ret {c : Int} {k : Int} {key val old : ByteArray} (h : checkM k key val old = c) : (⟨0, [.d (.raw (.int .i64 c))], []⟩ : St) = ⟨0, [.d (.raw (.int .i64 (checkM k key val old)))], []⟩ := by rw [h]
theorem check_ok (k : Int) (key val old : ByteArray) : Eng.Spec Tryd.prog g0 23 [.d (.agg [.raw (.int .i64 k), .raw (.string key), .raw (.string val), .raw (.string old)])] [] (.d (.raw (.int .i64 (checkM k key val old)))) [] := by
  refine spec_fn Tryd.func23 rfl fun {w N E a} hsim => ?_
  rcases bd (decide (k < (1 : Int))) with hb1 | hb1
  ·
   exact gr C0_ok Tryd.func23 (sr' := ⟨0, [vI 1], []⟩) (cs := [_]) [true] true ⟨hb1, trivial⟩ (by exact ck_ret (by unfold checkM; simp only [beq_mk, Bool.not_eq_true', Bool.not_eq_false', decide_eq_true_eq, decide_eq_false_iff_not, beq_iff_eq, beq_eq_false_iff_ne, bne_iff_ne, bne_eq_false_iff_eq] at *; (repeat' split) <;> omega)) hsim
  ·
   rcases bd (decide (k > (5 : Int))) with hb2 | hb2
   ·
    exact gr C0_ok Tryd.func23 (sr' := ⟨0, [vI 1], []⟩) (cs := [_, _]) [false, true] true ⟨hb1, hb2, trivial⟩ (by exact ck_ret (by unfold checkM; simp only [beq_mk, Bool.not_eq_true', Bool.not_eq_false', decide_eq_true_eq, decide_eq_false_iff_not, beq_iff_eq, beq_eq_false_iff_ne, bne_iff_ne, bne_eq_false_iff_eq] at *; (repeat' split) <;> omega)) hsim
   ·
    rcases bd (key.toList == (ByteArray.mk #[]).toList) with hb3 | hb3
    ·
     exact gr C0_ok Tryd.func23 (sr' := ⟨0, [vI 130], []⟩) (cs := [_, _, _]) [false, false, true] true ⟨hb1, hb2, hb3, trivial⟩ (by exact ck_ret (by unfold checkM; simp only [beq_mk, Bool.not_eq_true', Bool.not_eq_false', decide_eq_true_eq, decide_eq_false_iff_not, beq_iff_eq, beq_eq_false_iff_ne, bne_iff_ne, bne_eq_false_iff_eq] at *; (repeat' split) <;> omega)) hsim
    ·
     rcases bd (decide ((↑key.size : Int) > (16 : Int))) with hb4 | hb4
     ·
      exact gr C0_ok Tryd.func23 (sr' := ⟨0, [vI 130], []⟩) (cs := [_, _, _, _]) [false, false, false, true] true ⟨hb1, hb2, hb3, hb4, trivial⟩ (by exact ck_ret (by unfold checkM; simp only [beq_mk, Bool.not_eq_true', Bool.not_eq_false', decide_eq_true_eq, decide_eq_false_iff_not, beq_iff_eq, beq_eq_false_iff_ne, bne_iff_ne, bne_eq_false_iff_eq] at *; (repeat' split) <;> omega)) hsim
     ·
      rcases bd (!decide (val.size ≤ (64 : Nat))) with hb5 | hb5
      ·
       exact gr C0_ok Tryd.func23 (sr' := ⟨0, [vI 130], []⟩) (cs := [_, _, _, _, _]) ((List.replicate 4 false) ++ [true]) true ⟨hb1, hb2, hb3, hb4, hb5, trivial⟩ (by exact ck_ret (by unfold checkM; simp only [beq_mk, Bool.not_eq_true', Bool.not_eq_false', decide_eq_true_eq, decide_eq_false_iff_not, beq_iff_eq, beq_eq_false_iff_ne, bne_iff_ne, bne_eq_false_iff_eq] at *; (repeat' split) <;> omega)) hsim
      ·
       rcases bd (!decide (old.size ≤ (64 : Nat))) with hb6 | hb6
       ·
        exact gr C0_ok Tryd.func23 (sr' := ⟨0, [vI 130], []⟩) (cs := [_, _, _, _, _, _]) ((List.replicate 5 false) ++ [true]) true ⟨hb1, hb2, hb3, hb4, hb5, hb6, trivial⟩ (by exact ck_ret (by unfold checkM; simp only [beq_mk, Bool.not_eq_true', Bool.not_eq_false', decide_eq_true_eq, decide_eq_false_iff_not, beq_iff_eq, beq_eq_false_iff_ne, bne_iff_ne, bne_eq_false_iff_eq] at *; (repeat' split) <;> omega)) hsim
       ·
        rcases bd (!val.toList == (ByteArray.mk #[]).toList) with hb7 | hb7
        ·
         rcases bd (k == (1 : Int)) with hb8 | hb8
         ·
          exact gr C0_ok Tryd.func23 (sr' := ⟨0, [vI 4], []⟩) (cs := [_, _, _, _, _, _, _, _]) ((List.replicate 6 false) ++ [true, true]) true ⟨hb1, hb2, hb3, hb4, hb5, hb6, hb7, hb8, trivial⟩ (by exact ck_ret (by unfold checkM; simp only [beq_mk, Bool.not_eq_true', Bool.not_eq_false', decide_eq_true_eq, decide_eq_false_iff_not, beq_iff_eq, beq_eq_false_iff_ne, bne_iff_ne, bne_eq_false_iff_eq] at *; (repeat' split) <;> omega)) hsim
         ·
          rcases bd (k == (4 : Int)) with hb9 | hb9
          ·
           exact gr C0_ok Tryd.func23 (sr' := ⟨0, [vI 4], []⟩) (cs := [_, _, _, _, _, _, _, _, _]) ((List.replicate 6 false) ++ [true, false, true]) true ⟨hb1, hb2, hb3, hb4, hb5, hb6, hb7, hb8, hb9, trivial⟩ (by exact ck_ret (by unfold checkM; simp only [beq_mk, Bool.not_eq_true', Bool.not_eq_false', decide_eq_true_eq, decide_eq_false_iff_not, beq_iff_eq, beq_eq_false_iff_ne, bne_iff_ne, bne_eq_false_iff_eq] at *; (repeat' split) <;> omega)) hsim
          ·
           rcases bd (!old.toList == (ByteArray.mk #[]).toList) with hb10 | hb10
           ·
            rcases bd (k != (5 : Int)) with hb11 | hb11
            ·
             exact gr C0_ok Tryd.func23 (sr' := ⟨0, [vI 4], []⟩) (cs := [_, _, _, _, _, _, _, _, _, _, _]) ((List.replicate 6 false) ++ [true, false, false, true, true]) true ⟨hb1, hb2, hb3, hb4, hb5, hb6, hb7, hb8, hb9, hb10, hb11, trivial⟩ (by exact ck_ret (by unfold checkM; simp only [beq_mk, Bool.not_eq_true', Bool.not_eq_false', decide_eq_true_eq, decide_eq_false_iff_not, beq_iff_eq, beq_eq_false_iff_ne, bne_iff_ne, bne_eq_false_iff_eq] at *; (repeat' split) <;> omega)) hsim
            ·
             exact gr C0_ok Tryd.func23 (sr' := ⟨0, [vI 0], []⟩) (cs := [_, _, _, _, _, _, _, _, _, _, _]) ((List.replicate 6 false) ++ [true, false, false, true, false]) true ⟨hb1, hb2, hb3, hb4, hb5, hb6, hb7, hb8, hb9, hb10, hb11, trivial⟩ (by exact ck_ret (by unfold checkM; simp only [beq_mk, Bool.not_eq_true', Bool.not_eq_false', decide_eq_true_eq, decide_eq_false_iff_not, beq_iff_eq, beq_eq_false_iff_ne, bne_iff_ne, bne_eq_false_iff_eq] at *; (repeat' split) <;> omega)) hsim
           ·
            exact gr C0_ok Tryd.func23 (sr' := ⟨0, [vI 0], []⟩) (cs := [_, _, _, _, _, _, _, _, _, _]) ((List.replicate 6 false) ++ [true, false, false, false]) true ⟨hb1, hb2, hb3, hb4, hb5, hb6, hb7, hb8, hb9, hb10, trivial⟩ (by exact ck_ret (by unfold checkM; simp only [beq_mk, Bool.not_eq_true', Bool.not_eq_false', decide_eq_true_eq, decide_eq_false_iff_not, beq_iff_eq, beq_eq_false_iff_ne, bne_iff_ne, bne_eq_false_iff_eq] at *; (repeat' split) <;> omega)) hsim
        ·
         rcases bd (!old.toList == (ByteArray.mk #[]).toList) with hb12 | hb12
         ·
          rcases bd (k != (5 : Int)) with hb13 | hb13
          ·
           exact gr C0_ok Tryd.func23 (sr' := ⟨0, [vI 4], []⟩) (cs := [_, _, _, _, _, _, _, _, _]) ((List.replicate 7 false) ++ [true, true]) true ⟨hb1, hb2, hb3, hb4, hb5, hb6, hb7, hb12, hb13, trivial⟩ (by exact ck_ret (by unfold checkM; simp only [beq_mk, Bool.not_eq_true', Bool.not_eq_false', decide_eq_true_eq, decide_eq_false_iff_not, beq_iff_eq, beq_eq_false_iff_ne, bne_iff_ne, bne_eq_false_iff_eq] at *; (repeat' split) <;> omega)) hsim
          ·
           exact gr C0_ok Tryd.func23 (sr' := ⟨0, [vI 0], []⟩) (cs := [_, _, _, _, _, _, _, _, _]) ((List.replicate 7 false) ++ [true, false]) true ⟨hb1, hb2, hb3, hb4, hb5, hb6, hb7, hb12, hb13, trivial⟩ (by exact ck_ret (by unfold checkM; simp only [beq_mk, Bool.not_eq_true', Bool.not_eq_false', decide_eq_true_eq, decide_eq_false_iff_not, beq_iff_eq, beq_eq_false_iff_ne, bne_iff_ne, bne_eq_false_iff_eq] at *; (repeat' split) <;> omega)) hsim
         ·
          exact gr C0_ok Tryd.func23 (sr' := ⟨0, [vI 0], []⟩) (cs := [_, _, _, _, _, _, _, _]) ((List.replicate 8 false)) true ⟨hb1, hb2, hb3, hb4, hb5, hb6, hb7, hb12, trivial⟩ (by exact ck_ret (by unfold checkM; simp only [beq_mk, Bool.not_eq_true', Bool.not_eq_false', decide_eq_true_eq, decide_eq_false_iff_not, beq_iff_eq, beq_eq_false_iff_ne, bne_iff_ne, bne_eq_false_iff_eq] at *; (repeat' split) <;> omega)) hsim
def m12 : Nat → Option Nat := lookN [(0, 0), (1, 2)]
theorem m12_inv {k i : Nat} (h : m12 k = some i) : (k = 0 ∧ i = 0) ∨ (k = 1 ∧ i = 2) := by
  unfold m12 lookN at h
  split at h
  · rename_i e; cases h; exact .inl ⟨(beq_iff_eq.1 e).symm, rfl⟩
  · unfold lookN at h
    split at h
    · rename_i e; cases h; exact .inr ⟨(beq_iff_eq.1 e).symm, rfl⟩
    · unfold lookN at h; cases h
theorem tab_ren {C : Cx} (l : List Rw) (x : AV) (hx : x.rn m12 = x) : Says C ⟨2, [x], tab0 l⟩ ⟨2, [x], tab2 l⟩ := by
  refine says_rename (m := m12) ⟨rfl, fun j k i h1 h2 => ?_, fun k k' h1 h2 => ?_, fun k' t' h => ?_⟩ (by simp only [List.map_cons, List.map_nil, hx])
  · rcases m12_inv h1 with ⟨rfl, rfl⟩ | ⟨rfl, rfl⟩ <;> rcases m12_inv h2 with ⟨rfl, h⟩ | ⟨rfl, h⟩ <;> first | rfl | cases h
  · rcases m12_inv h1 with ⟨rfl, rfl⟩ | ⟨rfl, rfl⟩
    · rfl
    · exact absurd h2 (Nat.lt_irrefl 2)
  · unfold St.th tab2 at h
    by_cases e0 : k' = 0
    · subst e0; cases h
      exact ⟨0, _, rfl, rfl, rfl⟩
    · by_cases e2 : k' = 2
      · subst e2; cases h
        exact ⟨1, _, rfl, rfl, rfl⟩
      · exfalso
        have f0 : ((0 : Nat) == k') = false := beq_eq_false_iff_ne.2 (Ne.symm e0)
        have f2 : ((2 : Nat) == k') = false := beq_eq_false_iff_ne.2 (Ne.symm e2)
        simp only [Eng.look, f0, f2, Bool.false_eq_true, if_false] at h
        cases h
theorem putM_len (l : List Rw) (key val : ByteArray) : (putM l key val).length = if hasM l key then l.length else l.length + 1 := by
  unfold putM
  have := posM_le l key
  split
  · simp
  · simp; omega
theorem says_has {C : Cx} (l : List Rw) (key val : ByteArray) (hp : posM l key < l.length) (hk : (l.getD (posM l key) (ByteArray.empty, ByteArray.empty)).1 = key) (hh : hasM l key = true) (x : AV) (hx : x.rn m12 = x) (f : Nat → D)
    (hf : ∀ j, f j = mrg (j.beq ((posM l key : Nat) : Int).toNat) (D.agg [D.raw (Value.string (l.getD (posM l key) (ByteArray.empty, ByteArray.empty)).1), D.raw (Value.string val)]) (rowEl l j)) :
    Says C ⟨2, [x], [(0, .obj 145 [.own 1]), (1, .row 148 2 l.length f)]⟩ ⟨2, [x], tab2 (putM l key val)⟩ := by
  refine Says.trans ?_ (tab_ren (putM l key val) x hx)
  refine says_rowTo (k := 1) rfl (putM l key val).length (rowEl (putM l key val)) (by rw [putM_len, hh]; rfl) fun j hj => ?_
  have e : putM l key val = l.set (posM l key) (key, val) := by unfold putM; rw [hh]; rfl
  rw [hf, mrg_eq, e, Int.toNat_natCast, hk]
  unfold rowEl
  by_cases h : j = posM l key
  · subst h
    rw [if_pos (by simp)]
    simp [List.getD, hp]
  · rw [if_neg (by simpa using h)]
    simp [List.getD, List.getElem?_set, Ne.symm h]
theorem says_ins {C : Cx} (l : List Rw) (key val : ByteArray) (hh : hasM l key = false) (x : AV) (n : Nat) (hn : n = l.length + 1) (f : Nat → D)
    (h1 : ∀ j, j < posM l key → f j = rowEl l j) (h2 : f (posM l key) = .agg [.raw (.string key), .raw (.string val)]) (h3 : ∀ j, posM l key < j → j < n → f j = rowEl l (j - 1)) :
    Says C ⟨2, [x], [(0, .obj 145 [.own 2]), (2, .row 148 2 n f)]⟩ ⟨2, [x], tab2 (putM l key val)⟩ := by
  refine says_rowTo (k := 2) rfl (putM l key val).length (rowEl (putM l key val)) (by rw [putM_len, hh, hn]; rfl) fun j hj => ?_
  have e : putM l key val = l.take (posM l key) ++ (key, val) :: l.drop (posM l key) := by unfold putM; rw [hh]; rfl
  have hp := posM_le l key
  have hlt : (l.take (posM l key)).length = posM l key := by simp; omega
  rw [e]
  rcases Nat.lt_trichotomy j (posM l key) with h | rfl | h
  · rw [h1 j h]
    have : ∀ d, (l.take (posM l key) ++ (key, val) :: l.drop (posM l key)).getD j d = l.getD j d := fun d => by
      rw [List.getD_eq_getElem?_getD, List.getD_eq_getElem?_getD, List.getElem?_append_left (by omega), List.getElem?_take_of_lt h]
    unfold rowEl; rw [this]
  · rw [h2]
    have : ∀ d, (l.take (posM l key) ++ (key, val) :: l.drop (posM l key)).getD (posM l key) d = (key, val) := fun d => by
      rw [List.getD_eq_getElem?_getD, List.getElem?_append_right (by omega), hlt, Nat.sub_self]; rfl
    unfold rowEl; rw [this]
  · rw [h3 j h hj]
    have : ∀ d, (l.take (posM l key) ++ (key, val) :: l.drop (posM l key)).getD j d = l.getD (j - 1) d := fun d => by
      rw [List.getD_eq_getElem?_getD, List.getD_eq_getElem?_getD, List.getElem?_append_right (by omega), hlt, show j - posM l key = (j - 1 - posM l key) + 1 by omega, List.getElem?_cons_succ, List.getElem?_drop, show posM l key + (j - 1 - posM l key) = j - 1 by omega]
    unfold rowEl; rw [this]
theorem posM_lo : ∀ (l : List Rw) (key : ByteArray) (k : Nat), k < posM l key → ltB (l.getD k (ByteArray.empty, ByteArray.empty)).1 key = true
  | [], key, k, h => by simp [posM] at h
  | r :: l, key, k, h => by
    unfold posM at h
    rw [List.takeWhile_cons] at h
    split at h
    · rename_i e
      cases k with
      | zero => exact e
      | succ k => exact posM_lo l key k (by unfold posM; simpa using h)
    · simp at h
theorem posM_hi : ∀ (l : List Rw) (key : ByteArray), posM l key < l.length → ltB (l.getD (posM l key) (ByteArray.empty, ByteArray.empty)).1 key = false
  | [], key, h => by simp at h
  | r :: l, key, h => by
    unfold posM at h ⊢
    rw [List.takeWhile_cons] at h ⊢
    split
    · rename_i e
      rw [if_pos e] at h
      exact posM_hi l key (by unfold posM; simpa using h)
    · rename_i e
      exact Bool.eq_false_iff.2 e
theorem hasM_pos {l : List Rw} (h : Sorted l) (key : ByteArray) : hasM l key = (decide (posM l key < l.length) && decide ((l.getD (posM l key) (ByteArray.empty, ByteArray.empty)).1 = key)) :=
  hasM_is h key _ (posM_le l key) (posM_lo l key) (posM_hi l key)
theorem hasM_true {l : List Rw} (h : Sorted l) {key : ByteArray} (hh : hasM l key = true) : posM l key < l.length ∧ (l.getD (posM l key) (ByteArray.empty, ByteArray.empty)).1 = key := by
  rw [hasM_pos h, Bool.and_eq_true, decide_eq_true_eq, decide_eq_true_eq] at hh; exact hh
theorem C4_ok (l : List Rw) : OrcOK Tryd.prog (C4 l) := C2_ok.add _ false (mFind l) fun args H r H' cs h hc => by
  unfold mFind at h
  split at h
  · cases h
    obtain ⟨rfl, rfl, rfl, rfl, h1, -⟩ := hc
    exact find_ok l _ h1
  · cases h
theorem set_ok (l : List Rw) (key val : ByteArray) (ht : Tidy l) : Eng.Spec Tryd.prog g0 65 [.ref 0 0, .d (.raw (.string key)), .d (.raw (.string val))] (tab0 l) (.d (.raw (.int .i64 (if fullM l key then 5 else 0)))) (tab2 (setM l key val)) := by
  refine spec_fn Tryd.func65 rfl fun {w N E a} hsim => ?_
  have hf := ht.few
  have hp := posM_le l key
  have e1 : hasM l key = true → (⟨2, [.d (.raw (.int .i64 (if fullM l key then 5 else 0)))], tab2 (setM l key val)⟩ : St) = ⟨2, [.d (.raw (.int .i64 0))], tab2 (putM l key val)⟩ := fun h => by unfold setM fullM; rw [h]; rfl
  have e2 : hasM l key = false → ((l.length : Int) == 16) = true → (⟨2, [.d (.raw (.int .i64 (if fullM l key then 5 else 0)))], tab2 (setM l key val)⟩ : St) = ⟨2, [.d (.raw (.int .i64 5))], tab2 l⟩ := fun h h1 => by
    have : (l.length == 16) = true := by rw [beq_iff_eq] at h1 ⊢; omega
    unfold setM fullM; rw [h, this]; rfl
  have e3 : hasM l key = false → ((l.length : Int) == 16) = false → (⟨2, [.d (.raw (.int .i64 (if fullM l key then 5 else 0)))], tab2 (setM l key val)⟩ : St) = ⟨2, [.d (.raw (.int .i64 0))], tab2 (putM l key val)⟩ := fun h h1 => by
    have : (l.length == 16) = false := by rw [beq_eq_false_iff_ne] at h1 ⊢; omega
    unfold setM fullM; rw [h, this]; rfl
  rcases bd (hasM l key) with hb1 | hb1
  ·
   exact gs (C4_ok l) Tryd.func65 (sr' := let za := l.getD (↑(posM l key) : Int).toNat (ByteArray.empty, ByteArray.empty); ⟨2, [vI 0], [(0, .obj 145 [.own 1]), (1, .row 148 2 l.length (fun j => mrg (j.beq (↑(posM l key) : Int).toNat) (D.agg (splice [rS za.fst, rS za.snd] 1 [rS val])) (rowEl l j)))]⟩) (cs := [(145 = 145), (148 = 148), (l.length = l.length), (rowEl l = rowEl l), (Tidy l), _, ((0 : Int) ≤ (↑(posM l key) : Int) ∧ (↑(posM l key) : Int) < (↑l.length : Int)), ((↑(posM l key) : Int).toNat < l.length)]) [true] true ⟨(by rfl), (by rfl), (by rfl), (by rfl), (by exact ht), hb1, (by (have := hasM_true ht.sorted hb1; omega)), (by (have := hasM_true ht.sorted hb1; omega)), trivial⟩ (by exact Says.trans (says_has l key val (hasM_true ht.sorted hb1).1 (hasM_true ht.sorted hb1).2 hb1 _ rfl _ (fun j => rfl)) (Says.of_eq (e1 hb1).symm)) hsim
  ·
   rcases bd ((↑l.length : Int) == (16 : Int)) with hb2 | hb2
   ·
    exact gs (C4_ok l) Tryd.func65 (sr' := ⟨2, [vI 5], [(0, .obj 145 [.own 1]), (1, .row 148 2 l.length (rowEl l))]⟩) (cs := [(145 = 145), (148 = 148), (l.length = l.length), (rowEl l = rowEl l), (Tidy l), _, _]) [false, true] true ⟨(by rfl), (by rfl), (by rfl), (by rfl), (by exact ht), hb1, hb2, trivial⟩ (by exact Says.trans (tab_ren l _ rfl) (Says.of_eq (e2 hb1 hb2).symm)) hsim
   ·
    have q0_ : ((0 : Int) ≤ (0 : Int) ∧ (0 : Int) ≤ (↑(posM l key) : Int) ∧ (↑(posM l key) : Int) ≤ (↑(posM l key) : Int) ∧ (↑(posM l key) : Int) ≤ (↑l.length : Int)) := (by omega)
    have q1_ : ((0 : Int) ≤ (↑(posM l key) : Int) ∧ (↑(posM l key) : Int) ≤ (↑l.length : Int) ∧ (↑l.length : Int) ≤ (↑l.length : Int)) := (by omega)
    have q2_ : ((1 : Nat) + ((↑l.length : Int) - (↑(posM l key) : Int)).toNat ≤ (9223372036854775807 : Nat) ∧ ((1 : Nat) + ((↑l.length : Int) - (↑(posM l key) : Int)).toNat) * (32 : Nat) ≤ (140737488355328 : Nat)) := (by omega)
    have q3_ : (((↑(posM l key) : Int) - (0 : Int)).toNat + ((1 : Nat) + ((↑l.length : Int) - (↑(posM l key) : Int)).toNat) ≤ (9223372036854775807 : Nat) ∧ (((↑(posM l key) : Int) - (0 : Int)).toNat + ((1 : Nat) + ((↑l.length : Int) - (↑(posM l key) : Int)).toNat)) * (32 : Nat) ≤ (140737488355328 : Nat)) := (by omega)
    exact gs (C4_ok l) Tryd.func65 (sr' := let za := (↑(posM l key) : Int); ⟨2, [vI 0], [(0, .obj 145 [.own 2]), (2, .row 148 2 ((za - 0).toNat + (1 + ((↑l.length : Int) - za).toNat)) (fun j => if j < (za - 0).toNat then rowEl l j else if j - (za - 0).toNat < 1 then segD true 2 (splice (List.map (fun j => (List.map D.raw (Value.agg #[Value.string (ByteArray.mk #[]), Value.string (ByteArray.mk #[])]).cells.toList).getD (j % 2) default) (List.range 2)) 0 (D.agg [rS key, rS val]).cells) (j - (za - 0).toNat) else rowEl l (za.toNat + (j - (za - 0).toNat - 1))))]⟩) (cs := ((fun (c0 c1 c2 c3 : Prop) => [(145 = 145), (148 = 148), (l.length = l.length), (rowEl l = rowEl l), (Tidy l), _, _, c0, c1, c2, c3, c1, c2, c3, c0, c1, c2, c3, c1, c0, c2, c3, c2, c0, c3, c1, c0, c2, c3, c0, c2, c3, c2, c0, c3]) _ _ _ _)) [false, false] true ⟨(by rfl), (by rfl), (by rfl), (by rfl), (by exact ht), hb1, hb2, q0_, q1_, q2_, q3_, q1_, q2_, q3_, q0_, q1_, q2_, q3_, q1_, q0_, q2_, q3_, q2_, q0_, q3_, q1_, q0_, q2_, q3_, q0_, q2_, q3_, q2_, q0_, q3_, trivial⟩ (by exact Says.trans (says_ins l key val hb1 _ _ (by omega) _ (fun j hj => if_pos (by omega)) ((if_neg (by omega)).trans ((if_pos (by omega)).trans (by rw [show posM l key - ((((posM l key : Nat) : Int) - 0).toNat) = 0 by omega]; rfl))) (fun j hj hjn => (if_neg (by omega)).trans ((if_neg (by omega)).trans (congrArg (rowEl l) (by omega))))) (Says.of_eq (e3 hb1 hb2).symm)) hsim
end Go.Tab
