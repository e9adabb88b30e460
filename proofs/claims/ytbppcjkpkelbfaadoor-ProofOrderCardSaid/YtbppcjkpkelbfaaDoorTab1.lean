/-
  Contracts of given functions, or plain laws that they need. No condition.
-/
import Derived.Test.YtbppcjkpkelbfaaDoorRowB
import Derived.Test.YtbppcjkpkelbfaaDoorRowU
import Derived.Test.YtbppcjkpkelbfaaDoorProg
import Derived.Shelf.Small.Strs
namespace Go.Tab
open Go Go.Eng Go.Proofs Go.RowKit
set_option linter.unusedVariables false
set_option linter.unusedSimpArgs false
set_option maxRecDepth 100000
set_option maxHeartbeats 4000000
set_option linter.all false
def laysCompare_ren : Go.Shelf.Ren := ⟨fun | 106 => 71 | 213 => 75 | 265 => 78 | n => n, fun | 9 => 9 | 3 => 3 | 20 => 20 | n => n, fun | n => n⟩
theorem laysCompare : Go.Proofs.Lays.n106 Tryd.prog laysCompare_ren where
  mixed := by kernel_rfl
  f106 := Tryd.func71.trans (congrArg some (by kernel_rfl))
  f213 := Tryd.func75.trans (congrArg some (by kernel_rfl))
  f265 := Tryd.func78.trans (congrArg some (by kernel_rfl))
  t3 := Tryd.underlying3
  a3 := Tryd.isAgg3
  z3 := Tryd.sizeOf3
  v3 := Tryd.zeroValue3
  t9 := Tryd.underlying9
  a9 := Tryd.isAgg9
  z9 := Tryd.sizeOf9
  v9 := Tryd.zeroValue9
abbrev g0 : Nat → Option (List D) := fun _ => none
theorem cmpI_eq (a b : ByteArray) : Lib.compareBytes a.data.toList b.data.toList = cmpI a b := by
  rw [cmpB_eq, ← toList_ba, ← toList_ba]; rfl
theorem compare_ok (a b : ByteArray) : Eng.Spec Tryd.prog g0 71 [.d (.raw (.string a)), .d (.raw (.string b))] [] (.d (.raw (.int .i64 (cmpI a b)))) [] := by
  refine Spec.pure rfl fun w N E vs hvs hN => ?_
  rw [VAs_cons] at hvs
  obtain ⟨v, us, rfl, hv, hus⟩ := hvs
  rw [VAs_cons] at hus
  obtain ⟨z, us, rfl, hz, hus⟩ := hus
  obtain rfl : us = [] := by unfold VAs at hus; exact hus
  unfold VA at hz hv
  obtain ⟨rfl, -⟩ := VD_raw_inv hz
  obtain ⟨rfl, -⟩ := VD_raw_inv hv
  refine (Any.strings_Compare laysCompare a b w).mono fun e w' ⟨he, hw⟩ => ⟨?_, hw ▸ Below.refl _ _⟩
  rw [he, cmpI_eq]
theorem C1_ok : OrcOK Tryd.prog C1 := (OrcOK.none g0).add _ false mCmp fun args H r H' cs h hc => by
  unfold mCmp at h
  split at h
  · cases h; exact compare_ok _ _
  · cases h
theorem fd1_ok (a v b : ByteArray) : Eng.Spec Tryd.prog g0 70 [.d (.agg [.raw (.string a), .raw (.string v)]), .d (.raw (.string b))] [] (.d (.raw (.int .i64 (cmpI a b)))) [] := by
  refine spec_fn Tryd.func70 rfl fun {w N E act} hsim => ?_
  exact go_ret C1_ok rfl rfl Tryd.func70 (sr' := ⟨0, [.d (.raw (.int .i64 (cmpI a b)))], []⟩) (cs := []) [] true (by kernel_rfl) (by kernel_rfl) trivial (by rfl) hsim
/-- where a key's row stands, or would -/
theorem posM_le : ∀ (l : List Rw) (key : ByteArray), posM l key ≤ l.length
  | [], _ => Nat.le_refl _
  | r :: l, key => by
    have := posM_le l key
    unfold posM at this ⊢
    rw [List.takeWhile_cons]
    split
    · simp only [List.length_cons]; omega
    · simp
theorem posM_is : ∀ (l : List Rw) (key : ByteArray) (i : Nat), i ≤ l.length → (∀ k, k < i → ltB (l.getD k (ByteArray.empty, ByteArray.empty)).1 key = true) →
    (i < l.length → ltB (l.getD i (ByteArray.empty, ByteArray.empty)).1 key = false) → posM l key = i
  | [], key, i, h, _, _ => by simp at h; subst h; rfl
  | r :: l, key, 0, h, h1, h2 => by
    have := h2 (by simp)
    unfold posM
    rw [List.takeWhile_cons]
    have h3 : Op.bytesLess r.1.toList key.toList = false := this
    simp [h3]
  | r :: l, key, i + 1, h, h1, h2 => by
    have h3 : Op.bytesLess r.1.toList key.toList = true := h1 0 (by omega)
    have := posM_is l key i (by simpa using h) (fun k hk => by have := h1 (k + 1) (by omega); simpa using this) (fun hi => by have := h2 (by simpa using hi); simpa using this)
    unfold posM at this ⊢
    rw [List.takeWhile_cons]
    simp [h3, this]
theorem sorted_lt {l : List Rw} (h : Sorted l) {i j : Nat} (hij : i < j) (hj : j < l.length) : ltB (l.getD i (ByteArray.empty, ByteArray.empty)).1 (l.getD j (ByteArray.empty, ByteArray.empty)).1 = true := by
  have := List.pairwise_iff_getElem.1 h i j (by omega) hj hij
  rwa [getD_get (by omega), getD_get hj]
theorem hasM_is {l : List Rw} (h : Sorted l) (key : ByteArray) (i : Nat) (hi : i ≤ l.length) (h1 : ∀ k, k < i → ltB (l.getD k (ByteArray.empty, ByteArray.empty)).1 key = true)
    (h2 : i < l.length → ltB (l.getD i (ByteArray.empty, ByteArray.empty)).1 key = false) : hasM l key = (decide (i < l.length) && (decide ((l.getD i (ByteArray.empty, ByteArray.empty)).1 = key))) := by
  rw [Bool.eq_iff_iff, Bool.and_eq_true, decide_eq_true_eq, decide_eq_true_eq]
  unfold hasM
  rw [List.any_eq_true]
  constructor
  · rintro ⟨r, hr, hk⟩
    have hk : r.1 = key := by simpa using hk
    obtain ⟨j, hj, rfl⟩ := List.getElem_of_mem hr
    have e : (l.getD j (ByteArray.empty, ByteArray.empty)).1 = key := by rw [getD_get hj]; exact hk
    rcases Nat.lt_trichotomy j i with hlt | rfl | hgt
    · have := h1 j hlt
      rw [e, ltB_irrefl] at this; cases this
    · exact ⟨hj, e⟩
    · have h3 := sorted_lt h hgt hj
      have h4 := h2 (by omega)
      rw [e] at h3
      rw [h3] at h4; cases h4
  · rintro ⟨hl, hk⟩
    refine ⟨l[i], List.getElem_mem hl, ?_⟩
    rw [getD_get hl] at hk
    simp [hk]
theorem mid_eq (i j : Int) (h : 0 ≤ i) (hij : i < j) (hj : j ≤ 1000) : IntKind.i64.wrap ((IntKind.u64.wrap (IntKind.i64.wrap (i + j))).fdiv ((2 : Int) ^ (1 : Nat))) = (i + j) / 2 := by
  have h1 : IntKind.i64.wrap (i + j) = i + j := wrapI _ (by omega)
  have h2 : IntKind.u64.wrap (i + j) = i + j := wrapU _ (by omega)
  rw [h1, h2, Int.fdiv_eq_ediv_of_nonneg _ (by decide), show ((2 : Int) ^ (1 : Nat)) = 2 from rfl]
  exact wrapI _ (by omega)
theorem cmpI_lt (a b : ByteArray) : decide (cmpI a b < 0) = ltB a b := by
  unfold cmpI ltB
  cases h : Op.bytesLess a.toList b.toList
  · cases Op.bytesLess b.toList a.toList <;> rfl
  · rfl
theorem cmpI_zero (a b : ByteArray) (h : ltB a b = false) : (cmpI a b == 0) = decide (a = b) := by
  unfold cmpI
  rw [show Op.bytesLess a.toList b.toList = false from h]
  cases k : Op.bytesLess b.toList a.toList
  · rw [ltB_tri h k]; simp
  · have := ltB_ne (show ltB b a = true from k)
    simp only [Bool.false_eq_true, if_false, if_true]
    rw [eq_comm, decide_eq_false (Ne.symm this)]; rfl
theorem C2_ok : OrcOK Tryd.prog C2 := C1_ok.add _ true mFd1 fun args H r H' cs h hc => by
  unfold mFd1 at h
  split at h
  · cases h; exact fd1_ok _ _ _
  · cases h
theorem bs_ret {H : List (Nat × Th)} {x x' : Int} {b b' : Bool} (h1 : x = x') (h2 : b = b') : (⟨1, [.tup [.d (.raw (.int .i64 x)), .d (.raw (.bool b))]], H⟩ : St) = ⟨1, [.tup [.d (.raw (.int .i64 x')), .d (.raw (.bool b'))]], H⟩ := by
  subst h1 h2; rfl
theorem bs_go {w0 : World} {N : Nat → Prop} {E0 : Env} (l : List Rw) (key : ByteArray) (hs : Sorted l) (hn : l.length ≤ 1000) : ∀ (d : Nat) (n i j : Int), n = (l.length : Int) → 0 ≤ i → i ≤ j → j ≤ (l.length : Int) → j - i ≤ d →
    (∀ k : Nat, (k : Int) < i → ltB (l.getD k (ByteArray.empty, ByteArray.empty)).1 key = true) → (∀ k : Nat, j ≤ (k : Int) → k < l.length → ltB (l.getD k (ByteArray.empty, ByteArray.empty)).1 key = false) → ∀ (E : Env) (a : Act) (w : World),
    Sim (cx Tryd.prog g0 w0 N E0 [(0, .row 148 2 (l.length) (rowEl l))]) E (bs0 l key n i j) a w → Goes Tryd.prog 69 (loopAt Tryd.f69 0) (RSpec (cx Tryd.prog g0 w0 N E0 [(0, .row 148 2 (l.length) (rowEl l))]) ⟨1, [.tup [.d (.raw (.int .i64 (posM l key))), .d (.raw (.bool (hasM l key)))]], [(0, .row 148 2 (l.length) (rowEl l))]⟩) a w := by
  intro d
  induction d with
  | zero =>
    intro n i j en h0 hij hj hd h1 h2 E a w hsim
    have e : i = j := by omega
    have hi : i.toNat ≤ l.length := by omega
    have h3 := h2 i.toNat (by omega)
    have hp := posM_is l key i.toNat hi (fun k hk => h1 k (by omega)) h3
    have hh := hasM_is hs key i.toNat hi (fun k hk => h1 k (by omega)) h3
    have e1 : i = ((posM l key : Nat) : Int) := by rw [hp]; omega
    have e2 : i < n → (cmpI (l.getD i.toNat (ByteArray.empty, ByteArray.empty)).1 key == 0) = hasM l key := fun hlt => by
      rw [hh, cmpI_zero _ _ (h3 (by omega)), decide_eq_true (show i.toNat < l.length by omega), Bool.true_and]
    have e3 : ¬ i < n → false = hasM l key := fun hlt => by rw [hh, decide_eq_false (show ¬ i.toNat < l.length by omega), Bool.false_and]
    rcases Bool.eq_false_or_eq_true (decide (i < j)) with hb1 | hb1
    · skip
      rcases Bool.eq_false_or_eq_true (decide (cmpI (l.getD (IntKind.i64.wrap ((IntKind.u64.wrap (IntKind.i64.wrap (i + j))).fdiv ((2 : Int) ^ (1 : Nat)))).toNat (ByteArray.empty, ByteArray.empty)).fst key < (0 : Int))) with hb2 | hb2
      · skip
        refine go_head C2_ok rfl rfl (k' := loopAt Tryd.f69 0) (s' := mk 1 49 [(0, .own 0), (1, .d (.raw (.string (key)))), (2, .d (.raw (Value.func (Fn.func (70 : FuncId)) #[] #[]))), (8, .d (.raw (.int .i64 (n)))), (9, .d (.raw (.int .i64 (IntKind.i64.wrap (IntKind.i64.wrap ((IntKind.u64.wrap (IntKind.i64.wrap (i + j))).fdiv ((2 : Int) ^ (1 : Nat))) + (1 : Int)))))), (10, .d (.raw (.int .i64 (j))))] [(0, .row 148 2 (l.length) (rowEl l))]) (cs := [_, (Nn 1), ((0 : Int) ≤ IntKind.i64.wrap ((IntKind.u64.wrap (IntKind.i64.wrap (i + j))).fdiv ((2 : Int) ^ (1 : Nat))) ∧ IntKind.i64.wrap ((IntKind.u64.wrap (IntKind.i64.wrap (i + j))).fdiv ((2 : Int) ^ (1 : Nat))) < (↑l.length : Int)), ((IntKind.i64.wrap ((IntKind.u64.wrap (IntKind.i64.wrap (i + j))).fdiv ((2 : Int) ^ (1 : Nat)))).toNat < l.length), _]) [true, true] [0,1,2,8,9,10] (by kernel_rfl) (by kernel_rfl) ⟨hb1, (by decide), (by first | omega | exact absurd (of_decide_eq_true hb1) (by omega) | exact ⟨by omega, by have := of_decide_eq_true hb3; omega⟩ | (have := of_decide_eq_true hb3; omega)), (by first | omega | exact absurd (of_decide_eq_true hb1) (by omega) | exact ⟨by omega, by have := of_decide_eq_true hb3; omega⟩ | (have := of_decide_eq_true hb3; omega)), hb2, trivial⟩ hsim fun E a w hsim => ?_
        exact absurd (of_decide_eq_true hb1) (by omega)
      · skip
        refine go_head C2_ok rfl rfl (k' := loopAt Tryd.f69 0) (s' := mk 1 49 [(0, .own 0), (1, .d (.raw (.string (key)))), (2, .d (.raw (Value.func (Fn.func (70 : FuncId)) #[] #[]))), (8, .d (.raw (.int .i64 (n)))), (9, .d (.raw (.int .i64 (i)))), (10, .d (.raw (.int .i64 (IntKind.i64.wrap ((IntKind.u64.wrap (IntKind.i64.wrap (i + j))).fdiv ((2 : Int) ^ (1 : Nat)))))))] [(0, .row 148 2 (l.length) (rowEl l))]) (cs := [_, (Nn 1), ((0 : Int) ≤ IntKind.i64.wrap ((IntKind.u64.wrap (IntKind.i64.wrap (i + j))).fdiv ((2 : Int) ^ (1 : Nat))) ∧ IntKind.i64.wrap ((IntKind.u64.wrap (IntKind.i64.wrap (i + j))).fdiv ((2 : Int) ^ (1 : Nat))) < (↑l.length : Int)), ((IntKind.i64.wrap ((IntKind.u64.wrap (IntKind.i64.wrap (i + j))).fdiv ((2 : Int) ^ (1 : Nat)))).toNat < l.length), _]) [true, false] [0,1,2,8,9,10] (by kernel_rfl) (by kernel_rfl) ⟨hb1, (by decide), (by first | omega | exact absurd (of_decide_eq_true hb1) (by omega) | exact ⟨by omega, by have := of_decide_eq_true hb3; omega⟩ | (have := of_decide_eq_true hb3; omega)), (by first | omega | exact absurd (of_decide_eq_true hb1) (by omega) | exact ⟨by omega, by have := of_decide_eq_true hb3; omega⟩ | (have := of_decide_eq_true hb3; omega)), hb2, trivial⟩ hsim fun E a w hsim => ?_
        exact absurd (of_decide_eq_true hb1) (by omega)
    · skip
      rcases Bool.eq_false_or_eq_true (decide (i < n)) with hb3 | hb3
      · skip
        exact go_ret C2_ok rfl rfl Tryd.func69 (sr' := ⟨1, [.tup [.d (.raw (.int .i64 (i))), .d (.raw (.bool (cmpI (l.getD i.toNat (ByteArray.empty, ByteArray.empty)).fst key == (0 : Int))))]], [(0, .row 148 2 (l.length) (rowEl l))]⟩) (cs := [_, _, ((0 : Int) ≤ i ∧ i < (↑l.length : Int)), (i.toNat < l.length)]) [false, true] true (by kernel_rfl) (by kernel_rfl) ⟨hb1, hb3, (by first | omega | exact absurd (of_decide_eq_true hb1) (by omega) | exact ⟨by omega, by have := of_decide_eq_true hb3; omega⟩ | (have := of_decide_eq_true hb3; omega)), (by first | omega | exact absurd (of_decide_eq_true hb1) (by omega) | exact ⟨by omega, by have := of_decide_eq_true hb3; omega⟩ | (have := of_decide_eq_true hb3; omega)), trivial⟩ (by first | exact bs_ret e1 (e2 (of_decide_eq_true hb3)) | exact bs_ret e1 (e3 (of_decide_eq_false hb3))) hsim
      · skip
        exact go_ret C2_ok rfl rfl Tryd.func69 (sr' := ⟨1, [.tup [.d (.raw (.int .i64 (i))), .d (.raw (.bool (false)))]], [(0, .row 148 2 (l.length) (rowEl l))]⟩) (cs := [_, _]) [false, false] true (by kernel_rfl) (by kernel_rfl) ⟨hb1, hb3, trivial⟩ (by first | exact bs_ret e1 (e2 (of_decide_eq_true hb3)) | exact bs_ret e1 (e3 (of_decide_eq_false hb3))) hsim
  | succ d ih =>
    intro n i j en h0 hij hj hd h1 h2 E a w hsim
    by_cases hlt : i < j
    · have hm := mid_eq i j h0 hlt (by omega)
      have b1 : (0 : Int) ≤ IntKind.i64.wrap ((IntKind.u64.wrap (IntKind.i64.wrap (i + j))).fdiv ((2 : Int) ^ (1 : Nat))) ∧ IntKind.i64.wrap ((IntKind.u64.wrap (IntKind.i64.wrap (i + j))).fdiv ((2 : Int) ^ (1 : Nat))) < (l.length : Int) := by rw [hm]; omega
      have b2 : (IntKind.i64.wrap ((IntKind.u64.wrap (IntKind.i64.wrap (i + j))).fdiv ((2 : Int) ^ (1 : Nat)))).toNat < l.length := by omega
      have sA : ltB (l.getD (IntKind.i64.wrap ((IntKind.u64.wrap (IntKind.i64.wrap (i + j))).fdiv ((2 : Int) ^ (1 : Nat)))).toNat (ByteArray.empty, ByteArray.empty)).1 key = true → ∀ E a w, Sim (cx Tryd.prog g0 w0 N E0 [(0, .row 148 2 (l.length) (rowEl l))]) E (bs0 l key n (IntKind.i64.wrap (IntKind.i64.wrap ((IntKind.u64.wrap (IntKind.i64.wrap (i + j))).fdiv ((2 : Int) ^ (1 : Nat))) + (1 : Int))) j) a w → Goes Tryd.prog 69 (loopAt Tryd.f69 0) (RSpec (cx Tryd.prog g0 w0 N E0 [(0, .row 148 2 (l.length) (rowEl l))]) ⟨1, [.tup [.d (.raw (.int .i64 (posM l key))), .d (.raw (.bool (hasM l key)))]], [(0, .row 148 2 (l.length) (rowEl l))]⟩) a w := by
        intro hl
        rw [hm] at hl ⊢
        rw [wrapI ((i + j) / 2 + 1) (by omega)]
        refine ih n ((i + j) / 2 + 1) j en (by omega) (by omega) hj (by omega) (fun k hk => ?_) h2
        by_cases hk2 : (k : Int) = (i + j) / 2
        · rw [← hk2] at hl; exact hl
        · exact ltB_trans (sorted_lt hs (i := k) (j := ((i + j) / 2).toNat) (by omega) (by omega)) hl
      have sB : ltB (l.getD (IntKind.i64.wrap ((IntKind.u64.wrap (IntKind.i64.wrap (i + j))).fdiv ((2 : Int) ^ (1 : Nat)))).toNat (ByteArray.empty, ByteArray.empty)).1 key = false → ∀ E a w, Sim (cx Tryd.prog g0 w0 N E0 [(0, .row 148 2 (l.length) (rowEl l))]) E (bs0 l key n i (IntKind.i64.wrap ((IntKind.u64.wrap (IntKind.i64.wrap (i + j))).fdiv ((2 : Int) ^ (1 : Nat))))) a w → Goes Tryd.prog 69 (loopAt Tryd.f69 0) (RSpec (cx Tryd.prog g0 w0 N E0 [(0, .row 148 2 (l.length) (rowEl l))]) ⟨1, [.tup [.d (.raw (.int .i64 (posM l key))), .d (.raw (.bool (hasM l key)))]], [(0, .row 148 2 (l.length) (rowEl l))]⟩) a w := by
        intro hl
        rw [hm] at hl ⊢
        refine ih n i ((i + j) / 2) en h0 (by omega) (by omega) (by omega) h1 (fun k hk hkl => ?_)
        by_cases hk2 : (k : Int) = (i + j) / 2
        · rw [← hk2] at hl; exact hl
        · cases h : ltB (l.getD k (ByteArray.empty, ByteArray.empty)).1 key
          · rfl
          · rw [ltB_trans (sorted_lt hs (i := ((i + j) / 2).toNat) (j := k) (by omega) hkl) h] at hl; cases hl
      rcases Bool.eq_false_or_eq_true (decide (i < j)) with hb1 | hb1
      · skip
        rcases Bool.eq_false_or_eq_true (decide (cmpI (l.getD (IntKind.i64.wrap ((IntKind.u64.wrap (IntKind.i64.wrap (i + j))).fdiv ((2 : Int) ^ (1 : Nat)))).toNat (ByteArray.empty, ByteArray.empty)).fst key < (0 : Int))) with hb2 | hb2
        · skip
          refine go_head C2_ok rfl rfl (k' := loopAt Tryd.f69 0) (s' := mk 1 49 [(0, .own 0), (1, .d (.raw (.string (key)))), (2, .d (.raw (Value.func (Fn.func (70 : FuncId)) #[] #[]))), (8, .d (.raw (.int .i64 (n)))), (9, .d (.raw (.int .i64 (IntKind.i64.wrap (IntKind.i64.wrap ((IntKind.u64.wrap (IntKind.i64.wrap (i + j))).fdiv ((2 : Int) ^ (1 : Nat))) + (1 : Int)))))), (10, .d (.raw (.int .i64 (j))))] [(0, .row 148 2 (l.length) (rowEl l))]) (cs := [_, (Nn 1), ((0 : Int) ≤ IntKind.i64.wrap ((IntKind.u64.wrap (IntKind.i64.wrap (i + j))).fdiv ((2 : Int) ^ (1 : Nat))) ∧ IntKind.i64.wrap ((IntKind.u64.wrap (IntKind.i64.wrap (i + j))).fdiv ((2 : Int) ^ (1 : Nat))) < (↑l.length : Int)), ((IntKind.i64.wrap ((IntKind.u64.wrap (IntKind.i64.wrap (i + j))).fdiv ((2 : Int) ^ (1 : Nat)))).toNat < l.length), _]) [true, true] [0,1,2,8,9,10] (by kernel_rfl) (by kernel_rfl) ⟨hb1, (by decide), (by first | decide | exact b1 | exact b2 | exact absurd hlt (of_decide_eq_false hb1)), (by first | decide | exact b1 | exact b2 | exact absurd hlt (of_decide_eq_false hb1)), hb2, trivial⟩ hsim fun E a w hsim => ?_
          first | exact sA (by rw [← cmpI_lt]; exact hb2) E a w hsim | exact sB (by rw [← cmpI_lt]; exact hb2) E a w hsim
        · skip
          refine go_head C2_ok rfl rfl (k' := loopAt Tryd.f69 0) (s' := mk 1 49 [(0, .own 0), (1, .d (.raw (.string (key)))), (2, .d (.raw (Value.func (Fn.func (70 : FuncId)) #[] #[]))), (8, .d (.raw (.int .i64 (n)))), (9, .d (.raw (.int .i64 (i)))), (10, .d (.raw (.int .i64 (IntKind.i64.wrap ((IntKind.u64.wrap (IntKind.i64.wrap (i + j))).fdiv ((2 : Int) ^ (1 : Nat)))))))] [(0, .row 148 2 (l.length) (rowEl l))]) (cs := [_, (Nn 1), ((0 : Int) ≤ IntKind.i64.wrap ((IntKind.u64.wrap (IntKind.i64.wrap (i + j))).fdiv ((2 : Int) ^ (1 : Nat))) ∧ IntKind.i64.wrap ((IntKind.u64.wrap (IntKind.i64.wrap (i + j))).fdiv ((2 : Int) ^ (1 : Nat))) < (↑l.length : Int)), ((IntKind.i64.wrap ((IntKind.u64.wrap (IntKind.i64.wrap (i + j))).fdiv ((2 : Int) ^ (1 : Nat)))).toNat < l.length), _]) [true, false] [0,1,2,8,9,10] (by kernel_rfl) (by kernel_rfl) ⟨hb1, (by decide), (by first | decide | exact b1 | exact b2 | exact absurd hlt (of_decide_eq_false hb1)), (by first | decide | exact b1 | exact b2 | exact absurd hlt (of_decide_eq_false hb1)), hb2, trivial⟩ hsim fun E a w hsim => ?_
          first | exact sA (by rw [← cmpI_lt]; exact hb2) E a w hsim | exact sB (by rw [← cmpI_lt]; exact hb2) E a w hsim
      · skip
        rcases Bool.eq_false_or_eq_true (decide (i < n)) with hb3 | hb3
        · skip
          exact go_ret C2_ok rfl rfl Tryd.func69 (sr' := ⟨1, [.tup [.d (.raw (.int .i64 (i))), .d (.raw (.bool (cmpI (l.getD i.toNat (ByteArray.empty, ByteArray.empty)).fst key == (0 : Int))))]], [(0, .row 148 2 (l.length) (rowEl l))]⟩) (cs := [_, _, ((0 : Int) ≤ i ∧ i < (↑l.length : Int)), (i.toNat < l.length)]) [false, true] true (by kernel_rfl) (by kernel_rfl) ⟨hb1, hb3, (by first | decide | exact b1 | exact b2 | exact absurd hlt (of_decide_eq_false hb1)), (by first | decide | exact b1 | exact b2 | exact absurd hlt (of_decide_eq_false hb1)), trivial⟩ (by exact absurd hlt (of_decide_eq_false hb1)) hsim
        · skip
          exact go_ret C2_ok rfl rfl Tryd.func69 (sr' := ⟨1, [.tup [.d (.raw (.int .i64 (i))), .d (.raw (.bool (false)))]], [(0, .row 148 2 (l.length) (rowEl l))]⟩) (cs := [_, _]) [false, false] true (by kernel_rfl) (by kernel_rfl) ⟨hb1, hb3, trivial⟩ (by exact absurd hlt (of_decide_eq_false hb1)) hsim
    · exact ih n i j en h0 hij hj (by omega) h1 h2 E a w hsim
theorem bs_ok (l : List Rw) (key : ByteArray) (ht : Tidy l) : Eng.Spec Tryd.prog g0 69 [.own 0, .d (.raw (.string key)), .d (.raw (.func (.func 70) #[] #[]))] [(0, .row 148 2 (l.length) (rowEl l))]
    (.tup [.d (.raw (.int .i64 (posM l key))), .d (.raw (.bool (hasM l key)))]) [(0, .row 148 2 (l.length) (rowEl l))] := by
  refine spec_fn Tryd.func69 rfl fun {w N E a} hsim => ?_
  have hf := ht.few
  refine go_head C2_ok rfl rfl (k' := loopAt Tryd.f69 0) (s' := mk 1 49 [(0, .own 0), (1, .d (.raw (.string (key)))), (2, .d (.raw (Value.func (Fn.func (70 : FuncId)) #[] #[]))), (8, .d (.raw (.int .i64 ((↑l.length : Int))))), (9, .d (.raw (.int .i64 ((0 : Int))))), (10, .d (.raw (.int .i64 ((↑l.length : Int)))))] [(0, .row 148 2 (l.length) (rowEl l))]) (cs := []) [] [0,1,2,8,9,10] (by kernel_rfl) (by kernel_rfl) trivial hsim fun E a w hsim => ?_
  exact bs_go l key ht.sorted (by omega) l.length _ _ _ rfl (by omega) (by omega) (by omega) (by omega) (fun k hk => by omega) (fun k hk hkl => by omega) E a w hsim
theorem C3_ok (l : List Rw) : OrcOK Tryd.prog (C3 l) := C2_ok.add _ false (mBs l) fun args H r H' cs h hc => by
  unfold mBs at h
  split at h
  · cases h
    obtain ⟨rfl, rfl, rfl, rfl, rfl, rfl, h1, -⟩ := hc
    exact bs_ok l _ h1
  · cases h
theorem find_ok (l : List Rw) (key : ByteArray) (ht : Tidy l) : Eng.Spec Tryd.prog g0 64 [.ref 0 0, .d (.raw (.string key))] (tab0 l) (.tup [.d (.raw (.int .i64 (posM l key))), .d (.raw (.bool (hasM l key)))]) (tab0 l) := by
  refine spec_fn Tryd.func64 rfl fun {w N E a} hsim => ?_
  have q0_ : (noVals = #[]) := (by first | exact ht | rfl)
  exact go_ret (C3_ok l) rfl rfl Tryd.func64 (sr' := ⟨2, [.tup [.d (.raw (.int .i64 ((↑(posM l key) : Int)))), .d (.raw (.bool (hasM l key)))]], [(0, .obj 145 [.own 1]), (1, .row 148 2 (l.length) (rowEl l))]⟩) (cs := ((fun (c0 : Prop) => [((70 : Nat) = (70 : Nat)), c0, c0, ((148 : Nat) = (148 : Nat)), (l.length = l.length), (rowEl l = rowEl l), (Tidy l)]) _)) [] true (by kernel_rfl) (by kernel_rfl) ⟨(by first | exact ht | rfl), q0_, q0_, (by first | exact ht | rfl), (by first | exact ht | rfl), (by first | exact ht | rfl), (by first | exact ht | rfl), trivial⟩ (by rfl) hsim
end Go.Tab
