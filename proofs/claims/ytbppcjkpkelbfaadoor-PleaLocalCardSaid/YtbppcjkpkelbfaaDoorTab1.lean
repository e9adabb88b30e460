/-
  Contracts of given functions, plain laws. No condition.
-/
import Derived.Test.YtbppcjkpkelbfaaDoorRowS
import Derived.Test.YtbppcjkpkelbfaaDoorRowK
import Derived.Test.YtbppcjkpkelbfaaDoorProg
import Derived.Shelf.Small.Strs
namespace Go.Tab
open Go Go.Eng Go.Proofs Go.RowKit
set_option maxRecDepth 100000
set_option maxHeartbeats 4000000
def laysCompare_ren : Go.Shelf.Ren := ⟨fun | 106 => 71 | 213 => 75 | 265 => 78 | n => n, fun | 9 => 9 | 3 => 3 | 20 => 20 | n => n, fun | n => n⟩
theorem laysCompare : Go.Proofs.Lays.n106 Tryd.prog laysCompare_ren where
 mixed := by kernel_rfl
 f106 := Tryd.func71.trans (congrArg some (by kernel_rfl))
 f213 := Tryd.func75.trans (congrArg some (by kernel_rfl))
 f265 := Tryd.func78.trans (congrArg some (by kernel_rfl))
 t3 := Tryd.underlying3
 a3 := Tryd.isAgg3
 z3 := Tryd.sizeOf3
 v3 := Tryd.zeroValue3
 t9 := Tryd.underlying9
 a9 := Tryd.isAgg9
 z9 := Tryd.sizeOf9
 v9 := Tryd.zeroValue9
abbrev g0 : Nat → Option (List D) := fun _ => none
theorem cmpI_eq (a b : ByteArray) : Lib.compareBytes a.data.toList b.data.toList = cmpI a b := by
 rw [cmpB_eq, ← toList_ba, ← toList_ba]; rfl
theorem compare_ok (a b : ByteArray) : Eng.Spec Tryd.prog g0 71 [.d (.raw (.string a)), .d (.raw (.string b))] [] (.d (.raw (.int .i64 (cmpI a b)))) [] := by
 refine Spec.pure rfl fun w N E vs hvs hN => ?_
 rw [VAs_cons] at hvs
 obtain ⟨v, us, rfl, hv, hus⟩ := hvs
 rw [VAs_cons] at hus
 obtain ⟨z, us, rfl, hz, hus⟩ := hus
 obtain rfl : us = [] := by unfold VAs at hus; exact hus
 unfold VA at hz hv
 obtain ⟨rfl, -⟩ := VD_raw_inv hz
 obtain ⟨rfl, -⟩ := VD_raw_inv hv
 refine (Any.strings_Compare laysCompare a b w).mono fun e w' ⟨he, hw⟩ => ⟨?_, hw ▸ Below.refl _ _⟩
 rw [he, cmpI_eq]
theorem C1_ok : OrcOK Tryd.prog C1 := (OrcOK.none g0).add _ false mCmp fun args H r H' cs h hc => by
 unfold mCmp at h
 split at h
 · cases h; exact compare_ok _ _
 · cases h
theorem fd1_ok (a v b : ByteArray) : Eng.Spec Tryd.prog g0 70 [.d (.agg [.raw (.string a), .raw (.string v)]), .d (.raw (.string b))] [] (.d (.raw (.int .i64 (cmpI a b)))) [] := by
 refine spec_fn Tryd.func70 rfl fun {w N E act} hsim => ?_
 exact gr C1_ok Tryd.func70 (sr' := ⟨0, [vI (cmpI a b)], []⟩) (cs := []) [] true trivial (by rfl) hsim
theorem posM_le : ∀ (l : List Rw) (key : ByteArray), posM l key ≤ l.length
 | [], _ => Nat.le_refl _
 | r :: l, key => by
  have := posM_le l key
  unfold posM at this ⊢
  rw [List.takeWhile_cons]
  split
  · simp only [List.length_cons]; omega
  · simp
theorem posM_is : ∀ (l : List Rw) (key : ByteArray) (i : Nat), i ≤ l.length → (∀ k, k < i → ltB (l.getD k (ByteArray.empty, ByteArray.empty)).1 key = true) →
  (i < l.length → ltB (l.getD i (ByteArray.empty, ByteArray.empty)).1 key = false) → posM l key = i
 | [], key, i, h, _, _ => by simp at h; subst h; rfl
 | r :: l, key, 0, h, h1, h2 => by
  have := h2 (by simp)
  unfold posM
  rw [List.takeWhile_cons]
  have h3 : Op.bytesLess r.1.toList key.toList = false := this
  simp [h3]
 | r :: l, key, i + 1, h, h1, h2 => by
  have h3 : Op.bytesLess r.1.toList key.toList = true := h1 0 (by omega)
  have := posM_is l key i (by simpa using h) (fun k hk => by have := h1 (k + 1) (by omega); simpa using this) (fun hi => by have := h2 (by simpa using hi); simpa using this)
  unfold posM at this ⊢
  rw [List.takeWhile_cons]
  simp [h3, this]
theorem sorted_lt {l : List Rw} (h : Sorted l) {i j : Nat} (hij : i < j) (hj : j < l.length) : ltB (l.getD i (ByteArray.empty, ByteArray.empty)).1 (l.getD j (ByteArray.empty, ByteArray.empty)).1 = true := by
 have := List.pairwise_iff_getElem.1 h i j (by omega) hj hij
 rwa [getD_get (by omega), getD_get hj]
theorem hasM_is {l : List Rw} (h : Sorted l) (key : ByteArray) (i : Nat) (hi : i ≤ l.length) (h1 : ∀ k, k < i → ltB (l.getD k (ByteArray.empty, ByteArray.empty)).1 key = true)
  (h2 : i < l.length → ltB (l.getD i (ByteArray.empty, ByteArray.empty)).1 key = false) : hasM l key = (decide (i < l.length) && (decide ((l.getD i (ByteArray.empty, ByteArray.empty)).1 = key))) := by
 rw [Bool.eq_iff_iff, Bool.and_eq_true, decide_eq_true_eq, decide_eq_true_eq]
 unfold hasM
 rw [List.any_eq_true]
 constructor
 ·
  rintro ⟨r, hr, hk⟩
  have hk : r.1 = key := by simpa using hk
  obtain ⟨j, hj, rfl⟩ := List.getElem_of_mem hr
  have e : (l.getD j (ByteArray.empty, ByteArray.empty)).1 = key := by rw [getD_get hj]; exact hk
  rcases Nat.lt_trichotomy j i with hlt | rfl | hgt
  ·
   have := h1 j hlt
   rw [e, ltB_irrefl] at this; cases this
  · exact ⟨hj, e⟩
  ·
   have h3 := sorted_lt h hgt hj
   have h4 := h2 (by omega)
   rw [e] at h3
   rw [h3] at h4; cases h4
 ·
  rintro ⟨hl, hk⟩
  refine ⟨l[i], List.getElem_mem hl, ?_⟩
  rw [getD_get hl] at hk
  simp [hk]
theorem mid_eq (i j : Int) (h : 0 ≤ i) (hij : i < j) (hj : j ≤ 1000) : IntKind.i64.wrap ((IntKind.u64.wrap (IntKind.i64.wrap (i + j))).fdiv ((2 : Int) ^ (1 : Nat))) = (i + j) / 2 := by
 have h1 : IntKind.i64.wrap (i + j) = i + j := wrapI _ (by omega)
 have h2 : IntKind.u64.wrap (i + j) = i + j := wrapU _ (by omega)
 rw [h1, h2, Int.fdiv_eq_ediv_of_nonneg _ (by decide), show ((2 : Int) ^ (1 : Nat)) = 2 from rfl]
 exact wrapI _ (by omega)
theorem cmpI_lt (a b : ByteArray) : decide (cmpI a b < 0) = ltB a b := by
 unfold cmpI ltB
 cases h : Op.bytesLess a.toList b.toList
 · cases Op.bytesLess b.toList a.toList <;> rfl
 · rfl
theorem cmpI_zero (a b : ByteArray) (h : ltB a b = false) : (cmpI a b == 0) = decide (a = b) := by
 unfold cmpI
 rw [show Op.bytesLess a.toList b.toList = false from h]
 cases k : Op.bytesLess b.toList a.toList
 · rw [ltB_tri h k]; simp
 ·
  have := ltB_ne (show ltB b a = true from k)
  simp only [Bool.false_eq_true, if_false, if_true]
  rw [eq_comm, decide_eq_false (Ne.symm this)]; rfl
theorem C2_ok : OrcOK Tryd.prog C2 := C1_ok.add _ true mFd1 fun args H r H' cs h hc => by
 unfold mFd1 at h
 split at h
 · cases h; exact fd1_ok _ _ _
 · cases h
theorem bs_ret {H : List (Nat × Th)} {x x' : Int} {b b' : Bool} (h1 : x = x') (h2 : b = b') : (⟨1, [.tup [.d (.raw (.int .i64 x)), .d (.raw (.bool b))]], H⟩ : St) = ⟨1, [.tup [.d (.raw (.int .i64 x')), .d (.raw (.bool b'))]], H⟩ := by
 subst h1 h2; rfl
theorem bs_go {w0 : World} {N : Nat → Prop} {E0 : Env} (l : List Rw) (key : ByteArray) (hs : Sorted l) (hn : l.length ≤ 1000) : ∀ (d : Nat) (n i j : Int), n = (l.length : Int) → 0 ≤ i → i ≤ j → j ≤ (l.length : Int) → j - i ≤ d →
  (∀ k : Nat, (k : Int) < i → ltB (l.getD k (ByteArray.empty, ByteArray.empty)).1 key = true) → (∀ k : Nat, j ≤ (k : Int) → k < l.length → ltB (l.getD k (ByteArray.empty, ByteArray.empty)).1 key = false) → ∀ (E : Env) (a : Act) (w : World),
  Sim (cx Tryd.prog g0 w0 N E0 [(0, .row 148 2 (l.length) (rowEl l))]) E (bs0 l key n i j) a w → Goes Tryd.prog 69 (loopAt Tryd.f69 0) (RSpec (cx Tryd.prog g0 w0 N E0 [(0, .row 148 2 (l.length) (rowEl l))]) ⟨1, [.tup [.d (.raw (.int .i64 (posM l key))), .d (.raw (.bool (hasM l key)))]], [(0, .row 148 2 (l.length) (rowEl l))]⟩) a w := by
 intro d
 induction d with
 | zero =>
  intro n i j en h0 hij hj hd h1 h2 E a w hsim
  have e : i = j := by omega
  have hi : i.toNat ≤ l.length := by omega
  have h3 := h2 i.toNat (by omega)
  have hp := posM_is l key i.toNat hi (fun k hk => h1 k (by omega)) h3
  have hh := hasM_is hs key i.toNat hi (fun k hk => h1 k (by omega)) h3
  have e1 : i = ((posM l key : Nat) : Int) := by rw [hp]; omega
  have e2 : i < n → (cmpI (l.getD i.toNat (ByteArray.empty, ByteArray.empty)).1 key == 0) = hasM l key := fun hlt => by
    rw [hh, cmpI_zero _ _ (h3 (by omega)), decide_eq_true (show i.toNat < l.length by omega), Bool.true_and]
  have e3 : ¬ i < n → false = hasM l key := fun hlt => by rw [hh, decide_eq_false (show ¬ i.toNat < l.length by omega), Bool.false_and]
  rcases bd (decide (i < j)) with hb1 | hb1
  ·
   rcases bd (decide (cmpI (l.getD (IntKind.i64.wrap ((IntKind.u64.wrap (IntKind.i64.wrap (i + j))).fdiv ((2 : Int) ^ (1 : Nat)))).toNat (ByteArray.empty, ByteArray.empty)).fst key < (0 : Int))) with hb2 | hb2
   ·
    exact absurd (of_decide_eq_true hb1) (by omega)
   ·
    exact absurd (of_decide_eq_true hb1) (by omega)
  ·
   rcases bd (decide (i < n)) with hb3 | hb3
   ·
    exact gr C2_ok Tryd.func69 (sr' := ⟨1, [.tup [vI i, vB (cmpI (l.getD i.toNat (eB, eB)).fst key == (0 : Int))]], [(0, .row 148 2 l.length (rowEl l))]⟩) (cs := [_, _, (0 ≤ i ∧ i < l.length), (i.toNat < l.length)]) [false, true] true ⟨hb1, hb3, (by exact ⟨by omega, by have := of_decide_eq_true hb3; omega⟩), (by (have := of_decide_eq_true hb3; omega)), trivial⟩ (by exact bs_ret e1 (e2 (of_decide_eq_true hb3))) hsim
   ·
    exact gr C2_ok Tryd.func69 (sr' := ⟨1, [.tup [vI i, vB false]], [(0, .row 148 2 l.length (rowEl l))]⟩) (cs := [_, _]) [false, false] true ⟨hb1, hb3, trivial⟩ (by exact bs_ret e1 (e3 (of_decide_eq_false hb3))) hsim
 | succ d ih =>
  intro n i j en h0 hij hj hd h1 h2 E a w hsim
  by_cases hlt : i < j
  ·
    have hm := mid_eq i j h0 hlt (by omega)
    have b1 : (0 : Int) ≤ IntKind.i64.wrap ((IntKind.u64.wrap (IntKind.i64.wrap (i + j))).fdiv ((2 : Int) ^ (1 : Nat))) ∧ IntKind.i64.wrap ((IntKind.u64.wrap (IntKind.i64.wrap (i + j))).fdiv ((2 : Int) ^ (1 : Nat))) < (l.length : Int) := by rw [hm]; omega
    have b2 : (IntKind.i64.wrap ((IntKind.u64.wrap (IntKind.i64.wrap (i + j))).fdiv ((2 : Int) ^ (1 : Nat)))).toNat < l.length := by omega
    have sA : ltB (l.getD (IntKind.i64.wrap ((IntKind.u64.wrap (IntKind.i64.wrap (i + j))).fdiv ((2 : Int) ^ (1 : Nat)))).toNat (ByteArray.empty, ByteArray.empty)).1 key = true → ∀ E a w, Sim (cx Tryd.prog g0 w0 N E0 [(0, .row 148 2 (l.length) (rowEl l))]) E (bs0 l key n (IntKind.i64.wrap (IntKind.i64.wrap ((IntKind.u64.wrap (IntKind.i64.wrap (i + j))).fdiv ((2 : Int) ^ (1 : Nat))) + (1 : Int))) j) a w → Goes Tryd.prog 69 (loopAt Tryd.f69 0) (RSpec (cx Tryd.prog g0 w0 N E0 [(0, .row 148 2 (l.length) (rowEl l))]) ⟨1, [.tup [.d (.raw (.int .i64 (posM l key))), .d (.raw (.bool (hasM l key)))]], [(0, .row 148 2 (l.length) (rowEl l))]⟩) a w := by
      intro hl
      rw [hm] at hl ⊢
      rw [wrapI ((i + j) / 2 + 1) (by omega)]
      refine ih n ((i + j) / 2 + 1) j en (by omega) (by omega) hj (by omega) (fun k hk => ?_) h2
      by_cases hk2 : (k : Int) = (i + j) / 2
      · rw [← hk2] at hl; exact hl
      · exact ltB_trans (sorted_lt hs (i := k) (j := ((i + j) / 2).toNat) (by omega) (by omega)) hl
    have sB : ltB (l.getD (IntKind.i64.wrap ((IntKind.u64.wrap (IntKind.i64.wrap (i + j))).fdiv ((2 : Int) ^ (1 : Nat)))).toNat (ByteArray.empty, ByteArray.empty)).1 key = false → ∀ E a w, Sim (cx Tryd.prog g0 w0 N E0 [(0, .row 148 2 (l.length) (rowEl l))]) E (bs0 l key n i (IntKind.i64.wrap ((IntKind.u64.wrap (IntKind.i64.wrap (i + j))).fdiv ((2 : Int) ^ (1 : Nat))))) a w → Goes Tryd.prog 69 (loopAt Tryd.f69 0) (RSpec (cx Tryd.prog g0 w0 N E0 [(0, .row 148 2 (l.length) (rowEl l))]) ⟨1, [.tup [.d (.raw (.int .i64 (posM l key))), .d (.raw (.bool (hasM l key)))]], [(0, .row 148 2 (l.length) (rowEl l))]⟩) a w := by
      intro hl
      rw [hm] at hl ⊢
      refine ih n i ((i + j) / 2) en h0 (by omega) (by omega) (by omega) h1 (fun k hk hkl => ?_)
      by_cases hk2 : (k : Int) = (i + j) / 2
      · rw [← hk2] at hl; exact hl
      ·
       cases h : ltB (l.getD k (ByteArray.empty, ByteArray.empty)).1 key
       · rfl
       · rw [ltB_trans (sorted_lt hs (i := ((i + j) / 2).toNat) (j := k) (by omega) hkl) h] at hl; cases hl
    rcases bd (decide (i < j)) with hb1 | hb1
    ·
     rcases bd (decide (cmpI (l.getD (IntKind.i64.wrap ((IntKind.u64.wrap (IntKind.i64.wrap (i + j))).fdiv ((2 : Int) ^ (1 : Nat)))).toNat (ByteArray.empty, ByteArray.empty)).fst key < (0 : Int))) with hb2 | hb2
     ·
      refine gh C2_ok (k' := loopAt Tryd.f69 0) (s' := mk 1 49 [(0, .own 0), (1, vS key), (2, .d (.raw (Value.func (Fn.func (70 : FuncId)) #[] #[]))), (8, vI n), (9, vI (wI (wI ((IntKind.u64.wrap (wI (i + j))).fdiv ((2 : Int) ^ 1)) + 1))), (10, vI j)] [(0, .row 148 2 l.length (rowEl l))]) (cs := [_, (Nn 1), ((0 : Int) ≤ IntKind.i64.wrap ((IntKind.u64.wrap (IntKind.i64.wrap (i + j))).fdiv ((2 : Int) ^ 1)) ∧ IntKind.i64.wrap ((IntKind.u64.wrap (IntKind.i64.wrap (i + j))).fdiv ((2 : Int) ^ 1)) < (↑l.length : Int)), ((IntKind.i64.wrap ((IntKind.u64.wrap (IntKind.i64.wrap (i + j))).fdiv ((2 : Int) ^ 1))).toNat < l.length), _]) [true, true] [0,1,2,8,9,10] ⟨hb1, (by decide), (by exact b1), (by exact b2), hb2, trivial⟩ hsim fun E a w hsim => ?_
      first | exact sA (by rw [← cmpI_lt]; exact hb2) E a w hsim | exact sB (by rw [← cmpI_lt]; exact hb2) E a w hsim
     ·
      refine gh C2_ok (k' := loopAt Tryd.f69 0) (s' := mk 1 49 [(0, .own 0), (1, vS key), (2, .d (.raw (Value.func (Fn.func (70 : FuncId)) #[] #[]))), (8, vI n), (9, vI i), (10, vI (wI ((IntKind.u64.wrap (wI (i + j))).fdiv ((2 : Int) ^ 1))))] [(0, .row 148 2 l.length (rowEl l))]) (cs := [_, (Nn 1), ((0 : Int) ≤ IntKind.i64.wrap ((IntKind.u64.wrap (IntKind.i64.wrap (i + j))).fdiv ((2 : Int) ^ 1)) ∧ IntKind.i64.wrap ((IntKind.u64.wrap (IntKind.i64.wrap (i + j))).fdiv ((2 : Int) ^ 1)) < (↑l.length : Int)), ((IntKind.i64.wrap ((IntKind.u64.wrap (IntKind.i64.wrap (i + j))).fdiv ((2 : Int) ^ 1))).toNat < l.length), _]) [true, false] [0,1,2,8,9,10] ⟨hb1, (by decide), (by exact b1), (by exact b2), hb2, trivial⟩ hsim fun E a w hsim => ?_
      first | exact sA (by rw [← cmpI_lt]; exact hb2) E a w hsim | exact sB (by rw [← cmpI_lt]; exact hb2) E a w hsim
    ·
     rcases bd (decide (i < n)) with hb3 | hb3
     ·
      exact absurd hlt (of_decide_eq_false hb1)
     ·
      exact absurd hlt (of_decide_eq_false hb1)
  · exact ih n i j en h0 hij hj (by omega) h1 h2 E a w hsim
theorem bs_ok (l : List Rw) (key : ByteArray) (ht : Tidy l) : Eng.Spec Tryd.prog g0 69 [.own 0, .d (.raw (.string key)), .d (.raw (.func (.func 70) #[] #[]))] [(0, .row 148 2 (l.length) (rowEl l))]
  (.tup [.d (.raw (.int .i64 (posM l key))), .d (.raw (.bool (hasM l key)))]) [(0, .row 148 2 (l.length) (rowEl l))] := by
 refine spec_fn Tryd.func69 rfl fun {w N E a} hsim => ?_
 have hf := ht.few
 refine gh C2_ok (k' := loopAt Tryd.f69 0) (s' := mk 1 49 [(0, .own 0), (1, vS key), (2, .d (.raw (Value.func (Fn.func (70 : FuncId)) #[] #[]))), (8, vI (↑l.length : Int)), (9, vI 0), (10, vI (↑l.length : Int))] [(0, .row 148 2 l.length (rowEl l))]) (cs := []) [] [0,1,2,8,9,10] trivial hsim fun E a w hsim => ?_
 exact bs_go l key ht.sorted (by omega) l.length _ _ _ rfl (by omega) (by omega) (by omega) (by omega) (fun k hk => by omega) (fun k hk hkl => by omega) E a w hsim
theorem C3_ok (l : List Rw) : OrcOK Tryd.prog (C3 l) := C2_ok.add _ false (mBs l) fun args H r H' cs h hc => by
 unfold mBs at h
 split at h
 ·
  cases h
  obtain ⟨rfl, rfl, rfl, rfl, rfl, rfl, h1, -⟩ := hc
  exact bs_ok l _ h1
 · cases h
theorem find_ok (l : List Rw) (key : ByteArray) (ht : Tidy l) : Eng.Spec Tryd.prog g0 64 [.ref 0 0, .d (.raw (.string key))] (tab0 l) (.tup [.d (.raw (.int .i64 (posM l key))), .d (.raw (.bool (hasM l key)))]) (tab0 l) := by
 refine spec_fn Tryd.func64 rfl fun {w N E a} hsim => ?_
 have q0_ : (noVals = #[]) := (by rfl)
 exact gr (C3_ok l) Tryd.func64 (sr' := ⟨2, [.tup [vI ((↑(posM l key) : Int)), vB (hasM l key)]], [(0, .obj 145 [.own 1]), (1, .row 148 2 l.length (rowEl l))]⟩) (cs := ((fun (c0 : Prop) => [(70 = 70), c0, c0, (148 = 148), (l.length = l.length), (rowEl l = rowEl l), (Tidy l)]) _)) [] true ⟨(by rfl), q0_, q0_, (by rfl), (by rfl), (by rfl), (by exact ht), trivial⟩ (by rfl) hsim
end Go.Tab

namespace Go.Eng
open Go Go.RowKit
theorem says_rename {C : Cx} {s s' : St} {m : Nat → Option Nat} (hr : Renamed s s' m) (ht : s'.tmps = s.tmps.map (AV.rn m)) : Says C s s' := ⟨fun E a w hs => by
 obtain ⟨h1, h2, h3⟩ := hs.fit.renamed hr
 refine ⟨E.rn m, h1, ?_, hs.df⟩
 rw [ht]
 exact VAs.map (AV.rn m) hs.tm h3⟩
theorem says_rowTo {C : Cx} {s : St} {k T sz n : Nat} {el : Nat → D} (hk : s.th k = some (.row T sz n el)) (n' : Nat) (el' : Nat → D) (hn : n = n') (he : ∀ i, i < n → el i = el' i) : Says C s (s.setTh k (.row T sz n' el')) := by
 subst hn; exact Says.rowEq hk el' he
theorem Spec.mono {P : Program} {gl gl' : Nat → Option (List D)} (hg : ∀ g cs, gl g = some cs → gl' g = some cs) {g : FuncId} {args : List AV} {H : List (Nat × Th)} {ret : AV} {H' : List (Nat × Th)} (h : Eng.Spec P gl g args H ret H') : Eng.Spec P gl' g args H ret H' := by
 intro w N E vs hf hv
 refine (h w N E vs ⟨hf.base, hf.low, hf.keep, hf.keys, hf.th, hf.dis, fun g cs h => hf.gl g cs (hg g cs h)⟩ hv).mono ?_
 rintro e w' ⟨v, E', rfl, h1, h2⟩
 exact ⟨v, E', rfl, ⟨h1.base, h1.low, h1.keep, h1.keys, h1.th, h1.dis, hf.gl⟩, h2⟩
end Go.Eng

namespace Go.Tab
open Go Go.Eng Go.Proofs
set_option maxRecDepth 100000
set_option maxHeartbeats 4000000
theorem mk_empty : (ByteArray.mk #[]) = ByteArray.empty := rfl
theorem beq_mk (b : ByteArray) : (b.toList == (ByteArray.mk #[]).toList) = (b.size == 0) := beq_empty b
theorem value_ok (s : ByteArray) : Eng.Spec Tryd.prog g0 49 [.d (.raw (.string s))] [] (.d (.raw (.bool (decide (s.size ≤ 64))))) [] := by
 refine spec_fn Tryd.func49 rfl fun {w N E a} hsim => ?_
 have e : decide ((s.size : Int) ≤ 64) = decide (s.size ≤ 64) := by rw [decide_eq_decide]; omega
 exact gr (OrcOK.none g0) Tryd.func49 (sr' := ⟨0, [vB (decide ((↑s.size : Int) ≤ (64 : Int)))], []⟩) (cs := []) [] true trivial (by exact congrArg (fun b => (⟨0, [vB b], []⟩ : St)) e) hsim
theorem C0_ok : OrcOK Tryd.prog C0 := (OrcOK.none g0).add _ false mValue fun args H r H' cs h hc => by
 unfold mValue at h
 split at h
 · cases h; exact value_ok _
 · cases h
theorem ck_ret {c : Int} {k : Int} {key val old : ByteArray} (h : checkM k key val old = c) : (⟨0, [.d (.raw (.int .i64 c))], []⟩ : St) = ⟨0, [.d (.raw (.int .i64 (checkM k key val old)))], []⟩ := by rw [h]
theorem check_ok (k : Int) (key val old : ByteArray) : Eng.Spec Tryd.prog g0 23 [.d (.agg [.raw (.int .i64 k), .raw (.string key), .raw (.string val), .raw (.string old)])] [] (.d (.raw (.int .i64 (checkM k key val old)))) [] := by
 refine spec_fn Tryd.func23 rfl fun {w N E a} hsim => ?_
 rcases bd (decide (k < (1 : Int))) with hb1 | hb1
 ·
  exact gr C0_ok Tryd.func23 (sr' := ⟨0, [vI 1], []⟩) (cs := [_]) [true] true ⟨hb1, trivial⟩ (by exact ck_ret (by unfold checkM; simp only [beq_mk, Bool.not_eq_true', Bool.not_eq_false', decide_eq_true_eq, decide_eq_false_iff_not, beq_iff_eq, beq_eq_false_iff_ne, bne_iff_ne, bne_eq_false_iff_eq] at *; (repeat' split) <;> omega)) hsim
 ·
  rcases bd (decide (k > (5 : Int))) with hb2 | hb2
  ·
   exact gr C0_ok Tryd.func23 (sr' := ⟨0, [vI 1], []⟩) (cs := [_, _]) [false, true] true ⟨hb1, hb2, trivial⟩ (by exact ck_ret (by unfold checkM; simp only [beq_mk, Bool.not_eq_true', Bool.not_eq_false', decide_eq_true_eq, decide_eq_false_iff_not, beq_iff_eq, beq_eq_false_iff_ne, bne_iff_ne, bne_eq_false_iff_eq] at *; (repeat' split) <;> omega)) hsim
  ·
   rcases bd (key.toList == (ByteArray.mk #[]).toList) with hb3 | hb3
   ·
    exact gr C0_ok Tryd.func23 (sr' := ⟨0, [vI 130], []⟩) (cs := [_, _, _]) [false, false, true] true ⟨hb1, hb2, hb3, trivial⟩ (by exact ck_ret (by unfold checkM; simp only [beq_mk, Bool.not_eq_true', Bool.not_eq_false', decide_eq_true_eq, decide_eq_false_iff_not, beq_iff_eq, beq_eq_false_iff_ne, bne_iff_ne, bne_eq_false_iff_eq] at *; (repeat' split) <;> omega)) hsim
   ·
    rcases bd (decide ((↑key.size : Int) > (16 : Int))) with hb4 | hb4
    ·
     exact gr C0_ok Tryd.func23 (sr' := ⟨0, [vI 130], []⟩) (cs := [_, _, _, _]) [false, false, false, true] true ⟨hb1, hb2, hb3, hb4, trivial⟩ (by exact ck_ret (by unfold checkM; simp only [beq_mk, Bool.not_eq_true', Bool.not_eq_false', decide_eq_true_eq, decide_eq_false_iff_not, beq_iff_eq, beq_eq_false_iff_ne, bne_iff_ne, bne_eq_false_iff_eq] at *; (repeat' split) <;> omega)) hsim
    ·
     rcases bd (!decide (val.size ≤ (64 : Nat))) with hb5 | hb5
     ·
      exact gr C0_ok Tryd.func23 (sr' := ⟨0, [vI 130], []⟩) (cs := [_, _, _, _, _]) ((List.replicate 4 false) ++ [true]) true ⟨hb1, hb2, hb3, hb4, hb5, trivial⟩ (by exact ck_ret (by unfold checkM; simp only [beq_mk, Bool.not_eq_true', Bool.not_eq_false', decide_eq_true_eq, decide_eq_false_iff_not, beq_iff_eq, beq_eq_false_iff_ne, bne_iff_ne, bne_eq_false_iff_eq] at *; (repeat' split) <;> omega)) hsim
     ·
      rcases bd (!decide (old.size ≤ (64 : Nat))) with hb6 | hb6
      ·
       exact gr C0_ok Tryd.func23 (sr' := ⟨0, [vI 130], []⟩) (cs := [_, _, _, _, _, _]) ((List.replicate 5 false) ++ [true]) true ⟨hb1, hb2, hb3, hb4, hb5, hb6, trivial⟩ (by exact ck_ret (by unfold checkM; simp only [beq_mk, Bool.not_eq_true', Bool.not_eq_false', decide_eq_true_eq, decide_eq_false_iff_not, beq_iff_eq, beq_eq_false_iff_ne, bne_iff_ne, bne_eq_false_iff_eq] at *; (repeat' split) <;> omega)) hsim
      ·
       rcases bd (!val.toList == (ByteArray.mk #[]).toList) with hb7 | hb7
       ·
        rcases bd (k == (1 : Int)) with hb8 | hb8
        ·
         exact gr C0_ok Tryd.func23 (sr' := ⟨0, [vI 4], []⟩) (cs := [_, _, _, _, _, _, _, _]) ((List.replicate 6 false) ++ [true, true]) true ⟨hb1, hb2, hb3, hb4, hb5, hb6, hb7, hb8, trivial⟩ (by exact ck_ret (by unfold checkM; simp only [beq_mk, Bool.not_eq_true', Bool.not_eq_false', decide_eq_true_eq, decide_eq_false_iff_not, beq_iff_eq, beq_eq_false_iff_ne, bne_iff_ne, bne_eq_false_iff_eq] at *; (repeat' split) <;> omega)) hsim
        ·
         rcases bd (k == (4 : Int)) with hb9 | hb9
         ·
          exact gr C0_ok Tryd.func23 (sr' := ⟨0, [vI 4], []⟩) (cs := [_, _, _, _, _, _, _, _, _]) ((List.replicate 6 false) ++ [true, false, true]) true ⟨hb1, hb2, hb3, hb4, hb5, hb6, hb7, hb8, hb9, trivial⟩ (by exact ck_ret (by unfold checkM; simp only [beq_mk, Bool.not_eq_true', Bool.not_eq_false', decide_eq_true_eq, decide_eq_false_iff_not, beq_iff_eq, beq_eq_false_iff_ne, bne_iff_ne, bne_eq_false_iff_eq] at *; (repeat' split) <;> omega)) hsim
         ·
          rcases bd (!old.toList == (ByteArray.mk #[]).toList) with hb10 | hb10
          ·
           rcases bd (k != (5 : Int)) with hb11 | hb11
           ·
            exact gr C0_ok Tryd.func23 (sr' := ⟨0, [vI 4], []⟩) (cs := [_, _, _, _, _, _, _, _, _, _, _]) ((List.replicate 6 false) ++ [true, false, false, true, true]) true ⟨hb1, hb2, hb3, hb4, hb5, hb6, hb7, hb8, hb9, hb10, hb11, trivial⟩ (by exact ck_ret (by unfold checkM; simp only [beq_mk, Bool.not_eq_true', Bool.not_eq_false', decide_eq_true_eq, decide_eq_false_iff_not, beq_iff_eq, beq_eq_false_iff_ne, bne_iff_ne, bne_eq_false_iff_eq] at *; (repeat' split) <;> omega)) hsim
           ·
            exact gr C0_ok Tryd.func23 (sr' := ⟨0, [vI 0], []⟩) (cs := [_, _, _, _, _, _, _, _, _, _, _]) ((List.replicate 6 false) ++ [true, false, false, true, false]) true ⟨hb1, hb2, hb3, hb4, hb5, hb6, hb7, hb8, hb9, hb10, hb11, trivial⟩ (by exact ck_ret (by unfold checkM; simp only [beq_mk, Bool.not_eq_true', Bool.not_eq_false', decide_eq_true_eq, decide_eq_false_iff_not, beq_iff_eq, beq_eq_false_iff_ne, bne_iff_ne, bne_eq_false_iff_eq] at *; (repeat' split) <;> omega)) hsim
          ·
           exact gr C0_ok Tryd.func23 (sr' := ⟨0, [vI 0], []⟩) (cs := [_, _, _, _, _, _, _, _, _, _]) ((List.replicate 6 false) ++ [true, false, false, false]) true ⟨hb1, hb2, hb3, hb4, hb5, hb6, hb7, hb8, hb9, hb10, trivial⟩ (by exact ck_ret (by unfold checkM; simp only [beq_mk, Bool.not_eq_true', Bool.not_eq_false', decide_eq_true_eq, decide_eq_false_iff_not, beq_iff_eq, beq_eq_false_iff_ne, bne_iff_ne, bne_eq_false_iff_eq] at *; (repeat' split) <;> omega)) hsim
       ·
        rcases bd (!old.toList == (ByteArray.mk #[]).toList) with hb12 | hb12
        ·
         rcases bd (k != (5 : Int)) with hb13 | hb13
         ·
          exact gr C0_ok Tryd.func23 (sr' := ⟨0, [vI 4], []⟩) (cs := [_, _, _, _, _, _, _, _, _]) ((List.replicate 7 false) ++ [true, true]) true ⟨hb1, hb2, hb3, hb4, hb5, hb6, hb7, hb12, hb13, trivial⟩ (by exact ck_ret (by unfold checkM; simp only [beq_mk, Bool.not_eq_true', Bool.not_eq_false', decide_eq_true_eq, decide_eq_false_iff_not, beq_iff_eq, beq_eq_false_iff_ne, bne_iff_ne, bne_eq_false_iff_eq] at *; (repeat' split) <;> omega)) hsim
         ·
          exact gr C0_ok Tryd.func23 (sr' := ⟨0, [vI 0], []⟩) (cs := [_, _, _, _, _, _, _, _, _]) ((List.replicate 7 false) ++ [true, false]) true ⟨hb1, hb2, hb3, hb4, hb5, hb6, hb7, hb12, hb13, trivial⟩ (by exact ck_ret (by unfold checkM; simp only [beq_mk, Bool.not_eq_true', Bool.not_eq_false', decide_eq_true_eq, decide_eq_false_iff_not, beq_iff_eq, beq_eq_false_iff_ne, bne_iff_ne, bne_eq_false_iff_eq] at *; (repeat' split) <;> omega)) hsim
        ·
         exact gr C0_ok Tryd.func23 (sr' := ⟨0, [vI 0], []⟩) (cs := [_, _, _, _, _, _, _, _]) ((List.replicate 8 false)) true ⟨hb1, hb2, hb3, hb4, hb5, hb6, hb7, hb12, trivial⟩ (by exact ck_ret (by unfold checkM; simp only [beq_mk, Bool.not_eq_true', Bool.not_eq_false', decide_eq_true_eq, decide_eq_false_iff_not, beq_iff_eq, beq_eq_false_iff_ne, bne_iff_ne, bne_eq_false_iff_eq] at *; (repeat' split) <;> omega)) hsim
def m12 : Nat → Option Nat := lookN [(0, 0), (1, 2)]
theorem m12_inv {k i : Nat} (h : m12 k = some i) : (k = 0 ∧ i = 0) ∨ (k = 1 ∧ i = 2) := by
 unfold m12 lookN at h
 split at h
 · rename_i e; cases h; exact .inl ⟨(beq_iff_eq.1 e).symm, rfl⟩
 ·
  unfold lookN at h
  split at h
  · rename_i e; cases h; exact .inr ⟨(beq_iff_eq.1 e).symm, rfl⟩
  · unfold lookN at h; cases h
theorem tab_ren {C : Cx} (l : List Rw) (x : AV) (hx : x.rn m12 = x) : Says C ⟨2, [x], tab0 l⟩ ⟨2, [x], tab2 l⟩ := by
 refine says_rename (m := m12) ⟨rfl, fun j k i h1 h2 => ?_, fun k k' h1 h2 => ?_, fun k' t' h => ?_⟩ (by simp only [List.map_cons, List.map_nil, hx])
 · rcases m12_inv h1 with ⟨rfl, rfl⟩ | ⟨rfl, rfl⟩ <;> rcases m12_inv h2 with ⟨rfl, h⟩ | ⟨rfl, h⟩ <;> first | rfl | cases h
 ·
  rcases m12_inv h1 with ⟨rfl, rfl⟩ | ⟨rfl, rfl⟩
  · rfl
  · exact absurd h2 (Nat.lt_irrefl 2)
 ·
  unfold St.th tab2 at h
  by_cases e0 : k' = 0
  ·
   subst e0; cases h
   exact ⟨0, _, rfl, rfl, rfl⟩
  ·
   by_cases e2 : k' = 2
   ·
    subst e2; cases h
    exact ⟨1, _, rfl, rfl, rfl⟩
   ·
    exfalso
    have f0 : ((0 : Nat) == k') = false := beq_eq_false_iff_ne.2 (Ne.symm e0)
    have f2 : ((2 : Nat) == k') = false := beq_eq_false_iff_ne.2 (Ne.symm e2)
    simp only [Eng.look, f0, f2, Bool.false_eq_true, if_false] at h
    cases h
theorem putM_len (l : List Rw) (key val : ByteArray) : (putM l key val).length = if hasM l key then l.length else l.length + 1 := by
 unfold putM
 have := posM_le l key
 split
 · simp
 · simp; omega
theorem says_has {C : Cx} (l : List Rw) (key val : ByteArray) (hp : posM l key < l.length) (hk : (l.getD (posM l key) (ByteArray.empty, ByteArray.empty)).1 = key) (hh : hasM l key = true) (x : AV) (hx : x.rn m12 = x) (f : Nat → D)
  (hf : ∀ j, f j = mrg (j.beq ((posM l key : Nat) : Int).toNat) (D.agg [D.raw (Value.string (l.getD (posM l key) (ByteArray.empty, ByteArray.empty)).1), D.raw (Value.string val)]) (rowEl l j)) :
  Says C ⟨2, [x], [(0, .obj 145 [.own 1]), (1, .row 148 2 l.length f)]⟩ ⟨2, [x], tab2 (putM l key val)⟩ := by
 refine Says.trans ?_ (tab_ren (putM l key val) x hx)
 refine says_rowTo (k := 1) rfl (putM l key val).length (rowEl (putM l key val)) (by rw [putM_len, hh]; rfl) fun j hj => ?_
 have e : putM l key val = l.set (posM l key) (key, val) := by unfold putM; rw [hh]; rfl
 rw [hf, mrg_eq, e, Int.toNat_natCast, hk]
 unfold rowEl
 by_cases h : j = posM l key
 ·
  subst h
  rw [if_pos (by simp)]
  simp [List.getD, hp]
 ·
  rw [if_neg (by simpa using h)]
  simp [List.getD, List.getElem?_set, Ne.symm h]
theorem says_ins {C : Cx} (l : List Rw) (key val : ByteArray) (hh : hasM l key = false) (x : AV) (n : Nat) (hn : n = l.length + 1) (f : Nat → D)
  (h1 : ∀ j, j < posM l key → f j = rowEl l j) (h2 : f (posM l key) = .agg [.raw (.string key), .raw (.string val)]) (h3 : ∀ j, posM l key < j → j < n → f j = rowEl l (j - 1)) :
  Says C ⟨2, [x], [(0, .obj 145 [.own 2]), (2, .row 148 2 n f)]⟩ ⟨2, [x], tab2 (putM l key val)⟩ := by
 refine says_rowTo (k := 2) rfl (putM l key val).length (rowEl (putM l key val)) (by rw [putM_len, hh, hn]; rfl) fun j hj => ?_
 have e : putM l key val = l.take (posM l key) ++ (key, val) :: l.drop (posM l key) := by unfold putM; rw [hh]; rfl
 have hp := posM_le l key
 have hlt : (l.take (posM l key)).length = posM l key := by simp; omega
 rw [e]
 rcases Nat.lt_trichotomy j (posM l key) with h | rfl | h
 ·
  rw [h1 j h]
  have : ∀ d, (l.take (posM l key) ++ (key, val) :: l.drop (posM l key)).getD j d = l.getD j d := fun d => by
   rw [List.getD_eq_getElem?_getD, List.getD_eq_getElem?_getD, List.getElem?_append_left (by omega), List.getElem?_take_of_lt h]
  unfold rowEl; rw [this]
 ·
  rw [h2]
  have : ∀ d, (l.take (posM l key) ++ (key, val) :: l.drop (posM l key)).getD (posM l key) d = (key, val) := fun d => by
   rw [List.getD_eq_getElem?_getD, List.getElem?_append_right (by omega), hlt, Nat.sub_self]; rfl
  unfold rowEl; rw [this]
 ·
  rw [h3 j h hj]
  have : ∀ d, (l.take (posM l key) ++ (key, val) :: l.drop (posM l key)).getD j d = l.getD (j - 1) d := fun d => by
   rw [List.getD_eq_getElem?_getD, List.getD_eq_getElem?_getD, List.getElem?_append_right (by omega), hlt, show j - posM l key = (j - 1 - posM l key) + 1 by omega, List.getElem?_cons_succ, List.getElem?_drop, show posM l key + (j - 1 - posM l key) = j - 1 by omega]
  unfold rowEl; rw [this]
theorem posM_lo : ∀ (l : List Rw) (key : ByteArray) (k : Nat), k < posM l key → ltB (l.getD k (ByteArray.empty, ByteArray.empty)).1 key = true
 | [], key, k, h => by simp [posM] at h
 | r :: l, key, k, h => by
  unfold posM at h
  rw [List.takeWhile_cons] at h
  split at h
  ·
   rename_i e
   cases k with
   | zero => exact e
   | succ k => exact posM_lo l key k (by unfold posM; simpa using h)
  · simp at h
theorem posM_hi : ∀ (l : List Rw) (key : ByteArray), posM l key < l.length → ltB (l.getD (posM l key) (ByteArray.empty, ByteArray.empty)).1 key = false
 | [], key, h => by simp at h
 | r :: l, key, h => by
  unfold posM at h ⊢
  rw [List.takeWhile_cons] at h ⊢
  split
  ·
   rename_i e
   rw [if_pos e] at h
   exact posM_hi l key (by unfold posM; simpa using h)
  ·
   rename_i e
   exact Bool.eq_false_iff.2 e
theorem hasM_pos {l : List Rw} (h : Sorted l) (key : ByteArray) : hasM l key = (decide (posM l key < l.length) && decide ((l.getD (posM l key) (ByteArray.empty, ByteArray.empty)).1 = key)) :=
 hasM_is h key _ (posM_le l key) (posM_lo l key) (posM_hi l key)
theorem hasM_true {l : List Rw} (h : Sorted l) {key : ByteArray} (hh : hasM l key = true) : posM l key < l.length ∧ (l.getD (posM l key) (ByteArray.empty, ByteArray.empty)).1 = key := by
 rw [hasM_pos h, Bool.and_eq_true, decide_eq_true_eq, decide_eq_true_eq] at hh; exact hh
theorem C4_ok (l : List Rw) : OrcOK Tryd.prog (C4 l) := C2_ok.add _ false (mFind l) fun args H r H' cs h hc => by
 unfold mFind at h
 split at h
 ·
  cases h
  obtain ⟨rfl, rfl, rfl, rfl, h1, -⟩ := hc
  exact find_ok l _ h1
 · cases h
theorem set_ok (l : List Rw) (key val : ByteArray) (ht : Tidy l) : Eng.Spec Tryd.prog g0 65 [.ref 0 0, .d (.raw (.string key)), .d (.raw (.string val))] (tab0 l) (.d (.raw (.int .i64 (if fullM l key then 5 else 0)))) (tab2 (setM l key val)) := by
 refine spec_fn Tryd.func65 rfl fun {w N E a} hsim => ?_
 have hf := ht.few
 have hp := posM_le l key
 have e1 : hasM l key = true → (⟨2, [.d (.raw (.int .i64 (if fullM l key then 5 else 0)))], tab2 (setM l key val)⟩ : St) = ⟨2, [.d (.raw (.int .i64 0))], tab2 (putM l key val)⟩ := fun h => by unfold setM fullM; rw [h]; rfl
 have e2 : hasM l key = false → ((l.length : Int) == 16) = true → (⟨2, [.d (.raw (.int .i64 (if fullM l key then 5 else 0)))], tab2 (setM l key val)⟩ : St) = ⟨2, [.d (.raw (.int .i64 5))], tab2 l⟩ := fun h h1 => by
   have : (l.length == 16) = true := by rw [beq_iff_eq] at h1 ⊢; omega
   unfold setM fullM; rw [h, this]; rfl
 have e3 : hasM l key = false → ((l.length : Int) == 16) = false → (⟨2, [.d (.raw (.int .i64 (if fullM l key then 5 else 0)))], tab2 (setM l key val)⟩ : St) = ⟨2, [.d (.raw (.int .i64 0))], tab2 (putM l key val)⟩ := fun h h1 => by
   have : (l.length == 16) = false := by rw [beq_eq_false_iff_ne] at h1 ⊢; omega
   unfold setM fullM; rw [h, this]; rfl
 rcases bd (hasM l key) with hb1 | hb1
 ·
  exact gs (C4_ok l) Tryd.func65 (sr' := let za := l.getD (↑(posM l key) : Int).toNat (eB, eB); ⟨2, [vI 0], [(0, .obj 145 [.own 1]), (1, .row 148 2 l.length (fun j => mrg (j.beq (↑(posM l key) : Int).toNat) (D.agg (splice [rS za.fst, rS za.snd] 1 [rS val])) (rowEl l j)))]⟩) (cs := [(145 = 145), (148 = 148), (l.length = l.length), (rowEl l = rowEl l), (Tidy l), _, ((0 : Int) ≤ (↑(posM l key) : Int) ∧ (↑(posM l key) : Int) < (↑l.length : Int)), ((↑(posM l key) : Int).toNat < l.length)]) [true] true ⟨(by rfl), (by rfl), (by rfl), (by rfl), (by exact ht), hb1, (by (have := hasM_true ht.sorted hb1; omega)), (by (have := hasM_true ht.sorted hb1; omega)), trivial⟩ (by exact Says.trans (says_has l key val (hasM_true ht.sorted hb1).1 (hasM_true ht.sorted hb1).2 hb1 _ rfl _ (fun j => rfl)) (Says.of_eq (e1 hb1).symm)) hsim
 ·
  rcases bd ((↑l.length : Int) == (16 : Int)) with hb2 | hb2
  ·
   exact gs (C4_ok l) Tryd.func65 (sr' := ⟨2, [vI 5], [(0, .obj 145 [.own 1]), (1, .row 148 2 l.length (rowEl l))]⟩) (cs := [(145 = 145), (148 = 148), (l.length = l.length), (rowEl l = rowEl l), (Tidy l), _, _]) [false, true] true ⟨(by rfl), (by rfl), (by rfl), (by rfl), (by exact ht), hb1, hb2, trivial⟩ (by exact Says.trans (tab_ren l _ rfl) (Says.of_eq (e2 hb1 hb2).symm)) hsim
  ·
   have q0_ : ((0 : Int) ≤ (0 : Int) ∧ (0 : Int) ≤ (↑(posM l key) : Int) ∧ (↑(posM l key) : Int) ≤ (↑(posM l key) : Int) ∧ (↑(posM l key) : Int) ≤ (↑l.length : Int)) := (by omega)
   have q1_ : ((0 : Int) ≤ (↑(posM l key) : Int) ∧ (↑(posM l key) : Int) ≤ (↑l.length : Int) ∧ (↑l.length : Int) ≤ (↑l.length : Int)) := (by omega)
   have q2_ : ((1 : Nat) + ((↑l.length : Int) - (↑(posM l key) : Int)).toNat ≤ (9223372036854775807 : Nat) ∧ ((1 : Nat) + ((↑l.length : Int) - (↑(posM l key) : Int)).toNat) * (32 : Nat) ≤ (140737488355328 : Nat)) := (by omega)
   have q3_ : (((↑(posM l key) : Int) - (0 : Int)).toNat + ((1 : Nat) + ((↑l.length : Int) - (↑(posM l key) : Int)).toNat) ≤ (9223372036854775807 : Nat) ∧ (((↑(posM l key) : Int) - (0 : Int)).toNat + ((1 : Nat) + ((↑l.length : Int) - (↑(posM l key) : Int)).toNat)) * (32 : Nat) ≤ (140737488355328 : Nat)) := (by omega)
   exact gs (C4_ok l) Tryd.func65 (sr' := let za := (↑(posM l key) : Int); ⟨2, [vI 0], [(0, .obj 145 [.own 2]), (2, .row 148 2 ((za - 0).toNat + (1 + ((↑l.length : Int) - za).toNat)) (fun j => if j < (za - 0).toNat then rowEl l j else if j - (za - 0).toNat < 1 then segD true 2 (splice (List.map (fun j => (List.map D.raw (Value.agg #[Value.string (eM), Value.string (eM)]).cells.toList).getD (j % 2) default) (List.range 2)) 0 (D.agg [rS key, rS val]).cells) (j - (za - 0).toNat) else rowEl l (za.toNat + (j - (za - 0).toNat - 1))))]⟩) (cs := ((fun (c0 c1 c2 c3 : Prop) => [(145 = 145), (148 = 148), (l.length = l.length), (rowEl l = rowEl l), (Tidy l), _, _, c0, c1, c2, c3, c1, c2, c3, c0, c1, c2, c3, c1, c0, c2, c3, c2, c0, c3, c1, c0, c2, c3, c0, c2, c3, c2, c0, c3]) _ _ _ _)) [false, false] true ⟨(by rfl), (by rfl), (by rfl), (by rfl), (by exact ht), hb1, hb2, q0_, q1_, q2_, q3_, q1_, q2_, q3_, q0_, q1_, q2_, q3_, q1_, q0_, q2_, q3_, q2_, q0_, q3_, q1_, q0_, q2_, q3_, q0_, q2_, q3_, q2_, q0_, q3_, trivial⟩ (by exact Says.trans (says_ins l key val hb1 _ _ (by omega) _ (fun j hj => if_pos (by omega)) ((if_neg (by omega)).trans ((if_pos (by omega)).trans (by rw [show posM l key - ((((posM l key : Nat) : Int) - 0).toNat) = 0 by omega]; rfl))) (fun j hj hjn => (if_neg (by omega)).trans ((if_neg (by omega)).trans (congrArg (rowEl l) (by omega))))) (Says.of_eq (e3 hb1 hb2).symm)) hsim
end Go.Tab
