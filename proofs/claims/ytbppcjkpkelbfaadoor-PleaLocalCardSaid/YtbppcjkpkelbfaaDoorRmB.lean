/-
  Contracts of given functions, plain laws. No condition.
-/
import Derived.Test.YtbppcjkpkelbfaaDoorRmA
import Derived.Test.YtbppcjkpkelbfaaDoorTabN
import Derived.Test.YtbppcjkpkelbfaaDoorPleP
import Derived.Test.YtbppcjkpkelbfaaDoorPrzG
import Derived.Test.YtbppcjkpkelbfaaDoorMapE
namespace Go.Prf
open Go Go.Eng Go.Proofs Go.Tab Go.Plc
set_option maxRecDepth 100000
set_option maxHeartbeats 4000000
section
variable {C : Cx} {q q2 x y z : List Rw} {k : Int} {key val old s now : ByteArray} {e : Int}
theorem rdo_same0 (h : rdoM q k key val old = (s, e, q)) : Says C ⟨5, [.tup [.d (.raw (.string s)), .d (.raw (.int .i64 e))]], rm0 q x y z⟩ ⟨5, [.tup [.d (.raw (.string (rdoM q k key val old).1)), .d (.raw (.int .i64 (rdoM q k key val old).2.1))]], ru0 (rdoM q k key val old).2.2 x y z⟩ := by
 rw [h]; exact says_rename (rnm_renamed (ms := [(0, 0), (1, 5), (2, 6), (3, 7), (4, 8)]) rfl rfl) rfl
theorem rdo_app0 (h : rdoM q k key val old = (s, e, rput q key now)) (hh : hasM q key = false) (f : Nat → D) (h1 : ∀ j, j < q.length → f j = rowEl q j) (h2 : f q.length = .agg [.raw (.string key), .raw (.string now)]) :
  Says C ⟨5, [.tup [.d (.raw (.string s)), .d (.raw (.int .i64 e))]], [(0, .obj 107 [.own 5, .own 2, .own 3, .own 4]), (2, rrow x), (3, rrow y), (4, rrow z), (5, .row 142 2 (q.length + 1) f)]⟩ ⟨5, [.tup [.d (.raw (.string (rdoM q k key val old).1)), .d (.raw (.int .i64 (rdoM q k key val old).2.1))]], ru0 (rdoM q k key val old).2.2 x y z⟩ := by
 rw [h]
 have e : rput q key now = q ++ [(key, now)] := by unfold rput; rw [hh]; rfl
 rw [e]
 refine Says.trans (says_rowTo (k := 5) rfl (q ++ [(key, now)]).length (rowEl (q ++ [(key, now)])) (by simp) fun j hj => ?_) (says_rename (rnm_renamed (ms := [(0, 0), (5, 5), (2, 6), (3, 7), (4, 8)]) rfl rfl) rfl)
 by_cases hlt : j < q.length
 ·
  rw [h1 j hlt]
  unfold rowEl
  simp [List.getD, List.getElem?_append_left hlt]
 ·
  obtain rfl : j = q.length := by omega
  rw [h2]; unfold rowEl
  simp [List.getD]
theorem rdo_set0 (h : rdoM q k key val old = (s, e, rput q key now)) (hh : hasM q key = true) (f : Nat → D)
  (hf : ∀ j, f j = mrg (j.beq (atI q key).toNat) (D.agg [D.raw (Value.string (q.getD (atI q key).toNat (ByteArray.empty, ByteArray.empty)).1), D.raw (Value.string now)]) (rowEl q j)) :
  Says C ⟨5, [.tup [.d (.raw (.string s)), .d (.raw (.int .i64 e))]], [(0, .obj 107 [.own 1, .own 2, .own 3, .own 4]), (1, .row 142 2 q.length f), (2, rrow x), (3, rrow y), (4, rrow z)]⟩ ⟨5, [.tup [.d (.raw (.string (rdoM q k key val old).1)), .d (.raw (.int .i64 (rdoM q k key val old).2.1))]], ru0 (rdoM q k key val old).2.2 x y z⟩ := by
 rw [h]
 obtain ⟨hp, hk⟩ := hasM_idx hh
 have e : rput q key now = q.set (idxR q key) (key, now) := by unfold rput; rw [hh]; rfl
 have ea : (atI q key).toNat = idxR q key := by unfold atI; rw [hh]; rfl
 refine Says.trans (says_rowTo (k := 1) rfl (rput q key now).length (rowEl (rput q key now)) (by rw [e]; simp) fun j hj => ?_) (says_rename (rnm_renamed (ms := [(0, 0), (1, 5), (2, 6), (3, 7), (4, 8)]) rfl rfl) rfl)
 rw [hf, mrg_eq, e, ea, hk]
 unfold rowEl
 by_cases h : j = idxR q key
 ·
  subst h
  rw [if_pos (by simp)]
  simp [List.getD, hp]
 ·
  rw [if_neg (by simpa using h)]
  simp [List.getD, List.getElem?_set, Ne.symm h]
theorem rdo_to0 (h : rdoM q k key val old = (s, e, q2)) (t1 : Th) : Says C ⟨5, [.tup [.d (.raw (.string s)), .d (.raw (.int .i64 e))]], [(0, .obj 107 [.own 5, .own 2, .own 3, .own 4]), (1, t1), (2, rrow x), (3, rrow y), (4, rrow z), (5, rrow q2)]⟩ ⟨5, [.tup [.d (.raw (.string (rdoM q k key val old).1)), .d (.raw (.int .i64 (rdoM q k key val old).2.1))]], ru0 (rdoM q k key val old).2.2 x y z⟩ := by
 rw [h]; exact says_rename (rnm_renamed (ms := [(0, 0), (5, 5), (2, 6), (3, 7), (4, 8)]) rfl rfl) rfl
end
section
variable {C : Cx} {q q2 x y z : List Rw} {k : Int} {key val old s now : ByteArray} {e : Int}
theorem rdo_same1 (h : rdoM q k key val old = (s, e, q)) : Says C ⟨5, [.tup [.d (.raw (.string s)), .d (.raw (.int .i64 e))]], rm1 q x y z⟩ ⟨5, [.tup [.d (.raw (.string (rdoM q k key val old).1)), .d (.raw (.int .i64 (rdoM q k key val old).2.1))]], ru1 (rdoM q k key val old).2.2 x y z⟩ := by
 rw [h]; exact says_rename (rnm_renamed (ms := [(0, 0), (1, 5), (2, 6), (3, 7), (4, 8)]) rfl rfl) rfl
theorem rdo_app1 (h : rdoM q k key val old = (s, e, rput q key now)) (hh : hasM q key = false) (f : Nat → D) (h1 : ∀ j, j < q.length → f j = rowEl q j) (h2 : f q.length = .agg [.raw (.string key), .raw (.string now)]) :
  Says C ⟨5, [.tup [.d (.raw (.string s)), .d (.raw (.int .i64 e))]], [(0, .obj 107 [.own 1, .own 5, .own 3, .own 4]), (1, rrow x), (3, rrow y), (4, rrow z), (5, .row 142 2 (q.length + 1) f)]⟩ ⟨5, [.tup [.d (.raw (.string (rdoM q k key val old).1)), .d (.raw (.int .i64 (rdoM q k key val old).2.1))]], ru1 (rdoM q k key val old).2.2 x y z⟩ := by
 rw [h]
 have e : rput q key now = q ++ [(key, now)] := by unfold rput; rw [hh]; rfl
 rw [e]
 refine Says.trans (says_rowTo (k := 5) rfl (q ++ [(key, now)]).length (rowEl (q ++ [(key, now)])) (by simp) fun j hj => ?_) (says_rename (rnm_renamed (ms := [(0, 0), (1, 5), (5, 6), (3, 7), (4, 8)]) rfl rfl) rfl)
 by_cases hlt : j < q.length
 ·
  rw [h1 j hlt]
  unfold rowEl
  simp [List.getD, List.getElem?_append_left hlt]
 ·
  obtain rfl : j = q.length := by omega
  rw [h2]; unfold rowEl
  simp [List.getD]
theorem rdo_set1 (h : rdoM q k key val old = (s, e, rput q key now)) (hh : hasM q key = true) (f : Nat → D)
  (hf : ∀ j, f j = mrg (j.beq (atI q key).toNat) (D.agg [D.raw (Value.string (q.getD (atI q key).toNat (ByteArray.empty, ByteArray.empty)).1), D.raw (Value.string now)]) (rowEl q j)) :
  Says C ⟨5, [.tup [.d (.raw (.string s)), .d (.raw (.int .i64 e))]], [(0, .obj 107 [.own 1, .own 2, .own 3, .own 4]), (1, rrow x), (2, .row 142 2 q.length f), (3, rrow y), (4, rrow z)]⟩ ⟨5, [.tup [.d (.raw (.string (rdoM q k key val old).1)), .d (.raw (.int .i64 (rdoM q k key val old).2.1))]], ru1 (rdoM q k key val old).2.2 x y z⟩ := by
 rw [h]
 obtain ⟨hp, hk⟩ := hasM_idx hh
 have e : rput q key now = q.set (idxR q key) (key, now) := by unfold rput; rw [hh]; rfl
 have ea : (atI q key).toNat = idxR q key := by unfold atI; rw [hh]; rfl
 refine Says.trans (says_rowTo (k := 2) rfl (rput q key now).length (rowEl (rput q key now)) (by rw [e]; simp) fun j hj => ?_) (says_rename (rnm_renamed (ms := [(0, 0), (1, 5), (2, 6), (3, 7), (4, 8)]) rfl rfl) rfl)
 rw [hf, mrg_eq, e, ea, hk]
 unfold rowEl
 by_cases h : j = idxR q key
 ·
  subst h
  rw [if_pos (by simp)]
  simp [List.getD, hp]
 ·
  rw [if_neg (by simpa using h)]
  simp [List.getD, List.getElem?_set, Ne.symm h]
theorem rdo_to1 (h : rdoM q k key val old = (s, e, q2)) (t1 : Th) : Says C ⟨5, [.tup [.d (.raw (.string s)), .d (.raw (.int .i64 e))]], [(0, .obj 107 [.own 1, .own 5, .own 3, .own 4]), (1, rrow x), (2, t1), (3, rrow y), (4, rrow z), (5, rrow q2)]⟩ ⟨5, [.tup [.d (.raw (.string (rdoM q k key val old).1)), .d (.raw (.int .i64 (rdoM q k key val old).2.1))]], ru1 (rdoM q k key val old).2.2 x y z⟩ := by
 rw [h]; exact says_rename (rnm_renamed (ms := [(0, 0), (1, 5), (5, 6), (3, 7), (4, 8)]) rfl rfl) rfl
end
section
variable {C : Cx} {q q2 x y z : List Rw} {k : Int} {key val old s now : ByteArray} {e : Int}
theorem rdo_same2 (h : rdoM q k key val old = (s, e, q)) : Says C ⟨5, [.tup [.d (.raw (.string s)), .d (.raw (.int .i64 e))]], rm2 q x y z⟩ ⟨5, [.tup [.d (.raw (.string (rdoM q k key val old).1)), .d (.raw (.int .i64 (rdoM q k key val old).2.1))]], ru2 (rdoM q k key val old).2.2 x y z⟩ := by
 rw [h]; exact says_rename (rnm_renamed (ms := [(0, 0), (1, 5), (2, 6), (3, 7), (4, 8)]) rfl rfl) rfl
theorem rdo_app2 (h : rdoM q k key val old = (s, e, rput q key now)) (hh : hasM q key = false) (f : Nat → D) (h1 : ∀ j, j < q.length → f j = rowEl q j) (h2 : f q.length = .agg [.raw (.string key), .raw (.string now)]) :
  Says C ⟨5, [.tup [.d (.raw (.string s)), .d (.raw (.int .i64 e))]], [(0, .obj 107 [.own 1, .own 2, .own 5, .own 4]), (1, rrow x), (2, rrow y), (4, rrow z), (5, .row 142 2 (q.length + 1) f)]⟩ ⟨5, [.tup [.d (.raw (.string (rdoM q k key val old).1)), .d (.raw (.int .i64 (rdoM q k key val old).2.1))]], ru2 (rdoM q k key val old).2.2 x y z⟩ := by
 rw [h]
 have e : rput q key now = q ++ [(key, now)] := by unfold rput; rw [hh]; rfl
 rw [e]
 refine Says.trans (says_rowTo (k := 5) rfl (q ++ [(key, now)]).length (rowEl (q ++ [(key, now)])) (by simp) fun j hj => ?_) (says_rename (rnm_renamed (ms := [(0, 0), (1, 5), (2, 6), (5, 7), (4, 8)]) rfl rfl) rfl)
 by_cases hlt : j < q.length
 ·
  rw [h1 j hlt]
  unfold rowEl
  simp [List.getD, List.getElem?_append_left hlt]
 ·
  obtain rfl : j = q.length := by omega
  rw [h2]; unfold rowEl
  simp [List.getD]
theorem rdo_set2 (h : rdoM q k key val old = (s, e, rput q key now)) (hh : hasM q key = true) (f : Nat → D)
  (hf : ∀ j, f j = mrg (j.beq (atI q key).toNat) (D.agg [D.raw (Value.string (q.getD (atI q key).toNat (ByteArray.empty, ByteArray.empty)).1), D.raw (Value.string now)]) (rowEl q j)) :
  Says C ⟨5, [.tup [.d (.raw (.string s)), .d (.raw (.int .i64 e))]], [(0, .obj 107 [.own 1, .own 2, .own 3, .own 4]), (1, rrow x), (2, rrow y), (3, .row 142 2 q.length f), (4, rrow z)]⟩ ⟨5, [.tup [.d (.raw (.string (rdoM q k key val old).1)), .d (.raw (.int .i64 (rdoM q k key val old).2.1))]], ru2 (rdoM q k key val old).2.2 x y z⟩ := by
 rw [h]
 obtain ⟨hp, hk⟩ := hasM_idx hh
 have e : rput q key now = q.set (idxR q key) (key, now) := by unfold rput; rw [hh]; rfl
 have ea : (atI q key).toNat = idxR q key := by unfold atI; rw [hh]; rfl
 refine Says.trans (says_rowTo (k := 3) rfl (rput q key now).length (rowEl (rput q key now)) (by rw [e]; simp) fun j hj => ?_) (says_rename (rnm_renamed (ms := [(0, 0), (1, 5), (2, 6), (3, 7), (4, 8)]) rfl rfl) rfl)
 rw [hf, mrg_eq, e, ea, hk]
 unfold rowEl
 by_cases h : j = idxR q key
 ·
  subst h
  rw [if_pos (by simp)]
  simp [List.getD, hp]
 ·
  rw [if_neg (by simpa using h)]
  simp [List.getD, List.getElem?_set, Ne.symm h]
theorem rdo_to2 (h : rdoM q k key val old = (s, e, q2)) (t1 : Th) : Says C ⟨5, [.tup [.d (.raw (.string s)), .d (.raw (.int .i64 e))]], [(0, .obj 107 [.own 1, .own 2, .own 5, .own 4]), (1, rrow x), (2, rrow y), (3, t1), (4, rrow z), (5, rrow q2)]⟩ ⟨5, [.tup [.d (.raw (.string (rdoM q k key val old).1)), .d (.raw (.int .i64 (rdoM q k key val old).2.1))]], ru2 (rdoM q k key val old).2.2 x y z⟩ := by
 rw [h]; exact says_rename (rnm_renamed (ms := [(0, 0), (1, 5), (2, 6), (5, 7), (4, 8)]) rfl rfl) rfl
end
section
variable {C : Cx} {q q2 x y z : List Rw} {k : Int} {key val old s now : ByteArray} {e : Int}
theorem rdo_same3 (h : rdoM q k key val old = (s, e, q)) : Says C ⟨5, [.tup [.d (.raw (.string s)), .d (.raw (.int .i64 e))]], rm3 q x y z⟩ ⟨5, [.tup [.d (.raw (.string (rdoM q k key val old).1)), .d (.raw (.int .i64 (rdoM q k key val old).2.1))]], ru3 (rdoM q k key val old).2.2 x y z⟩ := by
 rw [h]; exact says_rename (rnm_renamed (ms := [(0, 0), (1, 5), (2, 6), (3, 7), (4, 8)]) rfl rfl) rfl
theorem rdo_app3 (h : rdoM q k key val old = (s, e, rput q key now)) (hh : hasM q key = false) (f : Nat → D) (h1 : ∀ j, j < q.length → f j = rowEl q j) (h2 : f q.length = .agg [.raw (.string key), .raw (.string now)]) :
  Says C ⟨5, [.tup [.d (.raw (.string s)), .d (.raw (.int .i64 e))]], [(0, .obj 107 [.own 1, .own 2, .own 3, .own 5]), (1, rrow x), (2, rrow y), (3, rrow z), (5, .row 142 2 (q.length + 1) f)]⟩ ⟨5, [.tup [.d (.raw (.string (rdoM q k key val old).1)), .d (.raw (.int .i64 (rdoM q k key val old).2.1))]], ru3 (rdoM q k key val old).2.2 x y z⟩ := by
 rw [h]
 have e : rput q key now = q ++ [(key, now)] := by unfold rput; rw [hh]; rfl
 rw [e]
 refine Says.trans (says_rowTo (k := 5) rfl (q ++ [(key, now)]).length (rowEl (q ++ [(key, now)])) (by simp) fun j hj => ?_) (says_rename (rnm_renamed (ms := [(0, 0), (1, 5), (2, 6), (3, 7), (5, 8)]) rfl rfl) rfl)
 by_cases hlt : j < q.length
 ·
  rw [h1 j hlt]
  unfold rowEl
  simp [List.getD, List.getElem?_append_left hlt]
 ·
  obtain rfl : j = q.length := by omega
  rw [h2]; unfold rowEl
  simp [List.getD]
theorem rdo_set3 (h : rdoM q k key val old = (s, e, rput q key now)) (hh : hasM q key = true) (f : Nat → D)
  (hf : ∀ j, f j = mrg (j.beq (atI q key).toNat) (D.agg [D.raw (Value.string (q.getD (atI q key).toNat (ByteArray.empty, ByteArray.empty)).1), D.raw (Value.string now)]) (rowEl q j)) :
  Says C ⟨5, [.tup [.d (.raw (.string s)), .d (.raw (.int .i64 e))]], [(0, .obj 107 [.own 1, .own 2, .own 3, .own 4]), (1, rrow x), (2, rrow y), (3, rrow z), (4, .row 142 2 q.length f)]⟩ ⟨5, [.tup [.d (.raw (.string (rdoM q k key val old).1)), .d (.raw (.int .i64 (rdoM q k key val old).2.1))]], ru3 (rdoM q k key val old).2.2 x y z⟩ := by
 rw [h]
 obtain ⟨hp, hk⟩ := hasM_idx hh
 have e : rput q key now = q.set (idxR q key) (key, now) := by unfold rput; rw [hh]; rfl
 have ea : (atI q key).toNat = idxR q key := by unfold atI; rw [hh]; rfl
 refine Says.trans (says_rowTo (k := 4) rfl (rput q key now).length (rowEl (rput q key now)) (by rw [e]; simp) fun j hj => ?_) (says_rename (rnm_renamed (ms := [(0, 0), (1, 5), (2, 6), (3, 7), (4, 8)]) rfl rfl) rfl)
 rw [hf, mrg_eq, e, ea, hk]
 unfold rowEl
 by_cases h : j = idxR q key
 ·
  subst h
  rw [if_pos (by simp)]
  simp [List.getD, hp]
 ·
  rw [if_neg (by simpa using h)]
  simp [List.getD, List.getElem?_set, Ne.symm h]
theorem rdo_to3 (h : rdoM q k key val old = (s, e, q2)) (t1 : Th) : Says C ⟨5, [.tup [.d (.raw (.string s)), .d (.raw (.int .i64 e))]], [(0, .obj 107 [.own 1, .own 2, .own 3, .own 5]), (1, rrow x), (2, rrow y), (3, rrow z), (4, t1), (5, rrow q2)]⟩ ⟨5, [.tup [.d (.raw (.string (rdoM q k key val old).1)), .d (.raw (.int .i64 (rdoM q k key val old).2.1))]], ru3 (rdoM q k key val old).2.2 x y z⟩ := by
 rw [h]; exact says_rename (rnm_renamed (ms := [(0, 0), (1, 5), (2, 6), (3, 7), (5, 8)]) rfl rfl) rfl
end
theorem at_lt (q : List Rw) (key : ByteArray) : decide (atI q key < 0) = !hasM q key := by
 unfold atI
 cases hasM q key
 · rfl
 · rw [if_pos rfl, decide_eq_false (by omega)]; rfl
theorem at_ge (q : List Rw) (key : ByteArray) : decide (atI q key ≥ 0) = hasM q key := by
 unfold atI
 cases hasM q key
 · rfl
 · rw [if_pos rfl, decide_eq_true (by omega)]
theorem at_in {q : List Rw} {key : ByteArray} (h : hasM q key = true) : 0 ≤ atI q key ∧ atI q key < (q.length : Int) := by
 unfold atI
 rw [if_pos h]
 have := (hasM_idx h).1
 omega
theorem at_inN {q : List Rw} {key : ByteArray} (h : hasM q key = true) : (atI q key).toNat < q.length := by
 have := at_in h; omega
theorem empty_app (b : ByteArray) : ByteArray.mk #[] ++ b = b := by
 apply ext_ba
 rw [append_ba]; rfl
theorem len16 (q : List Rw) : decide ((q.length : Int) ≥ 16) = decide (16 ≤ q.length) := by rw [decide_eq_decide]; omega
theorem empty_app2 (b : ByteArray) : ByteArray.empty ++ b = b := empty_app b
theorem Q10_ok (q x y z : List Rw) (hq : q.length ≤ 1000) : OrcOK Tryd.prog (Q10 q x y z) := Q0_ok.add _ false (mRAt0 q x y z) fun args H r H' cs h hc => by
 unfold mRAt0 at h
 split at h
 ·
  cases h; obtain ⟨hm, rfl, rfl, rfl, rfl, rfl, rfl, rfl, rfl, -⟩ := hc
  simp only [Bool.and_eq_true, beq_iff_eq] at hm
  obtain ⟨⟨⟨⟨rfl, rfl⟩, rfl⟩, rfl⟩, rfl⟩ := hm
  exact rat_ok0 q x y z _ hq
 · cases h
theorem Q11_ok (q x y z : List Rw) (hq : q.length ≤ 1000) : OrcOK Tryd.prog (Q11 q x y z) := Q0_ok.add _ false (mRAt1 q x y z) fun args H r H' cs h hc => by
 unfold mRAt1 at h
 split at h
 ·
  cases h; obtain ⟨hm, rfl, rfl, rfl, rfl, rfl, rfl, rfl, rfl, -⟩ := hc
  simp only [Bool.and_eq_true, beq_iff_eq] at hm
  obtain ⟨⟨⟨⟨rfl, rfl⟩, rfl⟩, rfl⟩, rfl⟩ := hm
  exact rat_ok1 q x y z _ hq
 · cases h
theorem Q12_ok (q x y z : List Rw) (hq : q.length ≤ 1000) : OrcOK Tryd.prog (Q12 q x y z) := Q0_ok.add _ false (mRAt2 q x y z) fun args H r H' cs h hc => by
 unfold mRAt2 at h
 split at h
 ·
  cases h; obtain ⟨hm, rfl, rfl, rfl, rfl, rfl, rfl, rfl, rfl, -⟩ := hc
  simp only [Bool.and_eq_true, beq_iff_eq] at hm
  obtain ⟨⟨⟨⟨rfl, rfl⟩, rfl⟩, rfl⟩, rfl⟩ := hm
  exact rat_ok2 q x y z _ hq
 · cases h
theorem Q13_ok (q x y z : List Rw) (hq : q.length ≤ 1000) : OrcOK Tryd.prog (Q13 q x y z) := Q0_ok.add _ false (mRAt3 q x y z) fun args H r H' cs h hc => by
 unfold mRAt3 at h
 split at h
 ·
  cases h; obtain ⟨hm, rfl, rfl, rfl, rfl, rfl, rfl, rfl, rfl, -⟩ := hc
  simp only [Bool.and_eq_true, beq_iff_eq] at hm
  obtain ⟨⟨⟨⟨rfl, rfl⟩, rfl⟩, rfl⟩, rfl⟩ := hm
  exact rat_ok3 q x y z _ hq
 · cases h
end Go.Prf

namespace Go.Prf
open Go Go.Eng Go.Tab Go.Plc
theorem has_perm {l q : List Rw} (hp : l.Perm q) (key : ByteArray) : hasM q key = hasM l key := by
 unfold hasM
 rw [Bool.eq_iff_iff, List.any_eq_true, List.any_eq_true]
 exact ⟨fun ⟨r, h, e⟩ => ⟨r, hp.mem_iff.2 h, e⟩, fun ⟨r, h, e⟩ => ⟨r, hp.mem_iff.1 h, e⟩⟩
theorem split_perm {l : List Rw} {i : Nat} (h : i < l.length) : l.Perm (l[i] :: l.eraseIdx i) := by
 conv => lhs; rw [← List.take_append_drop i l, List.drop_eq_getElem_cons h]
 rw [List.eraseIdx_eq_take_drop_succ]
 exact List.perm_middle
theorem set_perm {l : List Rw} {i : Nat} (h : i < l.length) (x : Rw) : (l.set i x).Perm (x :: l.eraseIdx i) := by
 rw [List.set_eq_take_append_cons_drop, if_pos h, List.eraseIdx_eq_take_drop_succ]
 exact List.perm_middle
theorem rhad_mem {q : List Rw} {key : ByteArray} (h : hasM q key = true) : (key, rhad q key) ∈ q := by
 obtain ⟨h1, h2⟩ := hasM_idx h
 unfold rhad; rw [if_pos h]
 have := getD_mem h1
 rwa [show q.getD (idxR q key) (ByteArray.empty, ByteArray.empty) = (key, (q.getD (idxR q key) (ByteArray.empty, ByteArray.empty)).2) from Prod.ext h2 rfl] at this
theorem rhad_perm {l q : List Rw} (hp : l.Perm q) (ht : Tidy l) (key : ByteArray) : rhad q key = hadM l key := by
 cases h : hasM q key with
 | true => exact (had_mem ht.sorted (hp.mem_iff.2 (rhad_mem h))).symm
 | false =>
  have h2 := h
  rw [has_perm hp] at h2
  unfold rhad hadM; rw [h, h2]; rfl
theorem rest_perm {l q : List Rw} (hp : l.Perm q) (ht : Tidy l) {key : ByteArray} (h : hasM l key = true) : (l.eraseIdx (posM l key)).Perm (q.eraseIdx (idxR q key)) := by
 obtain ⟨h1, h2⟩ := hasM_true ht.sorted h
 have hq : hasM q key = true := by rw [has_perm hp]; exact h
 obtain ⟨h3, h4⟩ := hasM_idx hq
 have e1 : l[posM l key] = (key, hadM l key) := by
  unfold hadM; rw [if_pos h]
  rw [getD_get h1] at h2 ⊢
  exact Prod.ext h2 rfl
 have e2 : q[idxR q key] = (key, hadM l key) := by
  rw [← rhad_perm hp ht]
  unfold rhad; rw [if_pos hq]
  rw [getD_get h3] at h4 ⊢
  exact Prod.ext h4 rfl
 have h5 := split_perm h1
 have h6 := split_perm h3
 rw [e1] at h5; rw [e2] at h6
 exact (List.perm_cons _).1 (h5.symm.trans (hp.trans h6))
theorem put_perm {l q : List Rw} (hp : l.Perm q) (ht : Tidy l) (key now : ByteArray) : (putM l key now).Perm (rput q key now) := by
 unfold putM rput
 rw [has_perm hp]
 split
 ·
  rename_i h
  have hq : hasM q key = true := by rw [has_perm hp]; exact h
  exact (set_perm (hasM_true ht.sorted h).1 _).trans ((List.Perm.cons _ (rest_perm hp ht h)).trans (set_perm (hasM_idx hq).1 _).symm)
 ·
  have h1 : (l.take (posM l key) ++ (key, now) :: l.drop (posM l key)).Perm ((key, now) :: l) := by
   refine List.perm_middle.trans ?_
   rw [List.take_append_drop]
  exact h1.trans ((List.Perm.cons _ hp).trans (List.perm_append_singleton _ _).symm)
theorem del_perm {l q : List Rw} (hp : l.Perm q) (ht : Tidy l) {key : ByteArray} (h : hasM l key = true) : (l.eraseIdx (posM l key)).Perm (rdel q key) := by
 obtain ⟨h1, h2⟩ := hasM_true ht.sorted h
 have h5 := split_perm h1
 have hq := (h5.symm.trans hp).filter fun r => !decide (r.1 = key)
 rw [getD_get h1] at h2
 rw [List.filter_cons_of_neg (by rw [h2]; simp)] at hq
 have hh := has_erase ht.sorted key h
 have : (l.eraseIdx (posM l key)).filter (fun r => !decide (r.1 = key)) = l.eraseIdx (posM l key) := by
  rw [List.filter_eq_self]
  intro r hr
  cases hx : decide (r.1 = key) with
  | false => rfl
  | true =>
   have : hasM (l.eraseIdx (posM l key)) key = true := List.any_eq_true.2 ⟨r, hr, hx⟩
   rw [hh] at this; cases this
 rw [this] at hq
 exact hq
theorem do_perm {l q : List Rw} (hp : l.Perm q) (ht : Tidy l) (k : Int) (key val old : ByteArray) : (rdoM q k key val old).1 = (doM l k key val old).1 ∧ (rdoM q k key val old).2.1 = (doM l k key val old).2.1 ∧ (doM l k key val old).2.2.Perm (rdoM q k key val old).2.2 := by
 have hh := has_perm hp key
 have hd := rhad_perm hp ht key
 have hl := hp.length_eq
 have hfew := ht.few
 unfold rdoM doM rnow
 rw [hh, hd]
 by_cases hc : checkM k key val old = 0
 ·
  rw [if_pos hc, if_pos hc]
  have hv := (check_sizes hc).2.2.1
  by_cases k2 : k = 2
  ·
   subst k2
   have e : fullM l key = decide (hasM l key = false ∧ 16 ≤ q.length) := by
    unfold fullM
    rw [← hl]
    cases hasM l key
    · rw [Bool.eq_iff_iff]; simp; omega
    · simp
   rw [if_pos (.inl rfl), if_pos rfl, e, if_neg (show ¬((2 : Int) = 3) by decide), if_neg (show ¬((2 : Int) = 3) by decide), if_neg (show ¬ 64 < val.size by omega)]
   by_cases hf : hasM l key = false ∧ 16 ≤ q.length
   · rw [if_pos hf, if_pos (by simpa using hf)]; exact ⟨rfl, rfl, hp⟩
   · rw [if_neg hf, if_neg (by simpa using hf)]; exact ⟨rfl, rfl, put_perm hp ht _ _⟩
  ·
   by_cases k3 : k = 3
   ·
    subst k3
    have e : fullM l key = decide (hasM l key = false ∧ 16 ≤ q.length) := by
     unfold fullM
     rw [← hl]
     cases hasM l key
     · rw [Bool.eq_iff_iff]; simp; omega
     · simp
    simp only [if_neg k2, if_pos (show (3 : Int) = 2 ∨ (3 : Int) = 3 from .inr rfl), or_true, e, if_true]
    by_cases hf : hasM l key = false ∧ 16 ≤ q.length
    · simp only [if_pos hf, decide_eq_true hf, if_true]; exact ⟨trivial, trivial, hp⟩
    ·
     simp only [if_neg hf, decide_eq_false hf, if_false, Bool.false_eq_true]
     by_cases hs : (hadM l key ++ val).size ≤ 64
     · rw [if_pos hs, if_neg (by omega)]; exact ⟨rfl, rfl, put_perm hp ht _ _⟩
     · rw [if_neg hs, if_pos (by omega)]; exact ⟨rfl, rfl, hp⟩
   ·
    rw [if_neg (by rintro (h | h) <;> contradiction), if_neg k2, if_neg k3]
    by_cases hx : hasM l key = true
    ·
     rw [if_pos hx, if_pos hx]
     by_cases k4 : k = 4
     ·
      subst k4
      rw [if_neg (show ¬((4 : Int) = 5) by decide), if_pos rfl, if_pos rfl]
      exact ⟨rfl, rfl, del_perm hp ht hx⟩
     ·
      rw [if_neg k4, if_neg k4]
      by_cases k5 : k = 5
      ·
       rw [if_pos k5, if_pos k5]
       by_cases ho : hadM l key = old
       · rw [if_pos ho, if_pos ho]; exact ⟨rfl, rfl, put_perm hp ht _ _⟩
       · rw [if_neg ho, if_neg ho]; exact ⟨rfl, rfl, hp⟩
      · rw [if_neg k5, if_neg k5]; exact ⟨rfl, rfl, hp⟩
    · rw [if_neg hx, if_neg hx]; exact ⟨rfl, rfl, hp⟩
 · rw [if_neg hc, if_neg hc]; exact ⟨rfl, rfl, hp⟩
end Go.Prf

namespace Go.Prf
open Go Go.Eng Go.Tab Go.Plc
theorem vas_mid {E : Env} {w : World} {N : Nat → Prop} {x y : AV} (h : ∀ v, VA E w N x v → VA E w N y v) (post : List AV) : ∀ (pre : List AV) (vs : List Value), VAs E w N (pre ++ x :: post) vs → VAs E w N (pre ++ y :: post) vs
 | [], vs, hv => VAs_imp_cons h (fun _ h => h) hv
 | z :: pre, vs, hv => VAs_imp_cons (x := z) (y := z) (fun _ h => h) (fun vs h' => vas_mid h post pre vs h') hv
theorem Sim_nilCell {C : Cx} {E : Env} {s : St} {a : Act} {w : World} (h : Sim C E s a w) {k T R sz : Nat} {el : Nat → D} (pre post : List AV) (hk : (s.newTh none s.fresh (.row R sz 0 el)).th k = some (.obj T (pre ++ .d (.raw (.slice none 0 0)) :: post))) :
  ∃ E', Sim C E' ((s.newTh none s.fresh (.row R sz 0 el)).setTh k (.obj T (pre ++ .own s.fresh :: post))) a w := by
 obtain ⟨h1, h2, h3, h4⟩ := h.fit.newTh (w' := w) none s.fresh (fresh_base s) (.row R sz 0 el) (.slice none 0 0) rfl rfl rfl (Nat.le_refl _) (fun _ _ _ => rfl) (fun b hb => by cases hb)
  (fun {E' N'} _ _ _ _ => ⟨[], ⟨by simp, .inl ⟨rfl, rfl⟩⟩, fun i hi => absurd hi (by omega)⟩)
 have h5 : Sim C (E.set s.fresh (.slice none 0 0)) (s.newTh none s.fresh (.row R sz 0 el)) a w := ⟨h1, h.newTh_tm h4, h.df⟩
 exact ⟨_, sim_th h5 (k := k) hk (t' := .obj T (pre ++ .own s.fresh :: post)) fun N v h => by
  obtain ⟨b, vs, e1, e2, e3⟩ := h
  refine ⟨b, vs, e1, e2, vas_mid (fun v hx => ?_) post pre vs e3⟩
  unfold VA at hx ⊢
  rw [(VD_raw_inv hx).1]
  exact ⟨by simp [Env.set], none, 0, 0, rfl⟩⟩
end Go.Prf

namespace Go.Prf
open Go Go.Eng Go.Tab Go.Plc
def mRDo0 (q x y z : List Rw) (v : ByteArray) (e : Int) (q2 : List Rw) : Mo
 | [.ref 0 0, .d (.agg [.raw (.int .i64 k), .raw (.string key), .raw (.string val), .raw (.string old)])], [(0, .obj M [.own 1, .own 2, .own 3, .own 4]), (1, .row R1 2 n1 l1), (2, .row R2 2 n2 l2), (3, .row R3 2 n3 l3), (4, .row R4 2 n4 l4)] => some (.tup [.d (.raw (.string v)), .d (.raw (.int .i64 e))], ru0 q2 x y z, [(M == 107 && R1 == 142 && R2 == R1 && R3 == R1 && R4 == R1) = true, n1 = q.length, l1 = rowEl q, n2 = x.length, l2 = rowEl x, n3 = y.length, l3 = rowEl y, n4 = z.length, l4 = rowEl z, q.length ≤ 16 ∧ (∀ r ∈ q, r.2.size ≤ 64) ∧ v = (rdoM q k key val old).1 ∧ e = (rdoM q k key val old).2.1 ∧ q2 = (rdoM q k key val old).2.2])
 | _, _ => none
def U0 (q x y z : List Rw) (v : ByteArray) (e : Int) (q2 : List Rw) : Orc := ((Orc.none Go.Bla.gl).add 33 false (mPlcC 0)).add 57 false (mRDo0 q x y z v e q2)
def mRDo1 (q x y z : List Rw) (v : ByteArray) (e : Int) (q2 : List Rw) : Mo
 | [.ref 0 1, .d (.agg [.raw (.int .i64 k), .raw (.string key), .raw (.string val), .raw (.string old)])], [(0, .obj M [.own 1, .own 2, .own 3, .own 4]), (1, .row R1 2 n1 l1), (2, .row R2 2 n2 l2), (3, .row R3 2 n3 l3), (4, .row R4 2 n4 l4)] => some (.tup [.d (.raw (.string v)), .d (.raw (.int .i64 e))], ru1 q2 x y z, [(M == 107 && R1 == 142 && R2 == R1 && R3 == R1 && R4 == R1) = true, n1 = x.length, l1 = rowEl x, n2 = q.length, l2 = rowEl q, n3 = y.length, l3 = rowEl y, n4 = z.length, l4 = rowEl z, q.length ≤ 16 ∧ (∀ r ∈ q, r.2.size ≤ 64) ∧ v = (rdoM q k key val old).1 ∧ e = (rdoM q k key val old).2.1 ∧ q2 = (rdoM q k key val old).2.2])
 | _, _ => none
def U1 (q x y z : List Rw) (v : ByteArray) (e : Int) (q2 : List Rw) : Orc := ((Orc.none Go.Bla.gl).add 33 false (mPlcC 1)).add 57 false (mRDo1 q x y z v e q2)
def mRDo2 (q x y z : List Rw) (v : ByteArray) (e : Int) (q2 : List Rw) : Mo
 | [.ref 0 2, .d (.agg [.raw (.int .i64 k), .raw (.string key), .raw (.string val), .raw (.string old)])], [(0, .obj M [.own 1, .own 2, .own 3, .own 4]), (1, .row R1 2 n1 l1), (2, .row R2 2 n2 l2), (3, .row R3 2 n3 l3), (4, .row R4 2 n4 l4)] => some (.tup [.d (.raw (.string v)), .d (.raw (.int .i64 e))], ru2 q2 x y z, [(M == 107 && R1 == 142 && R2 == R1 && R3 == R1 && R4 == R1) = true, n1 = x.length, l1 = rowEl x, n2 = y.length, l2 = rowEl y, n3 = q.length, l3 = rowEl q, n4 = z.length, l4 = rowEl z, q.length ≤ 16 ∧ (∀ r ∈ q, r.2.size ≤ 64) ∧ v = (rdoM q k key val old).1 ∧ e = (rdoM q k key val old).2.1 ∧ q2 = (rdoM q k key val old).2.2])
 | _, _ => none
def U2 (q x y z : List Rw) (v : ByteArray) (e : Int) (q2 : List Rw) : Orc := ((Orc.none Go.Bla.gl).add 33 false (mPlcC 2)).add 57 false (mRDo2 q x y z v e q2)
def mRDo3 (q x y z : List Rw) (v : ByteArray) (e : Int) (q2 : List Rw) : Mo
 | [.ref 0 3, .d (.agg [.raw (.int .i64 k), .raw (.string key), .raw (.string val), .raw (.string old)])], [(0, .obj M [.own 1, .own 2, .own 3, .own 4]), (1, .row R1 2 n1 l1), (2, .row R2 2 n2 l2), (3, .row R3 2 n3 l3), (4, .row R4 2 n4 l4)] => some (.tup [.d (.raw (.string v)), .d (.raw (.int .i64 e))], ru3 q2 x y z, [(M == 107 && R1 == 142 && R2 == R1 && R3 == R1 && R4 == R1) = true, n1 = x.length, l1 = rowEl x, n2 = y.length, l2 = rowEl y, n3 = z.length, l3 = rowEl z, n4 = q.length, l4 = rowEl q, q.length ≤ 16 ∧ (∀ r ∈ q, r.2.size ≤ 64) ∧ v = (rdoM q k key val old).1 ∧ e = (rdoM q k key val old).2.1 ∧ q2 = (rdoM q k key val old).2.2])
 | _, _ => none
def U3 (q x y z : List Rw) (v : ByteArray) (e : Int) (q2 : List Rw) : Orc := ((Orc.none Go.Bla.gl).add 33 false (mPlcC 3)).add 57 false (mRDo3 q x y z v e q2)
def rmT (T : T4) : List (Nat × Th) := rm0 T.a T.b T.c T.d
def ruT (T : T4) : List (Nat × Th) := ru0 T.a T.b T.c T.d
def rnext (T : T4) (o : OpT) : T4 := putT T (plc o.2.1) (rdoM (pickT T (plc o.2.1)) o.1 o.2.1 o.2.2.1 o.2.2.2).2.2
structure RelT (T Q : T4) : Prop where
 t : TidyT T
 a : T.a.Perm Q.a
 b : T.b.Perm Q.b
 c : T.c.Perm Q.c
 d : T.d.Perm Q.d
def mTellR (Q Q' : T4) (e : Int) (v : ByteArray) : Mo
 | [.ref 0 0, .d (.agg [.raw (.int .i64 k), .raw (.string key), .raw (.string val), .raw (.string old)])], [(0, .obj M [.own 1, .own 2, .own 3, .own 4]), (1, .row R1 2 n1 l1), (2, .row R2 2 n2 l2), (3, .row R3 2 n3 l3), (4, .row R4 2 n4 l4)] => some (.d (.agg [.raw (.int .i64 e), .raw (.string v)]), ruT Q', [(M == 107 && R1 == 142 && R2 == R1 && R3 == R1 && R4 == R1) = true, n1 = Q.a.length, l1 = rowEl Q.a, n2 = Q.b.length, l2 = rowEl Q.b, n3 = Q.c.length, l3 = rowEl Q.c, n4 = Q.d.length, l4 = rowEl Q.d, (∃ T, RelT T Q ∧ (e, v) = tellM T (k, key, val, old)) ∧ Q' = rnext Q (k, key, val, old) ∧ key.size ≤ 1073741824])
 | _, _ => none
end Go.Prf

namespace Go.Prf
open Go Go.Eng Go.Tab Go.Plc
end Go.Prf

namespace Go.Prf
open Go Go.Eng Go.Tab Go.Plc
def caC (c : Ca) : List AV := [.d (.raw (.int .i64 c.cl)), .d (.raw (.int .i64 c.n)), .d (.raw (.int .i64 c.o.1)), .d (.raw (.string c.o.2.1)), .d (.raw (.string c.o.2.2.1)), .d (.raw (.string c.o.2.2.2)), .d (.raw (.int .i64 c.fr)), .d (.raw (.int .i64 c.to)), .d (.raw (.int .i64 c.a.1)), .d (.raw (.string c.a.2))]
def ptC (p : Pt) : List AV := [.d (.raw (.int .i64 p.at')), .d (.raw (.int .i64 p.cl)), .d (.raw (.int .i64 p.n)), .d (.raw (.int .i64 p.a.1)), .d (.raw (.string p.a.2))]
def on1 (c : Ca) (cs : List Ca) (k j : Int) : St := mk 0 95 [(0, .d (.list 10 cs.length (caEl cs))), (1, .d (.raw (.int .i64 (k)))), (5, .ref 0 0), (6, .d (.raw (.int .i64 (j))))] [(0, .obj 45 (caC c))]
def fi1 (p : Pt) (cs : List Ca) (n i : Int) : St := mk 0 28 [(3, .ref 0 0), (7, .d (.list 10 cs.length (caEl cs))), (8, .d (.raw (.int .i64 (n)))), (9, .d (.raw (.int .i64 (i))))] [(0, .obj 53 (ptC p))]
def tw1 (p : Pt) (ps : List Pt) (k j : Int) : St := mk 0 88 [(1, .d (.list 5 ps.length (ptEl ps))), (2, .d (.raw (.int .i64 (k)))), (7, .ref 0 0), (9, .d (.raw (.int .i64 (j))))] [(0, .obj 53 (ptC p))]
def kc1 (cs : List Ca) (ps : List Pt) (n i : Int) : St := mk 0 127 [(0, .d (.list 10 cs.length (caEl cs))), (1, .d (.list 5 ps.length (ptEl ps))), (4, .ref 0 0), (27, .d (.list 10 cs.length (caEl cs))), (28, .d (.raw (.int .i64 (n)))), (29, .d (.raw (.int .i64 (i))))] [(0, .obj 60 [.d (.raw (.int .i64 0)), .d (.raw (.int .i64 0))])]
def kc2 (cs : List Ca) (ps : List Pt) (n i : Int) : St := mk 0 127 [(0, .d (.list 10 cs.length (caEl cs))), (1, .d (.list 5 ps.length (ptEl ps))), (4, .ref 0 0), (39, .d (.list 5 ps.length (ptEl ps))), (40, .d (.raw (.int .i64 (n)))), (41, .d (.raw (.int .i64 (i))))] [(0, .obj 60 [.d (.raw (.int .i64 0)), .d (.raw (.int .i64 0))])]
def kc3 (cs : List Ca) (ps : List Pt) (n i : Int) : St := mk 0 127 [(0, .d (.list 10 cs.length (caEl cs))), (1, .d (.list 5 ps.length (ptEl ps))), (4, .ref 0 0), (52, .d (.list 10 cs.length (caEl cs))), (53, .d (.raw (.int .i64 (n)))), (54, .d (.raw (.int .i64 (i))))] [(0, .obj 60 [.d (.raw (.int .i64 0)), .d (.raw (.int .i64 0))])]
def kc4 (c : Ca) (cs : List Ca) (ps : List Pt) (b : Bool) (n i m j : Int) : St := mk 0 127 [(0, .d (.list 10 cs.length (caEl cs))), (1, .d (.list 5 ps.length (ptEl ps))), (4, .ref 0 0), (8, .d (.raw (.int .i64 (i)))), (9, .ref 1 0), (10, .d (.raw (.bool b))), (52, .d (.list 10 cs.length (caEl cs))), (53, .d (.raw (.int .i64 (n)))), (54, .d (.raw (.int .i64 (i)))), (62, .d (.list 5 ps.length (ptEl ps))), (63, .d (.raw (.int .i64 (m)))), (64, .d (.raw (.int .i64 (j))))] [(0, .obj 60 [.d (.raw (.int .i64 0)), .d (.raw (.int .i64 0))]), (1, .obj 45 (caC c))]
def kc5 (cs : List Ca) (ps : List Pt) (Q : T4) (n i : Int) : St := mk 0 127 [(0, .d (.list 10 cs.length (caEl cs))), (4, .ref 0 0), (13, .ref 1 0), (91, .d (.list 5 ps.length (ptEl ps))), (92, .d (.raw (.int .i64 (n)))), (93, .d (.raw (.int .i64 (i))))] [(0, .obj 60 [.d (.raw (.int .i64 0)), .d (.raw (.int .i64 0))]), (1, .obj 107 [.own 2, .own 3, .own 4, .own 5]), (2, rrow Q.a), (3, rrow Q.b), (4, rrow Q.c), (5, rrow Q.d)]
def mFind (cs : List Ca) (f : Int) : Mo
 | [.d (.list s k el), .d (.agg [.raw (.int .i64 m), .raw (.int .i64 c), .raw (.int .i64 n), .raw (.int .i64 er), .raw (.string v)])], [] => some (.d (.raw (.int .i64 f)), [], [s = 10, k = cs.length, el = caEl cs, cs.length ≤ 1000000 ∧ f = fnd ⟨m, c, n, (er, v)⟩ cs 0])
 | _, _ => none
def mOne (cs : List Ca) (r : Bool) : Mo
 | [.d (.list s k el), .d (.raw (.int .i64 i))], [] => some (.d (.raw (.bool r)), [], [s = 10, k = cs.length, el = caEl cs, cs.length ≤ 1000000 ∧ 0 ≤ i ∧ i < cs.length ∧ r = oneM cs i.toNat])
 | _, _ => none
def mTwo (cs : List Ca) (ps : List Pt) (r : Bool) : Mo
 | [.d (.list s k el), .d (.list s2 k2 el2), .d (.raw (.int .i64 i))], [] => some (.d (.raw (.bool r)), [], [s = 10, k = cs.length, el = caEl cs, s2 = 5, k2 = ps.length, el2 = ptEl ps, cs.length ≤ 1000000 ∧ ps.length ≤ 1000000 ∧ 0 ≤ i ∧ i < ps.length ∧ r = twoM cs ps i.toNat])
 | _, _ => none
def J1 (cs : List Ca) (f : Int) : Orc := (Orc.none gz0).add 47 false (mFind cs f)
def J2 (cs : List Ca) (ps : List Pt) (Q Q' : T4) (r1 r2 : Bool) (f e : Int) (v : ByteArray) : Orc := ((((Orc.none gB).add 47 false (mFind cs f)).add 45 false (mOne cs r1)).add 46 false (mTwo cs ps r2)).add 48 false (mTellR Q Q' e v)
def mRefC (cs : List Ca) (ps : List Pt) (r : Int × Int × Int) : Mo
 | [.d (.list s k el), .d (.list s2 k2 el2)], [] => some (.tup [.d (.agg [.raw (.int .i64 r.1), .raw (.int .i64 r.2.1)]), .d (.raw (.int .i64 r.2.2))], [], [s = 10, k = cs.length, el = caEl cs, s2 = 5, k2 = ps.length, el2 = ptEl ps, cs.length ≤ 1000000 ∧ ps.length ≤ 1000000 ∧ r = checkP cs ps])
 | _, _ => none
end Go.Prf

namespace Go.Prf
open Go Go.Eng Go.Tab Go.Plc
def pckF : List PartT → Int → Int → Int → Int × Int × Int
 | [], _, p, q => (p, q, 0)
 | x :: r, i, p, q => if ((checkP x.1 x.2).2.2 != 0) = true then (0, 0, (checkP x.1 x.2).2.2) else if ((checkP x.1 x.2).1 != 0 && q == 0) = true then pckF r (i + 1) i (checkP x.1 x.2).1 else pckF r (i + 1) p q
def mPck (l : List PartT) (r : Int × Int × Int) : Mo
 | [.d (.list z k el)], [] => some (.tup [.d (.raw (.int .i64 r.1)), .d (.raw (.int .i64 r.2.1)), .d (.raw (.int .i64 r.2.2))], [], [z = 2, k = l.length, el = paEl l, l.length ≤ 1000000 ∧ (∀ x ∈ l, x.1.length ≤ 1000000) ∧ r = pckF l 0 0 0])
 | _, _ => none
def W1 (x : PartT) (r : Int × Int × Int) : Orc := (Orc.none gB).add 19 false (mChkP x.1 x.2 r)
def W2 (cs : List Ca) (ps : List Pt) (l : List PartT) (r : Bool) (u v : Int × Int × Int) : Orc := ((((((Orc.none gB).add 12 false (mSpl cs ps l)).add 10 false (mLarge cs ps r)).add 14 false (mIdC2 cs)).add 15 false (mIdP2 ps)).add 11 false mParts).add 20 false (mRefC cs ps u) |>.add 29 false (mPck l v)
def cj1 (l : List PartT) (p q n i : Int) : St := mk 0 42 [(5, .d (.raw (.int .i64 (p)))), (6, .d (.raw (.int .i64 (q)))), (12, .d (.list 2 l.length (paEl l))), (13, .d (.raw (.int .i64 (n)))), (14, .d (.raw (.int .i64 (i))))] []
def lj1 (cs : List Ca) (ps : List Pt) (n i : Int) : St := mk 0 90 [(0, .d (.list 10 cs.length (caEl cs))), (1, .d (.list 5 ps.length (ptEl ps))), (18, .d (.list 5 ps.length (ptEl ps))), (19, .d (.raw (.int .i64 (n)))), (20, .d (.raw (.int .i64 (i))))] []
end Go.Prf
