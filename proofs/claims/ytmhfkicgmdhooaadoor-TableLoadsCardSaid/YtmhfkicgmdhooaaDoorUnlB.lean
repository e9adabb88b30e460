/-
  Contracts of given functions, or plain laws that they need. No condition.
-/
import Derived.Test.YtmhfkicgmdhooaaDoorUnlA
import Derived.Test.YtmhfkicgmdhooaaDoorUnpT
namespace Go.Tab
open Go Go.Eng Go.Proofs Go.Nest
set_option linter.unusedVariables false
set_option linter.unusedSimpArgs false
set_option maxRecDepth 100000
set_option maxHeartbeats 4000000
/-- The texts that are a table's. -/
def goodT (text : ByteArray) : Prop := (unpR text).2 = 0 ∧ (unpR text).1.length % 2 = 0 ∧ (unpR text).1.length ≤ 32 ∧ ∀ j, j < (unpR text).1.length / 2 → okAt (unpR text).1 j
theorem tmod_two (n : Nat) : ((n : Int).tmod 2 != 0) = (n % 2 != 0) := by
  show (((n % 2 : Nat) : Int) != 0) = _
  rw [Bool.eq_iff_iff, bne_iff_ne, bne_iff_ne]; omega
theorem load_good (m : Int) (e1 e2 : Value) (h1 : ErrV e1) (h2 : ErrV e2) (text : ByteArray) (hs : text.size ≤ 1073741824) (hg : goodT text) : Eng.Spec Tryd.prog (glU m e1 e2) 19 [.d (.raw (.string text))] [] (.tup [.ref 0 0, .d (.raw (.int .i64 0))]) (tab0 (prs (unpR text).1 ((unpR text).1.length / 2))) := by
  refine spec_fn Tryd.func19 rfl fun {w N E a} hsim => ?_
  obtain ⟨g1, g2, g3, g4⟩ := hg
  obtain ⟨r, hr⟩ : ∃ r, r = (unpR text).1 := ⟨_, rfl⟩
  obtain ⟨f, hf⟩ : ∃ f, f = (unpR text).2 := ⟨_, rfl⟩
  rw [← hf] at g1
  rw [← hr] at g2 g3 g4 ⊢
  have c1 : (f != (0 : Int)) = false := by rw [g1]; rfl
  have c2 : ((r.length : Int).tmod 2 != (0 : Int)) = false := by rw [tmod_two, g2]; rfl
  rcases Bool.eq_false_or_eq_true (f != (0 : Int)) with hb1 | hb1
  · skip
    exact go_ret (LO_ok m e1 e2 h1 h2 r f) rfl rfl Tryd.func19 (sr' := ⟨0, [.tup [.d (.raw (Value.pointer none)), .d (.raw (.int .i64 ((4 : Int))))]], []⟩) (cs := [(text.size ≤ (1073741824 : Nat)), (r = (unpR text).fst), (f = (unpR text).snd), ((f != (0 : Int)) = true)]) [true] true (by kernel_rfl) (by kernel_rfl) ⟨(by first | exact hs | exact hr | exact hf | decide), (by first | exact hs | exact hr | exact hf | decide), (by first | exact hs | exact hr | exact hf | decide), hb1, trivial⟩ (by first | exact absurd hb1 (by rw [c1]; decide) | exact absurd hb2 (by rw [c2]; decide) | exact absurd (of_decide_eq_true hb3) (by omega)) hsim
  · skip
    rcases Bool.eq_false_or_eq_true ((↑r.length : Int).tmod (2 : Int) != (0 : Int)) with hb2 | hb2
    · skip
      exact go_ret (LO_ok m e1 e2 h1 h2 r f) rfl rfl Tryd.func19 (sr' := ⟨0, [.tup [.d (.raw (Value.pointer none)), .d (.raw (.int .i64 ((4 : Int))))]], []⟩) (cs := [(text.size ≤ (1073741824 : Nat)), (r = (unpR text).fst), (f = (unpR text).snd), ((f != (0 : Int)) = false), (Nz 2), (((↑r.length : Int).tmod (2 : Int) != (0 : Int)) = true)]) [false, true] true (by kernel_rfl) (by kernel_rfl) ⟨(by first | exact hs | exact hr | exact hf | decide), (by first | exact hs | exact hr | exact hf | decide), (by first | exact hs | exact hr | exact hf | decide), hb1, (by decide), hb2, trivial⟩ (by first | exact absurd hb1 (by rw [c1]; decide) | exact absurd hb2 (by rw [c2]; decide) | exact absurd (of_decide_eq_true hb3) (by omega)) hsim
    · skip
      rcases Bool.eq_false_or_eq_true (decide ((↑r.length : Int) > (32 : Int))) with hb3 | hb3
      · skip
        exact go_ret (LO_ok m e1 e2 h1 h2 r f) rfl rfl Tryd.func19 (sr' := ⟨0, [.tup [.d (.raw (Value.pointer none)), .d (.raw (.int .i64 ((4 : Int))))]], []⟩) (cs := [(text.size ≤ (1073741824 : Nat)), (r = (unpR text).fst), (f = (unpR text).snd), ((f != (0 : Int)) = false), (Nz 2), (((↑r.length : Int).tmod (2 : Int) != (0 : Int)) = false), ((decide ((↑r.length : Int) > (32 : Int))) = true)]) [false, false, true] true (by kernel_rfl) (by kernel_rfl) ⟨(by first | exact hs | exact hr | exact hf | decide), (by first | exact hs | exact hr | exact hf | decide), (by first | exact hs | exact hr | exact hf | decide), hb1, (by decide), hb2, hb3, trivial⟩ (by first | exact absurd hb1 (by rw [c1]; decide) | exact absurd hb2 (by rw [c2]; decide) | exact absurd (of_decide_eq_true hb3) (by omega)) hsim
      · skip
        refine go_head (LO_ok m e1 e2 h1 h2 r f) rfl rfl (k' := loopAt Tryd.f19 0) (s' := mk 0 81 [(4, .d (.list 1 (r.length) (strEl r))), (6, .ref 0 0), (7, .d (.raw (.int .i64 ((0 : Int)))))] [(0, .obj 56 [.own 1]), (1, .row 60 2 0 (rowEl []))]) (cs := [(text.size ≤ (1073741824 : Nat)), (r = (unpR text).fst), (f = (unpR text).snd), ((f != (0 : Int)) = false), (Nz 2), (((↑r.length : Int).tmod (2 : Int) != (0 : Int)) = false), ((decide ((↑r.length : Int) > (32 : Int))) = false)]) [false, false, false] [4,6,7] (by kernel_rfl) (by kernel_rfl) ⟨(by first | exact hs | exact hr | exact hf | decide), (by first | exact hs | exact hr | exact hf | decide), (by first | exact hs | exact hr | exact hf | decide), hb1, (by decide), hb2, hb3, trivial⟩ hsim fun E a w hsim => ?_
        exact ld_good h1 h2 r f (r.length / 2) (by omega) (by omega) g4 (r.length / 2) 0 0 rfl (by omega) [] rfl E a w hsim
theorem load_bad (m : Int) (e1 e2 : Value) (h1 : ErrV e1) (h2 : ErrV e2) (text : ByteArray) (hs : text.size ≤ 1073741824) (hg : ¬ goodT text) : Eng.Spec Tryd.prog (glU m e1 e2) 19 [.d (.raw (.string text))] [] (.tup [.d (.raw (.pointer none)), .d (.raw (.int .i64 4))]) [] := by
  refine spec_fn Tryd.func19 rfl fun {w N E a} hsim => ?_
  unfold goodT at hg
  obtain ⟨r, hr⟩ : ∃ r, r = (unpR text).1 := ⟨_, rfl⟩
  obtain ⟨f, hf⟩ : ∃ f, f = (unpR text).2 := ⟨_, rfl⟩
  rw [← hf, ← hr] at hg
  have key : (f != (0 : Int)) = false → ((r.length : Int).tmod 2 != (0 : Int)) = false → decide ((r.length : Int) > 32) = false → ∃ j, 0 ≤ j ∧ j < r.length / 2 ∧ ¬ okAt r j := fun c1 c2 c3 => by
    rw [tmod_two] at c2
    have c1 : f = 0 := by simpa using c1
    have c2 : r.length % 2 = 0 := by simpa using c2
    have c3 := of_decide_eq_false c3
    apply Classical.byContradiction
    intro hn
    apply hg
    refine ⟨c1, c2, by omega, fun j hj => ?_⟩
    apply Classical.byContradiction
    intro ho
    exact hn ⟨j, Nat.zero_le _, hj, ho⟩
  rcases Bool.eq_false_or_eq_true (f != (0 : Int)) with hb1 | hb1
  · skip
    exact go_ret (LO_ok m e1 e2 h1 h2 r f) rfl rfl Tryd.func19 (sr' := ⟨0, [.tup [.d (.raw (Value.pointer none)), .d (.raw (.int .i64 ((4 : Int))))]], []⟩) (cs := [(text.size ≤ (1073741824 : Nat)), (r = (unpR text).fst), (f = (unpR text).snd), ((f != (0 : Int)) = true)]) [true] true (by kernel_rfl) (by kernel_rfl) ⟨(by first | exact hs | exact hr | exact hf | decide), (by first | exact hs | exact hr | exact hf | decide), (by first | exact hs | exact hr | exact hf | decide), hb1, trivial⟩ (by rfl) hsim
  · skip
    rcases Bool.eq_false_or_eq_true ((↑r.length : Int).tmod (2 : Int) != (0 : Int)) with hb2 | hb2
    · skip
      exact go_ret (LO_ok m e1 e2 h1 h2 r f) rfl rfl Tryd.func19 (sr' := ⟨0, [.tup [.d (.raw (Value.pointer none)), .d (.raw (.int .i64 ((4 : Int))))]], []⟩) (cs := [(text.size ≤ (1073741824 : Nat)), (r = (unpR text).fst), (f = (unpR text).snd), ((f != (0 : Int)) = false), (Nz 2), (((↑r.length : Int).tmod (2 : Int) != (0 : Int)) = true)]) [false, true] true (by kernel_rfl) (by kernel_rfl) ⟨(by first | exact hs | exact hr | exact hf | decide), (by first | exact hs | exact hr | exact hf | decide), (by first | exact hs | exact hr | exact hf | decide), hb1, (by decide), hb2, trivial⟩ (by rfl) hsim
    · skip
      rcases Bool.eq_false_or_eq_true (decide ((↑r.length : Int) > (32 : Int))) with hb3 | hb3
      · skip
        exact go_ret (LO_ok m e1 e2 h1 h2 r f) rfl rfl Tryd.func19 (sr' := ⟨0, [.tup [.d (.raw (Value.pointer none)), .d (.raw (.int .i64 ((4 : Int))))]], []⟩) (cs := [(text.size ≤ (1073741824 : Nat)), (r = (unpR text).fst), (f = (unpR text).snd), ((f != (0 : Int)) = false), (Nz 2), (((↑r.length : Int).tmod (2 : Int) != (0 : Int)) = false), ((decide ((↑r.length : Int) > (32 : Int))) = true)]) [false, false, true] true (by kernel_rfl) (by kernel_rfl) ⟨(by first | exact hs | exact hr | exact hf | decide), (by first | exact hs | exact hr | exact hf | decide), (by first | exact hs | exact hr | exact hf | decide), hb1, (by decide), hb2, hb3, trivial⟩ (by rfl) hsim
      · skip
        refine go_head (LO_ok m e1 e2 h1 h2 r f) rfl rfl (k' := loopAt Tryd.f19 0) (s' := mk 0 81 [(4, .d (.list 1 (r.length) (strEl r))), (6, .ref 0 0), (7, .d (.raw (.int .i64 ((0 : Int)))))] [(0, .obj 56 [.own 1]), (1, .row 60 2 0 (rowEl []))]) (cs := [(text.size ≤ (1073741824 : Nat)), (r = (unpR text).fst), (f = (unpR text).snd), ((f != (0 : Int)) = false), (Nz 2), (((↑r.length : Int).tmod (2 : Int) != (0 : Int)) = false), ((decide ((↑r.length : Int) > (32 : Int))) = false)]) [false, false, false] [4,6,7] (by kernel_rfl) (by kernel_rfl) ⟨(by first | exact hs | exact hr | exact hf | decide), (by first | exact hs | exact hr | exact hf | decide), (by first | exact hs | exact hr | exact hf | decide), hb1, (by decide), hb2, hb3, trivial⟩ hsim fun E a w hsim => ?_
        have h3 := hb3
        rw [tmod_two] at hb2
        have c2 : r.length % 2 = 0 := by (simpa using hb2)
        have c3 := of_decide_eq_false hb3
        exact ld_bad h1 h2 r f (r.length / 2) (by omega) (by omega) (r.length / 2) 0 0 rfl (by omega) (key hb1 (by rw [tmod_two]; exact hb2) h3) [] rfl E a w hsim
theorem flatM_at : ∀ (l : List Rw) (k : Nat), k < l.length → (flatM l).getD (2 * k) ByteArray.empty = (l.getD k (ByteArray.empty, ByteArray.empty)).1 ∧ (flatM l).getD (2 * k + 1) ByteArray.empty = (l.getD k (ByteArray.empty, ByteArray.empty)).2
  | [], k, h => by simp at h
  | r :: l, 0, h => ⟨rfl, rfl⟩
  | r :: l, k + 1, h => by
    obtain ⟨a, b⟩ := flatM_at l k (by simpa using h)
    rw [show 2 * (k + 1) = 2 * k + 1 + 1 by omega]
    exact ⟨a, b⟩
theorem prs_flat (l : List Rw) : prs (flatM l) l.length = l := by
  unfold prs
  apply List.ext_getElem
  · simp
  · intro i h3 h4
    rw [List.getElem_map, List.getElem_range]
    obtain ⟨a, b⟩ := flatM_at l i h4
    rw [a, b, getD_get h4]
theorem check_put {key val : ByteArray} (hk : 0 < key.size ∧ key.size ≤ 16) (hv : val.size ≤ 64) : checkM 2 key val ByteArray.empty = 0 := by
  unfold checkM
  have e : ByteArray.empty.size = 0 := rfl
  rw [if_neg (by omega), if_neg (by rw [e]; omega), if_neg (by rintro (⟨-, h | h⟩ | ⟨h, -⟩); cases h; cases h; exact h rfl)]
theorem tidy_good {l : List Rw} (ht : Tidy l) : unpR (packB (flatM l)) = (flatM l, 0) := by
  refine unpR_pack _ fun x hx => ?_
  obtain ⟨q, hq, h⟩ := flatM_mem l x hx
  have := ht.sized q hq
  rcases h with rfl | rfl <;> omega
theorem load_tab (m : Int) (e1 e2 : Value) (h1 : ErrV e1) (h2 : ErrV e2) (l : List Rw) (ht : Tidy l) : Eng.Spec Tryd.prog (glU m e1 e2) 19 [.d (.raw (.string (packB (flatM l))))] [] (.tup [.ref 0 0, .d (.raw (.int .i64 0))]) (tab0 l) := by
  have hu := tidy_good ht
  have hf := ht.few
  have hsz : (packB (flatM l)).size ≤ 1073741824 := by
    have h3 : ∀ x ∈ flatM l, x.size < 100 := fun x hx => by
      obtain ⟨q, hq, h⟩ := flatM_mem l x hx
      have := ht.sized q hq
      rcases h with rfl | rfl <;> omega
    have := Go.Nest.packL_len (flatM l) h3
    rw [flatM_len] at this
    rw [size_ba]; show (packL (flatM l)).length ≤ _; omega
  have hg : goodT (packB (flatM l)) := by
    unfold goodT
    rw [hu]
    refine ⟨rfl, by show (flatM l).length % 2 = 0; rw [flatM_len]; omega, by show (flatM l).length ≤ 32; rw [flatM_len]; omega, fun j hj => ?_⟩
    have hj : j < l.length := by
      have : j < (flatM l).length / 2 := hj
      rw [flatM_len] at this; omega
    obtain ⟨a, b⟩ := flatM_at l j hj
    have hm := ht.sized _ (getD_mem hj)
    show okAt (flatM l) j
    unfold okAt
    rw [a, b]
    refine ⟨check_put ⟨hm.1, hm.2.1⟩ hm.2.2, fun h0 => ?_⟩
    obtain ⟨a', -⟩ := flatM_at l (j - 1) (by omega)
    rw [show 2 * j - 2 = 2 * (j - 1) by omega, a', getD_get hj, getD_get (by omega : j - 1 < l.length)]
    exact List.pairwise_iff_getElem.1 ht.sorted (j - 1) j (by omega) hj (by omega)
  have := load_good m e1 e2 h1 h2 _ hsz hg
  rw [hu] at this
  have e : (flatM l, (0 : Int)).1.length / 2 = l.length := by show (flatM l).length / 2 = _; rw [flatM_len]; omega
  rw [e] at this
  show Eng.Spec _ _ _ _ _ _ (tab0 l)
  have h4 : prs (flatM l, (0 : Int)).1 l.length = l := prs_flat l
  rw [h4] at this
  exact this
end Go.Tab
