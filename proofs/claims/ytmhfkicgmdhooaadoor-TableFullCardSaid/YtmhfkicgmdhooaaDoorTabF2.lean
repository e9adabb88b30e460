/-
  Contracts of given functions, or plain laws that they need. No condition.
-/
import Derived.Test.YtmhfkicgmdhooaaDoorTabF
namespace Go.Tab
open Go Go.Eng Go.Proofs Go.Nest
set_option linter.unusedVariables false
set_option linter.unusedSimpArgs false
set_option maxRecDepth 100000
set_option maxHeartbeats 4000000
theorem fu_out {ks : List ByteArray} {v : ByteArray} {w0 : World} {N : Nat → Prop} {E0 : Env} (hk : ks.length ≤ 200) : ∀ (d : Nat) (n i : Int), n = (ks.length : Int) → 0 ≤ i → i + d = n → ∀ l hv, InvF l hv → GoF ks v w0 N E0 0 (fu1 ks v l hv n i) := by
  intro d
  induction d with
  | zero =>
    intro n i en h0 hd l hv hI E a w hsim
    rcases Bool.eq_false_or_eq_true (decide (i < n)) with hb1 | hb1
    · skip
      refine go_head (W0_ok l l) rfl rfl (k' := loopAt Tryd.f6 1) (s' := mk 0 90 [(1, .d (.raw (.string (v)))), (5, .ref 0 0), (6, .own 2), (8, .d (.raw (.string (ks.getD i.toNat ByteArray.empty)))), (9, .known false), (28, .d (.list 1 (ks.length) (strEl ks))), (29, .d (.raw (.int .i64 (n)))), (30, .d (.raw (.int .i64 (i)))), (34, .own 2), (35, .d (.raw (.int .i64 ((↑hv.length : Int))))), (36, .d (.raw (.int .i64 ((0 : Int)))))] [(0, .obj 56 [.own 1]), (1, .row 60 2 (l.length) (rowEl l)), (2, .row 9 1 (hv.length) (strEl hv))]) (cs := [((decide (i < n)) = true), ((0 : Int) ≤ i ∧ i < (↑ks.length : Int))]) [true] [1,5,6,8,9,28,29,30,34,35,36] (by kernel_rfl) (by kernel_rfl) ⟨hb1, (by first | omega | exact absurd (of_decide_eq_true hb1) (by omega)), trivial⟩ hsim fun E a w hsim => ?_
      exact absurd (of_decide_eq_true hb1) (by omega)
    · skip
      exact go_ret (W0_ok l l) rfl rfl Tryd.func6 (sr' := ⟨0, [.d (.raw (.bool (true)))], []⟩) (cs := [((decide (i < n)) = false)]) [false] true (by kernel_rfl) (by kernel_rfl) ⟨hb1, trivial⟩ (by rfl) hsim
  | succ d ih =>
    intro n i en h0 hd l hv hI E a w hsim
    have ih := fun l2 hv2 h2 => ih n (IntKind.i64.wrap (i + 1)) en (by rw [wrapI (i + 1) (by omega)]; omega) (by rw [wrapI (i + 1) (by omega)]; omega) l2 hv2 h2
    rcases Bool.eq_false_or_eq_true (decide (i < n)) with hb1 | hb1
    · skip
      refine go_head (W0_ok l l) rfl rfl (k' := loopAt Tryd.f6 1) (s' := mk 0 90 [(1, .d (.raw (.string (v)))), (5, .ref 0 0), (6, .own 2), (8, .d (.raw (.string (ks.getD i.toNat ByteArray.empty)))), (9, .known false), (28, .d (.list 1 (ks.length) (strEl ks))), (29, .d (.raw (.int .i64 (n)))), (30, .d (.raw (.int .i64 (i)))), (34, .own 2), (35, .d (.raw (.int .i64 ((↑hv.length : Int))))), (36, .d (.raw (.int .i64 ((0 : Int)))))] [(0, .obj 56 [.own 1]), (1, .row 60 2 (l.length) (rowEl l)), (2, .row 9 1 (hv.length) (strEl hv))]) (cs := [((decide (i < n)) = true), ((0 : Int) ≤ i ∧ i < (↑ks.length : Int))]) [true] [1,5,6,8,9,28,29,30,34,35,36] (by kernel_rfl) (by kernel_rfl) ⟨hb1, (by first | omega | exact absurd (of_decide_eq_false hb1) (by omega)), trivial⟩ hsim fun E a w hsim => ?_
      exact fu_in hI ih hv.length (hv.length : Int) 0 rfl (by omega) (by omega) false rfl E a w hsim.dats
    · skip
      exact go_ret (W0_ok l l) rfl rfl Tryd.func6 (sr' := ⟨0, [.d (.raw (.bool (true)))], []⟩) (cs := [((decide (i < n)) = false)]) [false] true (by kernel_rfl) (by kernel_rfl) ⟨hb1, trivial⟩ (by exact absurd (of_decide_eq_false hb1) (by omega)) hsim
theorem law_full_ok (ks : List ByteArray) (v : ByteArray) : Eng.Spec Tryd.prog g0 6 [.d (.list 1 ks.length (strEl ks)), .d (.raw (.string v))] [] (.d (.raw (.bool true))) [] := by
  refine spec_fn Tryd.func6 rfl fun {w N E a} hsim => ?_
  rcases Bool.eq_false_or_eq_true (decide ((↑ks.length : Int) > (200 : Int))) with hb1 | hb1
  · skip
    exact go_ret (W0_ok [] []) rfl rfl Tryd.func6 (sr' := ⟨0, [.d (.raw (.bool (true)))], []⟩) (cs := [((decide ((↑ks.length : Int) > (200 : Int))) = true)]) [true] true (by kernel_rfl) (by kernel_rfl) ⟨hb1, trivial⟩ (by rfl) hsim
  · skip
    refine go_head (W0_ok [] []) rfl rfl (k' := loopAt Tryd.f6 0) (s' := mk 0 90 [(1, .d (.raw (.string (v)))), (5, .ref 0 0), (6, .d (.raw (Value.slice none (0 : Nat) (0 : Nat)))), (28, .d (.list 1 (ks.length) (strEl ks))), (29, .d (.raw (.int .i64 ((↑ks.length : Int))))), (30, .d (.raw (.int .i64 ((0 : Int)))))] [(0, .obj 56 [.own 1]), (1, .row 60 2 0 (rowEl []))]) (cs := [((decide ((↑ks.length : Int) > (200 : Int))) = false)]) [false] [1,5,6,28,29,30] (by kernel_rfl) (by kernel_rfl) ⟨hb1, trivial⟩ hsim fun E a w hsim => ?_
    obtain ⟨E2, hs⟩ := hsim.nilRow (t := 6) rfl 9 1 (strEl [])
    have hk : ks.length ≤ 200 := by (have := of_decide_eq_false hb1; omega)
    exact fu_out hk ks.length (ks.length : Int) 0 rfl (by omega) (by omega) [] [] ⟨tidy_nil, rfl, fun x => rfl⟩ E2 a w hs
end Go.Tab
