/-
  Contracts of given functions, or plain laws that they need. No condition.
-/
import Derived.Test.YtfpiccepphiaaaaDoorStkR
import Derived.Test.YtfpiccepphiaaaaDoorStkH
import Derived.Test.YtfpiccepphiaaaaDoorStmD
namespace Go.Stk
open Go Go.Eng Go.Proofs Go.Nest Go.RowKit Go.Memo
set_option linter.unusedVariables false
set_option linter.unusedSimpArgs false
set_option maxRecDepth 100000
set_option maxHeartbeats 4000000
theorem refs_ok (k : Bool) (n j : Int) (t : ByteArray) : Eng.Spec Tryd.prog (fun _ => none) 10 [.d (.agg [.raw (.bool k), .raw (.int .i64 n), .raw (.int .i64 j), .raw (.string t)])] [] (.d (.agg [.raw (.bool k), .raw (.int .i64 n), .raw (.int .i64 j), .raw (.string t)])) [] := by
  refine spec_fn Tryd.func10 rfl fun {w N E act} hsim => ?_
  exact go_ret (OrcOK.none _) rfl rfl Tryd.func10 (sr' := ⟨0, [.d (.agg [.raw (.bool (k)), .raw (.int .i64 (n)), .raw (.int .i64 (j)), .raw (.string (t))])], []⟩) (cs := []) [] true (by kernel_rfl) (by kernel_rfl) trivial (by rfl) hsim
theorem LC_ok (m : Int) (e1 e2 : Value) (h1 : ErrV e1) (h2 : ErrV e2) (q : ByteArray) (c : Int) (R : ByteArray → Cl × Int) : OrcOK Tryd.prog (LC m e1 e2 q c R) := ((((((OrcOK.none _).add _ false _ (mCT_ok m e1 e2 q c)).add _ false (mCT q c) fun args H ret H' cs h hc => by
  unfold mCT at h
  split at h
  · cases h; obtain ⟨rfl, rfl, -⟩ := hc; exact Spec.glAny (claimTR_ok _ _ _ _)
  · cases h).add _ false mRefs fun args H ret H' cs h hc => by
  unfold mRefs at h
  split at h
  · cases h; exact Spec.glAny (refs_ok _ _ _ _)
  · cases h).add _ false (mReadV R) fun args H ret H' cs h hc => by
  unfold mReadV at h
  split at h
  · cases h; obtain ⟨hR, hs, -⟩ := hc; rw [hR]; exact readC_ok m e1 e2 h1 h2 _ (by omega)
  · cases h).add _ false (mReadV R) fun args H ret H' cs h hc => by
  unfold mReadV at h
  split at h
  · cases h; obtain ⟨hR, hs, -⟩ := hc; rw [hR]; exact Spec.glAny (readR_ok _ hs)
  · cases h).add _ false mMoves fun args H ret H' cs h hc => by
  unfold mMoves at h
  split at h
  · cases h; exact moves_ok.mono (pU m e1 e2)
  · cases h
theorem law_claims_ok (m : Int) (e1 e2 : Value) (h1 : ErrV e1) (h2 : ErrV e2) (k : Bool) (n j : Int) (t s : ByteArray) (hs : s.size ≤ 1048576) : Eng.Spec Tryd.prog (glU m e1 e2) 4 [.d (.agg [.raw (.bool k), .raw (.int .i64 n), .raw (.int .i64 j), .raw (.string t)]), .d (.raw (.string s))] [] (.d (.raw (.bool (true)))) [] := by
  refine spec_fn Tryd.func4 rfl fun {w N E act} hsim => ?_
  obtain ⟨q, hq⟩ : ∃ q, q = (claimM k n j t).1 := ⟨_, rfl⟩
  obtain ⟨c, hc⟩ : ∃ c, c = (claimM k n j t).2 := ⟨_, rfl⟩
  obtain ⟨R, hR⟩ : ∃ R, R = readC := ⟨_, rfl⟩
  have hRs : ∀ x, R x = readC x := fun x => by rw [hR]
  have hsz : (c == (0 : Int)) = true → q.size < 1000000000 := fun h => by
    have h0 : (claimM k n j t).2 = 0 := by rw [← hc]; simpa using h
    obtain ⟨-, -, -, h4, h5⟩ := claim_zero h0
    rw [hq, h5]; show (packB (packC k n j t)).size < _; omega
  have er : ∀ (a : Bool) (b c : Int) (d : ByteArray), eqcs [.bool a, .int .i64 b, .int .i64 c, .string d] [.bool a, .int .i64 b, .int .i64 c, .string d] = true := fun a b c d => eqcs_refl (fun u hu => by simp at hu; rcases hu with rfl | rfl | rfl | rfl <;> rfl)
  have hback : (c == (0 : Int)) = true → R q = (⟨k, n, j, t⟩, 0) := fun h => by
    have h0 : (claimM k n j t).2 = 0 := by rw [← hc]; simpa using h
    rw [hRs, hq, read_claim h0]
  rcases Bool.eq_false_or_eq_true (!q.toList == q.toList) with hb1 | hb1
  · skip
    have q0_ : (q = (claimM k n j t).fst) := (by first | exact hq | exact hc | exact hRs _ | exact hsz ‹(c == (0 : Int)) = true› | omega)
    have q1_ : (c = (claimM k n j t).snd) := (by first | exact hq | exact hc | exact hRs _ | exact hsz ‹(c == (0 : Int)) = true› | omega)
    have q2_ : (R s = readC s) := (by first | exact hq | exact hc | exact hRs _ | exact hsz ‹(c == (0 : Int)) = true› | omega)
    have q3_ : (s.size < (1000000000 : Nat)) := (by first | exact hq | exact hc | exact hRs _ | exact hsz ‹(c == (0 : Int)) = true› | omega)
    exact go_ret (LC_ok m e1 e2 h1 h2 q c R) rfl rfl Tryd.func4 (sr' := ⟨0, [.d (.raw (.bool (false)))], []⟩) (cs := ((fun (c0 c1 c2 c3 : Prop) => [c0, c1, c0, c1, c2, c3, c2, c3, ((!q.toList == q.toList) = true)]) (q = (claimM k n j t).fst) (c = (claimM k n j t).snd) (R s = readC s) (s.size < (1000000000 : Nat)))) [true] true (by kernel_rfl) (by kernel_rfl) ⟨q0_, q1_, q0_, q1_, q2_, q3_, q2_, q3_, hb1, trivial⟩ (by first | rfl | (exfalso; clear hsim hback hsz; simp [er] at *; done) | (exfalso; have e := hback ‹(c == (0 : Int)) = true›; clear hsim hback hsz hRs hR; simp [e, er] at *; done) | (exfalso; have e := hback ‹(c == (0 : Int)) = true›; clear hsim hback hsz hRs hR; simp only [e, er, Bool.true_eq_false, Bool.false_eq_true] at *; done)) hsim
  · skip
    rcases Bool.eq_false_or_eq_true (c != c) with hb2 | hb2
    · skip
      have q0_ : (q = (claimM k n j t).fst) := (by first | exact hq | exact hc | exact hRs _ | exact hsz ‹(c == (0 : Int)) = true› | omega)
      have q1_ : (c = (claimM k n j t).snd) := (by first | exact hq | exact hc | exact hRs _ | exact hsz ‹(c == (0 : Int)) = true› | omega)
      have q2_ : (R s = readC s) := (by first | exact hq | exact hc | exact hRs _ | exact hsz ‹(c == (0 : Int)) = true› | omega)
      have q3_ : (s.size < (1000000000 : Nat)) := (by first | exact hq | exact hc | exact hRs _ | exact hsz ‹(c == (0 : Int)) = true› | omega)
      exact go_ret (LC_ok m e1 e2 h1 h2 q c R) rfl rfl Tryd.func4 (sr' := ⟨0, [.d (.raw (.bool (false)))], []⟩) (cs := ((fun (c0 c1 c2 c3 : Prop) => [c0, c1, c0, c1, c2, c3, c2, c3, ((!q.toList == q.toList) = false), ((c != c) = true)]) (q = (claimM k n j t).fst) (c = (claimM k n j t).snd) (R s = readC s) (s.size < (1000000000 : Nat)))) [false, true] true (by kernel_rfl) (by kernel_rfl) ⟨q0_, q1_, q0_, q1_, q2_, q3_, q2_, q3_, hb1, hb2, trivial⟩ (by first | rfl | (exfalso; clear hsim hback hsz; simp [er] at *; done) | (exfalso; have e := hback ‹(c == (0 : Int)) = true›; clear hsim hback hsz hRs hR; simp [e, er] at *; done) | (exfalso; have e := hback ‹(c == (0 : Int)) = true›; clear hsim hback hsz hRs hR; simp only [e, er, Bool.true_eq_false, Bool.false_eq_true] at *; done)) hsim
    · skip
      rcases Bool.eq_false_or_eq_true (!eqcs [Value.bool (R s).fst.k, Value.int IntKind.i64 (R s).fst.n, Value.int IntKind.i64 (R s).fst.i, Value.string (R s).fst.t] [Value.bool (R s).fst.k, Value.int IntKind.i64 (R s).fst.n, Value.int IntKind.i64 (R s).fst.i, Value.string (R s).fst.t]) with hb3 | hb3
      · skip
        have q0_ : (q = (claimM k n j t).fst) := (by first | exact hq | exact hc | exact hRs _ | exact hsz ‹(c == (0 : Int)) = true› | omega)
        have q1_ : (c = (claimM k n j t).snd) := (by first | exact hq | exact hc | exact hRs _ | exact hsz ‹(c == (0 : Int)) = true› | omega)
        have q2_ : (R s = readC s) := (by first | exact hq | exact hc | exact hRs _ | exact hsz ‹(c == (0 : Int)) = true› | omega)
        have q3_ : (s.size < (1000000000 : Nat)) := (by first | exact hq | exact hc | exact hRs _ | exact hsz ‹(c == (0 : Int)) = true› | omega)
        exact go_ret (LC_ok m e1 e2 h1 h2 q c R) rfl rfl Tryd.func4 (sr' := ⟨0, [.d (.raw (.bool (false)))], []⟩) (cs := ((fun (c0 c1 c2 c3 : Prop) => [c0, c1, c0, c1, c2, c3, c2, c3, ((!q.toList == q.toList) = false), ((c != c) = false), ((!eqcs [Value.bool (R s).fst.k, Value.int IntKind.i64 (R s).fst.n, Value.int IntKind.i64 (R s).fst.i, Value.string (R s).fst.t] [Value.bool (R s).fst.k, Value.int IntKind.i64 (R s).fst.n, Value.int IntKind.i64 (R s).fst.i, Value.string (R s).fst.t]) = true)]) (q = (claimM k n j t).fst) (c = (claimM k n j t).snd) (R s = readC s) (s.size < (1000000000 : Nat)))) [false, false, true] true (by kernel_rfl) (by kernel_rfl) ⟨q0_, q1_, q0_, q1_, q2_, q3_, q2_, q3_, hb1, hb2, hb3, trivial⟩ (by first | rfl | (exfalso; clear hsim hback hsz; simp [er] at *; done) | (exfalso; have e := hback ‹(c == (0 : Int)) = true›; clear hsim hback hsz hRs hR; simp [e, er] at *; done) | (exfalso; have e := hback ‹(c == (0 : Int)) = true›; clear hsim hback hsz hRs hR; simp only [e, er, Bool.true_eq_false, Bool.false_eq_true] at *; done)) hsim
      · skip
        rcases Bool.eq_false_or_eq_true ((R s).snd != (R s).snd) with hb4 | hb4
        · skip
          have q0_ : (q = (claimM k n j t).fst) := (by first | exact hq | exact hc | exact hRs _ | exact hsz ‹(c == (0 : Int)) = true› | omega)
          have q1_ : (c = (claimM k n j t).snd) := (by first | exact hq | exact hc | exact hRs _ | exact hsz ‹(c == (0 : Int)) = true› | omega)
          have q2_ : (R s = readC s) := (by first | exact hq | exact hc | exact hRs _ | exact hsz ‹(c == (0 : Int)) = true› | omega)
          have q3_ : (s.size < (1000000000 : Nat)) := (by first | exact hq | exact hc | exact hRs _ | exact hsz ‹(c == (0 : Int)) = true› | omega)
          exact go_ret (LC_ok m e1 e2 h1 h2 q c R) rfl rfl Tryd.func4 (sr' := ⟨0, [.d (.raw (.bool (false)))], []⟩) (cs := ((fun (c0 c1 c2 c3 : Prop) => [c0, c1, c0, c1, c2, c3, c2, c3, ((!q.toList == q.toList) = false), ((c != c) = false), ((!eqcs [Value.bool (R s).fst.k, Value.int IntKind.i64 (R s).fst.n, Value.int IntKind.i64 (R s).fst.i, Value.string (R s).fst.t] [Value.bool (R s).fst.k, Value.int IntKind.i64 (R s).fst.n, Value.int IntKind.i64 (R s).fst.i, Value.string (R s).fst.t]) = false), (((R s).snd != (R s).snd) = true)]) (q = (claimM k n j t).fst) (c = (claimM k n j t).snd) (R s = readC s) (s.size < (1000000000 : Nat)))) [false, false, false, true] true (by kernel_rfl) (by kernel_rfl) ⟨q0_, q1_, q0_, q1_, q2_, q3_, q2_, q3_, hb1, hb2, hb3, hb4, trivial⟩ (by first | rfl | (exfalso; clear hsim hback hsz; simp [er] at *; done) | (exfalso; have e := hback ‹(c == (0 : Int)) = true›; clear hsim hback hsz hRs hR; simp [e, er] at *; done) | (exfalso; have e := hback ‹(c == (0 : Int)) = true›; clear hsim hback hsz hRs hR; simp only [e, er, Bool.true_eq_false, Bool.false_eq_true] at *; done)) hsim
        · skip
          rcases Bool.eq_false_or_eq_true (c == (0 : Int)) with hb5 | hb5
          · skip
            rcases Bool.eq_false_or_eq_true ((R q).snd == (0 : Int)) with hb6 | hb6
            · skip
              rcases Bool.eq_false_or_eq_true (eqcs [Value.bool (R q).fst.k, Value.int IntKind.i64 (R q).fst.n, Value.int IntKind.i64 (R q).fst.i, Value.string (R q).fst.t] [Value.bool k, Value.int IntKind.i64 n, Value.int IntKind.i64 j, Value.string t]) with hb7 | hb7
              · skip
                have q0_ : (q = (claimM k n j t).fst) := (by first | exact hq | exact hc | exact hRs _ | exact hsz ‹(c == (0 : Int)) = true› | omega)
                have q1_ : (c = (claimM k n j t).snd) := (by first | exact hq | exact hc | exact hRs _ | exact hsz ‹(c == (0 : Int)) = true› | omega)
                have q2_ : (R s = readC s) := (by first | exact hq | exact hc | exact hRs _ | exact hsz ‹(c == (0 : Int)) = true› | omega)
                have q3_ : (s.size < (1000000000 : Nat)) := (by first | exact hq | exact hc | exact hRs _ | exact hsz ‹(c == (0 : Int)) = true› | omega)
                exact go_ret (LC_ok m e1 e2 h1 h2 q c R) rfl rfl Tryd.func4 (sr' := ⟨0, [.d (.raw (.bool (true)))], []⟩) (cs := ((fun (c0 c1 c2 c3 : Prop) => [c0, c1, c0, c1, c2, c3, c2, c3, ((!q.toList == q.toList) = false), ((c != c) = false), ((!eqcs [Value.bool (R s).fst.k, Value.int IntKind.i64 (R s).fst.n, Value.int IntKind.i64 (R s).fst.i, Value.string (R s).fst.t] [Value.bool (R s).fst.k, Value.int IntKind.i64 (R s).fst.n, Value.int IntKind.i64 (R s).fst.i, Value.string (R s).fst.t]) = false), (((R s).snd != (R s).snd) = false), ((c == (0 : Int)) = true), (R q = readC q), (q.size < (1000000000 : Nat)), (((R q).snd == (0 : Int)) = true), ((eqcs [Value.bool (R q).fst.k, Value.int IntKind.i64 (R q).fst.n, Value.int IntKind.i64 (R q).fst.i, Value.string (R q).fst.t] [Value.bool k, Value.int IntKind.i64 n, Value.int IntKind.i64 j, Value.string t]) = true)]) (q = (claimM k n j t).fst) (c = (claimM k n j t).snd) (R s = readC s) (s.size < (1000000000 : Nat)))) ((List.replicate 4 false) ++ [true, true, true]) true (by kernel_rfl) (by kernel_rfl) ⟨q0_, q1_, q0_, q1_, q2_, q3_, q2_, q3_, hb1, hb2, hb3, hb4, hb5, (by first | exact hq | exact hc | exact hRs _ | exact hsz ‹(c == (0 : Int)) = true› | omega), (by first | exact hq | exact hc | exact hRs _ | exact hsz ‹(c == (0 : Int)) = true› | omega), hb6, hb7, trivial⟩ (by first | rfl | (exfalso; clear hsim hback hsz; simp [er] at *; done) | (exfalso; have e := hback ‹(c == (0 : Int)) = true›; clear hsim hback hsz hRs hR; simp [e, er] at *; done) | (exfalso; have e := hback ‹(c == (0 : Int)) = true›; clear hsim hback hsz hRs hR; simp only [e, er, Bool.true_eq_false, Bool.false_eq_true] at *; done)) hsim
              · skip
                have q0_ : (q = (claimM k n j t).fst) := (by first | exact hq | exact hc | exact hRs _ | exact hsz ‹(c == (0 : Int)) = true› | omega)
                have q1_ : (c = (claimM k n j t).snd) := (by first | exact hq | exact hc | exact hRs _ | exact hsz ‹(c == (0 : Int)) = true› | omega)
                have q2_ : (R s = readC s) := (by first | exact hq | exact hc | exact hRs _ | exact hsz ‹(c == (0 : Int)) = true› | omega)
                have q3_ : (s.size < (1000000000 : Nat)) := (by first | exact hq | exact hc | exact hRs _ | exact hsz ‹(c == (0 : Int)) = true› | omega)
                exact go_ret (LC_ok m e1 e2 h1 h2 q c R) rfl rfl Tryd.func4 (sr' := ⟨0, [.d (.raw (.bool (false)))], []⟩) (cs := ((fun (c0 c1 c2 c3 : Prop) => [c0, c1, c0, c1, c2, c3, c2, c3, ((!q.toList == q.toList) = false), ((c != c) = false), ((!eqcs [Value.bool (R s).fst.k, Value.int IntKind.i64 (R s).fst.n, Value.int IntKind.i64 (R s).fst.i, Value.string (R s).fst.t] [Value.bool (R s).fst.k, Value.int IntKind.i64 (R s).fst.n, Value.int IntKind.i64 (R s).fst.i, Value.string (R s).fst.t]) = false), (((R s).snd != (R s).snd) = false), ((c == (0 : Int)) = true), (R q = readC q), (q.size < (1000000000 : Nat)), (((R q).snd == (0 : Int)) = true), ((eqcs [Value.bool (R q).fst.k, Value.int IntKind.i64 (R q).fst.n, Value.int IntKind.i64 (R q).fst.i, Value.string (R q).fst.t] [Value.bool k, Value.int IntKind.i64 n, Value.int IntKind.i64 j, Value.string t]) = false)]) (q = (claimM k n j t).fst) (c = (claimM k n j t).snd) (R s = readC s) (s.size < (1000000000 : Nat)))) ((List.replicate 4 false) ++ [true, true, false]) true (by kernel_rfl) (by kernel_rfl) ⟨q0_, q1_, q0_, q1_, q2_, q3_, q2_, q3_, hb1, hb2, hb3, hb4, hb5, (by first | exact hq | exact hc | exact hRs _ | exact hsz ‹(c == (0 : Int)) = true› | omega), (by first | exact hq | exact hc | exact hRs _ | exact hsz ‹(c == (0 : Int)) = true› | omega), hb6, hb7, trivial⟩ (by first | rfl | (exfalso; clear hsim hback hsz; simp [er] at *; done) | (exfalso; have e := hback ‹(c == (0 : Int)) = true›; clear hsim hback hsz hRs hR; simp [e, er] at *; done) | (exfalso; have e := hback ‹(c == (0 : Int)) = true›; clear hsim hback hsz hRs hR; simp only [e, er, Bool.true_eq_false, Bool.false_eq_true] at *; done)) hsim
            · skip
              have q0_ : (q = (claimM k n j t).fst) := (by first | exact hq | exact hc | exact hRs _ | exact hsz ‹(c == (0 : Int)) = true› | omega)
              have q1_ : (c = (claimM k n j t).snd) := (by first | exact hq | exact hc | exact hRs _ | exact hsz ‹(c == (0 : Int)) = true› | omega)
              have q2_ : (R s = readC s) := (by first | exact hq | exact hc | exact hRs _ | exact hsz ‹(c == (0 : Int)) = true› | omega)
              have q3_ : (s.size < (1000000000 : Nat)) := (by first | exact hq | exact hc | exact hRs _ | exact hsz ‹(c == (0 : Int)) = true› | omega)
              exact go_ret (LC_ok m e1 e2 h1 h2 q c R) rfl rfl Tryd.func4 (sr' := ⟨0, [.d (.raw (.bool (false)))], []⟩) (cs := ((fun (c0 c1 c2 c3 : Prop) => [c0, c1, c0, c1, c2, c3, c2, c3, ((!q.toList == q.toList) = false), ((c != c) = false), ((!eqcs [Value.bool (R s).fst.k, Value.int IntKind.i64 (R s).fst.n, Value.int IntKind.i64 (R s).fst.i, Value.string (R s).fst.t] [Value.bool (R s).fst.k, Value.int IntKind.i64 (R s).fst.n, Value.int IntKind.i64 (R s).fst.i, Value.string (R s).fst.t]) = false), (((R s).snd != (R s).snd) = false), ((c == (0 : Int)) = true), (R q = readC q), (q.size < (1000000000 : Nat)), (((R q).snd == (0 : Int)) = false)]) (q = (claimM k n j t).fst) (c = (claimM k n j t).snd) (R s = readC s) (s.size < (1000000000 : Nat)))) ((List.replicate 4 false) ++ [true, false]) true (by kernel_rfl) (by kernel_rfl) ⟨q0_, q1_, q0_, q1_, q2_, q3_, q2_, q3_, hb1, hb2, hb3, hb4, hb5, (by first | exact hq | exact hc | exact hRs _ | exact hsz ‹(c == (0 : Int)) = true› | omega), (by first | exact hq | exact hc | exact hRs _ | exact hsz ‹(c == (0 : Int)) = true› | omega), hb6, trivial⟩ (by first | rfl | (exfalso; clear hsim hback hsz; simp [er] at *; done) | (exfalso; have e := hback ‹(c == (0 : Int)) = true›; clear hsim hback hsz hRs hR; simp [e, er] at *; done) | (exfalso; have e := hback ‹(c == (0 : Int)) = true›; clear hsim hback hsz hRs hR; simp only [e, er, Bool.true_eq_false, Bool.false_eq_true] at *; done)) hsim
          · skip
            have q0_ : (q = (claimM k n j t).fst) := (by first | exact hq | exact hc | exact hRs _ | exact hsz ‹(c == (0 : Int)) = true› | omega)
            have q1_ : (c = (claimM k n j t).snd) := (by first | exact hq | exact hc | exact hRs _ | exact hsz ‹(c == (0 : Int)) = true› | omega)
            have q2_ : (R s = readC s) := (by first | exact hq | exact hc | exact hRs _ | exact hsz ‹(c == (0 : Int)) = true› | omega)
            have q3_ : (s.size < (1000000000 : Nat)) := (by first | exact hq | exact hc | exact hRs _ | exact hsz ‹(c == (0 : Int)) = true› | omega)
            exact go_ret (LC_ok m e1 e2 h1 h2 q c R) rfl rfl Tryd.func4 (sr' := ⟨0, [.d (.raw (.bool (true)))], []⟩) (cs := ((fun (c0 c1 c2 c3 : Prop) => [c0, c1, c0, c1, c2, c3, c2, c3, ((!q.toList == q.toList) = false), ((c != c) = false), ((!eqcs [Value.bool (R s).fst.k, Value.int IntKind.i64 (R s).fst.n, Value.int IntKind.i64 (R s).fst.i, Value.string (R s).fst.t] [Value.bool (R s).fst.k, Value.int IntKind.i64 (R s).fst.n, Value.int IntKind.i64 (R s).fst.i, Value.string (R s).fst.t]) = false), (((R s).snd != (R s).snd) = false), ((c == (0 : Int)) = false)]) (q = (claimM k n j t).fst) (c = (claimM k n j t).snd) (R s = readC s) (s.size < (1000000000 : Nat)))) ((List.replicate 5 false)) true (by kernel_rfl) (by kernel_rfl) ⟨q0_, q1_, q0_, q1_, q2_, q3_, q2_, q3_, hb1, hb2, hb3, hb4, hb5, trivial⟩ (by first | rfl | (exfalso; clear hsim hback hsz; simp [er] at *; done) | (exfalso; have e := hback ‹(c == (0 : Int)) = true›; clear hsim hback hsz hRs hR; simp [e, er] at *; done) | (exfalso; have e := hback ‹(c == (0 : Int)) = true›; clear hsim hback hsz hRs hR; simp only [e, er, Bool.true_eq_false, Bool.false_eq_true] at *; done)) hsim
end Go.Stk
