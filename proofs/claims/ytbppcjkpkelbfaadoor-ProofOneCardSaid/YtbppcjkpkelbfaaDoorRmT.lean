/-
  Contracts of given functions, or plain laws that they need. No condition.
-/
import Derived.Test.YtbppcjkpkelbfaaDoorRmB
import Derived.Test.YtbppcjkpkelbfaaDoorRmC0
import Derived.Test.YtbppcjkpkelbfaaDoorRmC1
import Derived.Test.YtbppcjkpkelbfaaDoorRmC2
import Derived.Test.YtbppcjkpkelbfaaDoorRmC3
import Derived.Test.YtbppcjkpkelbfaaDoorRef4
import Derived.Test.YtbppcjkpkelbfaaDoorPrzG
import Derived.Test.YtbppcjkpkelbfaaDoorRkP
namespace Go.Prf
open Go Go.Eng Go.Proofs Go.Tab Go.Plc
set_option linter.unusedVariables false
set_option linter.unusedSimpArgs false
set_option maxRecDepth 100000
set_option maxHeartbeats 4000000
theorem U0_ok (q x y z : List Rw) (v : ByteArray) (e : Int) (q2 : List Rw) : OrcOK Tryd.prog (U0 q x y z v e q2) := ((OrcOK.none _).add _ false (mPlcC 0) fun args H r H' cs h hc => by
  unfold mPlcC at h
  split at h
  · cases h; obtain ⟨⟨hp, hk⟩, -⟩ := hc; rw [← hp]; exact placeR_ok _ hk
  · cases h).add _ false (mRDo0 q x y z v e q2) fun args H r H' cs h hc => by
  unfold mRDo0 at h
  split at h
  · cases h; obtain ⟨hm, rfl, rfl, rfl, rfl, rfl, rfl, rfl, rfl, ⟨h1, h2, rfl, rfl, rfl⟩, -⟩ := hc
    simp only [Bool.and_eq_true, beq_iff_eq] at hm
    obtain ⟨⟨⟨⟨rfl, rfl⟩, rfl⟩, rfl⟩, rfl⟩ := hm
    exact Spec.glAny (rdo_ok0 q x y z _ _ _ _ h1 h2)
  · cases h
theorem rtell0 (q x y z : List Rw) (o : OpT) (h1 : q.length ≤ 16) (h2 : ∀ r ∈ q, r.2.size ≤ 64) (hk : o.2.1.size ≤ 1073741824) (hp : plc o.2.1 = 0) (v : ByteArray) (e : Int) (q2 : List Rw) (hv : v = (rdoM q o.1 o.2.1 o.2.2.1 o.2.2.2).1) (he : e = (rdoM q o.1 o.2.1 o.2.2.1 o.2.2.2).2.1) (hq : q2 = (rdoM q o.1 o.2.1 o.2.2.1 o.2.2.2).2.2) : Eng.Spec Tryd.prog Go.Bla.gl 48 [.ref 0 0, .d (opD o)] (rm0 q x y z) (.d (.agg [.raw (.int .i64 e), .raw (.string v)])) (ru0 q2 x y z) := by
  refine spec_fn Tryd.func48 rfl fun {w N E act} hsim => ?_
  exact gr (U0_ok q x y z v e q2) Tryd.func48 (sr' := ⟨5, [.d (.agg [rI e, rS v])], [(0, .obj 107 [.own 5, .own 6, .own 7, .own 8]), (5, .row 142 2 q2.length (rowEl q2)), (6, .row 142 2 x.length (rowEl x)), (7, .row 142 2 y.length (rowEl y)), (8, .row 142 2 z.length (rowEl z))]⟩) (cs := [(Plc.plc o.snd.fst = (0 : Int) ∧ o.snd.fst.size ≤ 1073741824), (Ix 0 4), ((true) = true), (q.length = q.length), (rowEl q = rowEl q), (x.length = x.length), (rowEl x = rowEl x), (y.length = y.length), (rowEl y = rowEl y), (z.length = z.length), (rowEl z = rowEl z), (q.length ≤ 16 ∧ (∀ (r : Rw), r ∈ q → r.snd.size ≤ 64) ∧ v = (rdoM q o.fst o.snd.fst o.snd.snd.fst o.snd.snd.snd).fst ∧ e = (rdoM q o.fst o.snd.fst o.snd.snd.fst o.snd.snd.snd).snd.fst ∧ q2 = (rdoM q o.fst o.snd.fst o.snd.snd.fst o.snd.snd.snd).snd.snd)]) [true] true ⟨(by first | exact ⟨hp, hk⟩ | exact ⟨h1, h2, hv, he, hq⟩ | decide | rfl), (by decide), rfl, (by first | exact ⟨hp, hk⟩ | exact ⟨h1, h2, hv, he, hq⟩ | decide | rfl), (by first | exact ⟨hp, hk⟩ | exact ⟨h1, h2, hv, he, hq⟩ | decide | rfl), (by first | exact ⟨hp, hk⟩ | exact ⟨h1, h2, hv, he, hq⟩ | decide | rfl), (by first | exact ⟨hp, hk⟩ | exact ⟨h1, h2, hv, he, hq⟩ | decide | rfl), (by first | exact ⟨hp, hk⟩ | exact ⟨h1, h2, hv, he, hq⟩ | decide | rfl), (by first | exact ⟨hp, hk⟩ | exact ⟨h1, h2, hv, he, hq⟩ | decide | rfl), (by first | exact ⟨hp, hk⟩ | exact ⟨h1, h2, hv, he, hq⟩ | decide | rfl), (by first | exact ⟨hp, hk⟩ | exact ⟨h1, h2, hv, he, hq⟩ | decide | rfl), (by first | exact ⟨hp, hk⟩ | exact ⟨h1, h2, hv, he, hq⟩ | decide | rfl), trivial⟩ (by rfl) hsim
theorem U1_ok (q x y z : List Rw) (v : ByteArray) (e : Int) (q2 : List Rw) : OrcOK Tryd.prog (U1 q x y z v e q2) := ((OrcOK.none _).add _ false (mPlcC 1) fun args H r H' cs h hc => by
  unfold mPlcC at h
  split at h
  · cases h; obtain ⟨⟨hp, hk⟩, -⟩ := hc; rw [← hp]; exact placeR_ok _ hk
  · cases h).add _ false (mRDo1 q x y z v e q2) fun args H r H' cs h hc => by
  unfold mRDo1 at h
  split at h
  · cases h; obtain ⟨hm, rfl, rfl, rfl, rfl, rfl, rfl, rfl, rfl, ⟨h1, h2, rfl, rfl, rfl⟩, -⟩ := hc
    simp only [Bool.and_eq_true, beq_iff_eq] at hm
    obtain ⟨⟨⟨⟨rfl, rfl⟩, rfl⟩, rfl⟩, rfl⟩ := hm
    exact Spec.glAny (rdo_ok1 q x y z _ _ _ _ h1 h2)
  · cases h
theorem rtell1 (q x y z : List Rw) (o : OpT) (h1 : q.length ≤ 16) (h2 : ∀ r ∈ q, r.2.size ≤ 64) (hk : o.2.1.size ≤ 1073741824) (hp : plc o.2.1 = 1) (v : ByteArray) (e : Int) (q2 : List Rw) (hv : v = (rdoM q o.1 o.2.1 o.2.2.1 o.2.2.2).1) (he : e = (rdoM q o.1 o.2.1 o.2.2.1 o.2.2.2).2.1) (hq : q2 = (rdoM q o.1 o.2.1 o.2.2.1 o.2.2.2).2.2) : Eng.Spec Tryd.prog Go.Bla.gl 48 [.ref 0 0, .d (opD o)] (rm1 q x y z) (.d (.agg [.raw (.int .i64 e), .raw (.string v)])) (ru1 q2 x y z) := by
  refine spec_fn Tryd.func48 rfl fun {w N E act} hsim => ?_
  exact gr (U1_ok q x y z v e q2) Tryd.func48 (sr' := ⟨5, [.d (.agg [rI e, rS v])], [(0, .obj 107 [.own 5, .own 6, .own 7, .own 8]), (5, .row 142 2 x.length (rowEl x)), (6, .row 142 2 q2.length (rowEl q2)), (7, .row 142 2 y.length (rowEl y)), (8, .row 142 2 z.length (rowEl z))]⟩) (cs := [(Plc.plc o.snd.fst = (1 : Int) ∧ o.snd.fst.size ≤ 1073741824), (Ix 1 4), ((true) = true), (x.length = x.length), (rowEl x = rowEl x), (q.length = q.length), (rowEl q = rowEl q), (y.length = y.length), (rowEl y = rowEl y), (z.length = z.length), (rowEl z = rowEl z), (q.length ≤ 16 ∧ (∀ (r : Rw), r ∈ q → r.snd.size ≤ 64) ∧ v = (rdoM q o.fst o.snd.fst o.snd.snd.fst o.snd.snd.snd).fst ∧ e = (rdoM q o.fst o.snd.fst o.snd.snd.fst o.snd.snd.snd).snd.fst ∧ q2 = (rdoM q o.fst o.snd.fst o.snd.snd.fst o.snd.snd.snd).snd.snd)]) [true] true ⟨(by first | exact ⟨hp, hk⟩ | exact ⟨h1, h2, hv, he, hq⟩ | decide | rfl), (by decide), rfl, (by first | exact ⟨hp, hk⟩ | exact ⟨h1, h2, hv, he, hq⟩ | decide | rfl), (by first | exact ⟨hp, hk⟩ | exact ⟨h1, h2, hv, he, hq⟩ | decide | rfl), (by first | exact ⟨hp, hk⟩ | exact ⟨h1, h2, hv, he, hq⟩ | decide | rfl), (by first | exact ⟨hp, hk⟩ | exact ⟨h1, h2, hv, he, hq⟩ | decide | rfl), (by first | exact ⟨hp, hk⟩ | exact ⟨h1, h2, hv, he, hq⟩ | decide | rfl), (by first | exact ⟨hp, hk⟩ | exact ⟨h1, h2, hv, he, hq⟩ | decide | rfl), (by first | exact ⟨hp, hk⟩ | exact ⟨h1, h2, hv, he, hq⟩ | decide | rfl), (by first | exact ⟨hp, hk⟩ | exact ⟨h1, h2, hv, he, hq⟩ | decide | rfl), (by first | exact ⟨hp, hk⟩ | exact ⟨h1, h2, hv, he, hq⟩ | decide | rfl), trivial⟩ (by rfl) hsim
theorem U2_ok (q x y z : List Rw) (v : ByteArray) (e : Int) (q2 : List Rw) : OrcOK Tryd.prog (U2 q x y z v e q2) := ((OrcOK.none _).add _ false (mPlcC 2) fun args H r H' cs h hc => by
  unfold mPlcC at h
  split at h
  · cases h; obtain ⟨⟨hp, hk⟩, -⟩ := hc; rw [← hp]; exact placeR_ok _ hk
  · cases h).add _ false (mRDo2 q x y z v e q2) fun args H r H' cs h hc => by
  unfold mRDo2 at h
  split at h
  · cases h; obtain ⟨hm, rfl, rfl, rfl, rfl, rfl, rfl, rfl, rfl, ⟨h1, h2, rfl, rfl, rfl⟩, -⟩ := hc
    simp only [Bool.and_eq_true, beq_iff_eq] at hm
    obtain ⟨⟨⟨⟨rfl, rfl⟩, rfl⟩, rfl⟩, rfl⟩ := hm
    exact Spec.glAny (rdo_ok2 q x y z _ _ _ _ h1 h2)
  · cases h
theorem rtell2 (q x y z : List Rw) (o : OpT) (h1 : q.length ≤ 16) (h2 : ∀ r ∈ q, r.2.size ≤ 64) (hk : o.2.1.size ≤ 1073741824) (hp : plc o.2.1 = 2) (v : ByteArray) (e : Int) (q2 : List Rw) (hv : v = (rdoM q o.1 o.2.1 o.2.2.1 o.2.2.2).1) (he : e = (rdoM q o.1 o.2.1 o.2.2.1 o.2.2.2).2.1) (hq : q2 = (rdoM q o.1 o.2.1 o.2.2.1 o.2.2.2).2.2) : Eng.Spec Tryd.prog Go.Bla.gl 48 [.ref 0 0, .d (opD o)] (rm2 q x y z) (.d (.agg [.raw (.int .i64 e), .raw (.string v)])) (ru2 q2 x y z) := by
  refine spec_fn Tryd.func48 rfl fun {w N E act} hsim => ?_
  exact gr (U2_ok q x y z v e q2) Tryd.func48 (sr' := ⟨5, [.d (.agg [rI e, rS v])], [(0, .obj 107 [.own 5, .own 6, .own 7, .own 8]), (5, .row 142 2 x.length (rowEl x)), (6, .row 142 2 y.length (rowEl y)), (7, .row 142 2 q2.length (rowEl q2)), (8, .row 142 2 z.length (rowEl z))]⟩) (cs := [(Plc.plc o.snd.fst = (2 : Int) ∧ o.snd.fst.size ≤ 1073741824), (Ix 2 4), ((true) = true), (x.length = x.length), (rowEl x = rowEl x), (y.length = y.length), (rowEl y = rowEl y), (q.length = q.length), (rowEl q = rowEl q), (z.length = z.length), (rowEl z = rowEl z), (q.length ≤ 16 ∧ (∀ (r : Rw), r ∈ q → r.snd.size ≤ 64) ∧ v = (rdoM q o.fst o.snd.fst o.snd.snd.fst o.snd.snd.snd).fst ∧ e = (rdoM q o.fst o.snd.fst o.snd.snd.fst o.snd.snd.snd).snd.fst ∧ q2 = (rdoM q o.fst o.snd.fst o.snd.snd.fst o.snd.snd.snd).snd.snd)]) [true] true ⟨(by first | exact ⟨hp, hk⟩ | exact ⟨h1, h2, hv, he, hq⟩ | decide | rfl), (by decide), rfl, (by first | exact ⟨hp, hk⟩ | exact ⟨h1, h2, hv, he, hq⟩ | decide | rfl), (by first | exact ⟨hp, hk⟩ | exact ⟨h1, h2, hv, he, hq⟩ | decide | rfl), (by first | exact ⟨hp, hk⟩ | exact ⟨h1, h2, hv, he, hq⟩ | decide | rfl), (by first | exact ⟨hp, hk⟩ | exact ⟨h1, h2, hv, he, hq⟩ | decide | rfl), (by first | exact ⟨hp, hk⟩ | exact ⟨h1, h2, hv, he, hq⟩ | decide | rfl), (by first | exact ⟨hp, hk⟩ | exact ⟨h1, h2, hv, he, hq⟩ | decide | rfl), (by first | exact ⟨hp, hk⟩ | exact ⟨h1, h2, hv, he, hq⟩ | decide | rfl), (by first | exact ⟨hp, hk⟩ | exact ⟨h1, h2, hv, he, hq⟩ | decide | rfl), (by first | exact ⟨hp, hk⟩ | exact ⟨h1, h2, hv, he, hq⟩ | decide | rfl), trivial⟩ (by rfl) hsim
theorem U3_ok (q x y z : List Rw) (v : ByteArray) (e : Int) (q2 : List Rw) : OrcOK Tryd.prog (U3 q x y z v e q2) := ((OrcOK.none _).add _ false (mPlcC 3) fun args H r H' cs h hc => by
  unfold mPlcC at h
  split at h
  · cases h; obtain ⟨⟨hp, hk⟩, -⟩ := hc; rw [← hp]; exact placeR_ok _ hk
  · cases h).add _ false (mRDo3 q x y z v e q2) fun args H r H' cs h hc => by
  unfold mRDo3 at h
  split at h
  · cases h; obtain ⟨hm, rfl, rfl, rfl, rfl, rfl, rfl, rfl, rfl, ⟨h1, h2, rfl, rfl, rfl⟩, -⟩ := hc
    simp only [Bool.and_eq_true, beq_iff_eq] at hm
    obtain ⟨⟨⟨⟨rfl, rfl⟩, rfl⟩, rfl⟩, rfl⟩ := hm
    exact Spec.glAny (rdo_ok3 q x y z _ _ _ _ h1 h2)
  · cases h
theorem rtell3 (q x y z : List Rw) (o : OpT) (h1 : q.length ≤ 16) (h2 : ∀ r ∈ q, r.2.size ≤ 64) (hk : o.2.1.size ≤ 1073741824) (hp : plc o.2.1 = 3) (v : ByteArray) (e : Int) (q2 : List Rw) (hv : v = (rdoM q o.1 o.2.1 o.2.2.1 o.2.2.2).1) (he : e = (rdoM q o.1 o.2.1 o.2.2.1 o.2.2.2).2.1) (hq : q2 = (rdoM q o.1 o.2.1 o.2.2.1 o.2.2.2).2.2) : Eng.Spec Tryd.prog Go.Bla.gl 48 [.ref 0 0, .d (opD o)] (rm3 q x y z) (.d (.agg [.raw (.int .i64 e), .raw (.string v)])) (ru3 q2 x y z) := by
  refine spec_fn Tryd.func48 rfl fun {w N E act} hsim => ?_
  exact gr (U3_ok q x y z v e q2) Tryd.func48 (sr' := ⟨5, [.d (.agg [rI e, rS v])], [(0, .obj 107 [.own 5, .own 6, .own 7, .own 8]), (5, .row 142 2 x.length (rowEl x)), (6, .row 142 2 y.length (rowEl y)), (7, .row 142 2 z.length (rowEl z)), (8, .row 142 2 q2.length (rowEl q2))]⟩) (cs := [(Plc.plc o.snd.fst = (3 : Int) ∧ o.snd.fst.size ≤ 1073741824), (Ix 3 4), ((true) = true), (x.length = x.length), (rowEl x = rowEl x), (y.length = y.length), (rowEl y = rowEl y), (z.length = z.length), (rowEl z = rowEl z), (q.length = q.length), (rowEl q = rowEl q), (q.length ≤ 16 ∧ (∀ (r : Rw), r ∈ q → r.snd.size ≤ 64) ∧ v = (rdoM q o.fst o.snd.fst o.snd.snd.fst o.snd.snd.snd).fst ∧ e = (rdoM q o.fst o.snd.fst o.snd.snd.fst o.snd.snd.snd).snd.fst ∧ q2 = (rdoM q o.fst o.snd.fst o.snd.snd.fst o.snd.snd.snd).snd.snd)]) [true] true ⟨(by first | exact ⟨hp, hk⟩ | exact ⟨h1, h2, hv, he, hq⟩ | decide | rfl), (by decide), rfl, (by first | exact ⟨hp, hk⟩ | exact ⟨h1, h2, hv, he, hq⟩ | decide | rfl), (by first | exact ⟨hp, hk⟩ | exact ⟨h1, h2, hv, he, hq⟩ | decide | rfl), (by first | exact ⟨hp, hk⟩ | exact ⟨h1, h2, hv, he, hq⟩ | decide | rfl), (by first | exact ⟨hp, hk⟩ | exact ⟨h1, h2, hv, he, hq⟩ | decide | rfl), (by first | exact ⟨hp, hk⟩ | exact ⟨h1, h2, hv, he, hq⟩ | decide | rfl), (by first | exact ⟨hp, hk⟩ | exact ⟨h1, h2, hv, he, hq⟩ | decide | rfl), (by first | exact ⟨hp, hk⟩ | exact ⟨h1, h2, hv, he, hq⟩ | decide | rfl), (by first | exact ⟨hp, hk⟩ | exact ⟨h1, h2, hv, he, hq⟩ | decide | rfl), (by first | exact ⟨hp, hk⟩ | exact ⟨h1, h2, hv, he, hq⟩ | decide | rfl), trivial⟩ (by rfl) hsim
theorem rel_bound {l q : List Rw} (ht : Tidy l) (hp : l.Perm q) : q.length ≤ 16 ∧ ∀ r ∈ q, r.2.size ≤ 64 := ⟨hp.length_eq ▸ ht.few, fun r hr => (ht.sized r (hp.mem_iff.2 hr)).2.2⟩
theorem rel_pick {T Q : T4} (h : RelT T Q) (c : Int) : (pickT T c).Perm (pickT Q c) := by
  unfold pickT
  repeat' split
  · exact h.a
  · exact h.b
  · exact h.c
  · exact h.d
theorem next_rel {T Q : T4} (h : RelT T Q) (o : OpT) : RelT (nextT T o) (rnext Q o) := by
  have hp := (do_perm (rel_pick h (plc o.2.1)) (pick_tidy h.t (plc o.2.1)) o.1 o.2.1 o.2.2.1 o.2.2.2).2.2
  have ht := next_tidy h.t o
  refine ⟨ht, ?_, ?_, ?_, ?_⟩ <;> unfold nextT rnext resM putT <;> (repeat' split) <;> first | exact hp | exact h.a | exact h.b | exact h.c | exact h.d
theorem rtell_ok {T Q : T4} (h : RelT T Q) (o : OpT) (hk : o.2.1.size ≤ 1073741824) : Eng.Spec Tryd.prog Go.Bla.gl 48 [.ref 0 0, .d (opD o)] (rmT Q) (.d (anD (tellM T o))) (ruT (rnext Q o)) := by
  have hd := do_perm (rel_pick h (plc o.2.1)) (pick_tidy h.t (plc o.2.1)) o.1 o.2.1 o.2.2.1 o.2.2.2
  have hb := rel_bound (pick_tidy h.t (plc o.2.1)) (rel_pick h (plc o.2.1))
  have e1 : anD (tellM T o) = .agg [.raw (.int .i64 (rdoM (pickT Q (plc o.2.1)) o.1 o.2.1 o.2.2.1 o.2.2.2).2.1), .raw (.string (rdoM (pickT Q (plc o.2.1)) o.1 o.2.1 o.2.2.1 o.2.2.2).1)] := by
    rw [hd.1, hd.2.1]; rfl
  rw [e1]
  have hc := plc_bd o.2.1
  unfold rnext
  generalize hpc : plc o.2.1 = c at *
  have : c = 0 ∨ c = 1 ∨ c = 2 ∨ c = 3 := by omega
  rcases this with rfl | rfl | rfl | rfl
  · exact rtell0 Q.a Q.b Q.c Q.d o hb.1 hb.2 hk hpc _ _ _ rfl rfl rfl
  · exact rtell1 Q.b Q.a Q.c Q.d o hb.1 hb.2 hk hpc _ _ _ rfl rfl rfl
  · exact rtell2 Q.c Q.a Q.b Q.d o hb.1 hb.2 hk hpc _ _ _ rfl rfl rfl
  · exact rtell3 Q.d Q.a Q.b Q.c o hb.1 hb.2 hk hpc _ _ _ rfl rfl rfl
end Go.Prf

namespace Go.Prf
open Go Go.Eng Go.Proofs Go.Tab Go.Plc
set_option linter.unusedVariables false
set_option linter.unusedSimpArgs false
set_option maxRecDepth 100000
set_option maxHeartbeats 4000000
theorem V0_ok (Q Q' : T4) (e : Int) (v : ByteArray) : OrcOK Tryd.prog (V0 Q Q' e v) := (OrcOK.none _).add _ false (mTellR Q Q' e v) fun args H r H' cs h hc => by
  unfold mTellR at h
  split at h
  · rename_i k key val old _ _ _ _ _ _ _ _ _ _ _ _ _
    cases h; obtain ⟨hm, rfl, rfl, rfl, rfl, rfl, rfl, rfl, rfl, ⟨⟨T, hR, ht⟩, rfl, hk⟩, -⟩ := hc
    simp only [Bool.and_eq_true, beq_iff_eq] at hm
    obtain ⟨⟨⟨⟨rfl, rfl⟩, rfl⟩, rfl⟩, rfl⟩ := hm
    have h1 := rtell_ok hR (k, key, val, old) hk
    rw [← ht] at h1
    exact h1
  · cases h
abbrev GoQ (w0 : World) (N : Nat → Prop) (E0 : Env) (s : St) (r : List An) : Prop := ∀ (E : Env) (a : Act) (w : World), Sim (cx Tryd.prog Go.Bla.gl w0 N E0 []) E s a w → Goes Tryd.prog 24 (loopAt Tryd.f24 0) (RSpec (cx Tryd.prog Go.Bla.gl w0 N E0 []) ⟨0, [.d (.list 2 r.length (anEl r))], []⟩) a w
theorem row_anR {C : Cx} {E : Env} {a : Act} {w : World} (l : List OpT) (Q : T4) (acc : List An) (n i : Int) (x : An) (f : Nat → D) (hf : ∀ j, j < acc.length + 1 → f j = anEl (acc ++ [x]) j)
    (h : Sim C E (mk 0 23 [(3, .ref 0 0), (4, .own 5), (9, .d (.list 4 l.length (opEl l))), (10, .d (.raw (.int .i64 n))), (11, .d (.raw (.int .i64 i)))] (rmT Q ++ [(5, .row 43 2 (acc.length + 1) f)])) a w) : ∃ E', Sim C E' (rq1 l Q (acc ++ [x]) n i) a w := by
  obtain ⟨E', h1⟩ := h.rowEq (k := 5) (T := 43) (sz := 2) (n := acc.length + 1) (el := f) rfl (anEl (acc ++ [x])) hf
  refine ⟨E', ?_⟩
  have e : rq1 l Q (acc ++ [x]) n i = mk 0 23 [(3, .ref 0 0), (4, .own 5), (9, .d (.list 4 l.length (opEl l))), (10, .d (.raw (.int .i64 n))), (11, .d (.raw (.int .i64 i)))] (rmT Q ++ [(5, .row 43 2 (acc.length + 1) (anEl (acc ++ [x])))]) := by
    unfold rq1; rw [List.length_append]; rfl
  rw [e]
  exact h1
theorem rq_go {w0 : World} {N : Nat → Prop} {E0 : Env} (l : List OpT) (hs : Small l) (hl : l.length ≤ 1000000) : ∀ (d : Nat) (n i : Int), n = (l.length : Int) → 0 ≤ i → i + d = n → ∀ (T Q : T4) (acc : List An), RelT T Q → acc.length = i.toNat → GoQ w0 N E0 (rq1 l Q acc n i) (acc ++ repF T (l.drop i.toNat)) := by
  intro d
  induction d with
  | zero =>
    intro n i en h0 hd T Q acc hR ha E a w hsim
    have hr : acc ++ repF T (l.drop i.toNat) = acc := by rw [List.drop_eq_nil_of_le (by omega)]; simp [repF]
    rw [hr]
    let Q' : T4 := Q
    let e : Int := 0
    let v : ByteArray := ByteArray.empty
    rcases bd (decide (i < n)) with hb1 | hb1
    ·
     exact absurd (of_decide_eq_true hb1) (by omega)
    ·
     exact gr (V0_ok Q Q' e v) Tryd.func24 (sr' := ⟨0, [.d (.list 2 acc.length (anEl acc))], []⟩) (cs := [_]) [false] true ⟨hb1, trivial⟩ (by rfl) hsim
  | succ d ih =>
    intro n i en h0 hd T Q acc hR ha E a w hsim
    have hi : i.toNat < l.length := by omega
    have ew : IntKind.i64.wrap (i + 1) = i + 1 := wrapP (by omega)
    obtain ⟨T', hT⟩ : ∃ T', T' = nextT T (l.getD i.toNat noOp) := ⟨_, rfl⟩
    obtain ⟨Q', hQ⟩ : ∃ Q', Q' = rnext Q (l.getD i.toNat noOp) := ⟨_, rfl⟩
    obtain ⟨e, he⟩ : ∃ e, e = (tellM T (l.getD i.toNat noOp)).1 := ⟨_, rfl⟩
    obtain ⟨v, hv⟩ : ∃ v, v = (tellM T (l.getD i.toNat noOp)).2 := ⟨_, rfl⟩
    have hk := small_get hs hi
    have hev : (e, v) = tellM T (l.getD i.toNat noOp) := by rw [he, hv]
    have hr : acc ++ repF T (l.drop i.toNat) = (acc ++ [(e, v)]) ++ repF T' (l.drop (IntKind.i64.wrap (i + 1)).toNat) := by
      rw [getD_drop (d := noOp) hi, ew, show (i + 1).toNat = i.toNat + 1 by omega, List.append_assoc, hev, hT]; rfl
    have ih := ih n (IntKind.i64.wrap (i + 1)) en (by rw [ew]; omega) (by rw [ew]; omega) T' Q' (acc ++ [(e, v)]) (by rw [hT, hQ]; exact next_rel hR _) (by rw [List.length_append, ha, ew]; simp; omega)
    rw [← hr] at ih
    have hob : (∃ T, RelT T Q ∧ (e, v) = tellM T ((l.getD i.toNat noOp).1, (l.getD i.toNat noOp).2.1, (l.getD i.toNat noOp).2.2.1, (l.getD i.toNat noOp).2.2.2)) ∧ Q' = rnext Q ((l.getD i.toNat noOp).1, (l.getD i.toNat noOp).2.1, (l.getD i.toNat noOp).2.2.1, (l.getD i.toNat noOp).2.2.2) ∧ (l.getD i.toNat noOp).2.1.size ≤ 1073741824 := ⟨⟨T, hR, hev⟩, hQ, hk⟩
    rcases bd (decide (i < n)) with hb1 | hb1
    ·
     refine gh (V0_ok Q Q' e v) (k' := loopAt Tryd.f24 0) (s' := mk 0 23 [(3, .ref 0 0), (4, .own 5), (9, .d (.list 4 l.length (opEl l))), (10, vI n), (11, vI (IntKind.i64.wrap (i + 1)))] [(0, .obj 107 [.own 1, .own 2, .own 3, .own 4]), (1, .row 142 2 Q'.a.length (rowEl Q'.a)), (2, .row 142 2 Q'.b.length (rowEl Q'.b)), (3, .row 142 2 Q'.c.length (rowEl Q'.c)), (4, .row 142 2 Q'.d.length (rowEl Q'.d)), (5, .row 43 2 (acc.length + 1) (fun j => if j < acc.length then anEl acc j else segD true 2 (splice (List.map (fun j => (List.map D.raw (Value.agg #[Value.int IntKind.i64 (0 : Int), Value.string (ByteArray.mk #[])]).cells.toList).getD (j % 2) default) (List.range 2)) 0 (D.agg [rI e, rS v]).cells) (j - acc.length)))]) (cs := [_, ((0 : Int) ≤ i ∧ i < (↑l.length : Int)), ((true) = true), (Q.a.length = Q.a.length), (rowEl Q.a = rowEl Q.a), (Q.b.length = Q.b.length), (rowEl Q.b = rowEl Q.b), (Q.c.length = Q.c.length), (rowEl Q.c = rowEl Q.c), (Q.d.length = Q.d.length), (rowEl Q.d = rowEl Q.d), ((∃ T, RelT T Q ∧ (e, v) = tellM T ((l.getD i.toNat noOp).fst, (l.getD i.toNat noOp).snd.fst, (l.getD i.toNat noOp).snd.snd.fst, (l.getD i.toNat noOp).snd.snd.snd)) ∧ Q' = rnext Q ((l.getD i.toNat noOp).fst, (l.getD i.toNat noOp).snd.fst, (l.getD i.toNat noOp).snd.snd.fst, (l.getD i.toNat noOp).snd.snd.snd) ∧ (l.getD i.toNat noOp).snd.fst.size ≤ 1073741824), (acc.length + 1 ≤ 9223372036854775807 ∧ (acc.length + 1) * 24 ≤ 140737488355328)]) [true] [3,4,9,10,11] ⟨hb1, by omega, rfl, (by rfl), (by rfl), (by rfl), (by rfl), (by rfl), (by rfl), (by rfl), (by rfl), (by exact hob), by omega, trivial⟩ hsim fun E a w hsim => ?_
     obtain ⟨E2, h2⟩ := row_anR l Q' acc n (IntKind.i64.wrap (i + 1)) (e, v) _ (fun j hj => an_app acc (e, v) _ rfl j hj) hsim
     exact ih E2 a w h2
    ·
     exact absurd (of_decide_eq_false hb1) (by omega)
theorem relT0 : RelT T0 T0 := ⟨tidyT0, List.Perm.refl _, List.Perm.refl _, List.Perm.refl _, List.Perm.refl _⟩
theorem replayR_ok (l : List OpT) (hs : Small l) (hl : l.length ≤ 1000000) : Eng.Spec Tryd.prog Go.Bla.gl 24 [.d (.list 4 l.length (opEl l))] [] (.d (.list 2 (repF T0 l).length (anEl (repF T0 l)))) [] := by
  refine spec_fn Tryd.func24 rfl fun {w N E act} hsim => ?_
  let Q : T4 := T0
  let Q' : T4 := T0
  let e : Int := 0
  let v : ByteArray := ByteArray.empty
  refine gh (V0_ok Q Q' e v) (k' := loopAt Tryd.f24 0) (s' := let za := Value.slice none 0 0; mk 0 23 [(3, .ref 0 0), (4, .d (.raw za)), (9, .d (.list 4 l.length (opEl l))), (10, vI (↑l.length : Int)), (11, vI 0)] [(0, .obj 107 [.d (.raw za), .d (.raw za), .d (.raw za), .d (.raw za)])]) (cs := []) [] [3,4,9,10,11] trivial hsim fun E a w hsim => ?_
  obtain ⟨E1, h1⟩ := Sim_nilCell (k := 0) (T := 107) (R := 142) (sz := 2) (el := rowEl []) hsim [] [.d (.raw (.slice none 0 0)), .d (.raw (.slice none 0 0)), .d (.raw (.slice none 0 0))] (by kernel_rfl)
  obtain ⟨E2, h2⟩ := Sim_nilCell (k := 0) (T := 107) (R := 142) (sz := 2) (el := rowEl []) h1 [.own 1] [.d (.raw (.slice none 0 0)), .d (.raw (.slice none 0 0))] (by kernel_rfl)
  obtain ⟨E3, h3⟩ := Sim_nilCell (k := 0) (T := 107) (R := 142) (sz := 2) (el := rowEl []) h2 [.own 1, .own 2] [.d (.raw (.slice none 0 0))] (by kernel_rfl)
  obtain ⟨E4, h4⟩ := Sim_nilCell (k := 0) (T := 107) (R := 142) (sz := 2) (el := rowEl []) h3 [.own 1, .own 2, .own 3] [] (by kernel_rfl)
  obtain ⟨E5, h5⟩ := h4.nilRow (t := 4) rfl 43 2 (anEl [])
  exact rq_go l hs hl l.length (l.length : Int) 0 rfl (by omega) (by omega) T0 T0 [] relT0 rfl E5 a w ((congrArg (fun s => Sim _ E5 s a w) (by kernel_rfl)).mp h5)
abbrev GoP (w0 : World) (N : Nat → Prop) (E0 : Env) (s : St) (r : List OpT) : Prop := ∀ (E : Env) (a : Act) (w : World), Sim (cx Tryd.prog gz0 w0 N E0 []) E s a w → Goes Tryd.prog 25 (loopAt Tryd.f25 0) (RSpec (cx Tryd.prog gz0 w0 N E0 []) ⟨0, [.d (.list 4 r.length (opEl r))], []⟩) a w
theorem row_op {C : Cx} {E : Env} {a : Act} {w : World} (l acc : List OpT) (n i : Int) (x : OpT) (f : Nat → D) (hf : ∀ j, j < acc.length + 1 → f j = opEl (acc ++ [x]) j)
    (h : Sim C E (mk 0 26 [(3, .own 0), (6, .d (.list 4 l.length (opEl l))), (7, .d (.raw (.int .i64 n))), (8, .d (.raw (.int .i64 i)))] [(0, .row 41 4 (acc.length + 1) f)]) a w) : ∃ E', Sim C E' (op1 l (acc ++ [x]) n i) a w := by
  obtain ⟨E', h1⟩ := h.rowEq (k := 0) (T := 41) (sz := 4) (n := acc.length + 1) (el := f) rfl (opEl (acc ++ [x])) hf
  refine ⟨E', ?_⟩
  have e : op1 l (acc ++ [x]) n i = mk 0 26 [(3, .own 0), (6, .d (.list 4 l.length (opEl l))), (7, .d (.raw (.int .i64 n))), (8, .d (.raw (.int .i64 i)))] [(0, .row 41 4 (acc.length + 1) (opEl (acc ++ [x])))] := by
    unfold op1; rw [List.length_append]; rfl
  rw [e]
  exact h1
theorem op_app2 (os : List OpT) (x : OpT) (g : Nat → D) (hg : g 0 = opD x) (j : Nat) (hj : j < os.length + 1) : (if j < os.length then opEl os j else g (j - os.length)) = opEl (os ++ [x]) j := by
  unfold opEl
  by_cases h : j < os.length
  · rw [if_pos h]
    congr 1
    simp [List.getD, List.getElem?_append_left h]
  · rw [if_neg h]
    obtain rfl : j = os.length := by omega
    rw [Nat.sub_self, hg]
    congr 1
    simp [List.getD]
theorem op_go {w0 : World} {N : Nat → Prop} {E0 : Env} (l : List OpT) (hl : l.length ≤ 1000000) : ∀ (d : Nat) (n i : Int), n = (l.length : Int) → 0 ≤ i → i + d = n → ∀ acc : List OpT, acc.length = i.toNat → acc ++ l.drop i.toNat = l → GoP w0 N E0 (op1 l acc n i) l := by
  intro d
  induction d with
  | zero =>
    intro n i en h0 hd acc ha hac E a w hsim
    have hr : acc = l := by rw [List.drop_eq_nil_of_le (by omega), List.append_nil] at hac; exact hac
    rcases bd (decide (i < n)) with hb1 | hb1
    ·
     exact absurd (of_decide_eq_true hb1) (by omega)
    ·
     exact gr (OrcOK.none _) Tryd.func25 (sr' := ⟨0, [.d (.list 4 acc.length (opEl acc))], []⟩) (cs := [_]) [false] true ⟨hb1, trivial⟩ (by (rw [hr]; done)) hsim
  | succ d ih =>
    intro n i en h0 hd acc ha hac E a w hsim
    have hi : i.toNat < l.length := by omega
    have ew : IntKind.i64.wrap (i + 1) = i + 1 := wrapP (by omega)
    rw [getD_drop (d := noOp) hi] at hac
    have ih := ih n (IntKind.i64.wrap (i + 1)) en (by rw [ew]; omega) (by rw [ew]; omega) (acc ++ [l.getD i.toNat noOp]) (by rw [List.length_append, ha, ew]; simp; omega) (by rw [ew, show (i + 1).toNat = i.toNat + 1 by omega, List.append_assoc]; exact hac)
    rcases bd (decide (i < n)) with hb1 | hb1
    ·
     refine gh (OrcOK.none _) (k' := loopAt Tryd.f25 0) (s' := let za := l.getD i.toNat noOp; mk 0 26 [(3, .own 0), (6, .d (.list 4 l.length (opEl l))), (7, vI n), (8, vI (IntKind.i64.wrap (i + 1)))] [(0, .row 41 4 (acc.length + 1) (fun j => if j < acc.length then opEl acc j else segD true 4 (splice (List.map (fun j => (List.map D.raw (Value.agg #[Value.int IntKind.i64 (0 : Int), Value.string (ByteArray.mk #[]), Value.string (ByteArray.mk #[]), Value.string (ByteArray.mk #[])]).cells.toList).getD (j % 4) default) (List.range 4)) 0 (D.agg [rI za.fst, rS za.snd.fst, rS za.snd.snd.fst, rS za.snd.snd.snd]).cells) (j - acc.length)))]) (cs := [_, ((0 : Int) ≤ i ∧ i < (↑l.length : Int)), (acc.length + 1 ≤ 9223372036854775807 ∧ (acc.length + 1) * 56 ≤ 140737488355328)]) [true] [3,6,7,8] ⟨hb1, by omega, by omega, trivial⟩ hsim fun E a w hsim => ?_
     obtain ⟨E2, h2⟩ := row_op l acc n (IntKind.i64.wrap (i + 1)) (l.getD i.toNat noOp) _ (fun j hj => op_app2 acc (l.getD i.toNat noOp) _ rfl j hj) hsim
     exact ih E2 a w h2
    ·
     exact absurd (of_decide_eq_false hb1) (by omega)
theorem ops_ok (l : List OpT) (hl : l.length ≤ 1000000) : Eng.Spec Tryd.prog gz0 25 [.d (.list 4 l.length (opEl l))] [] (.d (.list 4 l.length (opEl l))) [] := by
  refine spec_fn Tryd.func25 rfl fun {w N E act} hsim => ?_
  refine gh (OrcOK.none _) (k' := loopAt Tryd.f25 0) (s' := mk 0 26 [(3, .d (.raw (Value.slice none 0 0))), (6, .d (.list 4 l.length (opEl l))), (7, vI (↑l.length : Int)), (8, vI 0)] []) (cs := []) [] [3,6,7,8] trivial hsim fun E a w hsim => ?_
  obtain ⟨E2, h2⟩ := hsim.nilRow (t := 3) rfl 41 4 (opEl [])
  exact op_go l hl l.length (l.length : Int) 0 rfl (by omega) (by omega) [] rfl rfl E2 a w h2
end Go.Prf

namespace Go.Prf
open Go Go.Eng Go.Proofs Go.Tab Go.Plc
set_option linter.unusedVariables false
set_option linter.unusedSimpArgs false
set_option maxRecDepth 100000
set_option maxHeartbeats 4000000
abbrev GoK1 (w0 : World) (N : Nat → Prop) (E0 : Env) (s : St) (r : Int × Int × Int) : Prop := ∀ (E : Env) (a : Act) (w : World), Sim (cx Tryd.prog gB w0 N E0 []) E s a w → Goes Tryd.prog 20 (loopAt Tryd.f20 0) (RSpec (cx Tryd.prog gB w0 N E0 []) ⟨0, [.tup [.d (.agg [.raw (.int .i64 r.1), .raw (.int .i64 r.2.1)]), .d (.raw (.int .i64 r.2.2))]], []⟩) a w
abbrev GoK2 (w0 : World) (N : Nat → Prop) (E0 : Env) (s : St) (r : Int × Int × Int) : Prop := ∀ (E : Env) (a : Act) (w : World), Sim (cx Tryd.prog gB w0 N E0 []) E s a w → Goes Tryd.prog 20 (loopAt Tryd.f20 1) (RSpec (cx Tryd.prog gB w0 N E0 []) ⟨0, [.tup [.d (.agg [.raw (.int .i64 r.1), .raw (.int .i64 r.2.1)]), .d (.raw (.int .i64 r.2.2))]], []⟩) a w
abbrev GoK3 (w0 : World) (N : Nat → Prop) (E0 : Env) (s : St) (r : Int × Int × Int) : Prop := ∀ (E : Env) (a : Act) (w : World), Sim (cx Tryd.prog gB w0 N E0 []) E s a w → Goes Tryd.prog 20 (loopAt Tryd.f20 2) (RSpec (cx Tryd.prog gB w0 N E0 []) ⟨0, [.tup [.d (.agg [.raw (.int .i64 r.1), .raw (.int .i64 r.2.1)]), .d (.raw (.int .i64 r.2.2))]], []⟩) a w
abbrev GoK4 (w0 : World) (N : Nat → Prop) (E0 : Env) (s : St) (r : Int × Int × Int) : Prop := ∀ (E : Env) (a : Act) (w : World), Sim (cx Tryd.prog gB w0 N E0 []) E s a w → Goes Tryd.prog 20 (loopAt Tryd.f20 3) (RSpec (cx Tryd.prog gB w0 N E0 []) ⟨0, [.tup [.d (.agg [.raw (.int .i64 r.1), .raw (.int .i64 r.2.1)]), .d (.raw (.int .i64 r.2.2))]], []⟩) a w
abbrev GoK5 (w0 : World) (N : Nat → Prop) (E0 : Env) (s : St) (r : Int × Int × Int) : Prop := ∀ (E : Env) (a : Act) (w : World), Sim (cx Tryd.prog gB w0 N E0 []) E s a w → Goes Tryd.prog 20 (loopAt Tryd.f20 4) (RSpec (cx Tryd.prog gB w0 N E0 []) ⟨0, [.tup [.d (.agg [.raw (.int .i64 r.1), .raw (.int .i64 r.2.1)]), .d (.raw (.int .i64 r.2.2))]], []⟩) a w
def r4 (x : Int) : Int × Int × Int := if 0 ≤ x then (4, x, 0) else (0, 0, 0)
end Go.Prf

namespace Go.Prf
open Go Go.Eng Go.Proofs Go.Tab Go.Plc
set_option linter.unusedVariables false
set_option linter.unusedSimpArgs false
set_option maxRecDepth 100000
set_option maxHeartbeats 4000000
abbrev GoIC (w0 : World) (N : Nat → Prop) (E0 : Env) (s : St) (r : List Ca) : Prop := ∀ (E : Env) (a : Act) (w : World), Sim (cx Tryd.prog gz0 w0 N E0 []) E s a w → Goes Tryd.prog 21 (loopAt Tryd.f21 0) (RSpec (cx Tryd.prog gz0 w0 N E0 []) ⟨0, [.d (.list 10 r.length (caEl r))], []⟩) a w
theorem app_Cr (os : List Ca) (x : Ca) (g : Nat → D) (hg : g 0 = caD x) (j : Nat) (hj : j < os.length + 1) : (if j < os.length then caEl os j else g (j - os.length)) = caEl (os ++ [x]) j := by
  unfold caEl
  by_cases h : j < os.length
  · rw [if_pos h]
    congr 1
    simp [List.getD, List.getElem?_append_left h]
  · rw [if_neg h]
    obtain rfl : j = os.length := by omega
    rw [Nat.sub_self, hg]
    congr 1
    simp [List.getD]
abbrev GoIP (w0 : World) (N : Nat → Prop) (E0 : Env) (s : St) (r : List Pt) : Prop := ∀ (E : Env) (a : Act) (w : World), Sim (cx Tryd.prog gz0 w0 N E0 []) E s a w → Goes Tryd.prog 22 (loopAt Tryd.f22 0) (RSpec (cx Tryd.prog gz0 w0 N E0 []) ⟨0, [.d (.list 5 r.length (ptEl r))], []⟩) a w
theorem app_Pr (os : List Pt) (x : Pt) (g : Nat → D) (hg : g 0 = ptD x) (j : Nat) (hj : j < os.length + 1) : (if j < os.length then ptEl os j else g (j - os.length)) = ptEl (os ++ [x]) j := by
  unfold ptEl
  by_cases h : j < os.length
  · rw [if_pos h]
    congr 1
    simp [List.getD, List.getElem?_append_left h]
  · rw [if_neg h]
    obtain rfl : j = os.length := by omega
    rw [Nat.sub_self, hg]
    congr 1
    simp [List.getD]
end Go.Prf

namespace Go.Prf
open Go Go.Eng Go.Tab Go.Plc
end Go.Prf

namespace Go.Prf
open Go Go.Eng Go.Proofs Go.Tab Go.Plc
set_option linter.unusedVariables false
set_option linter.unusedSimpArgs false
set_option maxRecDepth 100000
set_option maxHeartbeats 4000000
abbrev GoV (w0 : World) (N : Nat → Prop) (E0 : Env) (s : St) : Prop := ∀ (E : Env) (a : Act) (w : World), Sim (cx Tryd.prog gB w0 N E0 []) E s a w → Goes Tryd.prog 6 (loopAt Tryd.f6 0) (RSpec (cx Tryd.prog gB w0 N E0 []) ⟨0, [.d (.raw (.bool true))], []⟩) a w
theorem repF_len : ∀ (l : List OpT) (T : T4), (repF T l).length = l.length
  | [], _ => rfl
  | o :: r, T => congrArg (· + 1) (repF_len r (nextT T o))
end Go.Prf
