/-
  Contracts of given functions, plain laws. No condition.
-/
import Derived.Test.YtbppcjkpkelbfaaDoorRmB
import Derived.Test.YtbppcjkpkelbfaaDoorRmC0
import Derived.Test.YtbppcjkpkelbfaaDoorRmC1
import Derived.Test.YtbppcjkpkelbfaaDoorRmC2
import Derived.Test.YtbppcjkpkelbfaaDoorRmC3
import Derived.Test.YtbppcjkpkelbfaaDoorRef4
import Derived.Test.YtbppcjkpkelbfaaDoorPrzG
namespace Go.Prf
open Go Go.Eng Go.Proofs Go.Tab Go.Plc
set_option maxRecDepth 100000
set_option maxHeartbeats 4000000
theorem U0_ok (q x y z : List Rw) (v : ByteArray) (e : Int) (q2 : List Rw) : OrcOK Tryd.prog (U0 q x y z v e q2) := ((OrcOK.none _).add _ false (mPlcC 0) fun args H r H' cs h hc => by
 unfold mPlcC at h
 split at h
 · cases h; obtain ⟨⟨hp, hk⟩, -⟩ := hc; rw [← hp]; exact placeR_ok _ hk
 · cases h).add _ false (mRDo0 q x y z v e q2) fun args H r H' cs h hc => by
 unfold mRDo0 at h
 split at h
 ·
  cases h; obtain ⟨hm, rfl, rfl, rfl, rfl, rfl, rfl, rfl, rfl, ⟨h1, h2, rfl, rfl, rfl⟩, -⟩ := hc
  simp only [Bool.and_eq_true, beq_iff_eq] at hm
  obtain ⟨⟨⟨⟨rfl, rfl⟩, rfl⟩, rfl⟩, rfl⟩ := hm
  exact Spec.glAny (rdo_ok0 q x y z _ _ _ _ h1 h2)
 · cases h
theorem rtell0 (q x y z : List Rw) (o : OpT) (h1 : q.length ≤ 16) (h2 : ∀ r ∈ q, r.2.size ≤ 64) (hk : o.2.1.size ≤ 1073741824) (hp : plc o.2.1 = 0) (v : ByteArray) (e : Int) (q2 : List Rw) (hv : v = (rdoM q o.1 o.2.1 o.2.2.1 o.2.2.2).1) (he : e = (rdoM q o.1 o.2.1 o.2.2.1 o.2.2.2).2.1) (hq : q2 = (rdoM q o.1 o.2.1 o.2.2.1 o.2.2.2).2.2) : Eng.Spec Tryd.prog Go.Bla.gl 48 [.ref 0 0, .d (opD o)] (rm0 q x y z) (.d (.agg [.raw (.int .i64 e), .raw (.string v)])) (ru0 q2 x y z) := by
 refine spec_fn Tryd.func48 rfl fun {w N E act} hsim => ?_
 exact gr (U0_ok q x y z v e q2) Tryd.func48 (sr' := ⟨5, [.d (.agg [rI e, rS v])], [(0, .obj 107 [.own 5, .own 6, .own 7, .own 8]), (5, .row 142 2 q2.length (rowEl q2)), (6, .row 142 2 x.length (rowEl x)), (7, .row 142 2 y.length (rowEl y)), (8, .row 142 2 z.length (rowEl z))]⟩) (cs := [(Plc.plc o.snd.fst = (0 : Int) ∧ o.snd.fst.size ≤ 1073741824), (Ix 0 4), ((true) = true), (q.length = q.length), (rowEl q = rowEl q), (x.length = x.length), (rowEl x = rowEl x), (y.length = y.length), (rowEl y = rowEl y), (z.length = z.length), (rowEl z = rowEl z), (q.length ≤ 16 ∧ (∀ (r : Rw), r ∈ q → r.snd.size ≤ 64) ∧ v = (rdoM q o.fst o.snd.fst o.snd.snd.fst o.snd.snd.snd).fst ∧ e = (rdoM q o.fst o.snd.fst o.snd.snd.fst o.snd.snd.snd).snd.fst ∧ q2 = (rdoM q o.fst o.snd.fst o.snd.snd.fst o.snd.snd.snd).snd.snd)]) [true] true ⟨(by first | exact ⟨hp, hk⟩ | exact ⟨h1, h2, hv, he, hq⟩ | decide | rfl), (by decide), rfl, (by first | exact ⟨hp, hk⟩ | exact ⟨h1, h2, hv, he, hq⟩ | decide | rfl), (by first | exact ⟨hp, hk⟩ | exact ⟨h1, h2, hv, he, hq⟩ | decide | rfl), (by first | exact ⟨hp, hk⟩ | exact ⟨h1, h2, hv, he, hq⟩ | decide | rfl), (by first | exact ⟨hp, hk⟩ | exact ⟨h1, h2, hv, he, hq⟩ | decide | rfl), (by first | exact ⟨hp, hk⟩ | exact ⟨h1, h2, hv, he, hq⟩ | decide | rfl), (by first | exact ⟨hp, hk⟩ | exact ⟨h1, h2, hv, he, hq⟩ | decide | rfl), (by first | exact ⟨hp, hk⟩ | exact ⟨h1, h2, hv, he, hq⟩ | decide | rfl), (by first | exact ⟨hp, hk⟩ | exact ⟨h1, h2, hv, he, hq⟩ | decide | rfl), (by first | exact ⟨hp, hk⟩ | exact ⟨h1, h2, hv, he, hq⟩ | decide | rfl), trivial⟩ (by rfl) hsim
theorem U1_ok (q x y z : List Rw) (v : ByteArray) (e : Int) (q2 : List Rw) : OrcOK Tryd.prog (U1 q x y z v e q2) := ((OrcOK.none _).add _ false (mPlcC 1) fun args H r H' cs h hc => by
 unfold mPlcC at h
 split at h
 · cases h; obtain ⟨⟨hp, hk⟩, -⟩ := hc; rw [← hp]; exact placeR_ok _ hk
 · cases h).add _ false (mRDo1 q x y z v e q2) fun args H r H' cs h hc => by
 unfold mRDo1 at h
 split at h
 ·
  cases h; obtain ⟨hm, rfl, rfl, rfl, rfl, rfl, rfl, rfl, rfl, ⟨h1, h2, rfl, rfl, rfl⟩, -⟩ := hc
  simp only [Bool.and_eq_true, beq_iff_eq] at hm
  obtain ⟨⟨⟨⟨rfl, rfl⟩, rfl⟩, rfl⟩, rfl⟩ := hm
  exact Spec.glAny (rdo_ok1 q x y z _ _ _ _ h1 h2)
 · cases h
theorem rtell1 (q x y z : List Rw) (o : OpT) (h1 : q.length ≤ 16) (h2 : ∀ r ∈ q, r.2.size ≤ 64) (hk : o.2.1.size ≤ 1073741824) (hp : plc o.2.1 = 1) (v : ByteArray) (e : Int) (q2 : List Rw) (hv : v = (rdoM q o.1 o.2.1 o.2.2.1 o.2.2.2).1) (he : e = (rdoM q o.1 o.2.1 o.2.2.1 o.2.2.2).2.1) (hq : q2 = (rdoM q o.1 o.2.1 o.2.2.1 o.2.2.2).2.2) : Eng.Spec Tryd.prog Go.Bla.gl 48 [.ref 0 0, .d (opD o)] (rm1 q x y z) (.d (.agg [.raw (.int .i64 e), .raw (.string v)])) (ru1 q2 x y z) := by
 refine spec_fn Tryd.func48 rfl fun {w N E act} hsim => ?_
 exact gr (U1_ok q x y z v e q2) Tryd.func48 (sr' := ⟨5, [.d (.agg [rI e, rS v])], [(0, .obj 107 [.own 5, .own 6, .own 7, .own 8]), (5, .row 142 2 x.length (rowEl x)), (6, .row 142 2 q2.length (rowEl q2)), (7, .row 142 2 y.length (rowEl y)), (8, .row 142 2 z.length (rowEl z))]⟩) (cs := [(Plc.plc o.snd.fst = (1 : Int) ∧ o.snd.fst.size ≤ 1073741824), (Ix 1 4), ((true) = true), (x.length = x.length), (rowEl x = rowEl x), (q.length = q.length), (rowEl q = rowEl q), (y.length = y.length), (rowEl y = rowEl y), (z.length = z.length), (rowEl z = rowEl z), (q.length ≤ 16 ∧ (∀ (r : Rw), r ∈ q → r.snd.size ≤ 64) ∧ v = (rdoM q o.fst o.snd.fst o.snd.snd.fst o.snd.snd.snd).fst ∧ e = (rdoM q o.fst o.snd.fst o.snd.snd.fst o.snd.snd.snd).snd.fst ∧ q2 = (rdoM q o.fst o.snd.fst o.snd.snd.fst o.snd.snd.snd).snd.snd)]) [true] true ⟨(by first | exact ⟨hp, hk⟩ | exact ⟨h1, h2, hv, he, hq⟩ | decide | rfl), (by decide), rfl, (by first | exact ⟨hp, hk⟩ | exact ⟨h1, h2, hv, he, hq⟩ | decide | rfl), (by first | exact ⟨hp, hk⟩ | exact ⟨h1, h2, hv, he, hq⟩ | decide | rfl), (by first | exact ⟨hp, hk⟩ | exact ⟨h1, h2, hv, he, hq⟩ | decide | rfl), (by first | exact ⟨hp, hk⟩ | exact ⟨h1, h2, hv, he, hq⟩ | decide | rfl), (by first | exact ⟨hp, hk⟩ | exact ⟨h1, h2, hv, he, hq⟩ | decide | rfl), (by first | exact ⟨hp, hk⟩ | exact ⟨h1, h2, hv, he, hq⟩ | decide | rfl), (by first | exact ⟨hp, hk⟩ | exact ⟨h1, h2, hv, he, hq⟩ | decide | rfl), (by first | exact ⟨hp, hk⟩ | exact ⟨h1, h2, hv, he, hq⟩ | decide | rfl), (by first | exact ⟨hp, hk⟩ | exact ⟨h1, h2, hv, he, hq⟩ | decide | rfl), trivial⟩ (by rfl) hsim
theorem U2_ok (q x y z : List Rw) (v : ByteArray) (e : Int) (q2 : List Rw) : OrcOK Tryd.prog (U2 q x y z v e q2) := ((OrcOK.none _).add _ false (mPlcC 2) fun args H r H' cs h hc => by
 unfold mPlcC at h
 split at h
 · cases h; obtain ⟨⟨hp, hk⟩, -⟩ := hc; rw [← hp]; exact placeR_ok _ hk
 · cases h).add _ false (mRDo2 q x y z v e q2) fun args H r H' cs h hc => by
 unfold mRDo2 at h
 split at h
 ·
  cases h; obtain ⟨hm, rfl, rfl, rfl, rfl, rfl, rfl, rfl, rfl, ⟨h1, h2, rfl, rfl, rfl⟩, -⟩ := hc
  simp only [Bool.and_eq_true, beq_iff_eq] at hm
  obtain ⟨⟨⟨⟨rfl, rfl⟩, rfl⟩, rfl⟩, rfl⟩ := hm
  exact Spec.glAny (rdo_ok2 q x y z _ _ _ _ h1 h2)
 · cases h
theorem rtell2 (q x y z : List Rw) (o : OpT) (h1 : q.length ≤ 16) (h2 : ∀ r ∈ q, r.2.size ≤ 64) (hk : o.2.1.size ≤ 1073741824) (hp : plc o.2.1 = 2) (v : ByteArray) (e : Int) (q2 : List Rw) (hv : v = (rdoM q o.1 o.2.1 o.2.2.1 o.2.2.2).1) (he : e = (rdoM q o.1 o.2.1 o.2.2.1 o.2.2.2).2.1) (hq : q2 = (rdoM q o.1 o.2.1 o.2.2.1 o.2.2.2).2.2) : Eng.Spec Tryd.prog Go.Bla.gl 48 [.ref 0 0, .d (opD o)] (rm2 q x y z) (.d (.agg [.raw (.int .i64 e), .raw (.string v)])) (ru2 q2 x y z) := by
 refine spec_fn Tryd.func48 rfl fun {w N E act} hsim => ?_
 exact gr (U2_ok q x y z v e q2) Tryd.func48 (sr' := ⟨5, [.d (.agg [rI e, rS v])], [(0, .obj 107 [.own 5, .own 6, .own 7, .own 8]), (5, .row 142 2 x.length (rowEl x)), (6, .row 142 2 y.length (rowEl y)), (7, .row 142 2 q2.length (rowEl q2)), (8, .row 142 2 z.length (rowEl z))]⟩) (cs := [(Plc.plc o.snd.fst = (2 : Int) ∧ o.snd.fst.size ≤ 1073741824), (Ix 2 4), ((true) = true), (x.length = x.length), (rowEl x = rowEl x), (y.length = y.length), (rowEl y = rowEl y), (q.length = q.length), (rowEl q = rowEl q), (z.length = z.length), (rowEl z = rowEl z), (q.length ≤ 16 ∧ (∀ (r : Rw), r ∈ q → r.snd.size ≤ 64) ∧ v = (rdoM q o.fst o.snd.fst o.snd.snd.fst o.snd.snd.snd).fst ∧ e = (rdoM q o.fst o.snd.fst o.snd.snd.fst o.snd.snd.snd).snd.fst ∧ q2 = (rdoM q o.fst o.snd.fst o.snd.snd.fst o.snd.snd.snd).snd.snd)]) [true] true ⟨(by first | exact ⟨hp, hk⟩ | exact ⟨h1, h2, hv, he, hq⟩ | decide | rfl), (by decide), rfl, (by first | exact ⟨hp, hk⟩ | exact ⟨h1, h2, hv, he, hq⟩ | decide | rfl), (by first | exact ⟨hp, hk⟩ | exact ⟨h1, h2, hv, he, hq⟩ | decide | rfl), (by first | exact ⟨hp, hk⟩ | exact ⟨h1, h2, hv, he, hq⟩ | decide | rfl), (by first | exact ⟨hp, hk⟩ | exact ⟨h1, h2, hv, he, hq⟩ | decide | rfl), (by first | exact ⟨hp, hk⟩ | exact ⟨h1, h2, hv, he, hq⟩ | decide | rfl), (by first | exact ⟨hp, hk⟩ | exact ⟨h1, h2, hv, he, hq⟩ | decide | rfl), (by first | exact ⟨hp, hk⟩ | exact ⟨h1, h2, hv, he, hq⟩ | decide | rfl), (by first | exact ⟨hp, hk⟩ | exact ⟨h1, h2, hv, he, hq⟩ | decide | rfl), (by first | exact ⟨hp, hk⟩ | exact ⟨h1, h2, hv, he, hq⟩ | decide | rfl), trivial⟩ (by rfl) hsim
theorem U3_ok (q x y z : List Rw) (v : ByteArray) (e : Int) (q2 : List Rw) : OrcOK Tryd.prog (U3 q x y z v e q2) := ((OrcOK.none _).add _ false (mPlcC 3) fun args H r H' cs h hc => by
 unfold mPlcC at h
 split at h
 · cases h; obtain ⟨⟨hp, hk⟩, -⟩ := hc; rw [← hp]; exact placeR_ok _ hk
 · cases h).add _ false (mRDo3 q x y z v e q2) fun args H r H' cs h hc => by
 unfold mRDo3 at h
 split at h
 ·
  cases h; obtain ⟨hm, rfl, rfl, rfl, rfl, rfl, rfl, rfl, rfl, ⟨h1, h2, rfl, rfl, rfl⟩, -⟩ := hc
  simp only [Bool.and_eq_true, beq_iff_eq] at hm
  obtain ⟨⟨⟨⟨rfl, rfl⟩, rfl⟩, rfl⟩, rfl⟩ := hm
  exact Spec.glAny (rdo_ok3 q x y z _ _ _ _ h1 h2)
 · cases h
theorem rtell3 (q x y z : List Rw) (o : OpT) (h1 : q.length ≤ 16) (h2 : ∀ r ∈ q, r.2.size ≤ 64) (hk : o.2.1.size ≤ 1073741824) (hp : plc o.2.1 = 3) (v : ByteArray) (e : Int) (q2 : List Rw) (hv : v = (rdoM q o.1 o.2.1 o.2.2.1 o.2.2.2).1) (he : e = (rdoM q o.1 o.2.1 o.2.2.1 o.2.2.2).2.1) (hq : q2 = (rdoM q o.1 o.2.1 o.2.2.1 o.2.2.2).2.2) : Eng.Spec Tryd.prog Go.Bla.gl 48 [.ref 0 0, .d (opD o)] (rm3 q x y z) (.d (.agg [.raw (.int .i64 e), .raw (.string v)])) (ru3 q2 x y z) := by
 refine spec_fn Tryd.func48 rfl fun {w N E act} hsim => ?_
 exact gr (U3_ok q x y z v e q2) Tryd.func48 (sr' := ⟨5, [.d (.agg [rI e, rS v])], [(0, .obj 107 [.own 5, .own 6, .own 7, .own 8]), (5, .row 142 2 x.length (rowEl x)), (6, .row 142 2 y.length (rowEl y)), (7, .row 142 2 z.length (rowEl z)), (8, .row 142 2 q2.length (rowEl q2))]⟩) (cs := [(Plc.plc o.snd.fst = (3 : Int) ∧ o.snd.fst.size ≤ 1073741824), (Ix 3 4), ((true) = true), (x.length = x.length), (rowEl x = rowEl x), (y.length = y.length), (rowEl y = rowEl y), (z.length = z.length), (rowEl z = rowEl z), (q.length = q.length), (rowEl q = rowEl q), (q.length ≤ 16 ∧ (∀ (r : Rw), r ∈ q → r.snd.size ≤ 64) ∧ v = (rdoM q o.fst o.snd.fst o.snd.snd.fst o.snd.snd.snd).fst ∧ e = (rdoM q o.fst o.snd.fst o.snd.snd.fst o.snd.snd.snd).snd.fst ∧ q2 = (rdoM q o.fst o.snd.fst o.snd.snd.fst o.snd.snd.snd).snd.snd)]) [true] true ⟨(by first | exact ⟨hp, hk⟩ | exact ⟨h1, h2, hv, he, hq⟩ | decide | rfl), (by decide), rfl, (by first | exact ⟨hp, hk⟩ | exact ⟨h1, h2, hv, he, hq⟩ | decide | rfl), (by first | exact ⟨hp, hk⟩ | exact ⟨h1, h2, hv, he, hq⟩ | decide | rfl), (by first | exact ⟨hp, hk⟩ | exact ⟨h1, h2, hv, he, hq⟩ | decide | rfl), (by first | exact ⟨hp, hk⟩ | exact ⟨h1, h2, hv, he, hq⟩ | decide | rfl), (by first | exact ⟨hp, hk⟩ | exact ⟨h1, h2, hv, he, hq⟩ | decide | rfl), (by first | exact ⟨hp, hk⟩ | exact ⟨h1, h2, hv, he, hq⟩ | decide | rfl), (by first | exact ⟨hp, hk⟩ | exact ⟨h1, h2, hv, he, hq⟩ | decide | rfl), (by first | exact ⟨hp, hk⟩ | exact ⟨h1, h2, hv, he, hq⟩ | decide | rfl), (by first | exact ⟨hp, hk⟩ | exact ⟨h1, h2, hv, he, hq⟩ | decide | rfl), trivial⟩ (by rfl) hsim
theorem rel_bound {l q : List Rw} (ht : Tidy l) (hp : l.Perm q) : q.length ≤ 16 ∧ ∀ r ∈ q, r.2.size ≤ 64 := ⟨hp.length_eq ▸ ht.few, fun r hr => (ht.sized r (hp.mem_iff.2 hr)).2.2⟩
theorem rel_pick {T Q : T4} (h : RelT T Q) (c : Int) : (pickT T c).Perm (pickT Q c) := by
 unfold pickT
 repeat' split
 · exact h.a
 · exact h.b
 · exact h.c
 · exact h.d
theorem next_rel {T Q : T4} (h : RelT T Q) (o : OpT) : RelT (nextT T o) (rnext Q o) := by
 have hp := (do_perm (rel_pick h (plc o.2.1)) (pick_tidy h.t (plc o.2.1)) o.1 o.2.1 o.2.2.1 o.2.2.2).2.2
 have ht := next_tidy h.t o
 refine ⟨ht, ?_, ?_, ?_, ?_⟩ <;> unfold nextT rnext resM putT <;> (repeat' split) <;> first | exact hp | exact h.a | exact h.b | exact h.c | exact h.d
theorem rtell_ok {T Q : T4} (h : RelT T Q) (o : OpT) (hk : o.2.1.size ≤ 1073741824) : Eng.Spec Tryd.prog Go.Bla.gl 48 [.ref 0 0, .d (opD o)] (rmT Q) (.d (anD (tellM T o))) (ruT (rnext Q o)) := by
 have hd := do_perm (rel_pick h (plc o.2.1)) (pick_tidy h.t (plc o.2.1)) o.1 o.2.1 o.2.2.1 o.2.2.2
 have hb := rel_bound (pick_tidy h.t (plc o.2.1)) (rel_pick h (plc o.2.1))
 have e1 : anD (tellM T o) = .agg [.raw (.int .i64 (rdoM (pickT Q (plc o.2.1)) o.1 o.2.1 o.2.2.1 o.2.2.2).2.1), .raw (.string (rdoM (pickT Q (plc o.2.1)) o.1 o.2.1 o.2.2.1 o.2.2.2).1)] := by
  rw [hd.1, hd.2.1]; rfl
 rw [e1]
 have hc := plc_bd o.2.1
 unfold rnext
 generalize hpc : plc o.2.1 = c at *
 have : c = 0 ∨ c = 1 ∨ c = 2 ∨ c = 3 := by omega
 rcases this with rfl | rfl | rfl | rfl
 · exact rtell0 Q.a Q.b Q.c Q.d o hb.1 hb.2 hk hpc _ _ _ rfl rfl rfl
 · exact rtell1 Q.b Q.a Q.c Q.d o hb.1 hb.2 hk hpc _ _ _ rfl rfl rfl
 · exact rtell2 Q.c Q.a Q.b Q.d o hb.1 hb.2 hk hpc _ _ _ rfl rfl rfl
 · exact rtell3 Q.d Q.a Q.b Q.c o hb.1 hb.2 hk hpc _ _ _ rfl rfl rfl
end Go.Prf

namespace Go.Prf
open Go Go.Eng Go.Proofs Go.Tab Go.Plc
set_option maxRecDepth 100000
set_option maxHeartbeats 4000000
theorem relT0 : RelT T0 T0 := ⟨tidyT0, List.Perm.refl _, List.Perm.refl _, List.Perm.refl _, List.Perm.refl _⟩
end Go.Prf
