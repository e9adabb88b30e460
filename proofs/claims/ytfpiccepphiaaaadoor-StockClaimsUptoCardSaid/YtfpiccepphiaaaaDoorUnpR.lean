/-
  Contracts of given functions, or plain laws that they need. No condition.
-/
import Derived.Test.YtfpiccepphiaaaaDoorUnpT
import Derived.RangeFuncNested
import Derived.RangeFuncBound
import Derived.RangeFuncCalls
import Derived.RangeFuncLeaves
import Derived.RangeFuncBox
import Derived.Shelf.Abstract
import Derived.Shelf.RegionOpen
import Derived.WalkKit
import Derived.OwnWalkIn
import Derived.TacticsInMore
import Derived.LoopNIn
import Derived.LoopIn
import Derived.Maps.AppendAt
namespace Go.Nest
open Go Go.Eng Go.Proofs Go.RowKit Go.Shelf
attribute [local go_sem] Oper.semAt_some
set_option linter.unusedVariables false
set_option linter.all false
theorem glIn_below {gl : Nat → Option (List D)} {w w' : World} (h : GlIn gl w) (hb : Below w.heap.size w w') : GlIn gl w' := fun g cs hg => by
  obtain ⟨h1, us, h2, h3, h4⟩ := h g cs hg
  refine ⟨Nat.lt_of_lt_of_le h1 hb.size, us, VCs.imp (fun b hb' => Nat.lt_of_lt_of_le hb' hb.size) (fun a v ha hc => (hb.cell (p := a) ha).trans hc) _ _ h2, fun j u hu => (hb.cell (p := ⟨g, j, none⟩) h1).trans (h3 j u hu), fun hl => ?_⟩
  have := h4 hl
  unfold wholeOf at this ⊢
  rw [hb.block g h1]; exact this
/-- Take's contract, in the walk's words. -/
theorem take_calls {m : Int} {e1 e2 : Value} (h1 : ErrV e1) (h2 : ErrV e2) (s : ByteArray) (hs : s.size ≤ 1073741824) (w : World) (hg : GlIn (glU m e1 e2) w) : Calls Tryd.prog 58 #[.string s] w fun e w' => e = .returned (.tuple #[.string (takeM s).1, .string (takeM s).2.1, .int .i64 (takeM s).2.2]) ∧ Below w.heap.size w w' := by
  have hno : ∀ k : Nat, ¬ ∃ t, Eng.look ([] : List (Nat × Th)) k = some t := fun k ⟨t, h⟩ => by cases h
  have hfit : Fit (cx Tryd.prog (glU m e1 e2) w (fun b => b < w.heap.size) (fun _ => undef) []) (fun _ => undef) ⟨0, [], []⟩ w := by
    refine ⟨rfl, fun b hb => ⟨hb, fun ⟨k, t, h, _⟩ => hno k ⟨t, h⟩⟩, ⟨rfl, rfl, rfl, Nat.le_refl _, fun _ _ _ => rfl⟩, fun _ _ => rfl, fun k t h => (by cases h), fun k k' t t' h => (by cases h), ?_⟩
    intro g cs hcs
    exact hg g cs hcs
  have := take_ok m e1 e2 h1 h2 s hs w (fun b => b < w.heap.size) (fun _ => undef) [.string s] hfit (vas_cons (VD_raw rfl) vas_nil)
  refine this.mono ?_
  rintro e w' ⟨v, E', rfl, hf, hv⟩
  refine ⟨?_, ⟨hf.keep.os, hf.keep.tape, hf.keep.output, hf.keep.size, fun b hb => hf.keep.block b hb fun ⟨k, t, hk, _⟩ => hno k ⟨t, hk⟩⟩⟩
  unfold VA at hv
  obtain ⟨vs, rfl, hv⟩ := hv
  rw [VAs_cons] at hv
  obtain ⟨a, b, rfl, ha, hb⟩ := hv
  rw [VAs_cons] at hb
  obtain ⟨a2, b2, rfl, ha2, hb2⟩ := hb
  rw [VAs_cons] at hb2
  obtain ⟨a3, b3, rfl, ha3, hb3⟩ := hb2
  obtain rfl : b3 = [] := by unfold VAs at hb3; exact hb3
  unfold VA at ha ha2 ha3
  rw [(VD_raw_inv ha).1, (VD_raw_inv ha2).1, (VD_raw_inv ha3).1]
/-- What is in the block of the text that is left. -/
def SC (Bs : Nat) (W : World) (s : ByteArray) : Prop := W.cell? ⟨Bs, 0, none⟩ = some (.string s) ∧ W.frozen? ⟨Bs, 0, none⟩ = false ∧ Bs < W.heap.size
set_option maxRecDepth 100000 in
set_option maxHeartbeats 4000000 in
theorem texts1_in {m : Int} {e1 e2 : Value} (h1 : ErrV e1) (h2 : ErrV e2) (n : Nat) (l Bs : Nat) (J : List ByteArray → World → Prop) (Jx : World → Prop)
    (hJg : ∀ pre W, J pre W → GlIn (glU m e1 e2) W)
    (hJt : ∀ pre W W', J pre W → Below W.heap.size W W' → J pre W')
    (hJs : ∀ pre W s v, J pre W → SC Bs W s → J pre (W.setCell ⟨Bs, 0, none⟩ v))
    (N : Nat) (hY0 : ∀ pre t s W, J pre W → SC Bs W s → pre.length < N → YieldAt Fence.wide (n - 1) Tryd.prog l #[.string t, .int .i64 0] W fun e W' => e = .returned (.bool true) ∧ J (pre ++ [t]) W' ∧ SC Bs W' s)
    (hY4 : ∀ pre t s W, J pre W → SC Bs W s → YieldAt Fence.wide (n - 1) Tryd.prog l #[.string t, .int .i64 4] W fun e W' => e = .returned (.bool false) ∧ Jx W')
    (pre : List ByteArray) (s : ByteArray) (hs : s.size ≤ 1073741824) (hN : pre.length + s.size ≤ N) (W : World) (hJ : J pre W) (hS : SC Bs W s) :
    CallsIn Fence.wide n Tryd.prog 57 #[.func (.yield l) #[] #[], .pointer (some ⟨Bs, 0, none⟩)] W fun e W' => (∃ v, e = .returned v) ∧
      ((∃ xs, unpF s.size s = some xs ∧ J (pre ++ xs) W') ∨ (unpF s.size s = none ∧ Jx W')) := by
  refine callsIn_of_wp Tryd.func57 rfl trivial ?_ rfl
  simp only [Tryd.ntmps57, List.size_toArray, List.length_cons, List.length_nil, Nat.reduceAdd, Nat.reduceSub, Array.replicate_succ, Array.replicate_zero, List.push_toArray, List.append_toArray, List.nil_append, List.cons_append]
  gi_wp2
  gi_loopw [] (fun wr => ∃ (ys : List ByteArray) (r : ByteArray) (d : Nat), r.size ≤ d ∧ ys.length + d ≤ s.size ∧ J (pre ++ ys) wr ∧ SC Bs wr r ∧ (unpF s.size s = (unpF d r).map (ys ++ ·)))
    (fun wr => match wr.cell? ⟨Bs, 0, none⟩ with | some (.string r) => r.size | _ => 0)
  case atStart => exact ⟨[], s, s.size, Nat.le_refl _, by simp, by simpa using hJ, hS, by simp⟩
  case round =>
    obtain ⟨ys, r, d, hrd, hds, hJr, hSr, hu⟩ := hrel
    have hSr0 := hSr
    obtain ⟨hc, hf, hlt⟩ := hSr
    have hg := hJg _ _ hJr
    by_cases hr0 : r.size = 0
    · have hre : r = ⟨#[]⟩ := by apply ext_ba; rw [size_ba] at hr0; exact List.length_eq_zero_iff.1 hr0
      subst hre
      gi_wp2
      go_end0
      refine ⟨⟨_, rfl⟩, .inl ⟨ys, ?_, hJr⟩⟩
      rw [hu, unpF_nil d _ rfl]; simp
    · have htk := take_calls h1 h2 r (by omega) wr hg
      have he : r.toList.isEmpty = false := by
        rw [toList_ba]
        cases h : r.data.toList with
        | nil => rw [size_ba, h] at hr0; exact absurd rfl hr0
        | cons a b => rfl
      obtain ⟨d', rfl⟩ : ∃ d', d = d' + 1 := ⟨d - 1, by omega⟩
      obtain ⟨T, hT⟩ : ∃ T, T = takeM r := ⟨_, rfl⟩
      rw [← hT] at htk
      have hstep : unpF (d' + 1) r = if T.2.2 = 0 then (unpF d' T.2.1).map (T.1 :: ·) else none := by rw [hT]; show (if r.size = 0 then _ else _) = _; rw [if_neg hr0]
      have hless : T.2.2 = 0 → T.2.1.size < r.size := fun h => by rw [hT] at h ⊢; exact take_less h
      have h4 : T.2.2 ≠ 0 → T.2.2 = 4 := fun h => by rw [hT] at h ⊢; exact take_err h
      clear hT
      by_cases hz : T.2.2 = 0
      · have hless := hless hz
        rw [if_pos hz] at hstep
        gi_wp2
        refine ⟨trivial, fun h => (by cases h), ?_⟩
        refine (callsIn_wide.2 htk).mono ?_
        rintro e w1 ⟨rfl, hb1⟩
        rw [hz]
        have hJ1 := hJt _ _ _ hJr hb1
        have hc1 := (hb1.cell (p := ⟨Bs, 0, none⟩) hlt).trans hc
        have hl1 := Nat.lt_of_lt_of_le hlt hb1.size
        have hf1 : w1.frozen? ⟨Bs, 0, none⟩ = false := by rw [← hf]; unfold World.frozen?; rw [hb1.block Bs hlt]
        obtain ⟨fn, tmps, assign, body, hy, hR⟩ := hY0 _ T.1 r w1 hJ1 ⟨hc1, hf1, hl1⟩ (by rw [List.length_append]; omega)
        gi_wp2
        refine ⟨fun h => (by cases h), hR.mono ?_⟩
        rintro e W3 ⟨rfl, hJ3, hS3⟩
        have hS3' := hS3
        obtain ⟨hc3, hf3, hl3⟩ := hS3
        gi_wp2
        go_roundw
        case rel =>
          refine ⟨ys ++ [T.1], T.2.1, d', by omega, by rw [List.length_append, List.length_singleton]; omega, ?_, ?_, ?_⟩
          · have := hJs _ _ _ (.string T.2.1) hJ3 hS3'
            rwa [List.append_assoc] at this
          · exact ⟨World.cell?_setCell_same' _ _ _ (by rw [hc3]; rfl), by rw [World.frozen?_setCell]; exact hf3, by simpa using hl3⟩
          · rw [hu, hstep, Option.map_map]
            congr 1
            funext xs; simp
        case measure =>
          rw [hc, World.cell?_setCell_same' _ _ _ (by rw [hc3]; rfl)]
          exact hless
      · have e4 := h4 hz
        clear h4
        have hR4 := hY4 (pre ++ ys) T.1
        rw [if_neg hz] at hstep
        gi_wp2
        refine ⟨trivial, fun h => (by cases h), ?_⟩
        refine (callsIn_wide.2 htk).mono ?_
        rintro e w1 ⟨rfl, hb1⟩
        have hJ1 := hJt _ _ _ hJr hb1
        have hc1 := (hb1.cell (p := ⟨Bs, 0, none⟩) hlt).trans hc
        have hl1 := Nat.lt_of_lt_of_le hlt hb1.size
        have hf1 : w1.frozen? ⟨Bs, 0, none⟩ = false := by rw [← hf]; unfold World.frozen?; rw [hb1.block Bs hlt]
        obtain ⟨fn, tmps, assign, body, hy, hR⟩ := hR4 r w1 hJ1 ⟨hc1, hf1, hl1⟩
        gi_wp2
        refine ⟨fun h => (by cases h), hR.mono ?_⟩
        rintro e W3 ⟨rfl, hJ3⟩
        gi_wp2
        refine bodyPost_ret (results_none rfl _ _ _) rfl ?_
        exact ⟨⟨_, rfl⟩, .inr ⟨by rw [hu, hstep]; rfl, hJ3⟩⟩
end Go.Nest
