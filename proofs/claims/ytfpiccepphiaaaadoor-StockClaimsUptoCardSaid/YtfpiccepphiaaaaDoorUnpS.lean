/-
  Contracts of given functions, or plain laws that they need. No condition.
-/
import Derived.Test.YtfpiccepphiaaaaDoorUnpR
namespace Go.Nest
open Go Go.Eng Go.Proofs Go.RowKit Go.Shelf
set_option linter.unusedVariables false
set_option linter.all false
/-- A range over the texts of a text: each text in its turn; a text that is no more of that form ends it. -/
theorem rangeFunc_texts {m : Int} {e1 e2 : Value} (h1 : ErrV e1) (h2 : ErrV e2) {n : Nat} {g : Operand} {ps : Array Tmp} {assign body : Code} {Q : Exit → Act → World → Prop} {a : Act} {w : World} (hps : ps.size = 2)
    (Bs : Nat) (hg : a.eval g = .func (.func 57) #[] #[.pointer (some ⟨Bs, 0, none⟩)]) (s : ByteArray) (hs : s.size ≤ 1073741824) (hS : SC Bs w s)
    (I : List ByteArray → World → Prop) (Ix : World → Prop)
    (hIg : ∀ pre W, I pre W → GlIn (glU m e1 e2) W)
    (hIt : ∀ pre W W', I pre W → Below W.heap.size W W' → I pre W')
    (hIs : ∀ pre W s v, I pre W → SC Bs W s → I pre (W.setCell ⟨Bs, 0, none⟩ v))
    (hIp : ∀ pre W l o o', I pre W → w.heap.size ≤ l → W.heap[l]? = some o → o.isCells = false → I pre (W.putObj l o'))
    (hIxp : ∀ W l o o', Ix W → w.heap.size ≤ l → W.heap[l]? = some o → o.isCells = false → Ix (W.putObj l o'))
    (h0 : I [] w) (a₁ : ByteArray → Int → Act)
    (hassign : ∀ (l : Nat) (t : ByteArray) (k : Int) (W : World) (K : Act → World → Prop), K (a₁ t k) W →
      assign.wpIn (Fence.wide.inRound l) (n - 1 - 1) Tryd.prog (Exit.then K (fun _ _ _ => False)) { tmps := (ps.zip #[.string t, .int .i64 k]).foldl (fun t (p, v) => t.setIfInBounds p v) a.tmps, defers := [] } W)
    (hbody0 : ∀ (l : Nat) (pre : List ByteArray) (t s' : ByteArray) (W : World), pre.length < s.size → I pre W → SC Bs W s' → body.wpIn (Fence.wide.inRound l) (n - 1 - 1) Tryd.prog (fun e _ W' => e = .normal ∧ KeepsOthers W W' ∧ I (pre ++ [t]) W' ∧ SC Bs W' s') (a₁ t 0) W)
    (hbody4 : ∀ (l : Nat) (pre : List ByteArray) (t : ByteArray) (k : Int) (s : ByteArray) (W : World), k = 4 → I pre W → SC Bs W s → body.wpIn (Fence.wide.inRound l) (n - 1 - 1) Tryd.prog (fun e _ W' => e = .ret ∧ KeepsOthers W W' ∧ Ix W') (a₁ t k) W)
    (hdone : ∀ (D : Nat) (xs : List ByteArray) (W : World), w.heap.size ≤ D → unpF s.size s = some xs → I xs W → W.heap[D]? = some (.deferred (some [])) → Q .normal { a with defers := { target := .collected D, args := #[] } :: a.defers } W)
    (hstop : ∀ (D : Nat) (W : World), w.heap.size ≤ D → unpF s.size s = none → Ix W → W.heap[D]? = some (.deferred (some [])) → Code.ret.wpIn Fence.wide n Tryd.prog Q { a with defers := { target := .collected D, args := #[] } :: a.defers } W) :
    (Code.rangeFunc g ps assign body).wpIn Fence.wide n Tryd.prog Q a w := by
  refine wpIn_rangeFunc fun fn hfn => ?_
  obtain ⟨rc, hrc⟩ : ∃ rc : LoopState → Option Code → Loop, rc = fun st pe => { state := st, pending := pe, fn, tmps := a.tmps, params := ps, assign, body, defers := w.heap.size } := ⟨_, rfl⟩
  obtain ⟨W1, hW1⟩ : ∃ W1, (w.alloc (.deferred (some []))).alloc (.loop (rc .ready none)) = W1 := ⟨_, rfl⟩
  have hL1 : W1.heap[w.heap.size + 1]? = some (.loop (rc .ready none)) := by
    rw [← hW1]; have := World.alloc_heap_new (w.alloc (.deferred (some []))) (.loop (rc .ready none)); rwa [World.size_alloc] at this
  have hK1 : W1.heap[w.heap.size]? = some (.deferred (some [])) := by
    rw [← hW1]; exact (Below.heap_alloc _ _ _ (by simp)).trans (World.alloc_heap_new w _)
  have hb1 : Below w.heap.size w W1 := by
    rw [← hW1]; exact ((Below.refl _ w).alloc (Nat.le_refl _) _).alloc (by simp) _
  have hS1 : SC Bs W1 s := by
    obtain ⟨c1, c2, c3⟩ := hS
    exact ⟨(hb1.cell (p := ⟨Bs, 0, none⟩) c3).trans c1, by rw [← c2]; unfold World.frozen?; rw [hb1.block Bs c3], Nat.lt_of_lt_of_le c3 hb1.size⟩
  have hI1 : I [] W1 := hIt _ _ _ h0 hb1
  refine ⟨w.heap.size + 1, [{ target := .collected w.heap.size, args := #[] }], W1, { target := .fn (.func 57) #[.pointer (some ⟨Bs, 0, none⟩)], args := #[.func (.yield (w.heap.size + 1)) #[] #[]] }, W1, 57,
    #[.func (.yield (w.heap.size + 1)) #[] #[], .pointer (some ⟨Bs, 0, none⟩)], W1, ?_, ?_, ?_, ?_, fun h => (by cases h), ?_⟩
  · rw [← hW1, hrc]; exact run_enterLoop_outer _ _ _ _ _
  · simp only [resolve, hg]
    simp [go_sem]
  · intro f' hf'; trivial
  · simp [invoke, go_sem, enters_of Tryd.func57 (by kernel_rfl) rfl]
  · have hfin : ∀ (jump : Option Code) (W2 W3 : World), W2.heap[w.heap.size + 1]? = some (.loop (rc .ready none)) → W2.heap[w.heap.size]? = some (.deferred (some [])) →
        KeepsOthers (W2.putObj (w.heap.size + 1) (.loop (rc .busy none))) W3 →
        (Instr.endRound (w.heap.size + 1) jump).run Tryd.prog W3 = .ok (.bool jump.isNone) (W3.putObj (w.heap.size + 1) (.loop (rc (if jump.isNone then .ready else .done) jump))) ∧
          W3.heap[w.heap.size + 1]? = some (.loop (rc .busy none)) ∧
          (W3.putObj (w.heap.size + 1) (.loop (rc (if jump.isNone then .ready else .done) jump))).heap[w.heap.size + 1]? = some (.loop (rc (if jump.isNone then .ready else .done) jump)) ∧
          (W3.putObj (w.heap.size + 1) (.loop (rc (if jump.isNone then .ready else .done) jump))).heap[w.heap.size]? = some (.deferred (some [])) := fun jump W2 W3 hl hk hk3 => by
      have hl2 : (W2.putObj (w.heap.size + 1) (.loop (rc .busy none))).heap[w.heap.size + 1]? = some (.loop (rc .busy none)) := World.putObj_heap_same (Array.getElem?_eq_some_iff.1 hl).1
      have hk2 : (W2.putObj (w.heap.size + 1) (.loop (rc .busy none))).heap[w.heap.size]? = some (.deferred (some [])) := (World.putObj_heap_other (by omega)).trans hk
      have hl3 := hk3.same _ _ hl2 rfl
      have := run_endRound (P := Tryd.prog) jump hl3
      rw [hrc] at this ⊢
      exact ⟨this, by rw [hrc] at hl3; exact hl3, World.putObj_heap_same (Array.getElem?_eq_some_iff.1 hl3).1, (World.putObj_heap_other (by omega)).trans (hk3.same _ _ hk2 rfl)⟩
    have scp : ∀ W l o o' s, SC Bs W s → W.heap[l]? = some o → o.isCells = false → SC Bs (W.putObj l o') s := fun W l o o' s hs hl ho => by
      obtain ⟨c1, c2, c3⟩ := hs
      have hne : l ≠ Bs := fun e => by
        subst e
        unfold World.cell? at c1
        rw [show W.heap[l]? = _ from hl] at c1
        cases o <;> first | (cases ho; done) | (simp at c1; done)
      have e : (W.putObj l o').heap[Bs]? = W.heap[Bs]? := World.putObj_heap_other (Ne.symm hne)
      refine ⟨?_, ?_, ?_⟩
      · unfold World.cell? at c1 ⊢; rw [e]; exact c1
      · unfold World.frozen? at c2 ⊢; rw [e]; exact c2
      · rcases Nat.lt_or_ge Bs (W.putObj l o').heap.size with h | h
        · exact h
        · rw [Array.getElem?_eq_none h] at e
          rw [Array.getElem?_eq_getElem c3] at e; cases e
    have hbusy : ({ rc .ready none with state := .busy } : Loop) = rc .busy none := by rw [hrc]
    refine (texts1_in h1 h2 (n - 1) (w.heap.size + 1) Bs
      (fun pre W => I pre W ∧ W.heap[w.heap.size + 1]? = some (.loop (rc .ready none)) ∧ W.heap[w.heap.size]? = some (.deferred (some [])))
      (fun W => Ix W ∧ W.heap[w.heap.size + 1]? = some (.loop (rc .done (some .ret))) ∧ W.heap[w.heap.size]? = some (.deferred (some [])))
      (fun pre W h => hIg pre W h.1) (fun pre W W' h hb => ⟨hIt _ _ _ h.1 hb, ?_, ?_⟩) (fun pre W s v h hs => ⟨hIs _ _ _ _ h.1 hs, ?_, ?_⟩) s.size ?_ ?_ [] s hs (by simp) W1 ⟨hI1, hL1, hK1⟩ hS1).mono ?_
    · exact (hb.block _ (Array.getElem?_eq_some_iff.1 h.2.1).1).trans h.2.1
    · exact (hb.block _ (Array.getElem?_eq_some_iff.1 h.2.2).1).trans h.2.2
    · exact (KeepsOthers.setCell W _ v).same _ _ h.2.1 rfl
    · exact (KeepsOthers.setCell W _ v).same _ _ h.2.2 rfl
    · rintro pre t s' W ⟨hi, hl, hk⟩ hs hpl
      have hy := run_yield (P := Tryd.prog) (args := #[.string t, .int .i64 0]) hl (by rw [hrc]; exact hps.symm)
      rw [hrc] at hy
      refine ⟨fn, _, assign, body, hy, roundIn_of_wpIn hfn (hassign _ t 0 W _ ⟨_, run_beginRound hl (by rw [hrc]), ?_⟩)⟩
      rw [hbusy]
      refine wpIn_mono (hbody0 _ pre t s' _ hpl (hIp _ _ _ _ _ hi (by omega) hl rfl) (scp _ _ _ _ _ hs hl rfl)) ?_
      rintro e a3 W3 ⟨rfl, hk3, hi3, hs3⟩
      obtain ⟨hr, hl3, hl4, hk4⟩ := hfin none W W3 hl hk hk3
      exact ⟨_, _, hr, rfl, ⟨hIp _ _ _ _ _ hi3 (by omega) hl3 rfl, hl4, hk4⟩, scp _ _ _ _ _ hs3 hl3 rfl⟩
    · rintro pre t s' W ⟨hi, hl, hk⟩ hs
      have hy := run_yield (P := Tryd.prog) (args := #[.string t, .int .i64 4]) hl (by rw [hrc]; exact hps.symm)
      rw [hrc] at hy
      refine ⟨fn, _, assign, body, hy, roundIn_of_wpIn hfn (hassign _ t 4 W _ ⟨_, run_beginRound hl (by rw [hrc]), ?_⟩)⟩
      rw [hbusy]
      refine wpIn_mono (hbody4 _ pre t 4 s' _ rfl (hIp _ _ _ _ _ hi (by omega) hl rfl) (scp _ _ _ _ _ hs hl rfl)) ?_
      rintro e a3 W3 ⟨rfl, hk3, hi3⟩
      obtain ⟨hr, hl3, hl4, hk4⟩ := hfin (some .ret) W W3 hl hk hk3
      exact ⟨_, _, hr, rfl, hIxp _ _ _ _ hi3 (by omega) hl3 rfl, hl4, hk4⟩
    · rintro e W2 ⟨⟨v, rfl⟩, (⟨xs, hx, hi, hl, hk⟩ | ⟨hx, hi, hl, hk⟩)⟩
      · have he := run_endLoop (P := Tryd.prog) hl (by rw [hrc]; simp)
        rw [hrc] at he
        exact ⟨none, _, he, hdone _ xs _ (Nat.le_refl _) hx (hIp _ _ _ _ _ hi (by omega) hl rfl) ((World.putObj_heap_other (by omega)).trans hk)⟩
      · have he := run_endLoop (P := Tryd.prog) hl (by rw [hrc]; simp)
        rw [hrc] at he
        exact ⟨some .ret, _, he, hstop _ _ (Nat.le_refl _) hx (hIxp _ _ _ _ hi (by omega) hl rfl) ((World.putObj_heap_other (by omega)).trans hk)⟩
end Go.Nest
