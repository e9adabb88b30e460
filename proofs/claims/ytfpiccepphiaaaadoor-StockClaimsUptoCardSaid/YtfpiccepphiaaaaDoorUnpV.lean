/-
  Contracts of given functions, or plain laws that they need. No condition.
-/
import Derived.Test.YtfpiccepphiaaaaDoorUnpS
namespace Go.Nest
open Go Go.Eng Go.Proofs Go.RowKit Go.Shelf
attribute [local go_sem] Oper.semAt_some
set_option linter.unusedVariables false
set_option linter.all false
theorem texts_in (n : Nat) (s : ByteArray) (w : World) : CallsIn Fence.wide n Tryd.prog 44 #[.string s] w fun e w' => e = .returned (.func (.func 57) #[] #[.pointer (some ⟨w.heap.size, 0, none⟩)]) ∧ w' = w.alloc (.cells #[.string s] 9) := by
  refine callsIn_of_wp Tryd.func44 rfl trivial ?_ rfl
  simp only [Tryd.ntmps44, List.size_toArray, List.length_cons, List.length_nil, Nat.reduceAdd, Nat.reduceSub, Array.replicate_succ, Array.replicate_zero, List.push_toArray, List.append_toArray, List.nil_append, List.cons_append]
  gi_wp2
  go_ret
  exact ⟨rfl, rfl⟩
theorem infoS : (Tryd.prog.info? 9).map (fun i => (i.zero, i.size, i.bytes)) = some (some (.string ByteArray.empty), 1, 16) := by kernel_rfl
theorem boxed_below {W W' : World} {B : Nat} {t : TypeId} {v : Value} (h : Boxed W B t v) (hb : Below W.heap.size W W') : Boxed W' B t v := (hb.block B h.lt).trans h
theorem boxed_put {W : World} {B : Nat} {t : TypeId} {v : Value} (h : Boxed W B t v) {l : Nat} {o : Obj} (o' : Obj) (hl : W.heap[l]? = some o) (ho : o.isCells = false) : Boxed (W.putObj l o') B t v := by
  have hne : B ≠ l := fun e => by
    subst e
    rw [show W.heap[B]? = _ from h] at hl
    cases hl; cases ho
  exact (World.putObj_heap_other hne).trans h
theorem below_put {W w : World} {n : Nat} (hB : Below n w W) (l : Nat) (o' : Obj) (hl : n ≤ l) : Below n w (W.putObj l o') :=
  hB.trans ⟨rfl, rfl, rfl, by rw [World.putObj_size]; exact Nat.le_refl _, fun b hb => World.putObj_heap_other (by omega)⟩
theorem row_ge {W : World} {bs : Nat} {e : TypeId} {size : Nat} {v : Value} {k : Nat} {xs : List Value} (h : W.ownsRow bs e size v k xs) {g : Nat} (hg : v.ownBlock = some g) : bs ≤ g := by
  rcases h.2 with ⟨rfl, _⟩ | ⟨g', cap, cur, rfl, hb, _⟩
  · simp [Value.ownBlock] at hg
  · obtain rfl : g' = g := by simpa [Value.ownBlock] using hg
    exact hb
theorem results_two (tmps : Array Value) (W : World) (b0 b1 : Nat) (v0 v1 : Value) (h2 : tmps[2]? = some (.pointer (some ⟨b0, 0, none⟩))) (h3 : tmps[3]? = some (.pointer (some ⟨b1, 0, none⟩))) (c0 : W.cell? ⟨b0, 0, none⟩ = some v0) (c1 : W.cell? ⟨b1, 0, none⟩ = some v1) :
    (results Tryd.f25 tmps).run Tryd.prog W = .ok (.tuple #[v0, v1]) W := by
  have hr : Tryd.f25.results = #[.cell 2 55, .cell 3 27] := rfl
  simp [results, hr, h2, h3, c0, c1, go_sem]
/-- Behind an append, and the store of its result into the box: the rows lie from bs on, the boxes ahead of it. -/
theorem appended2 {W w1 : World} {n₀ bs B : Nat} {t e : TypeId} {size : Nat} {v v' : Value} {k m : Nat} {xs ys : List Value} {tmp : Obj}
    (hv : Boxed W B t v) (hrow : W.ownsRow bs e size v k xs) (hn₀ : n₀ ≤ W.heap.size) (hB : n₀ ≤ B) (hBs : B < bs) (hbs : n₀ ≤ bs)
    (hown' : w1.ownsRow bs e size v' m ys) (hgrow : (W.alloc tmp).grownBy w1 v.ownBlock) :
    Boxed w1 B t v ∧ Boxed (w1.setCell ⟨B, 0, none⟩ v') B t v' ∧ (w1.setCell ⟨B, 0, none⟩ v').ownsRow bs e size v' m ys ∧ KeepsOthers W (w1.setCell ⟨B, 0, none⟩ v') ∧ Below n₀ W (w1.setCell ⟨B, 0, none⟩ v') ∧
      ∀ X, X < W.heap.size → X < bs → X ≠ B → (w1.setCell ⟨B, 0, none⟩ v').heap[X]? = W.heap[X]? := by
  have hne : ∀ X, X < bs → some X ≠ v.ownBlock := fun X hX e => absurd (row_ge hrow e.symm) (by omega)
  have hv1 : Boxed w1 B t v := (hv.alloc tmp).kept hgrow (hne B hBs)
  refine ⟨hv1, hv1.set v', ownsRow_setCell_below hown' (a := ⟨B, 0, none⟩) hBs v', ?_, ?_, fun X hlt hX hXB => ?_⟩
  · refine ((KeepsOthers.alloc W tmp).trans (KeepsOthers.of_grownBy hgrow fun j o ej hj => ?_)).trans (KeepsOthers.setCell _ _ _)
    rcases (hrow.alloc tmp).2 with ⟨rfl, _⟩ | ⟨g, cap, cur, rfl, _, hgb, _⟩
    · simp [Value.ownBlock] at ej
    · obtain rfl : g = j := by simpa [Value.ownBlock] using ej
      rw [hgb] at hj; cases hj; rfl
  · refine (((Below.refl n₀ W).alloc hn₀ tmp).grown hgrow (by simp; omega) fun j ej => ?_).setCell (p := ⟨B, 0, none⟩) hB v'
    exact Nat.le_trans hbs (row_ge hrow ej)
  · have hlt2 : X < (W.alloc tmp).heap.size := by simp; omega
    have e1 := hgrow.block X hlt2 (hne X hX)
    have e2 := (grownBy_setCell' w1 B v').block X (Nat.lt_of_lt_of_le hlt2 hgrow.size) (fun e => hXB (Option.some.inj e))
    exact e2.trans (e1.trans (Below.heap_alloc _ _ _ hlt))
set_option maxRecDepth 100000 in
set_option maxHeartbeats 4000000 in
theorem unpack_walk {m : Int} {e1 e2 : Value} (h1 : ErrV e1) (h2 : ErrV e2) (s : ByteArray) (hs : s.size ≤ 1073741824) (w : World) (hg : GlIn (glU m e1 e2) w) :
    Calls Tryd.prog 25 #[.string s] w fun e W' => Below w.heap.size w W' ∧
      ((∃ xs v, unpF s.size s = some xs ∧ e = .returned (.tuple #[v, .int .i64 0]) ∧ W'.ownsRow w.heap.size 9 1 v xs.length (xs.map Value.string)) ∨ (unpF s.size s = none ∧ e = .returned (.tuple #[.slice none 0 0, .int .i64 4]))) := by
  obtain ⟨i0, hi, hz0, hz1, hz2⟩ := info_parts infoS
  refine (callsIn_wide (n := 3)).1 ?_
  refine callsIn_of_wp_marks Tryd.func25 rfl trivial ?_ rfl
  simp only [Tryd.ntmps25, List.size_toArray, List.length_cons, List.length_nil, Nat.reduceAdd, Nat.reduceSub, Array.replicate_succ, Array.replicate_zero, List.push_toArray, List.append_toArray, List.nil_append, List.cons_append]
  gi_wp2
  refine ⟨trivial, ?_⟩
  refine (texts_in _ s _).mono ?_
  rintro e w1 ⟨rfl, rfl⟩
  gi_wp2
  obtain ⟨n0, hn0⟩ : ∃ n0, n0 = w.heap.size := ⟨_, rfl⟩
  have B0 := Boxed.new w 55 (.slice none 0 0)
  have B1 := Boxed.new (w.alloc (.cells #[.slice none 0 0] 55)) 27 (.int .i64 0)
  have B2 := Boxed.new ((w.alloc (.cells #[.slice none 0 0] 55)).alloc (.cells #[.int .i64 0] 27)) 55 (.slice none 0 0)
  have B3 := Boxed.new (((w.alloc (.cells #[.slice none 0 0] 55)).alloc (.cells #[.int .i64 0] 27)).alloc (.cells #[.slice none 0 0] 55)) 9 (.string s)
  simp only [World.size_alloc] at B1 B2 B3
  have hbw : Below w.heap.size w ((((w.alloc (.cells #[.slice none 0 0] 55)).alloc (.cells #[.int .i64 0] 27)).alloc (.cells #[.slice none 0 0] 55)).alloc (.cells #[.string s] 9)) := ((((Below.refl _ w).alloc (Nat.le_refl _) _).alloc (by simp) _).alloc (by simp; omega) _).alloc (by simp; omega) _
  have B2' := B2.alloc (.cells #[.string s] 9)
  have B1' := (B1.alloc (.cells #[.slice none 0 0] 55)).alloc (.cells #[.string s] 9)
  have B0' := ((B0.alloc (.cells #[.int .i64 0] 27)).alloc (.cells #[.slice none 0 0] 55)).alloc (.cells #[.string s] 9)
  have hsz : ((((w.alloc (.cells #[.slice none 0 0] 55)).alloc (.cells #[.int .i64 0] 27)).alloc (.cells #[.slice none 0 0] 55)).alloc (.cells #[.string s] 9)).heap.size = w.heap.size + 4 := by simp
  obtain ⟨W4, hW4⟩ : ∃ W4, W4 = ((((w.alloc (.cells #[.slice none 0 0] 55)).alloc (.cells #[.int .i64 0] 27)).alloc (.cells #[.slice none 0 0] 55)).alloc (.cells #[.string s] 9)) := ⟨_, rfl⟩
  rw [← hW4] at B0' B1' B2' B3 hbw hsz
  (try simp only [World.size_alloc])
  rw [← hW4]
  clear hW4 B0 B1 B2
  have hS : SC (w.heap.size + 1 + 1 + 1) W4 s := ⟨B3.cell, B3.frozen, B3.lt⟩
  refine rangeFunc_texts h1 h2 rfl (w.heap.size + 1 + 1 + 1) rfl s hs hS
    (fun pre W => (∃ v, Boxed W (w.heap.size + 1 + 1) 55 v ∧ W.ownsRow (w.heap.size + 4) 9 1 v pre.length (pre.map Value.string)) ∧ Boxed W w.heap.size 55 (.slice none 0 0) ∧ Boxed W (w.heap.size + 1) 27 (.int .i64 0) ∧ Below w.heap.size w W ∧ w.heap.size + 4 ≤ W.heap.size)
    (fun W => ∃ k, k = 4 ∧ Boxed W w.heap.size 55 (.slice none 0 0) ∧ Boxed W (w.heap.size + 1) 27 (.int .i64 k) ∧ Below w.heap.size w W)
    (fun pre W h => glIn_below hg h.2.2.2.1) (fun pre W W' h hb => ?_) (fun pre W s v h hs => ?_) (fun pre W l o o' h hl ho hc => ?_) (fun W l o o' h hl ho hc => ?_)
    ⟨⟨_, B2', World.ownsRow_nil _ _ _ _⟩, B0', B1', hbw, by omega⟩ (fun t k => { tmps := #[.string s, undef, .pointer (some ⟨w.heap.size, 0, none⟩), .pointer (some ⟨w.heap.size + 1, 0, none⟩), .pointer (some ⟨w.heap.size + 1 + 1, 0, none⟩), .string t, .int .i64 k, .string s, .func (.func 57) #[] #[.pointer (some ⟨w.heap.size + 1 + 1 + 1, 0, none⟩)], .string t, .int .i64 k, undef, undef, undef, undef, undef, undef, undef, undef], defers := [] }) ?assign ?body0 ?body4 ?done ?stop
  case assign =>
    intro l t k W K hK
    gi_wp2
    exact hK
  case body0 =>
    rintro l pre t s' W hpl ⟨⟨v, hv, hrow⟩, b0, b1, hB, hz⟩ hs'
    have hc := hv.cell
    have hpm : (pre.map Value.string).length = pre.length := by simp
    gi_wp2_with (gi_at_builtin; refine wpListIn_append_own _ rfl _ _ 55 rfl (w.heap.size + 4) 9 i0 (.string ByteArray.empty) 1 16 Tryd.underlying55 hi hz0 hz1 hz2 rfl (by decide) _ _ _ rfl (hrow.alloc _) ⟨W.heap.size, 0, none⟩ 1 1 [.string t] rfl rfl (cell_one_new _ _ _) (by simp [Value.oneCell']) (by show _ ≤ 9223372036854775807; omega) (by omega) (by simp; omega) ?_; intro v' w1 hown' hgrow _; obtain ⟨g', cap', rfl⟩ := ownsRow_succ hown'; obtain ⟨q1, q2, q3, q4, q5, q6⟩ := appended2 (n₀ := w.heap.size) hv hrow (by omega) (by omega) (by omega) (by omega) hown' hgrow; have hc1 := q1.cell; have hf1 := q1.frozen)
    have lt3 := hs'.2.2
    have e0 := q6 w.heap.size (by omega) (by omega) (by omega)
    have e1 := q6 (w.heap.size + 1) (by omega) (by omega) (by omega)
    have e3 := q6 (w.heap.size + 1 + 1 + 1) (by omega) (by omega) (by omega)
    have hz1 : w.heap.size + 4 ≤ (w1.setCell ⟨w.heap.size + 1 + 1, 0, none⟩ (.slice (some ⟨g', 0, none⟩) (pre.length + 1) cap')).heap.size := Nat.le_trans hz q4.size
    refine ⟨⟨⟨_, q2, q3⟩, e0.trans b0, e1.trans b1, hB.trans q5, by simpa using hz1⟩, ?_, ?_, by simpa using Nat.lt_of_lt_of_le lt3 (by simpa using q4.size)⟩
    · have := hs'.1
      unfold World.cell? at this ⊢; rw [e3]; exact this
    · have := hs'.2.1
      unfold World.frozen? at this ⊢; rw [e3]; exact this
  case body4 =>
    rintro l pre t k s' W hk0 ⟨⟨v, hv, hrow⟩, b0, b1, hB, hz⟩ hs'
    obtain rfl := hk0
    have hc0 := b0.cell
    have hf0 := b0.frozen
    have b1' := b1.other (B' := w.heap.size) (by omega) (.slice none 0 0)
    have hc1 := b1'.cell
    have hf1 := b1'.frozen
    gi_wp2
    refine ⟨(KeepsOthers.setCell _ _ _).trans (KeepsOthers.setCell _ _ _), ?_, b1'.set _, (hB.setCell (p := ⟨w.heap.size, 0, none⟩) (Nat.le_refl _) _).setCell (p := ⟨w.heap.size + 1, 0, none⟩) (Nat.le_succ _) _⟩
    exact (b0.set (.slice none 0 0)).other (by omega) _
  case done =>
    rintro D xs W hD hx ⟨⟨v, hv, hrow⟩, b0, b1, hB, hz⟩ hK
    have hcv := hv.cell
    have hc0 := b0.cell
    have hf0 := b0.frozen
    have b1' := b1.other (B' := w.heap.size) (by omega) v
    have hc1 := b1'.cell
    have hf1 := b1'.frozen
    have B0 := (b0.set v).other (B' := w.heap.size + 1) (by omega) (.int .i64 0)
    have B1 := b1'.set (.int .i64 0)
    have hR := ownsRow_setCell_below (ownsRow_setCell_below hrow (a := ⟨w.heap.size, 0, none⟩) (by show w.heap.size < w.heap.size + 4; omega) v) (a := ⟨w.heap.size + 1, 0, none⟩) (by show w.heap.size + 1 < w.heap.size + 4; omega) (.int .i64 0)
    have hK2 := ((KeepsOthers.setCell W ⟨w.heap.size, 0, none⟩ v).trans (KeepsOthers.setCell _ ⟨w.heap.size + 1, 0, none⟩ (.int .i64 0))).same _ _ hK rfl
    have hB2 := (hB.setCell (p := ⟨w.heap.size, 0, none⟩) (Nat.le_refl _) v).setCell (p := ⟨w.heap.size + 1, 0, none⟩) (Nat.le_succ _) (.int .i64 0)
    have fin0 := (boxed_put B0 (.deferred none) hK2 rfl).cell
    have fin1 := (boxed_put B1 (.deferred none) hK2 rfl).cell
    have finR := ownsRow_putObj hR (.deferred none) hK2 rfl
    have finB := below_put hB2 D (.deferred none) (by omega)
    have low : ∀ {W' : World} {v k xs}, W'.ownsRow (w.heap.size + 4) 9 1 v k xs → W'.ownsRow w.heap.size 9 1 v k xs := by
      intro W' v k xs h
      refine ⟨h.1, ?_⟩
      rcases h.2 with h2 | ⟨g, cap, cur, e, hb, hrest⟩
      · exact .inl h2
      · exact .inr ⟨g, cap, cur, e, by omega, hrest⟩
    rcases hrow.2 with ⟨rfl, hn⟩ | ⟨gg, cap, cur, rfl, hgb, hrest⟩
    · gi_wp2
      refine ⟨by simp, .inl ⟨_, _, rfl, run_takeDeferred hK2, ?_⟩⟩
      exact ⟨_, results_two _ _ _ _ _ _ rfl rfl fin0 fin1, finB, .inl ⟨xs, _, hx, rfl, low finR⟩⟩
    · gi_wp2
      refine ⟨by simp, .inl ⟨_, _, rfl, run_takeDeferred hK2, ?_⟩⟩
      exact ⟨_, results_two _ _ _ _ _ _ rfl rfl fin0 fin1, finB, .inl ⟨xs, _, hx, rfl, low finR⟩⟩
  case stop =>
    rintro D W hD hx ⟨k, hk0, b0, b1, hB⟩ hK
    have hc0 := (boxed_put b0 (.deferred none) hK rfl).cell
    have hc1 := (boxed_put b1 (.deferred none) hK rfl).cell
    gi_wp2
    refine ⟨by simp, .inl ⟨_, _, rfl, run_takeDeferred hK, ?_⟩⟩
    exact ⟨_, results_two _ _ _ _ _ _ rfl rfl hc0 hc1, below_put hB D _ (by omega), .inr ⟨hx, by rw [hk0]⟩⟩
  · obtain ⟨⟨v, hv, hr⟩, b0, b1, hB, hsz'⟩ := h
    exact ⟨⟨v, boxed_below hv hb, hr.kept (row := none) ⟨hb.os, hb.tape, hb.output, hb.size, fun j hj _ => hb.block j hj⟩ (by cases hv : v.ownBlock <;> simp)⟩, boxed_below b0 hb, boxed_below b1 hb, hB.trans (hb.mono hB.size), Nat.le_trans hsz' hb.size⟩
  · obtain ⟨⟨u, hv, hr⟩, b0, b1, hB, hsz'⟩ := h
    exact ⟨⟨u, hv.other (by omega) v, ownsRow_setCell_below hr (a := ⟨w.heap.size + 1 + 1 + 1, 0, none⟩) (by show w.heap.size + 1 + 1 + 1 < w.heap.size + 4; omega) v⟩, b0.other (by omega) v, b1.other (by omega) v, hB.setCell (p := ⟨w.heap.size + 1 + 1 + 1, 0, none⟩) (by show w.heap.size ≤ w.heap.size + 1 + 1 + 1; omega) v, by simpa using hsz'⟩
  · obtain ⟨⟨u, hv, hr⟩, b0, b1, hB, hsz'⟩ := h
    exact ⟨⟨u, boxed_put hv o' ho hc, ownsRow_putObj hr o' ho hc⟩, boxed_put b0 o' ho hc, boxed_put b1 o' ho hc, below_put hB l o' (by omega), by simpa using hsz'⟩
  · obtain ⟨k, hk, b0, b1, hB⟩ := h
    exact ⟨k, hk, boxed_put b0 o' ho hc, boxed_put b1 o' ho hc, below_put hB l o' (by omega)⟩
end Go.Nest
