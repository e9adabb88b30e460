/-
  Part of the engine: abstract states of a call (values as trees, things of the call's own), and that each operation of the model does to the world what it does to them. No condition.
-/
import Derived.Test.YtmgfgcoeflanmaaDoorEng9
namespace Go.Eng
open Go Go.RowKit
variable {P : Program} {gl : Nat → Option (List D)} {C : Cx} {E E' : Env} {s s' : St} {a : Act} {w w' : World}

theorem bound_op (hsim : Sim C E s a w) {x : Option Operand} {dflt i : Int} (h : bound (x.map s.ev) dflt = some i) : (x.map a.eval = none ∧ i = dflt) ∨ ∃ k, x.map a.eval = some (.int k i) := by
  have := bound_val (E := E) (w := w) (N := Stable C E s w) (v := x.map a.eval) h (fun y hy => by
    cases x with
    | none => cases hy
    | some p => simp only [Option.map_some, Option.some.injEq] at hy; subst hy; exact ⟨_, rfl, hsim.ev p⟩) (fun hn => by cases x with | none => rfl | some p => cases hn)
  rcases this with ⟨_, h1, h2⟩ | h1
  · exact .inl ⟨h1, h2⟩
  · exact .inr h1
theorem list_sub {N : Nat → Prop} {sz n : Nat} {el : Nat → D} {ad : Addr} {cap : Nat} {cs : List Value} (h2 : n ≤ cap) (h3 : cap ≤ maxLen) (h4 : ad.spot = none) (h5 : N ad.block) (h6 : cs.length = n * sz)
    (h7 : ∀ j u, cs[j]? = some u → w.cell? (ad.add j) = some u) (h8 : ∀ i, i < n → VC w N (el i) ((cs.drop (i * sz)).take sz)) {l h : Nat} (hl : l ≤ h) (hh : h ≤ n) :
    VD w N (.list sz (h - l) fun i => el (l + i)) (.slice (if cap = l then some ad else (some ad).map (·.add (l * sz))) (h - l) (cap - l)) := by
  show VC w N _ [_]
  unfold VC
  refine ⟨_, rfl, .inr ?_⟩
  by_cases e : cap = l
  · rw [if_pos e]
    have e1 : h - l = 0 := by omega
    exact ⟨ad, cap - l, [], rfl, by omega, by omega, h4, h5, by simp [e1], fun j u hu => by simp at hu, fun i hi => absurd hi (by omega)⟩
  · rw [if_neg e]
    refine ⟨ad.add (l * sz), cap - l, (cs.drop (l * sz)).take ((h - l) * sz), rfl, by omega, by omega, by unfold Addr.add; split <;> simp [h4], by rw [addr_add_block]; exact h5, ?_, fun j u hu => ?_, fun i hi => ?_⟩
    · have : h * sz ≤ n * sz := Nat.mul_le_mul_right _ hh
      have e2 : (h - l) * sz = h * sz - l * sz := Nat.sub_mul _ _ _
      rw [List.length_take, List.length_drop, h6]; omega
    · rw [addr_add_add _ h4]
      rw [List.getElem?_take] at hu
      split at hu
      · rw [List.getElem?_drop] at hu; exact h7 _ u hu
      · cases hu
    · have := h8 (l + i) (by omega)
      have e3 : (((cs.drop (l * sz)).take ((h - l) * sz)).drop (i * sz)).take sz = (cs.drop ((l + i) * sz)).take sz := by
        apply List.ext_getElem?
        intro q
        rw [List.getElem?_take, List.getElem?_take]
        by_cases hq : q < sz
        · rw [if_pos hq, if_pos hq, List.getElem?_drop, List.getElem?_take, if_pos (by have := mul_bd hi hq; omega), List.getElem?_drop, List.getElem?_drop]
          congr 1; rw [Nat.add_mul]; omega
        · rw [if_neg hq, if_neg hq]
      rw [e3]; exact this
theorem stepSlice_ok {o : Oper} {t : TypeId} {x : Operand} {lo hi mx : Option Operand} {y : AV} {cs : List Prop} (ho : o.op = .slice t x lo hi mx)
    (h : stepSlice P t (s.ev x) (lo.map s.ev) (hi.map s.ev) (mx.map s.ev) s = some (y, cs)) (hcs : Conds cs) : LightOK P gl [] o y s := by
  constructor
  intro C E a w hP hG hsim
  have hx := hsim.ev x
  unfold stepSlice at h
  split at h
  · rename_i hu
    split at h
    · rename_i b hxe hmx
      split at h
      · rename_i l h' hl hh
        simp only [Option.some.injEq, Prod.mk.injEq] at h
        obtain ⟨rfl, rfl⟩ := h
        obtain ⟨c0, c1, c2⟩ : 0 ≤ l ∧ l ≤ h' ∧ h' ≤ b.size := hcs.1
        have hb : mx = none := by cases mx <;> simp_all
        subst hb
        rw [hxe] at hx
        unfold VA at hx
        have hx := (VD_raw_inv hx).1
        refine ⟨.string (b.extract l.toNat h'.toNat), fun w' _ => ?_, by unfold VA; exact VD_raw rfl⟩
        have hr := run_bounds (P := P) false b.size b.size (mx := none) (m := b.size) (bound_op hsim hl) (bound_op hsim hh) (.inl ⟨rfl, rfl⟩) c0 c1 c2 (Int.le_refl _) w'
        simp [execOp, ho, Instr.sliceAt, Instr.slice, run_underlying hu, hx, hr]
      · cases h
    · cases h
  · rename_i e hu
    split at h
    · cases h
    · rename_i inf hinf
      split at h
      · rename_i sz n el hxe
        split at h
        · rename_i hmx
          split at h
          · rename_i hsz
            split at h
            · rename_i l h' hl hh
              simp only [Option.some.injEq, Prod.mk.injEq] at h
              obtain ⟨rfl, rfl⟩ := h
              obtain ⟨c0, c1, c2⟩ : 0 ≤ l ∧ l ≤ h' ∧ h' ≤ n := hcs.1
              have hb : mx = none := by cases mx <;> simp_all
              subst hb; subst hsz
              rw [hxe] at hx
              unfold VA at hx
              have hx' : VC w (Stable C E s w) (.list inf.size n el) [a.eval x] := hx
              unfold VC at hx'
              obtain ⟨v, hv, hx'⟩ := hx'
              simp only [List.cons.injEq, and_true] at hv
              rcases hx' with ⟨h0, h1⟩ | ⟨ad, cap, vs, h1, h2, h3, h4, h5, h6, h7, h8⟩
              · subst h0
                have e1 : l = 0 := by omega
                have e2 : h' = 0 := by omega
                subst e1; subst e2
                refine ⟨.slice none 0 0, fun w' _ => ?_, ?_⟩
                · have hr := run_bounds (P := P) true 0 0 (mx := none) (m := 0) (bound_op hsim hl) (bound_op hsim hh) (.inl ⟨rfl, rfl⟩) c0 c1 (Int.le_refl _) (Int.le_refl _) w'
                  simp [execOp, ho, Instr.sliceAt, Instr.slice, run_underlying hu, hv, h1, hr, sizeOf, typeInfo, program, hinf, Sem.run]
                · unfold VA
                  show VC w _ _ [_]
                  unfold VC
                  exact ⟨_, rfl, .inl ⟨rfl, rfl⟩⟩
              · refine ⟨.slice (if cap = l.toNat then some ad else some (ad.add (l.toNat * inf.size))) (h'.toNat - l.toNat) (cap - l.toNat), fun w' _ => ?_, ?_⟩
                rotate_left
                · unfold VA
                  have := list_sub (w := w) (N := Stable C E s w) h2 h3 h4 h5 h6 h7 h8 (l := l.toNat) (h := h'.toNat) (by omega) (by omega)
                  have e1 : (h' - l).toNat = h'.toNat - l.toNat := by omega
                  rw [e1]
                  exact this
                · have hr := run_bounds (P := P) true n cap (mx := none) (m := cap) (bound_op hsim hl) (bound_op hsim hh) (.inl ⟨rfl, rfl⟩) c0 c1 (by omega) (Int.le_refl _) w'
                  simp [execOp, ho, Instr.sliceAt, Instr.slice, run_underlying hu, hv, h1, hr, sizeOf, typeInfo, program, hinf, Sem.run]
            · cases h
          · cases h
        · cases h
      · rename_i k hxe
        split at h
        · rename_i T sz n el hk
          split at h
          · rename_i hsz
            subst hsz
            split at h
            · rename_i l h' hl hh
              rw [hxe] at hx
              unfold VA at hx
              obtain ⟨vs, h3, h4⟩ := row_of hsim.fit hk
              have main : ∀ (m : Int) (oc : Option Nat), ((mx.map a.eval = none ∧ oc = none) ∨ ((∃ km, mx.map a.eval = some (.int km m)) ∧ hi.map a.eval ≠ none ∧ oc = some (m - l).toNat)) → 0 ≤ l → l ≤ h' → h' ≤ n → (mx.map a.eval ≠ none → h' ≤ m ∧ m ≤ n) →
                  ∃ v, (∀ w', KeptW (inL []) C E s w w' → (execOp a.eval o).run P w' = .ok (.value v) w') ∧ VA E w (Stable C E s w) (.sub k l.toNat (h' - l).toNat inf.size oc) v := fun m oc hm c0 c1 c2 c3 => by
                rcases h3.2 with ⟨h5, h6⟩ | ⟨g, cap, cur, h5, h6, h7, h8, h9, h10⟩
                · subst h6
                  have e1 : l = 0 := by omega
                  have e2 : h' = 0 := by omega
                  subst e1; subst e2
                  refine ⟨.slice none 0 0, fun w' _ => ?_, ?_⟩
                  · rcases hm with ⟨hm, _⟩ | ⟨⟨km, hm⟩, hne, _⟩
                    · have hr := run_bounds (P := P) true 0 0 (mx := none) (m := 0) (bound_op hsim hl) (bound_op hsim hh) (.inl ⟨rfl, rfl⟩) c0 c1 (Int.le_refl _) (Int.le_refl _) w'
                      simp [execOp, ho, Instr.sliceAt, Instr.slice, run_underlying hu, hx.1, h5, hm, hr, sizeOf, typeInfo, program, hinf, Sem.run]
                    · have c4 := c3 (by rw [hm]; simp)
                      have e3 : m = 0 := by omega
                      subst e3
                      have hr := run_bounds (P := P) true 0 0 (m := 0) (bound_op hsim hl) (bound_op hsim hh) (.inr ⟨⟨km, hm⟩, hne⟩) c0 c1 (Int.le_refl _) (Int.le_refl _) w'
                      simp [execOp, ho, Instr.sliceAt, Instr.slice, run_underlying hu, hx.1, h5, hr, sizeOf, typeInfo, program, hinf, Sem.run]
                  · unfold VA
                    refine .inl ⟨rfl, h5, rfl, fun q hq => ?_⟩
                    rcases hm with ⟨_, hoc⟩ | ⟨⟨km, hm⟩, _, hoc⟩
                    · rw [hoc] at hq; cases hq
                    · rw [hoc] at hq; cases hq
                      have c4 := c3 (by rw [hm]; simp)
                      omega
                · rcases hm with ⟨hm, hoc⟩ | ⟨⟨km, hm⟩, hne, hoc⟩
                  · subst hoc
                    refine ⟨.slice (if cap = l.toNat then some ⟨g, 0, none⟩ else some (Addr.add ⟨g, 0, none⟩ (l.toNat * inf.size))) (h'.toNat - l.toNat) (cap - l.toNat), fun w' _ => ?_, ?_⟩
                    · have hr := run_bounds (P := P) true n cap (mx := none) (m := cap) (bound_op hsim hl) (bound_op hsim hh) (.inl ⟨rfl, rfl⟩) c0 c1 (by omega) (Int.le_refl _) w'
                      simp [execOp, ho, Instr.sliceAt, Instr.slice, run_underlying hu, hx.1, h5, hm, hr, sizeOf, typeInfo, program, hinf, Sem.run]
                    · unfold VA
                      have e1 : (h' - l).toNat = h'.toNat - l.toNat := by omega
                      refine .inr ⟨g, n, cap, if cap = l.toNat then 0 else l.toNat * inf.size, cap - l.toNat, h5, by omega, ?_, fun h0 => by rw [if_neg (by omega)], by omega, by omega, fun h0 => by rw [h0]; simp, fun q hq => by cases hq⟩
                      rw [e1]
                      split
                      · rfl
                      · rw [addr_mk_add, Nat.zero_add]
                  · subst hoc
                    have c4 := c3 (by rw [hm]; simp)
                    refine ⟨.slice (if m.toNat = l.toNat then some ⟨g, 0, none⟩ else some (Addr.add ⟨g, 0, none⟩ (l.toNat * inf.size))) (h'.toNat - l.toNat) (m.toNat - l.toNat), fun w' _ => ?_, ?_⟩
                    · have hr := run_bounds (P := P) true n cap (m := m) (bound_op hsim hl) (bound_op hsim hh) (.inr ⟨⟨km, hm⟩, hne⟩) c0 c1 c4.1 (by omega) w'
                      simp [execOp, ho, Instr.sliceAt, Instr.slice, run_underlying hu, hx.1, h5, hr, sizeOf, typeInfo, program, hinf, Sem.run]
                    · unfold VA
                      have e1 : (h' - l).toNat = h'.toNat - l.toNat := by omega
                      refine .inr ⟨g, n, cap, if m.toNat = l.toNat then 0 else l.toNat * inf.size, m.toNat - l.toNat, h5, by omega, ?_, fun h0 => by rw [if_neg (by omega)], by omega, by omega, fun h0 => by rw [h0]; simp, fun q hq => by simp only [Option.some.injEq] at hq; omega⟩
                      rw [e1]
                      split
                      · rfl
                      · rw [addr_mk_add, Nat.zero_add]
              split at h
              · rename_i hmx
                simp only [Option.some.injEq, Prod.mk.injEq] at h
                obtain ⟨rfl, rfl⟩ := h
                obtain ⟨c0, c1, c2⟩ : 0 ≤ l ∧ l ≤ h' ∧ h' ≤ n := hcs.1
                have hb : mx = none := by cases mx <;> simp_all
                subst hb
                exact main 0 none (.inl ⟨rfl, rfl⟩) c0 c1 c2 (fun hne => absurd rfl hne)
              · rename_i mv hmx
                split at h
                · rename_i m hv hm hhi
                  simp only [Option.some.injEq, Prod.mk.injEq] at h
                  obtain ⟨rfl, rfl⟩ := h
                  obtain ⟨c0, c1, c2, c3⟩ : 0 ≤ l ∧ l ≤ h' ∧ h' ≤ m ∧ m ≤ n := hcs.1
                  rcases bound_op hsim hm with ⟨hn, _⟩ | hk'
                  · cases mx <;> simp_all
                  · exact main m _ (.inr ⟨hk', by cases hi <;> simp_all, rfl⟩) c0 c1 (by omega) (fun _ => ⟨c2, c3⟩)
                · cases h
            · cases h
          · cases h
        · cases h
      · rename_i k o' n sz cap' hxe
        split at h
        · rename_i hmx
          split at h
          · rename_i hsz
            subst hsz
            split at h
            · rename_i l h' hl hh
              simp only [Option.some.injEq, Prod.mk.injEq] at h
              obtain ⟨rfl, rfl⟩ := h
              obtain ⟨c0, c1, c2⟩ : 0 ≤ l ∧ l ≤ h' ∧ h' ≤ n := hcs.1
              have hb : mx = none := by cases mx <;> simp_all
              subst hb
              rw [hxe] at hx
              unfold VA at hx
              rcases hx with ⟨h0, h1, h2, h3⟩ | ⟨g, m, c, oo, cp, h1, h2, h3, h4, h5, h6, h7, h8⟩
              · subst h0
                have e1 : l = 0 := by omega
                have e2 : h' = 0 := by omega
                subst e1; subst e2
                refine ⟨.slice none 0 0, fun w' _ => ?_, ?_⟩
                · have hr := run_bounds (P := P) true 0 0 (mx := none) (m := 0) (bound_op hsim hl) (bound_op hsim hh) (.inl ⟨rfl, rfl⟩) c0 c1 (Int.le_refl _) (Int.le_refl _) w'
                  simp [execOp, ho, Instr.sliceAt, Instr.slice, run_underlying hu, h2, hr, sizeOf, typeInfo, program, hinf, Sem.run]
                · unfold VA; exact .inl ⟨rfl, h1, rfl, fun q hq => by cases hq⟩
              · refine ⟨.slice (if cp = l.toNat then some ⟨g, oo, none⟩ else some (Addr.add ⟨g, oo, none⟩ (l.toNat * inf.size))) (h'.toNat - l.toNat) (cp - l.toNat), fun w' _ => ?_, ?_⟩
                · have hr := run_bounds (P := P) true n cp (mx := none) (m := cp) (bound_op hsim hl) (bound_op hsim hh) (.inl ⟨rfl, rfl⟩) c0 c1 (by omega) (Int.le_refl _) w'
                  simp [execOp, ho, Instr.sliceAt, Instr.slice, run_underlying hu, h3, hr, sizeOf, typeInfo, program, hinf, Sem.run]
                · unfold VA
                  have e1 : (h' - l).toNat = h'.toNat - l.toNat := by omega
                  refine .inr ⟨g, m, c, if cp = l.toNat then oo else oo + l.toNat * inf.size, cp - l.toNat, h1, by omega, ?_, fun h0 => by rw [if_neg (by omega), h4 (by omega), Nat.add_mul], by omega, by omega, fun h0 => ?_, fun q hq => by cases hq⟩
                  · rw [e1]
                    split
                    · rfl
                    · rw [addr_mk_add]
                  · have e3 : oo = 0 := h7 (by omega)
                    have e4 : l.toNat = 0 := by omega
                    rw [e3, e4]; simp
            · cases h
          · cases h
        · cases h
      · cases h
  · rename_i n e hu
    split at h
    · cases h
    · rename_i inf hinf
      split at h
      · rename_i k off hxe hmx
        split at h
        · rename_i l h' hl hh
          simp only [Option.some.injEq, Prod.mk.injEq] at h
          obtain ⟨rfl, rfl⟩ := h
          obtain ⟨c0, c1, c2, c3⟩ : 0 ≤ l ∧ l ≤ h' ∧ h' ≤ n ∧ (l = 0 ∨ l < n) := hcs.1
          have hb : mx = none := by cases mx <;> simp_all
          subst hb
          rw [hxe] at hx
          unfold VA at hx
          obtain ⟨b, h1, h2⟩ := hx
          refine ⟨.slice (some ⟨b, off + l.toNat * inf.size, none⟩) (h' - l).toNat (n - l).toNat, fun w' _ => ?_, by unfold VA; exact ⟨b, h1, rfl⟩⟩
          have hr := run_bounds (P := P) false n n (mx := none) (m := n) (bound_op hsim hl) (bound_op hsim hh) (.inl ⟨rfl, rfl⟩) c0 c1 c2 (Int.le_refl _) w'
          have e1 : (h' - l).toNat = h'.toNat - l.toNat := by omega
          have e2 : ((n : Int) - l).toNat = n - l.toNat := by omega
          have e3 : (if n = l.toNat then (⟨b, off, none⟩ : Addr) else Addr.add ⟨b, off, none⟩ (l.toNat * inf.size)) = ⟨b, off + l.toNat * inf.size, none⟩ := by
            split
            · have : l.toNat = 0 := by omega
              rw [this]; simp
            · rw [addr_mk_add]
          simp [execOp, ho, Instr.sliceAt, Instr.sureAddr, run_underlying hu, h2, hr, sizeOf, typeInfo, program, hinf, Sem.run, e1, e2, e3]
        · cases h
      · cases h
  · cases h
end Go.Eng
