/-
  Part of the engine: abstract states of a call (values as trees, objects and rows of the call's own), and that each operation of the model does to the world what it does to them. No condition.
-/
import Derived.Test.YticnclmadldkkaaAbs8
namespace Go.Abs
open Go Go.RowKit
variable {P : Program} {B : Nat} {w0 : World} {N0 : Nat → Prop} {E E' : Env} {s s' : St} {a : Act} {w w' : World}

/-! ### len -/
def stepLen (P : Program) (t : TypeId) (x : AV) (s : St) : Option AV :=
  match P.underlying t, x with
  | some (.slice _), .d (.list _ n _) => some (.d (.raw (.int .i64 n)))
  | some (.slice _), .d (.raw (.slice _ n _)) => some (.d (.raw (.int .i64 n)))
  | some (.slice _), .own r => (s.row r).map fun R => .d (.raw (.int .i64 R.n))
  | some .string, .d (.raw (.string b)) => some (.d (.raw (.int .i64 b.size)))
  | _, _ => none
theorem list_slice {N : Nat → Prop} {sz n : Nat} {el : Nat → D} {v : Value} (h : VD w N (.list sz n el) v) : ∃ A c, v = .slice A n c := by
  have h' : VC w N (.list sz n el) [v] := h
  unfold VC at h'
  obtain ⟨u, hu, h'⟩ := h'
  simp only [List.cons.injEq, and_true] at hu
  subst hu
  rcases h' with ⟨rfl, rfl⟩ | ⟨ad, cap, cs, rfl, _⟩
  · exact ⟨_, _, rfl⟩
  · exact ⟨_, _, rfl⟩
theorem own_slice {R : Row} {v : Value} {vs : List Value} (h : w.ownsRow B R.E R.sz v R.n vs) : ∃ A c, v = .slice A R.n c := by
  rcases h.2 with ⟨h1, h2⟩ | ⟨g, cap, cur, hv, _⟩
  · exact ⟨none, 0, by rw [h2]; exact h1⟩
  · exact ⟨_, _, hv⟩
theorem stepLen_ok {o : Oper} {t : TypeId} {x : Operand} {ty : Array TypeId} {z : AV} (ho : o.op = .call { callee := .builtin .len, args := #[x], argTypes := ty }) (ht : ty[0]? = some t) (h : stepLen P t (s.ev x) s = some z) : LightOK P false o z s := by
  constructor
  intro B w0 N0 E a w hsim
  have hx := hsim.ev x
  have hsl : ∀ e A n c, P.underlying t = some (.slice e) → a.eval x = .slice A n c → ∀ w', (false = true → SameB w w') → (execOp a.eval o).run P w' = .ok (.value (.int .i64 n)) w' := fun e A n c hu hv w' _ => by
    simp [execOp, ho, resolve, invoke, builtin, Builtin.len_, ht, run_underlying hu, hv, goInt]
  unfold stepLen at h
  split at h
  · rename_i e sz n el hu hxe
    rw [hxe] at hx; unfold VA at hx
    cases h
    obtain ⟨A, c, hv⟩ := list_slice hx
    exact ⟨_, hsl e A n c hu hv, by unfold VA; exact VD_raw rfl⟩
  · rename_i e A n c hu hxe
    rw [hxe] at hx; unfold VA at hx
    cases h
    exact ⟨_, hsl e A n c hu (VD_raw_inv hx).1, by unfold VA; exact VD_raw rfl⟩
  · rename_i e r hu hxe
    rw [hxe] at hx; unfold VA at hx
    obtain ⟨R, hR, rfl⟩ := Option.map_eq_some_iff.1 h
    obtain ⟨vs, h1, _⟩ := hsim.fit.row r R hR
    obtain ⟨A, c, hv⟩ := own_slice h1
    exact ⟨_, hsl e A R.n c hu (hx.1.trans hv), by unfold VA; exact VD_raw rfl⟩
  · rename_i b hu hxe
    rw [hxe] at hx; unfold VA at hx
    cases h
    refine ⟨.int .i64 b.size, fun w' _ => ?_, by unfold VA; exact VD_raw rfl⟩
    simp [execOp, ho, resolve, invoke, builtin, Builtin.len_, ht, run_underlying hu, (VD_raw_inv hx).1, goInt]
  · cases h

/-! ### append -/
/-- The slice that is appended to. -/
def appSrc (s : St) (e sz : Nat) : AV → Option (Option Nat × Row)
  | .own q => match s.row q with
    | some R => if R.E = e ∧ R.sz = sz then some (some q, R) else none
    | none => none
  | .d (.raw (.slice none 0 0)) => some (none, ⟨e, sz, 0, fun _ => default⟩)
  | _ => none
/-- What is appended. -/
def appAdd (s : St) (sz : Nat) : AV → Option (Option Nat × Nat × (Nat → D))
  | .own q => match s.row q with
    | some R => if R.sz = sz then some (some q, R.n, R.el) else none
    | none => none
  | .d (.list sz' n el) => if sz' = sz then some (none, n, el) else none
  | .d (.raw (.slice none 0 0)) => some (none, 0, fun _ => default)
  | _ => none
theorem appAdd_ok (hsim : Sim B w0 N0 E s a w) {sz : Nat} {x : Operand} {q : Option Nat} {m : Nat} {el : Nat → D} (h : appAdd s sz (s.ev x) = some (q, m, el)) :
    (a.eval x = .slice none 0 0 ∧ m = 0) ∨ ∃ (ad : Addr) (c : Nat) (news : List Value), a.eval x = .slice (some ad) m c ∧ news.length = m * sz ∧ (∀ j u, news[j]? = some u → w.cell? (ad.add j) = some u) ∧
      ∀ i, i < m → VC w (Stable B N0 E s w) (el i) ((news.drop (i * sz)).take sz) := by
  have hx := hsim.ev x
  unfold appAdd at h
  split at h
  · rename_i q' hxe
    rw [hxe] at hx; unfold VA at hx
    split at h
    · rename_i R hR
      split at h
      · rename_i hsz
        simp only [Option.some.injEq, Prod.mk.injEq] at h
        obtain ⟨_, rfl, rfl⟩ := h
        subst hsz
        obtain ⟨vs, h1, h2⟩ := hsim.fit.row q' R hR
        rcases h1.2 with ⟨h3, h4⟩ | ⟨g, cap, cur, hv, _⟩
        · exact .inl ⟨hx.1.trans h3, h4⟩
        · exact .inr ⟨_, cap, vs, hx.1.trans hv, h1.1, h1.cells (g := g) (by rw [hv]; rfl), h2⟩
      · cases h
    · cases h
  · rename_i sz' n el' hxe
    rw [hxe] at hx; unfold VA at hx
    split at h
    · rename_i hsz
      simp only [Option.some.injEq, Prod.mk.injEq] at h
      obtain ⟨_, rfl, rfl⟩ := h
      subst hsz
      have h' : VC w (Stable B N0 E s w) (.list sz' n el') [a.eval x] := hx
      unfold VC at h'
      obtain ⟨u, hu, h'⟩ := h'
      simp only [List.cons.injEq, and_true] at hu
      rw [hu]
      rcases h' with ⟨h1, h2⟩ | ⟨ad, cap, cs, h1, _, _, _, _, h6, h7, h8⟩
      · exact .inl ⟨h2, h1⟩
      · exact .inr ⟨ad, cap, cs, h1, h6, h7, h8⟩
    · cases h
  · rename_i hxe
    rw [hxe] at hx; unfold VA at hx
    simp only [Option.some.injEq, Prod.mk.injEq] at h
    exact .inl ⟨(VD_raw_inv hx).1, h.2.1.symm⟩
  · cases h
theorem VC_ones {N : Nat → Prop} {x : D} {vs : List Value} (h : VC w N x vs) : ∀ u ∈ vs, u.oneCell' = true := h.cells.ones

def stepAppend (P : Program) (o : Oper) (t : TypeId) (x y : AV) (s : St) : Option (St × List Prop) :=
  match o.dst, P.underlying t with
  | some r, some (.slice e) =>
    match P.info? e with
    | some i =>
      match appSrc s e i.size x, appAdd s i.size y with
      | some (q, R), some (q2, m, el) =>
        if r < s.rows.length ∧ 0 < i.size ∧ (i.zero.map fun z => decide (z.cells.size = i.size)) = some true ∧ (q = none ∨ q2 ≠ q) then
          some (s.newRow q r ⟨e, i.size, R.n + m, fun j => if j < R.n then R.el j else el (j - R.n)⟩, [R.n + m ≤ 9223372036854775807 ∧ (R.n + m) * i.bytes ≤ 140737488355328])
        else none
      | _, _ => none
    | none => none
  | _, _ => none

theorem seg_all {sz m : Nat} {news : List Value} (hl : news.length = m * sz) (hsz : 0 < sz) (h : ∀ i, i < m → ∀ u ∈ (news.drop (i * sz)).take sz, u.oneCell' = true) : ∀ u ∈ news, u.oneCell' = true := by
  intro u hu
  obtain ⟨j, hj, rfl⟩ := List.mem_iff_getElem.1 hu
  have hi : j / sz < m := by rw [Nat.div_lt_iff_lt_mul hsz]; omega
  refine h (j / sz) hi _ (List.mem_iff_getElem?.2 ⟨j % sz, ?_⟩)
  have hm := Nat.mod_lt j hsz
  have hd : j / sz * sz + j % sz = j := by rw [Nat.mul_comm]; exact Nat.div_add_mod j sz
  rw [List.getElem?_take, if_pos hm, List.getElem?_drop, hd, List.getElem?_eq_getElem hj]

theorem stepAppend_ok {o : Oper} {t : TypeId} {x y : Operand} {cs : List Prop} (ho : o.op = .call { callee := .builtin .append, args := #[x, y], argTypes := #[t, t] }) (h : stepAppend P o t (s.ev x) (s.ev y) s = some (s', cs)) (hcs : Conds cs) : StepOK P false o s s' := by
  unfold stepAppend at h
  split at h
  · rename_i r e hd hu
    split at h
    · rename_i i hi
      split at h
      · rename_i q R q2 m el hsrc hadd
        split at h
        · rename_i hc
          simp only [Option.some.injEq, Prod.mk.injEq] at h
          obtain ⟨rfl, rfl⟩ := h
          obtain ⟨c1, c2, c3, c4⟩ := hc
          obtain ⟨hb1, hb2⟩ := hcs.1
          obtain ⟨z, hz, hzs⟩ := Option.map_eq_some_iff.1 c3
          have hzs : z.cells.size = i.size := by simpa using hzs
          constructor
          intro B w0 N0 E a w next Q hsim hn
          -- the source
          have hS : ∃ v vs, a.eval x = v ∧ v.oneCell' = true ∧ w.ownsRow B e i.size v R.n vs ∧ v.ownBlock = rowBlock E q ∧ (∀ j, j < R.n → VC w (Stable B N0 E s w) (R.el j) ((vs.drop (j * i.size)).take i.size)) ∧
              (∀ k, q = some k → ∃ R, s.row k = some R) := by
            have hx := hsim.ev x
            unfold appSrc at hsrc
            split at hsrc
            · rename_i q' hxe
              rw [hxe] at hx; unfold VA at hx
              split at hsrc
              · rename_i R' hR
                split at hsrc
                · rename_i hEs
                  simp only [Option.some.injEq, Prod.mk.injEq] at hsrc
                  obtain ⟨rfl, rfl⟩ := hsrc
                  obtain ⟨vs, h1, h2⟩ := hsim.fit.row q' R' hR
                  rw [hEs.1, hEs.2] at h1
                  rw [hEs.2] at h2
                  exact ⟨E.τ q', vs, hx.1, hx.1 ▸ hx.2, h1, rfl, h2, fun k hk => by cases hk; exact ⟨R', hR⟩⟩
                · cases hsrc
              · cases hsrc
            · rename_i hxe
              rw [hxe] at hx; unfold VA at hx
              simp only [Option.some.injEq, Prod.mk.injEq] at hsrc
              obtain ⟨rfl, rfl⟩ := hsrc
              exact ⟨_, [], (VD_raw_inv hx).1, rfl, World.ownsRow_nil w B e i.size, rfl, fun j hj => absurd hj (by simp), fun k hk => by cases hk⟩
            · cases hsrc
          obtain ⟨v, vs, hv, hv1, hown, hblk, hel, hq⟩ := hS
          have hA := appAdd_ok hsim hadd
          have hlen := hown.1
          rcases hA with ⟨hy, rfl⟩ | ⟨ad, c, news, hy, hl, hcell, hel2⟩
          · -- nothing is appended
            have hrun := run_append_owned_none (P := P) (w := w) B t o.type e i i.size hu hi v R.n vs hown
            refine newRow_ok (v := v) (vs := vs) (w' := w) hd c1 hq hsim hv1 ⟨rfl, rfl, rfl, Nat.le_refl _, fun _ _ _ => rfl⟩ (by simpa using hown) (fun b hb => .inr (by rw [← hblk, hb])) (fun j hj => ?_) ?_ (fun E' a' w' hs' _ => hn E' a' w' hs' fun h => by cases h)
            · simp only [Nat.add_zero] at hj
              simp only [hj, if_true]
              exact hel j hj
            · simp [execOp, ho, resolve, invoke, builtin, hv, hy, hrun]
          · obtain ⟨v', w', hr, h2, h3, h4, h5⟩ := run_append_own_at (P := P) w B t o.type e i z i.size i.bytes hu hi hz rfl rfl hzs c2 v R.n vs hown ad m c news hl hcell (seg_all hl c2 fun j hj => VC_ones (hel2 j hj)) (by unfold maxLen; omega) hb2 hsim.fit.size
            refine newRow_ok (v := v') (vs := vs ++ news) (w' := w') hd c1 hq hsim ?_ (by rw [← hblk]; exact h3) h2 (fun b hb => ?_) (fun j hj => ?_) ?_ (fun E' a' w' hs' _ => hn E' a' w' hs' fun h => by cases h)
            · rcases h2.2 with ⟨h6, _⟩ | ⟨_, _, _, h6, _⟩ <;> rw [h6] <;> rfl
            · rcases h5 with h6 | h6
              · exact .inr (by rw [← hblk, ← h6, hb])
              · rw [hb] at h6; cases h6; exact .inl (Nat.le_refl _)
            · simp only at hj ⊢
              split
              · rename_i hjn
                have hle : j * i.size + i.size ≤ vs.length := by
                  rw [hlen]
                  calc j * i.size + i.size = (j + 1) * i.size := by rw [Nat.add_mul]; omega
                    _ ≤ R.n * i.size := Nat.mul_le_mul_right _ (by omega)
                have e1 : ((vs ++ news).drop (j * i.size)).take i.size = (vs.drop (j * i.size)).take i.size := by
                  rw [List.drop_append_of_le_length (by omega), List.take_append_of_le_length (by simp; omega)]
                rw [e1]
                exact hel j hjn
              · rename_i hjn
                have hjm : j - R.n < m := by omega
                have e1 : (vs ++ news).drop (j * i.size) = news.drop ((j - R.n) * i.size) := by
                  have : j * i.size = vs.length + (j - R.n) * i.size := by rw [hlen, ← Nat.add_mul]; congr 1; omega
                  rw [this, List.drop_append]
                  simp
                rw [e1]
                exact hel2 _ hjm
            · simp [execOp, ho, resolve, invoke, builtin, hv, hy, hr]
        · cases h
      · cases h
    · cases h
  · cases h
end Go.Abs
