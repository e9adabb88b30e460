/-
  Part of the engine: abstract states of a call, and that the operations do what is told of them. No condition.
-/
import Derived.Laws.AppendOwn
import Derived.Laws.OwnMore
import Derived.Laws.MakeOwn
import Derived.Below
import Derived.Calls
import Derived.OrdersHeld
import Derived.KernelRfl
namespace Go.Eng
open Go Go.RowKit
inductive D where
 | raw (v : Value)
 | list (sz n : Nat) (el : Nat → D)
 | agg (cs : List D)
instance : Inhabited D := ⟨.raw default⟩
def D.cells : D → List D
 | .agg cs => cs
 | x => [x]
def D.one : D → Bool
 | .raw v => v.oneCell'
 | .list .. => true
 | .agg _ => false
theorem addr_add_block (a : Addr) (n : Nat) : (a.add n).block = a.block := by unfold Addr.add; split <;> rfl
mutual
def VC (w : World) (N : Nat → Prop) : D → List Value → Prop
 | .raw u, vs => vs = [u] ∧ u.oneCell' = true
 | .list sz n el, vs => ∃ v, vs = [v] ∧ ((n = 0 ∧ v = .slice none 0 0) ∨
  ∃ (ad : Addr) (cap : Nat) (cs : List Value), v = .slice (some ad) n cap ∧ n ≤ cap ∧ cap ≤ maxLen ∧ ad.spot = none ∧ N ad.block ∧ cs.length = n * sz ∧
   (∀ j u, cs[j]? = some u → w.cell? (ad.add j) = some u) ∧ ∀ i, i < n → VC w N (el i) ((cs.drop (i * sz)).take sz))
 | .agg xs, vs => VCs w N xs vs
def VCs (w : World) (N : Nat → Prop) : List D → List Value → Prop
 | [], vs => vs = []
 | x :: xs, vs => ∃ v vs', vs = v :: vs' ∧ x.one = true ∧ VC w N x [v] ∧ VCs w N xs vs'
end
def VD (w : World) (N : Nat → Prop) : D → Value → Prop
 | .agg xs, v => ∃ vs, v = .agg vs.toArray ∧ VC w N (.agg xs) vs
 | x, v => VC w N x [v]
mutual
theorem VC.imp {w w' : World} {N N' : Nat → Prop} (hN : ∀ b, N b → N' b) (hw : ∀ a v, N a.block → w.cell? a = some v → w'.cell? a = some v) :
  ∀ (x : D) (vs : List Value), VC w N x vs → VC w' N' x vs
 | .raw _, _, h => h
 | .list sz n el, vs, h => by
  unfold VC at h ⊢
  obtain ⟨v, rfl, h⟩ := h
  refine ⟨v, rfl, ?_⟩
  rcases h with h | ⟨ad, cap, cs, h1, h2, h3, h4, h5, h6, h7, h8⟩
  · exact .inl h
  · exact .inr ⟨ad, cap, cs, h1, h2, h3, h4, hN _ h5, h6, fun j u hu => hw _ _ (by rw [addr_add_block]; exact h5) (h7 j u hu), fun i hi => VC.imp hN hw _ _ (h8 i hi)⟩
 | .agg xs, vs, h => by
  unfold VC at h ⊢
  exact VCs.imp hN hw xs vs h
theorem VCs.imp {w w' : World} {N N' : Nat → Prop} (hN : ∀ b, N b → N' b) (hw : ∀ a v, N a.block → w.cell? a = some v → w'.cell? a = some v) :
  ∀ (xs : List D) (vs : List Value), VCs w N xs vs → VCs w' N' xs vs
 | [], _, h => h
 | x :: xs, vs, h => by
  unfold VCs at h ⊢
  obtain ⟨v, vs', h1, h2, h3, h4⟩ := h
  exact ⟨v, vs', h1, h2, VC.imp hN hw _ _ h3, VCs.imp hN hw _ _ h4⟩
end
theorem VD.imp {w w' : World} {N N' : Nat → Prop} (hN : ∀ b, N b → N' b) (hw : ∀ a v, N a.block → w.cell? a = some v → w'.cell? a = some v)
  {x : D} {v : Value} (h : VD w N x v) : VD w' N' x v := by
 cases x with
 | agg xs => obtain ⟨vs, h1, h2⟩ := h; exact ⟨vs, h1, VC.imp hN hw _ _ h2⟩
 | raw u => exact VC.imp hN hw _ _ h
 | list sz n el => exact VC.imp hN hw (.list sz n el) _ h
inductive AV where
 | dead
 | d (x : D)
 | ref (k off : Nat)
 | refI (k off i sz n o2 : Nat)
 | own (k : Nat)
 | sub (k lo n sz : Nat) (cap : Option Nat)
 | osl (k off sz n cap : Nat)
 | mp (k : Nat)
 | fn (f : Fn) (first cap : List AV)
 | tup (xs : List AV)
 | agg (xs : List AV)
 | cptr (cs : List D)
 | el (k i sz off : Nat)
 | known (b : Bool)
instance : Inhabited AV := ⟨.dead⟩
abbrev Env := Nat → Value
mutual
def VA (E : Env) (w : World) (N : Nat → Prop) : AV → Value → Prop
 | .dead, _ => True
 | .d x, v => VD w N x v
 | .ref k off, v => ∃ b, E k = .pointer (some ⟨b, 0, none⟩) ∧ v = .pointer (some ⟨b, off, none⟩)
 | .refI k off i sz _ o2, v => ∃ b, E k = .pointer (some ⟨b, 0, none⟩) ∧ v = .pointer (some ⟨b, off + i * sz + o2, none⟩)
 | .own k, v => v = E k ∧ ∃ A n c, v = .slice A n c
 | .sub k lo n sz cap, v => (n = 0 ∧ E k = .slice none 0 0 ∧ v = .slice none 0 0 ∧ (∀ q, cap = some q → q = 0)) ∨
  ∃ g m c o cp, E k = .slice (some ⟨g, 0, none⟩) m c ∧ lo + n ≤ m ∧ v = .slice (some ⟨g, o, none⟩) n cp ∧ (0 < cp → o = lo * sz) ∧ n ≤ cp ∧ lo + cp ≤ c ∧ (lo = 0 → o = 0) ∧ ∀ q, cap = some q → cp = q
 | .osl k off _ n cap, v => ∃ b, E k = .pointer (some ⟨b, 0, none⟩) ∧ v = .slice (some ⟨b, off, none⟩) n cap
 | .mp k, v => v = E k ∧ ∃ r, v = .map r
 | .fn f first cap, v => ∃ a b : List Value, v = .func f a.toArray b.toArray ∧ VAs E w N first a ∧ VAs E w N cap b
 | .tup xs, v => ∃ vs : List Value, v = .tuple vs.toArray ∧ VAs E w N xs vs
 | .agg xs, v => ∃ vs : List Value, v = .agg vs.toArray ∧ VAs E w N xs vs ∧ ∀ u ∈ vs, u.oneCell' = true
 | .el k i sz off, v => ∃ g n cap, E k = .slice (some ⟨g, 0, none⟩) n cap ∧ v = .pointer (some ⟨g, i * sz + off, none⟩)
 | .known b, v => v = .bool b
 | .cptr cs, v => ∃ ad vs, v = .pointer (some ad) ∧ ad.spot = none ∧ N ad.block ∧ VCs w N cs vs ∧ ∀ j u, vs[j]? = some u → w.cell? (ad.add j) = some u
def VAs (E : Env) (w : World) (N : Nat → Prop) : List AV → List Value → Prop
 | [], vs => vs = []
 | x :: xs, vs => ∃ v vs', vs = v :: vs' ∧ VA E w N x v ∧ VAs E w N xs vs'
end
mutual
def AV.has (F : Nat → Bool) : AV → Bool
 | .ref k _ => F k
 | .refI k _ _ _ _ _ => F k
 | .own k => F k
 | .sub k _ _ _ _ => F k
 | .osl k _ _ _ _ => F k
 | .mp k => F k
 | .el k _ _ _ => F k
 | .fn _ a b => AV.hass F a || AV.hass F b
 | .tup xs => AV.hass F xs
 | .agg xs => AV.hass F xs
 | _ => false
def AV.hass (F : Nat → Bool) : List AV → Bool
 | [] => false
 | x :: xs => AV.has F x || AV.hass F xs
end
def AV.forget (F : Nat → Bool) (x : AV) : AV := if x.has F then .dead else x
theorem env_of {E E' : Env} {F : Nat → Bool} (hE : ∀ k, F k = false → E' k = E k) {k : Nat} (h : F k = false) {v : Value} (hv : E k = v) : E' k = v := (hE k h).trans hv
mutual
theorem VA.imp {E E' : Env} {w w' : World} {N N' : Nat → Prop} {F : Nat → Bool} (hN : ∀ b, N b → N' b) (hw : ∀ a v, N a.block → w.cell? a = some v → w'.cell? a = some v) (hE : ∀ k, F k = false → E' k = E k) :
  ∀ (x : AV) (v : Value), x.has F = false → VA E w N x v → VA E' w' N' x v
 | .dead, _, _, _ => by unfold VA; trivial
 | .d x, _, _, h => by unfold VA at h ⊢; exact VD.imp hN hw h
 | .ref k off, _, hk, h => by
  unfold VA at h ⊢
  obtain ⟨b, h1, h2⟩ := h
  exact ⟨b, env_of hE hk h1, h2⟩
 | .refI k off i sz n o2, _, hk, h => by
  unfold VA at h ⊢
  obtain ⟨b, h1, h2⟩ := h
  exact ⟨b, env_of hE hk h1, h2⟩
 | .own k, v, hk, h => by
  unfold VA at h ⊢
  exact ⟨h.1.trans (hE k hk).symm, h.2⟩
 | .sub k lo n sz cap, v, hk, h => by
  unfold VA at h ⊢
  rcases h with ⟨h1, h2, h3⟩ | ⟨g, m, c, o, cp, h1, h2⟩
  · exact .inl ⟨h1, env_of hE hk h2, h3⟩
  · exact .inr ⟨g, m, c, o, cp, env_of hE hk h1, h2⟩
 | .osl k off sz n cap, v, hk, h => by
  unfold VA at h ⊢
  obtain ⟨b, h1, h2⟩ := h
  exact ⟨b, env_of hE hk h1, h2⟩
 | .mp k, v, hk, h => by
  unfold VA at h ⊢
  exact ⟨h.1.trans (hE k hk).symm, h.2⟩
 | .fn f a b, _, hk, h => by
  unfold VA at h ⊢
  obtain ⟨p, q, h1, h2, h3⟩ := h
  simp only [AV.has, Bool.or_eq_false_iff] at hk
  exact ⟨p, q, h1, VAs.imp hN hw hE a p hk.1 h2, VAs.imp hN hw hE b q hk.2 h3⟩
 | .tup xs, _, hk, h => by
  unfold VA at h ⊢
  obtain ⟨vs, h1, h2⟩ := h
  exact ⟨vs, h1, VAs.imp hN hw hE xs vs hk h2⟩
 | .agg xs, _, hk, h => by
  unfold VA at h ⊢
  obtain ⟨vs, h1, h2, h3⟩ := h
  exact ⟨vs, h1, VAs.imp hN hw hE xs vs hk h2, h3⟩
 | .el k i sz off, _, hk, h => by
  unfold VA at h ⊢
  obtain ⟨g, n, cap, h1, h2⟩ := h
  exact ⟨g, n, cap, env_of hE hk h1, h2⟩
 | .known b, _, _, h => by unfold VA at h ⊢; exact h
 | .cptr cs, _, _, h => by
  unfold VA at h ⊢
  obtain ⟨ad, vs, h1, h2, h3, h4, h5⟩ := h
  exact ⟨ad, vs, h1, h2, hN _ h3, VCs.imp hN hw _ _ h4, fun j u hu => hw _ _ (by rw [addr_add_block]; exact h3) (h5 j u hu)⟩
theorem VAs.imp {E E' : Env} {w w' : World} {N N' : Nat → Prop} {F : Nat → Bool} (hN : ∀ b, N b → N' b) (hw : ∀ a v, N a.block → w.cell? a = some v → w'.cell? a = some v) (hE : ∀ k, F k = false → E' k = E k) :
  ∀ (xs : List AV) (vs : List Value), AV.hass F xs = false → VAs E w N xs vs → VAs E' w' N' xs vs
 | [], _, _, h => h
 | x :: xs, _, hk, h => by
  unfold VAs at h ⊢
  obtain ⟨v, vs', h1, h2, h3⟩ := h
  simp only [AV.hass, Bool.or_eq_false_iff] at hk
  exact ⟨v, vs', h1, VA.imp hN hw hE x v hk.1 h2, VAs.imp hN hw hE xs vs' hk.2 h3⟩
end
mutual
theorem AV.has_none : ∀ x : AV, AV.has (fun _ => false) x = false
 | .dead => rfl
 | .d _ => rfl
 | .ref _ _ => rfl
 | .refI _ _ _ _ _ _ => rfl
 | .own _ => rfl
 | .sub _ _ _ _ _ => rfl
 | .osl _ _ _ _ _ => rfl
 | .mp _ => rfl
 | .fn _ a b => by simp [AV.has, AV.hass_none a, AV.hass_none b]
 | .tup xs => by simp [AV.has, AV.hass_none xs]
 | .agg xs => by simp [AV.has, AV.hass_none xs]
 | .cptr _ => rfl
 | .el _ _ _ _ => rfl
 | .known _ => rfl
theorem AV.hass_none : ∀ xs : List AV, AV.hass (fun _ => false) xs = false
 | [] => rfl
 | x :: xs => by simp [AV.hass, AV.has_none x, AV.hass_none xs]
end
theorem VA.mono {E : Env} {w w' : World} {N N' : Nat → Prop} (hN : ∀ b, N b → N' b) (hw : ∀ a v, N a.block → w.cell? a = some v → w'.cell? a = some v) {x : AV} {v : Value} (h : VA E w N x v) : VA E w' N' x v :=
 VA.imp (F := fun _ => false) hN hw (fun _ _ => rfl) x v (AV.has_none x) h
theorem VAs.mono {E : Env} {w w' : World} {N N' : Nat → Prop} (hN : ∀ b, N b → N' b) (hw : ∀ a v, N a.block → w.cell? a = some v → w'.cell? a = some v) {xs : List AV} {vs : List Value} (h : VAs E w N xs vs) : VAs E w' N' xs vs :=
 VAs.imp (F := fun _ => false) hN hw (fun _ _ => rfl) xs vs (AV.hass_none xs) h
theorem VA.forget {E E' : Env} {w w' : World} {N N' : Nat → Prop} {F : Nat → Bool} (hN : ∀ b, N b → N' b) (hw : ∀ a v, N a.block → w.cell? a = some v → w'.cell? a = some v) (hE : ∀ k, F k = false → E' k = E k)
  {x : AV} {v : Value} (h : VA E w N x v) : VA E' w' N' (x.forget F) v := by
 unfold AV.forget
 split
 · unfold VA; trivial
 ·
  rename_i hf
  exact VA.imp hN hw hE x v (by simpa using hf) h
theorem VAs.length {E : Env} {w : World} {N : Nat → Prop} : ∀ {xs : List AV} {vs : List Value}, VAs E w N xs vs → vs.length = xs.length
 | [], vs, h => by unfold VAs at h; subst h; rfl
 | x :: xs, vs, h => by
  unfold VAs at h
  obtain ⟨v, vs', rfl, _, h⟩ := h
  simp [VAs.length h]
theorem VAs.get {E : Env} {w : World} {N : Nat → Prop} : ∀ {xs : List AV} {vs : List Value}, VAs E w N xs vs → ∀ (i : Nat) (x : AV), xs[i]? = some x → ∃ v, vs[i]? = some v ∧ VA E w N x v
 | [], vs, h, i, x, hx => by simp at hx
 | y :: xs, vs, h, i, x, hx => by
  unfold VAs at h
  obtain ⟨v, vs', rfl, h1, h⟩ := h
  cases i with
  | zero => simp at hx; subst hx; exact ⟨v, rfl, h1⟩
  | succ i => simpa using VAs.get h i x (by simpa using hx)
theorem VAs.of_get {E : Env} {w : World} {N : Nat → Prop} : ∀ {xs : List AV} {vs : List Value}, vs.length = xs.length → (∀ (i : Nat) (x : AV) (v : Value), xs[i]? = some x → vs[i]? = some v → VA E w N x v) → VAs E w N xs vs
 | [], vs, h, _ => by unfold VAs; exact List.eq_nil_of_length_eq_zero (by simpa using h)
 | x :: xs, [], h, _ => by simp at h
 | x :: xs, v :: vs, h, hg => by
  unfold VAs
  exact ⟨v, vs, rfl, hg 0 x v rfl rfl, VAs.of_get (by simpa using h) fun i y u hy hu => hg (i + 1) y u (by simpa using hy) (by simpa using hu)⟩
theorem VAs.set {E : Env} {w : World} {N : Nat → Prop} {xs : List AV} {vs : List Value} (h : VAs E w N xs vs) (i : Nat) {x : AV} {v : Value} (hv : VA E w N x v) : VAs E w N (xs.set i x) (vs.set i v) := by
 refine VAs.of_get (by simp [h.length]) fun j y u hy hu => ?_
 rw [List.getElem?_set] at hy hu
 by_cases hij : i = j
 ·
  subst hij
  have hl := h.length
  by_cases hi : i < xs.length
  ·
   rw [if_pos rfl, if_pos hi] at hy
   rw [if_pos rfl, if_pos (by omega)] at hu
   cases hy; cases hu; exact hv
  ·
   rw [if_pos rfl, if_neg hi] at hy
   cases hy
 ·
  rw [if_neg hij] at hy hu
  obtain ⟨u', h1, h2⟩ := h.get j y hy
  rw [h1] at hu; cases hu; exact h2
theorem VAs.map {E E' : Env} {w w' : World} {N N' : Nat → Prop} {xs : List AV} {vs : List Value} (f : AV → AV) (h : VAs E w N xs vs) (hf : ∀ x v, VA E w N x v → VA E' w' N' (f x) v) : VAs E' w' N' (xs.map f) vs := by
 refine VAs.of_get (by simp [h.length]) fun j y u hy hu => ?_
 rw [List.getElem?_map, Option.map_eq_some_iff] at hy
 obtain ⟨x, hx, rfl⟩ := hy
 obtain ⟨u', h1, h2⟩ := h.get j x hx
 rw [h1] at hu; cases hu
 exact hf x _ h2
theorem VAs.append {E : Env} {w : World} {N : Nat → Prop} : ∀ {xs ys : List AV} {vs us : List Value}, VAs E w N xs vs → VAs E w N ys us → VAs E w N (xs ++ ys) (vs ++ us)
 | [], ys, vs, us, h, k => by unfold VAs at h; subst h; exact k
 | x :: xs, ys, vs, us, h, k => by
  unfold VAs at h
  obtain ⟨v, vs', rfl, h1, h⟩ := h
  simp only [List.cons_append]
  unfold VAs
  exact ⟨v, vs' ++ us, rfl, h1, VAs.append h k⟩
theorem VAs.take {E : Env} {w : World} {N : Nat → Prop} {xs : List AV} {vs : List Value} (h : VAs E w N xs vs) (n : Nat) : VAs E w N (xs.take n) (vs.take n) :=
 VAs.of_get (by simp [h.length]) fun i x v hx hv => by
  rw [List.getElem?_take] at hx hv
  split at hx
  ·
   rename_i hlt
   rw [if_pos hlt] at hv
   obtain ⟨u, h1, h2⟩ := h.get i x hx
   rw [h1] at hv; cases hv; exact h2
  · cases hx
theorem VAs.drop {E : Env} {w : World} {N : Nat → Prop} {xs : List AV} {vs : List Value} (h : VAs E w N xs vs) (n : Nat) : VAs E w N (xs.drop n) (vs.drop n) :=
 VAs.of_get (by simp [h.length]) fun i x v hx hv => by
  rw [List.getElem?_drop] at hx hv
  obtain ⟨u, h1, h2⟩ := h.get _ x hx
  rw [h1] at hv; cases hv; exact h2
end Go.Eng
