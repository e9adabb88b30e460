/-
  Part of the engine: abstract states of a call (values as trees, objects and rows of the call's own), and that each operation of the model does to the world what it does to them. No condition.
-/
import Derived.Laws.AppendOwn
import Derived.Laws.OwnMore
import Derived.Laws.MakeOwn
import Derived.Below
import Derived.Calls
import Derived.OrdersHeld
import Derived.KernelRfl
namespace Go.Abs
open Go Go.RowKit

/-- Pure data: what a value reads as, without addresses. -/
inductive D where
  | raw (v : Value)
  | list (sz n : Nat) (el : Nat → D)
  | agg (cs : List D)

instance : Inhabited D := ⟨.raw default⟩

def D.cells : D → List D
  | .agg cs => cs
  | x => [x]
/-- Of one cell: no struct. -/
def D.one : D → Bool
  | .raw v => v.oneCell'
  | .list .. => true
  | .agg _ => false

theorem addr_add_block (a : Addr) (n : Nat) : (a.add n).block = a.block := by unfold Addr.add; split <;> rfl

mutual
/-- In world w the cells vs read as the datum; what they lead to lies in blocks that N takes. -/
def VC (w : World) (N : Nat → Prop) : D → List Value → Prop
  | .raw u, vs => vs = [u] ∧ u.oneCell' = true
  | .list sz n el, vs => ∃ v, vs = [v] ∧ ((n = 0 ∧ v = .slice none 0 0) ∨
      ∃ (ad : Addr) (cap : Nat) (cs : List Value), v = .slice (some ad) n cap ∧ n ≤ cap ∧ cap ≤ maxLen ∧ ad.spot = none ∧ N ad.block ∧ cs.length = n * sz ∧
        (∀ j u, cs[j]? = some u → w.cell? (ad.add j) = some u) ∧ ∀ i, i < n → VC w N (el i) ((cs.drop (i * sz)).take sz))
  | .agg xs, vs => VCs w N xs vs
/-- Cells, one by one. -/
def VCs (w : World) (N : Nat → Prop) : List D → List Value → Prop
  | [], vs => vs = []
  | x :: xs, vs => ∃ v vs', vs = v :: vs' ∧ x.one = true ∧ VC w N x [v] ∧ VCs w N xs vs'
end
/-- The value reads as the datum. -/
def VD (w : World) (N : Nat → Prop) : D → Value → Prop
  | .agg xs, v => ∃ vs, v = .agg vs.toArray ∧ VC w N (.agg xs) vs
  | x, v => VC w N x [v]

mutual
theorem VC.imp {w w' : World} {N N' : Nat → Prop} (hN : ∀ b, N b → N' b) (hw : ∀ a v, N a.block → w.cell? a = some v → w'.cell? a = some v) :
    ∀ (x : D) (vs : List Value), VC w N x vs → VC w' N' x vs
  | .raw _, _, h => h
  | .list sz n el, vs, h => by
    unfold VC at h ⊢
    obtain ⟨v, rfl, h⟩ := h
    refine ⟨v, rfl, ?_⟩
    rcases h with h | ⟨ad, cap, cs, h1, h2, h3, h4, h5, h6, h7, h8⟩
    · exact .inl h
    · exact .inr ⟨ad, cap, cs, h1, h2, h3, h4, hN _ h5, h6, fun j u hu => hw _ _ (by rw [addr_add_block]; exact h5) (h7 j u hu), fun i hi => VC.imp hN hw _ _ (h8 i hi)⟩
  | .agg xs, vs, h => by
    unfold VC at h ⊢
    exact VCs.imp hN hw xs vs h
theorem VCs.imp {w w' : World} {N N' : Nat → Prop} (hN : ∀ b, N b → N' b) (hw : ∀ a v, N a.block → w.cell? a = some v → w'.cell? a = some v) :
    ∀ (xs : List D) (vs : List Value), VCs w N xs vs → VCs w' N' xs vs
  | [], _, h => h
  | x :: xs, vs, h => by
    unfold VCs at h ⊢
    obtain ⟨v, vs', h1, h2, h3, h4⟩ := h
    exact ⟨v, vs', h1, h2, VC.imp hN hw _ _ h3, VCs.imp hN hw _ _ h4⟩
end
theorem VD.imp {w w' : World} {N N' : Nat → Prop} (hN : ∀ b, N b → N' b) (hw : ∀ a v, N a.block → w.cell? a = some v → w'.cell? a = some v)
    {x : D} {v : Value} (h : VD w N x v) : VD w' N' x v := by
  cases x with
  | agg xs => obtain ⟨vs, h1, h2⟩ := h; exact ⟨vs, h1, VC.imp hN hw _ _ h2⟩
  | raw u => exact VC.imp hN hw _ _ h
  | list sz n el => exact VC.imp hN hw (.list sz n el) _ h

/-- What stands in a slot of the call: a datum; a pointer into one of the call's own objects; one of the call's own rows; a function value; a tuple; a pointer to cells that nobody writes. -/
inductive AV where
  | dead
  | d (x : D)
  | ref (k off : Nat)
  | own (r : Nat)
  | fn (f : Fn) (first cap : List AV)
  | tup (xs : List D)
  | cptr (cs : List D)
  | el (r i sz off : Nat)
  | known (b : Bool)
instance : Inhabited AV := ⟨.dead⟩

structure Env where
  σ : Nat → Nat
  τ : Nat → Value

mutual
def VA (E : Env) (w : World) (N : Nat → Prop) : AV → Value → Prop
  | .dead, _ => True
  | .d x, v => VD w N x v
  | .ref k off, v => v = .pointer (some ⟨E.σ k, off, none⟩)
  | .own r, v => v = E.τ r ∧ v.oneCell' = true
  | .fn f first cap, v => ∃ a b : List Value, v = .func f a.toArray b.toArray ∧ VAs E w N first a ∧ VAs E w N cap b
  | .tup xs, v => ∃ vs : List Value, v = .tuple vs.toArray ∧ vs.length = xs.length ∧ ∀ (i : Nat) (x : D) (u : Value), xs[i]? = some x → vs[i]? = some u → VD w N x u
  | .el r i sz off, v => ∃ g n cap, E.τ r = .slice (some ⟨g, 0, none⟩) n cap ∧ v = .pointer (some ⟨g, i * sz + off, none⟩)
  | .known b, v => v = .bool b
  | .cptr cs, v => ∃ ad vs, v = .pointer (some ad) ∧ ad.spot = none ∧ N ad.block ∧ VCs w N cs vs ∧ ∀ j u, vs[j]? = some u → w.cell? (ad.add j) = some u
def VAs (E : Env) (w : World) (N : Nat → Prop) : List AV → List Value → Prop
  | [], vs => vs = []
  | x :: xs, vs => ∃ v vs', vs = v :: vs' ∧ VA E w N x v ∧ VAs E w N xs vs'
end


mutual
/-- Does it lead to object k, or to row r? -/
def AV.hasRef (k : Nat) : AV → Bool
  | .ref k' _ => k' == k
  | .fn _ a b => AV.hasRefs k a || AV.hasRefs k b
  | _ => false
def AV.hasRefs (k : Nat) : List AV → Bool
  | [] => false
  | x :: xs => AV.hasRef k x || AV.hasRefs k xs
end
mutual
def AV.hasOwn (r : Nat) : AV → Bool
  | .own r' => r' == r
  | .el r' _ _ _ => r' == r
  | .fn _ a b => AV.hasOwns r a || AV.hasOwns r b
  | _ => false
def AV.hasOwns (r : Nat) : List AV → Bool
  | [] => false
  | x :: xs => AV.hasOwn r x || AV.hasOwns r xs
end
def AV.noRef (k : Nat) (x : AV) : AV := if x.hasRef k then .dead else x
def AV.noOwn (r : Nat) (x : AV) : AV := if x.hasOwn r then .dead else x

mutual
theorem VA.imp {E E' : Env} {w w' : World} {N N' : Nat → Prop} (hN : ∀ b, N b → N' b) (hw : ∀ a v, N a.block → w.cell? a = some v → w'.cell? a = some v) :
    ∀ (x : AV) (v : Value), (∀ k, E'.σ k = E.σ k ∨ x.hasRef k = false) → (∀ r, E'.τ r = E.τ r ∨ x.hasOwn r = false) → VA E w N x v → VA E' w' N' x v
  | .dead, _, _, _, _ => by unfold VA; trivial
  | .d x, _, _, _, h => by unfold VA at h ⊢; exact VD.imp hN hw h
  | .ref k off, _, hk, _, h => by
    unfold VA at h ⊢
    rcases hk k with e | e
    · rw [e]; exact h
    · simp [AV.hasRef] at e
  | .own r, _, _, hr, h => by
    unfold VA at h ⊢
    rcases hr r with e | e
    · rw [e]; exact h
    · simp [AV.hasOwn] at e
  | .fn f a b, _, hk, hr, h => by
    unfold VA at h ⊢
    obtain ⟨p, q, h1, h2, h3⟩ := h
    refine ⟨p, q, h1, VAs.imp hN hw a p (fun k => ?_) (fun r => ?_) h2, VAs.imp hN hw b q (fun k => ?_) (fun r => ?_) h3⟩
    · exact (hk k).imp id (fun e => by simp only [AV.hasRef, Bool.or_eq_false_iff] at e; exact e.1)
    · exact (hr r).imp id (fun e => by simp only [AV.hasOwn, Bool.or_eq_false_iff] at e; exact e.1)
    · exact (hk k).imp id (fun e => by simp only [AV.hasRef, Bool.or_eq_false_iff] at e; exact e.2)
    · exact (hr r).imp id (fun e => by simp only [AV.hasOwn, Bool.or_eq_false_iff] at e; exact e.2)
  | .tup xs, _, _, _, h => by
    unfold VA at h ⊢
    obtain ⟨vs, h1, h2, h3⟩ := h
    exact ⟨vs, h1, h2, fun i x u hx hu => VD.imp hN hw (h3 i x u hx hu)⟩
  | .el r i sz off, _, _, hr, h => by
    unfold VA at h ⊢
    rcases hr r with e | e
    · rw [e]; exact h
    · simp [AV.hasOwn] at e
  | .known b, _, _, _, h => by unfold VA at h ⊢; exact h
  | .cptr cs, _, _, _, h => by
    unfold VA at h ⊢
    obtain ⟨ad, vs, h1, h2, h3, h4, h5⟩ := h
    exact ⟨ad, vs, h1, h2, hN _ h3, VCs.imp hN hw _ _ h4, fun j u hu => hw _ _ (by rw [addr_add_block]; exact h3) (h5 j u hu)⟩
theorem VAs.imp {E E' : Env} {w w' : World} {N N' : Nat → Prop} (hN : ∀ b, N b → N' b) (hw : ∀ a v, N a.block → w.cell? a = some v → w'.cell? a = some v) :
    ∀ (xs : List AV) (vs : List Value), (∀ k, E'.σ k = E.σ k ∨ AV.hasRefs k xs = false) → (∀ r, E'.τ r = E.τ r ∨ AV.hasOwns r xs = false) → VAs E w N xs vs → VAs E' w' N' xs vs
  | [], _, _, _, h => h
  | x :: xs, _, hk, hr, h => by
    unfold VAs at h ⊢
    obtain ⟨v, vs', h1, h2, h3⟩ := h
    refine ⟨v, vs', h1, VA.imp hN hw x v (fun k => ?_) (fun r => ?_) h2, VAs.imp hN hw xs vs' (fun k => ?_) (fun r => ?_) h3⟩
    · exact (hk k).imp id (fun e => by simp only [AV.hasRefs, Bool.or_eq_false_iff] at e; exact e.1)
    · exact (hr r).imp id (fun e => by simp only [AV.hasOwns, Bool.or_eq_false_iff] at e; exact e.1)
    · exact (hk k).imp id (fun e => by simp only [AV.hasRefs, Bool.or_eq_false_iff] at e; exact e.2)
    · exact (hr r).imp id (fun e => by simp only [AV.hasOwns, Bool.or_eq_false_iff] at e; exact e.2)
end
end Go.Abs
