/-
  Contracts of given functions, or plain laws that they need. No condition.
-/
import Derived.Test.YtbppcjkpkelbfaaDoorEng19
import Derived.WalkKit
import Derived.ProofKit
import Derived.OpenShut
import Derived.ShutString
import Derived.ChangeMaps5
import Derived.ChangeOld
import Derived.Below
import Derived.SizedLaws
import Derived.Carry
import Derived.Lib.SmallJoins
import Derived.Deep.DeepHandedRow
import Derived.Lib.LaidTab
namespace Go.Eng
open Go Go.RowKit
open Go.ChangeShapes Go.WideShapes Go.ChangeAt
set_option linter.unusedVariables false
def GlIn (gl : Nat → Option (List D)) (W : World) : Prop := ∀ g cs, gl g = some cs → g < W.heap.size ∧ ∃ vs, VCs W (fun b => b < W.heap.size) cs vs ∧ (∀ j u, vs[j]? = some u → W.cell? ⟨g, j, none⟩ = some u) ∧ (cs.length ≠ 1 → wholeOf W g = some vs.toArray)
theorem spec_run {P : Program} {gl : Nat → Option (List D)} {g : FuncId} {args : List AV} {x : D} (hs : Spec P gl g args [] (.d x) []) {W : World} {vs : List Value} (hgl : GlIn gl W) (hargs : VAs (fun _ => undef) W (fun b => b < W.heap.size) args vs) :
    Calls P g vs.toArray W fun e W' => ∃ v, e = .returned v ∧ Below W.heap.size W W' ∧ ∃ N, VD W' N x v := by
  have hno : ∀ k : Nat, ¬ ∃ t, look ([] : List (Nat × Th)) k = some t := fun k ⟨t, h⟩ => by cases h
  have hfit : Fit (cx P gl W (fun b => b < W.heap.size) (fun _ => undef) []) (fun _ => undef) ⟨0, [], []⟩ W := by
    refine ⟨rfl, fun b hb => ⟨hb, fun ⟨k, t, h, _⟩ => hno k ⟨t, h⟩⟩, ⟨rfl, rfl, rfl, Nat.le_refl _, fun _ _ _ => rfl⟩, fun _ _ => rfl, fun k t h => (by cases h), fun k k' t t' h => (by cases h), ?_⟩
    intro g cs hcs
    exact hgl g cs hcs
  refine (hs W (fun b => b < W.heap.size) (fun _ => undef) vs hfit (VAs.mono (fun b hb => ⟨hb, .inl hb, fun ⟨k, t, h, _⟩ => hno k ⟨t, h⟩⟩) (fun _ _ _ h => h) hargs)).mono ?_
  rintro e w' ⟨v, E', rfl, h1, h2⟩
  exact ⟨v, rfl, ⟨h1.keep.os, h1.keep.tape, h1.keep.output, h1.keep.size, fun b hb => h1.keep.block b hb fun ⟨k, t, hk, _⟩ => hno k ⟨t, hk⟩⟩, _, by unfold VA at h2; exact h2⟩
theorem said_true {W' : World} {N : Nat → Prop} {v : Value} (h : VD W' N (.raw (.bool true)) v) : v = .bool true := (VD_raw_inv h).1
theorem vas_cons {E : Env} {W : World} {N : Nat → Prop} {x : D} {v : Value} {xs : List AV} {vs : List Value} (h : VD W N x v) (hs : VAs E W N xs vs) : VAs E W N (.d x :: xs) (v :: vs) := by
  rw [VAs_cons]; exact ⟨v, vs, rfl, by unfold VA; exact h, hs⟩
theorem vas_nil {E : Env} {W : World} {N : Nat → Prop} : VAs E W N [] [] := by unfold VAs; rfl
theorem lt_heap {P : Program} {H : Type} {enc : TypeId × Value → H} {W : World} {t : TypeId} {v : Value} {d : DataW H} {ps : List MemPlace} (h : DataW.Trod enc P W 0 (fun _ => true) true t v d ps) : ∀ x ∈ ps, x.block < W.heap.size := by
  obtain ⟨m, hm⟩ := h; exact DataW.trod_lt m _ _ _ hm
theorem cells_of_strs {H : Type} {enc : TypeId × Value → H} {P : Program} {w : World} {base : Nat} {sp : Nat → Bool} {held : Bool} {fuel : Nat} {t e : TypeId} {n : Nat} {cs : List Value} {ss : List ByteArray} {p : List MemPlace}
    (ht : P.underlying t = some (.array n e)) (he : P.underlying e = some .string) (hce : P.cellsOf e = 1) (hct : P.cellsOf t = n)
    (h : DataW.trod enc P w base sp held fuel t cs = some (.agg (ss.map fun s => .lit (.string s.data.toList)), p)) : cs = ss.map Value.string := by
  cases fuel with
  | zero => simp [DataW.trod] at h
  | succ fuel =>
    simp only [DataW.trod, ht, hce, hct, Nat.mul_one] at h
    split at h
    · rename_i hl
      obtain ⟨xs, hm, hx⟩ := Option.map_eq_some_iff.1 h
      have hxs : xs.map (·.1) = ss.map fun s => (DataW.lit (.string s.data.toList) : DataW H) := by
        have := congrArg Prod.fst hx
        simpa using this
      have hxl : xs.length = n := by simpa using Lib.mapM_length hm
      have hzl : ss.length = n := by
        have := congrArg List.length hxs
        simp at this
        omega
      apply List.ext_getElem?
      intro i
      by_cases hi : i < n
      · obtain ⟨b, hb, hf⟩ := Lib.mapM_at hm i i (by simp [hi])
        obtain ⟨z, hc, rfl, _⟩ := DataW.trod_string he hf
        have h1 : cs[i]? = some (.string z) := by
          have := congrArg (·[0]?) hc
          simpa [List.getElem?_take, List.getElem?_drop] using this
        have h2 : (xs.map (·.1))[i]? = some (DataW.lit (.string z.data.toList) : DataW H) := by simp [hb]
        rw [hxs] at h2
        rw [List.getElem?_map] at h2
        obtain ⟨z', hz', h3⟩ := Option.map_eq_some_iff.1 h2
        have h4 : z'.data.toList = z.data.toList := by injection h3 with h3; injection h3
        rw [h1, List.getElem?_map, hz']
        rw [ext_ba h4]; rfl
      · rw [List.getElem?_eq_none (by omega), List.getElem?_eq_none (by simp; omega)]
    · cases h
theorem laid_ints {P : Program} {W : World} {name : String} {k : IntKind} {zs : List Int} {rest : List (String × DataW Unit)} {ps : List MemPlace} {g : Nat} {t e : TypeId} {n : Nat}
    (hg : P.globalNamed name = some g) (hty : (P.globals[g]?).map (·.type) = some t) (ht : P.underlying t = some (.array n e)) (he : P.underlying e = some (.int k)) (hce : P.cellsOf e = 1) (hct : P.cellsOf t = n)
    (h : DataW.LaidVars P W ((name, Lib.tabData k zs) :: rest) ps) : W.var? P name = some (zs.map fun z => Value.int k z).toArray ∧ ∃ qs, DataW.LaidVars P W rest qs := by
  obtain ⟨g', t', cs, fuel, p, q, hg', ht', hvar, hd, hr, _⟩ := h
  obtain rfl := Option.some.inj (hg.symm.trans hg')
  obtain rfl := Option.some.inj (hty.symm.trans ht')
  exact ⟨by rw [hvar, ← Lib.cells_of_tab ht he hce hct hd], _, hr⟩
theorem laid_strs {P : Program} {W : World} {name : String} {ss : List ByteArray} {rest : List (String × DataW Unit)} {ps : List MemPlace} {g : Nat} {t e : TypeId} {n : Nat}
    (hg : P.globalNamed name = some g) (hty : (P.globals[g]?).map (·.type) = some t) (ht : P.underlying t = some (.array n e)) (he : P.underlying e = some .string) (hce : P.cellsOf e = 1) (hct : P.cellsOf t = n)
    (h : DataW.LaidVars P W ((name, .agg (ss.map fun s => .lit (.string s.data.toList))) :: rest) ps) : W.var? P name = some (ss.map Value.string).toArray ∧ ∃ qs, DataW.LaidVars P W rest qs := by
  obtain ⟨g', t', cs, fuel, p, q, hg', ht', hvar, hd, hr, _⟩ := h
  obtain rfl := Option.some.inj (hg.symm.trans hg')
  obtain rfl := Option.some.inj (hty.symm.trans ht')
  exact ⟨by rw [hvar, ← cells_of_strs ht he hce hct hd], _, hr⟩
def setG (h : Array Obj) (g : Nat) (cs : Array Value) : Array Obj := h.modify g fun
  | .cells _ t frozen => .cells cs t frozen
  | o => o
theorem glIn_var {P : Program} {W : World} {name : String} {g : Nat} {vs : List Value} (hg : P.globalNamed name = some g) (h : W.var? P name = some vs.toArray) (h1 : vs.all (·.oneCell') = true) :
    g < W.heap.size ∧ ∃ us, VCs W (fun b => b < W.heap.size) (vs.map .raw) us ∧ (∀ j u, us[j]? = some u → W.cell? ⟨g, j, none⟩ = some u) ∧ ((vs.map D.raw).length ≠ 1 → wholeOf W g = some us.toArray) := by
  refine ⟨?_, vs, VCs_raw vs h1, fun j u hu => ?_, fun _ => ?_⟩
  · unfold World.var? at h
    rw [hg] at h
    simp only [Option.bind_some] at h
    split at h
    · rename_i hh; exact (Array.getElem?_eq_some_iff.1 hh).1
    · cases h
  · have := World.var?_cell hg h j
    rw [this]; simpa using hu
  · unfold World.var? at h
    rw [hg] at h
    exact h
end Go.Eng
