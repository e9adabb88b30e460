/-
  Contracts of given functions, plain laws. No condition.
-/
import Derived.Test.YtbppcjkpkelbfaaDoorEng18
import Derived.WalkKit
import Derived.ProofKit
import Derived.OpenShut
import Derived.ShutString
import Derived.ChangeMaps5
import Derived.ChangeOld
import Derived.Below
import Derived.SizedLaws
import Derived.Carry
import Derived.Lib.SmallJoins
import Derived.Deep.DeepHandedRow
import Derived.Lib.LaidTab
namespace Go.Eng
open Go Go.RowKit
open Go.ChangeShapes Go.WideShapes Go.ChangeAt
def GlIn (gl : Nat → Option (List D)) (W : World) : Prop := ∀ g cs, gl g = some cs → g < W.heap.size ∧ ∃ vs, VCs W (fun b => b < W.heap.size) cs vs ∧ (∀ j u, vs[j]? = some u → W.cell? ⟨g, j, none⟩ = some u) ∧ (cs.length ≠ 1 → wholeOf W g = some vs.toArray)
theorem spec_run {P : Program} {gl : Nat → Option (List D)} {g : FuncId} {args : List AV} {x : D} (hs : Spec P gl g args [] (.d x) []) {W : World} {vs : List Value} (hgl : GlIn gl W) (hargs : VAs (fun _ => undef) W (fun b => b < W.heap.size) args vs) :
  Calls P g vs.toArray W fun e W' => ∃ v, e = .returned v ∧ Below W.heap.size W W' ∧ ∃ N, VD W' N x v := by
 have hno : ∀ k : Nat, ¬ ∃ t, look ([] : List (Nat × Th)) k = some t := fun k ⟨t, h⟩ => by cases h
 have hfit : Fit (cx P gl W (fun b => b < W.heap.size) (fun _ => undef) []) (fun _ => undef) ⟨0, [], []⟩ W := by
  refine ⟨rfl, fun b hb => ⟨hb, fun ⟨k, t, h, _⟩ => hno k ⟨t, h⟩⟩, ⟨rfl, rfl, rfl, Nat.le_refl _, fun _ _ _ => rfl⟩, fun _ _ => rfl, fun k t h => (by cases h), fun k k' t t' h => (by cases h), ?_⟩
  intro g cs hcs
  exact hgl g cs hcs
 refine (hs W (fun b => b < W.heap.size) (fun _ => undef) vs hfit (VAs.mono (fun b hb => ⟨hb, .inl hb, fun ⟨k, t, h, _⟩ => hno k ⟨t, h⟩⟩) (fun _ _ _ h => h) hargs)).mono ?_
 rintro e w' ⟨v, E', rfl, h1, h2⟩
 exact ⟨v, rfl, ⟨h1.keep.os, h1.keep.tape, h1.keep.output, h1.keep.size, fun b hb => h1.keep.block b hb fun ⟨k, t, hk, _⟩ => hno k ⟨t, hk⟩⟩, _, by unfold VA at h2; exact h2⟩
theorem said_true {W' : World} {N : Nat → Prop} {v : Value} (h : VD W' N (.raw (.bool true)) v) : v = .bool true := (VD_raw_inv h).1
theorem vas_cons {E : Env} {W : World} {N : Nat → Prop} {x : D} {v : Value} {xs : List AV} {vs : List Value} (h : VD W N x v) (hs : VAs E W N xs vs) : VAs E W N (.d x :: xs) (v :: vs) := by
 rw [VAs_cons]; exact ⟨v, vs, rfl, by unfold VA; exact h, hs⟩
theorem vas_nil {E : Env} {W : World} {N : Nat → Prop} : VAs E W N [] [] := by unfold VAs; rfl
theorem lt_heap {P : Program} {H : Type} {enc : TypeId × Value → H} {W : World} {t : TypeId} {v : Value} {d : DataW H} {ps : List MemPlace} (h : DataW.Trod enc P W 0 (fun _ => true) true t v d ps) : ∀ x ∈ ps, x.block < W.heap.size := by
 obtain ⟨m, hm⟩ := h; exact DataW.trod_lt m _ _ _ hm
theorem cells_of_strs {H : Type} {enc : TypeId × Value → H} {P : Program} {w : World} {base : Nat} {sp : Nat → Bool} {held : Bool} {fuel : Nat} {t e : TypeId} {n : Nat} {cs : List Value} {ss : List ByteArray} {p : List MemPlace}
  (ht : P.underlying t = some (.array n e)) (he : P.underlying e = some .string) (hce : P.cellsOf e = 1) (hct : P.cellsOf t = n)
  (h : DataW.trod enc P w base sp held fuel t cs = some (.agg (ss.map fun s => .lit (.string s.data.toList)), p)) : cs = ss.map Value.string := by
 cases fuel with
 | zero => simp [DataW.trod] at h
 | succ fuel =>
  simp only [DataW.trod, ht, hce, hct, Nat.mul_one] at h
  split at h
  ·
   rename_i hl
   obtain ⟨xs, hm, hx⟩ := Option.map_eq_some_iff.1 h
   have hxs : xs.map (·.1) = ss.map fun s => (DataW.lit (.string s.data.toList) : DataW H) := by
    have := congrArg Prod.fst hx
    simpa using this
   have hxl : xs.length = n := by simpa using Lib.mapM_length hm
   have hzl : ss.length = n := by
    have := congrArg List.length hxs
    simp at this
    omega
   apply List.ext_getElem?
   intro i
   by_cases hi : i < n
   ·
    obtain ⟨b, hb, hf⟩ := Lib.mapM_at hm i i (by simp [hi])
    obtain ⟨z, hc, rfl, _⟩ := DataW.trod_string he hf
    have h1 : cs[i]? = some (.string z) := by
     have := congrArg (·[0]?) hc
     simpa [List.getElem?_take, List.getElem?_drop] using this
    have h2 : (xs.map (·.1))[i]? = some (DataW.lit (.string z.data.toList) : DataW H) := by simp [hb]
    rw [hxs] at h2
    rw [List.getElem?_map] at h2
    obtain ⟨z', hz', h3⟩ := Option.map_eq_some_iff.1 h2
    have h4 : z'.data.toList = z.data.toList := by injection h3 with h3; injection h3
    rw [h1, List.getElem?_map, hz']
    rw [ext_ba h4]; rfl
   · rw [List.getElem?_eq_none (by omega), List.getElem?_eq_none (by simp; omega)]
  · cases h
theorem laid_ints {P : Program} {W : World} {name : String} {k : IntKind} {zs : List Int} {rest : List (String × DataW Unit)} {ps : List MemPlace} {g : Nat} {t e : TypeId} {n : Nat}
  (hg : P.globalNamed name = some g) (hty : (P.globals[g]?).map (·.type) = some t) (ht : P.underlying t = some (.array n e)) (he : P.underlying e = some (.int k)) (hce : P.cellsOf e = 1) (hct : P.cellsOf t = n)
  (h : DataW.LaidVars P W ((name, Lib.tabData k zs) :: rest) ps) : W.var? P name = some (zs.map fun z => Value.int k z).toArray ∧ ∃ qs, DataW.LaidVars P W rest qs := by
 obtain ⟨g', t', cs, fuel, p, q, hg', ht', hvar, hd, hr, _⟩ := h
 obtain rfl := Option.some.inj (hg.symm.trans hg')
 obtain rfl := Option.some.inj (hty.symm.trans ht')
 exact ⟨by rw [hvar, ← Lib.cells_of_tab ht he hce hct hd], _, hr⟩
theorem laid_strs {P : Program} {W : World} {name : String} {ss : List ByteArray} {rest : List (String × DataW Unit)} {ps : List MemPlace} {g : Nat} {t e : TypeId} {n : Nat}
  (hg : P.globalNamed name = some g) (hty : (P.globals[g]?).map (·.type) = some t) (ht : P.underlying t = some (.array n e)) (he : P.underlying e = some .string) (hce : P.cellsOf e = 1) (hct : P.cellsOf t = n)
  (h : DataW.LaidVars P W ((name, .agg (ss.map fun s => .lit (.string s.data.toList))) :: rest) ps) : W.var? P name = some (ss.map Value.string).toArray ∧ ∃ qs, DataW.LaidVars P W rest qs := by
 obtain ⟨g', t', cs, fuel, p, q, hg', ht', hvar, hd, hr, _⟩ := h
 obtain rfl := Option.some.inj (hg.symm.trans hg')
 obtain rfl := Option.some.inj (hty.symm.trans ht')
 exact ⟨by rw [hvar, ← cells_of_strs ht he hce hct hd], _, hr⟩
def setG (h : Array Obj) (g : Nat) (cs : Array Value) : Array Obj := h.modify g fun
 | .cells _ t frozen => .cells cs t frozen
 | o => o
theorem glIn_var {P : Program} {W : World} {name : String} {g : Nat} {vs : List Value} (hg : P.globalNamed name = some g) (h : W.var? P name = some vs.toArray) (h1 : vs.all (·.oneCell') = true) :
  g < W.heap.size ∧ ∃ us, VCs W (fun b => b < W.heap.size) (vs.map .raw) us ∧ (∀ j u, us[j]? = some u → W.cell? ⟨g, j, none⟩ = some u) ∧ ((vs.map D.raw).length ≠ 1 → wholeOf W g = some us.toArray) := by
 refine ⟨?_, vs, VCs_raw vs h1, fun j u hu => ?_, fun _ => ?_⟩
 ·
  unfold World.var? at h
  rw [hg] at h
  simp only [Option.bind_some] at h
  split at h
  · rename_i hh; exact (Array.getElem?_eq_some_iff.1 hh).1
  · cases h
 ·
  have := World.var?_cell hg h j
  rw [this]; simpa using hu
 ·
  unfold World.var? at h
  rw [hg] at h
  exact h
end Go.Eng

namespace Go.Eng
open Go Go.RowKit
open Go.ChangeShapes Go.WideShapes Go.ChangeAt
inductive Ty where
 | bool
 | int (k : IntKind)
 | str
 | list (e : Ty)
 | agg (fs : List Ty)
mutual
def Ty.Val : Ty → Type
 | .bool => Bool
 | .int _ => Int
 | .str => ByteArray
 | .list e => List e.Val
 | .agg fs => Ty.Vals fs
def Ty.Vals : List Ty → Type
 | [] => Unit
 | t :: ts => t.Val × Ty.Vals ts
end
mutual
def Ty.size : Ty → Nat
 | .agg fs => Ty.sizes fs
 | _ => 1
def Ty.sizes : List Ty → Nat
 | [] => 0
 | t :: ts => t.size + Ty.sizes ts
end
mutual
def Ty.dflt : (t : Ty) → t.Val
 | .bool => false
 | .int _ => (0 : Int)
 | .str => ByteArray.empty
 | .list _ => []
 | .agg fs => Ty.dflts fs
def Ty.dflts : (ts : List Ty) → Ty.Vals ts
 | [] => ()
 | t :: ts => (t.dflt, Ty.dflts ts)
end
mutual
def Ty.flat : Ty → Bool
 | .list _ => false
 | .agg fs => Ty.flats fs
 | _ => true
def Ty.flats : List Ty → Bool
 | [] => true
 | t :: ts => t.flat && Ty.flats ts
end
mutual
def Ty.is (P : Program) : Ty → TypeId → Bool
 | .bool, t => match P.underlying t with | some .bool => true | _ => false
 | .int k, t => match P.underlying t with | some (.int k') => k' == k | _ => false
 | .str, t => match P.underlying t with | some .string => true | _ => false
 | .list e, t => match P.underlying t with | some (.slice u) => P.cellsOf u == e.size && e.flat && e.is P u | _ => false
 | .agg fs, t => match P.underlying t with | some (.struct gs) => P.cellsOf t == Ty.sizes fs && Ty.iss P fs gs.toList 0 | _ => false
def Ty.iss (P : Program) : List Ty → List Field → Nat → Bool
 | [], [], _ => true
 | t :: ts, g :: gs, off => g.offset == off && P.cellsOf g.type == t.size && t.is P g.type && Ty.iss P ts gs (off + t.size)
 | _, _, _ => false
end
mutual
def Ty.toD : (t : Ty) → t.Val → D
 | .bool, b => .raw (.bool b)
 | .int k, n => .raw (.int k n)
 | .str, s => .raw (.string s)
 | .list e, l => .list e.size (List.length (α := e.Val) l) (fun i => e.toD (List.getD (α := e.Val) l i e.dflt))
 | .agg fs, x => .agg (Ty.toDs fs x)
def Ty.toDs : (ts : List Ty) → Ty.Vals ts → List D
 | [], _ => []
 | t :: ts, x => (t.toD x.1).cells ++ Ty.toDs ts x.2
end
mutual
def Ty.wf : (t : Ty) → t.Val → Prop
 | .bool, _ => True
 | .int k, n => (fun m : Int => k.min ≤ m ∧ m ≤ k.max) n
 | .str, s => ByteArray.size s ≤ maxLen
 | .list e, l => List.length (α := e.Val) l ≤ maxLen ∧ ∀ x, List.Mem x (l : List e.Val) → e.wf x
 | .agg fs, x => Ty.wfs fs x
def Ty.wfs : (ts : List Ty) → Ty.Vals ts → Prop
 | [], _ => True
 | t :: ts, x => t.wf x.1 ∧ Ty.wfs ts x.2
end
mutual
def Ty.Rel (H : Type) : (t : Ty) → t.Val → DataW H → Prop
 | .bool, b, d => d = .lit (.bool b)
 | .int k, n, d => d = .lit (.int k n)
 | .str, s, d => d = .lit (.string (ByteArray.data s).toList)
 | .list e, l, d => (d = .nil ∧ l = ([] : List e.Val)) ∨ ∃ es rs, d = .slice es rs ∧ List.length (α := e.Val) l = es.length ∧ ∀ i (h : i < es.length), e.Rel H (List.getD (α := e.Val) l i e.dflt) es[i]
 | .agg fs, x, d => ∃ ds, d = .agg ds ∧ Ty.Rels H fs x ds
def Ty.Rels (H : Type) : (ts : List Ty) → Ty.Vals ts → List (DataW H) → Prop
 | [], _, ds => ds = []
 | t :: ts, x, ds => ∃ d ds', ds = d :: ds' ∧ t.Rel H x.1 d ∧ Ty.Rels H ts x.2 ds'
end
def CellIn (w : World) (v : Value) : Prop := ∀ a len cap, v = .slice (some a) len cap → a.spot = none ∧ a.block < w.heap.size
section
variable {H : Type} {enc : TypeId × Value → H} {P : Program} {w : World}
theorem of_cells? {a : Addr} {n : Nat} {cs : List Value} (h : w.cells? 0 a n = some cs) : cs.length = n ∧ ∀ i, i < n → w.cell? (a.add i) = cs[i]? := (World.cells?_some h).2
mutual
theorem Ty.read : ∀ (τ : Ty) (t : TypeId) (fuel : Nat) (cs : List Value) (x : DataW H × List MemPlace), τ.is P t = true → DataW.trod enc P w 0 (fun _ => true) true fuel t cs = some x →
  (τ.flat = true ∨ ∀ v ∈ cs, CellIn w v) → ∃ a : τ.Val, τ.wf a ∧ τ.Rel H a x.1 ∧ VC w (fun b => b < w.heap.size) (τ.toD a) cs
 | .bool, t, fuel, cs, x, hi, h, hc => by
  unfold Ty.is at hi
  split at hi
  ·
   rename_i ht
   obtain ⟨b, rfl, rfl⟩ : ∃ b, cs = [.bool b] ∧ x = (.lit (.bool b), []) := by
    cases fuel with
    | zero => simp [DataW.trod] at h
    | succ n =>
     unfold DataW.trod at h
     rw [ht] at h
     split at h <;> simp_all
   exact ⟨b, by simp only [Ty.wf], by simp only [Ty.Rel], by simp only [Ty.toD]; unfold VC; exact ⟨rfl, rfl⟩⟩
  · cases hi
 | .int k, t, fuel, cs, x, hi, h, hc => by
  unfold Ty.is at hi
  split at hi
  ·
   rename_i k' ht
   have hk : k' = k := by simpa using hi
   subst hk
   obtain ⟨n, rfl, rfl, hw⟩ := DataW.trod_int ht h
   have hw : k'.min ≤ n ∧ n ≤ k'.max := by simpa [Lit.wf] using hw
   exact ⟨n, by simp only [Ty.wf]; exact hw, by simp only [Ty.Rel], by simp only [Ty.toD]; unfold VC; exact ⟨rfl, rfl⟩⟩
  · cases hi
 | .str, t, fuel, cs, x, hi, h, hc => by
  unfold Ty.is at hi
  split at hi
  ·
   rename_i ht
   obtain ⟨s, rfl, rfl, hw⟩ := DataW.trod_string ht h
   exact ⟨s, by simp only [Ty.wf]; exact hw, by simp only [Ty.Rel], by simp only [Ty.toD]; unfold VC; exact ⟨rfl, rfl⟩⟩
  · cases hi
 | .list e, t, fuel, cs, x, hi, h, hc => by
  unfold Ty.is at hi
  split at hi
  ·
   rename_i u ht
   simp only [Bool.and_eq_true, beq_iff_eq] at hi
   obtain ⟨⟨hsz, hfl⟩, hi⟩ := hi
   rcases DataW.trod_slice ht h with ⟨rfl, rfl⟩ | ⟨a, len, cap, elems, rest, n, _, rfl, rfl, hb, hl, hm, hlen, hel, hsp, hns⟩
   ·
    refine ⟨([] : List e.Val), ?_, ?_, ?_⟩
    · simp only [Ty.wf]; exact ⟨Nat.zero_le _, fun x hx => by cases hx⟩
    · simp only [Ty.Rel]; exact .inl ⟨trivial, rfl⟩
    · simp only [Ty.toD]; unfold VC; exact ⟨_, rfl, .inl ⟨rfl, rfl⟩⟩
   ·
    have hcell := (hc.resolve_left (by simp [Ty.flat])) (.slice (some a) len cap) (by simp) a len cap rfl
    have each : ∀ i, ∃ y : e.Val, i < len → ∃ cs', w.cells? 0 (a.add (i * e.size)) e.size = some cs' ∧ e.wf y ∧ (∀ d, (elems.map (·.1))[i]? = some d → e.Rel H y d) ∧ VC w (fun b => b < w.heap.size) (e.toD y) cs' := by
     intro i
     by_cases hil : i < len
     ·
      have h1 := hel i hil
      rw [hsz, List.getElem?_eq_getElem (by omega), Option.bind_eq_some_iff] at h1
      obtain ⟨cs', h2, h3⟩ := h1
      obtain ⟨y, hy1, hy2, hy3⟩ := Ty.read e u n cs' _ hi h3 (.inl hfl)
      refine ⟨y, fun _ => ⟨cs', h2, hy1, fun d hd => ?_, hy3⟩⟩
      rw [List.getElem?_map, List.getElem?_eq_getElem (by omega)] at hd
      cases hd; exact hy2
     · exact ⟨e.dflt, fun h => absurd h hil⟩
    obtain ⟨f, hf⟩ := Classical.axiomOfChoice each
    have hget : ∀ i, i < len → List.getD ((List.range len).map f) i e.dflt = f i := fun i hil => by
     simp [List.getD, hil]
    refine ⟨((List.range len).map f : List e.Val), ?_, ?_, ?_⟩
    ·
     simp only [Ty.wf]
     refine ⟨by simp; omega, fun x hx => ?_⟩
     have hx : x ∈ (List.range len).map f := hx
     obtain ⟨i, hi1, rfl⟩ := List.mem_map.1 hx
     exact (hf i (List.mem_range.1 hi1)).choose_spec.2.1
    ·
     simp only [Ty.Rel]
     refine .inr ⟨_, _, rfl, by simp [hlen], fun i hil => ?_⟩
     have hil' : i < len := by simpa [hlen] using hil
     rw [hget i hil']
     obtain ⟨_, _, _, hr, _⟩ := hf i hil'
     exact hr _ (List.getElem?_eq_getElem hil)
    ·
     simp only [Ty.toD]
     have hll : List.length ((List.range len).map f) = len := by simp
     rw [hll]
     unfold VC
     refine ⟨_, rfl, .inr ⟨a, cap, (List.range (len * e.size)).map fun j => (w.cell? (a.add j)).getD .nilIface, rfl, hl, hm, hcell.1, hcell.2, by simp, fun j z hz => ?_, fun i hil => ?_⟩⟩
     ·
      rw [List.getElem?_map] at hz
      by_cases hj : j < len * e.size
      ·
       rw [List.getElem?_range hj] at hz
       have hs : 0 < e.size := Nat.pos_of_ne_zero fun h0 => (by rw [h0] at hj; omega)
       have hjl : j / e.size < len := (Nat.div_lt_iff_lt_mul hs).2 hj
       obtain ⟨cs', h2, _⟩ := hf (j / e.size) hjl
       obtain ⟨h3, h4⟩ := of_cells? h2
       have h5 := h4 (j % e.size) (Nat.mod_lt _ hs)
       rw [addr_add_add _ hcell.1, Nat.div_add_mod' j e.size, List.getElem?_eq_getElem (by rw [h3]; exact Nat.mod_lt _ hs)] at h5
       simp only [Option.map_some, Option.some.injEq] at hz
       rw [← hz, h5]; rfl
      · rw [List.getElem?_eq_none (by simp; omega)] at hz; cases hz
     ·
      show VC w _ (e.toD (List.getD ((List.range len).map f) i e.dflt)) _
      rw [hget i hil]
      obtain ⟨cs', h2, _, _, h6⟩ := hf i hil
      obtain ⟨h3, h4⟩ := of_cells? h2
      refine cast (congrArg _ (List.ext_getElem? fun k => ?_)) h6
      by_cases hk : k < e.size
      ·
       have h5 := h4 k hk
       have hb2 : i * e.size + k < len * e.size := by
        have : (i + 1) * e.size ≤ len * e.size := Nat.mul_le_mul_right _ hil
        rw [Nat.add_mul, Nat.one_mul] at this; omega
       rw [List.getElem?_take, if_pos hk, List.getElem?_drop, List.getElem?_map, List.getElem?_range hb2]
       rw [addr_add_add _ hcell.1] at h5
       simp only [Option.map_some, h5]
       rw [List.getElem?_eq_getElem (by omega)]; rfl
      · rw [List.getElem?_eq_none (by omega), List.getElem?_take, if_neg hk]
  · cases hi
 | .agg fs, t, fuel, cs, x, hi, h, hc => by
  unfold Ty.is at hi
  split at hi
  ·
   rename_i gs ht
   simp only [Bool.and_eq_true, beq_iff_eq] at hi
   obtain ⟨hsz, hi⟩ := hi
   obtain ⟨xs, n, _, rfl, hl, hlen, hf⟩ := DataW.trod_struct ht h
   obtain ⟨a, h1, h2, h3⟩ := Ty.reads fs gs.toList 0 n cs xs hi (by simp [hlen]) (fun i f hfi => hf i f (by simpa using hfi)) (by rw [hl, hsz]; omega) (hc.imp_left fun h => by simpa [Ty.flat] using h)
   exact ⟨a, by simp only [Ty.wf]; exact h1, by simp only [Ty.Rel]; exact ⟨_, rfl, h2⟩, by simp only [Ty.toD]; unfold VC; simpa using h3⟩
  · cases hi
theorem Ty.reads : ∀ (ts : List Ty) (gs : List Field) (off n : Nat) (cs : List Value) (xs : List (DataW H × List MemPlace)), Ty.iss P ts gs off = true → xs.length = gs.length →
  (∀ (i : Nat) (f : Field), gs[i]? = some f → DataW.trod enc P w 0 (fun _ => true) true n f.type ((cs.drop f.offset).take (P.cellsOf f.type)) = xs[i]?) → cs.length = off + Ty.sizes ts →
  (Ty.flats ts = true ∨ ∀ v ∈ cs, CellIn w v) → ∃ a : Ty.Vals ts, Ty.wfs ts a ∧ Ty.Rels H ts a (xs.map (·.1)) ∧ VCs w (fun b => b < w.heap.size) (Ty.toDs ts a) (cs.drop off)
 | [], gs, off, n, cs, xs, hi, hx, h, hl, hc => by
  cases gs with
  | nil =>
   have : xs = [] := List.length_eq_zero_iff.1 hx
   subst this
   refine ⟨(), by simp only [Ty.wfs], by simp only [Ty.Rels, List.map_nil], ?_⟩
   simp only [Ty.toDs]; unfold VCs
   simp only [Ty.sizes] at hl
   exact List.drop_eq_nil_iff.2 (by omega)
  | cons g gs => simp [Ty.iss] at hi
 | t :: ts, gs, off, n, cs, xs, hi, hx, h, hl, hc => by
  cases gs with
  | nil => simp [Ty.iss] at hi
  | cons g gs =>
   cases xs with
   | nil => simp at hx
   | cons y ys =>
    simp only [Ty.iss, Bool.and_eq_true, beq_iff_eq] at hi
    obtain ⟨⟨⟨ho, hcz⟩, hit⟩, his⟩ := hi
    have h0 := h 0 g rfl
    simp only [List.getElem?_cons_zero] at h0
    obtain ⟨a, ha1, ha2, ha3⟩ := Ty.read t g.type n _ y hit h0 (hc.imp (fun h => by simp only [Ty.flats, Bool.and_eq_true] at h; exact h.1) fun h v hv => h v (List.mem_of_mem_drop (List.mem_of_mem_take hv)))
    obtain ⟨b, hb1, hb2, hb3⟩ := Ty.reads ts gs (off + t.size) n cs ys his (by simpa using hx) (fun i f hf => by have := h (i + 1) f (by simpa using hf); simpa using this) (by simp only [Ty.sizes] at hl; omega)
     (hc.imp_left fun h => by simp only [Ty.flats, Bool.and_eq_true] at h; exact h.2)
    refine ⟨(a, b), ⟨ha1, hb1⟩, ?_, ?_⟩
    · simp only [Ty.Rels, List.map_cons]; exact ⟨_, _, rfl, ha2, hb2⟩
    ·
     simp only [Ty.toDs]
     have e : cs.drop off = (cs.drop g.offset).take (P.cellsOf g.type) ++ cs.drop (off + t.size) := by
      rw [ho, hcz, ← List.drop_drop, List.take_append_drop]
     rw [e]
     exact VCs.append (VC.cells ha3) hb3
end
theorem okWide_cellIn {r : Reach} {base : Nat} {u : TypeId} {v : Value} (h : Cell.okWide P w r base u v) : CellIn w v := by
 rintro a len cap rfl
 unfold Cell.okWide at h
 split at h <;> try (rename_i h1; cases h1)
 unfold Cell.ok at h
 split at h <;> try (rename_i h1; cases h1)
 ·
  obtain ⟨_, _, hs⟩ := h
  obtain ⟨_, h1, row, cells, h2, _⟩ := hs
  refine ⟨h1, ?_⟩
  unfold World.shape? at h2
  split at h2
  ·
   rename_i hb
   exact (Array.getElem?_eq_some_iff.1 hb).1
  · cases h2
 · cases h
theorem okWide_one {r : Reach} {base : Nat} {u : TypeId} {v : Value} (h : Cell.okWide P w r base u v) : ∀ cs, v ≠ .agg cs := by
 rintro cs rfl
 unfold Cell.okWide at h
 split at h <;> try (rename_i h1; cases h1)
 unfold Cell.ok at h
 split at h <;> try (rename_i h1; cases h1)
 cases h
theorem cells_single {v : Value} (h : ∀ cs, v ≠ .agg cs) : v.cells.toList = [v] := by
 cases v <;> first | rfl | (exact absurd rfl (h _))
theorem Ty.arg (τ : Ty) {r : Reach} {base : Nat} {t : TypeId} {v : Value} {d : DataW H} {ps : List MemPlace} (hi : τ.is P t = true) (hok : Value.okWide P w r base t v)
  (h : DataW.Trod enc P w 0 (fun _ => true) true t v d ps) : ∃ a : τ.Val, τ.wf a ∧ τ.Rel H a d ∧ VD w (fun b => b < w.heap.size) (τ.toD a) v := by
 obtain ⟨fuel, h⟩ := h
 have key : (∃ fs, τ = .agg fs) ∨ ((τ.size = 1 ∧ ∀ a, (τ.toD a).one = true) ∧ ∀ fs, P.underlying t ≠ some (.struct fs) ∧ ∀ n e, P.underlying t ≠ some (.array n e)) := by
  cases τ with
  | agg fs => exact .inl ⟨fs, rfl⟩
  | bool =>
   refine .inr ⟨⟨by simp [Ty.size], fun a => by simp [Ty.toD, D.one, Value.oneCell']⟩, fun fs => ?_⟩
   unfold Ty.is at hi; split at hi <;> simp_all
  | int k =>
   refine .inr ⟨⟨by simp [Ty.size], fun a => by simp [Ty.toD, D.one, Value.oneCell']⟩, fun fs => ?_⟩
   unfold Ty.is at hi; split at hi <;> simp_all
  | str =>
   refine .inr ⟨⟨by simp [Ty.size], fun a => by simp [Ty.toD, D.one, Value.oneCell']⟩, fun fs => ?_⟩
   unfold Ty.is at hi; split at hi <;> simp_all
  | list e =>
   refine .inr ⟨⟨by simp [Ty.size], fun a => by simp [Ty.toD, D.one]⟩, fun fs => ?_⟩
   unfold Ty.is at hi; split at hi <;> simp_all
 rcases key with ⟨fs, rfl⟩ | ⟨⟨_, hone⟩, hno⟩
 ·
  have hst : ∃ gs, P.underlying t = some (.struct gs) := by
   unfold Ty.is at hi
   split at hi
   · exact ⟨_, by assumption⟩
   · cases hi
  obtain ⟨gs, hst⟩ := hst
  unfold Value.okWide at hok
  rw [hst] at hok
  obtain ⟨cs, rfl, _, _, _, _, hc⟩ := hok
  obtain ⟨a, h1, h2, h3⟩ := Ty.read (.agg fs) t fuel _ _ hi h (.inr fun v hv => by
   obtain ⟨i, hiv⟩ := List.getElem?_of_mem hv
   obtain ⟨u, _, hu⟩ := hc i v (by simpa [Value.cells] using hiv)
   exact okWide_cellIn hu)
  refine ⟨a, h1, h2, ?_⟩
  simp only [Ty.toD] at h3 ⊢
  unfold VD
  exact ⟨cs.toList, rfl, h3⟩
 ·
  have hcw : Cell.okWide P w r base t v := by
   unfold Value.okWide at hok
   split at hok
   · exact absurd (by assumption) (hno _).1
   · exact absurd (by assumption) ((hno #[]).2 _ _)
   · exact hok
  rw [cells_single (okWide_one hcw)] at h
  obtain ⟨a, h1, h2, h3⟩ := Ty.read τ t fuel _ _ hi h (.inr fun v hv => by rw [List.mem_singleton.1 hv]; exact okWide_cellIn hcw)
  exact ⟨a, h1, h2, (VC_VD (hone a)).1 h3⟩
end
theorem Spec.pure {P : Program} {gl : Nat → Option (List D)} {g : FuncId} {args : List AV} {r : Value} (hr : r.oneCell' = true)
  (h : ∀ (w : World) (N : Nat → Prop) (E : Env) (vs : List Value), VAs E w N args vs → (∀ b, N b → b < w.heap.size) → Calls P g vs.toArray w fun e w' => e = .returned r ∧ Below w.heap.size w w') : Spec P gl g args [] (.d (.raw r)) [] := by
 intro w N E vs hfit hvs
 refine (h w _ E vs hvs fun b hb => hb.1).mono ?_
 rintro e w' ⟨rfl, hb⟩
 exact ⟨_, E, rfl, (hfit.ext hb).1, by unfold VA; exact VD_raw hr⟩
end Go.Eng
