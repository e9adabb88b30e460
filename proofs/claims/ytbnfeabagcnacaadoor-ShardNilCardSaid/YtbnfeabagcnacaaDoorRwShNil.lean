/-
  Proved here: the given statement of the law ShardNil (the card): whatever the input, it returns true, and each argument reads behind the call as it read before. Conditions: none but the statement's own.
-/
import Derived.Test.YtbnfeabagcnacaaDoorCards
import Derived.Test.YtbnfeabagcnacaaDoorTie
import Derived.Stop.LaidErr
import Derived.Deep.DeepWitnessRowRef
import Derived.Test.YtbnfeabagcnacaaDoorRowK
import Derived.Test.YtbnfeabagcnacaaDoorShB
namespace Go.Proofs.YtbnfeabagcnacaaDoor.rShardNil
open Go Go.Eng Go.Proofs Go.Nest Go.Shelf
open Go.ChangeShapes Go.WideShapes Go.ChangeAt Go.RowKit
set_option linter.unusedVariables false
set_option maxRecDepth 100000
theorem own : ownKnob Tryd.prog.godebug = none := by kernel_rfl
theorem laidOut : laidOutB Tryd.prog = true := by kernel_rfl
theorem tyB : Tryd.prog.underlying 4 = some .bool := by kernel_rfl
abbrev T0 : Ty := .agg [.int .i64, .int .i64, .int .i64, .agg [.int .i64, .str, .str, .str], .str]
theorem star : "*" ++ "errors.errorString" = "*errors.errorString" := by decide
theorem rowErr (u : TypeId) (h : Tryd.prog.typeName? 3 u = some "*errors.errorString") : u = 161 :=
  typeName_ptr_named (nm := "errors.errorString") (by rw [star]; kernel_rfl) (by kernel_rfl) (by decide) u (by rw [star]; exact h)
theorem glInU {W : World} (h : laidMetH Tryd.prog Rows.shardNilRow.laid W) (hsh : W.ShapedOpen Tryd.prog) : ∃ m e1 e2, ErrV e1 ∧ ErrV e2 ∧ GlIn (glU m e1 e2) W := by
  have h0 : laidMet Tryd.prog Rows.shardNilRow.laid W := h
  obtain ⟨a0, s0, hv0, -⟩ := laid_sentinel (g := 2) h0.tail.tail.tail (by kernel_rfl) (by kernel_rfl) Tryd.underlying104 rowErr Tryd.underlying161 Tryd.underlying163 rfl rfl Tryd.underlying9 (by kernel_rfl) (by kernel_rfl)
  obtain ⟨a1, s1, hv1, -⟩ := laid_sentinel (g := 1) h0.tail.tail.tail.tail (by kernel_rfl) (by kernel_rfl) Tryd.underlying104 rowErr Tryd.underlying161 Tryd.underlying163 rfl rfl Tryd.underlying9 (by kernel_rfl) (by kernel_rfl)
  obtain ⟨ps, hp, _⟩ := h0.tail.tail
  obtain ⟨hv2, -⟩ := laid_ints (k := .u64) (zs := Lib.pow10Tab) (name := "internal/strconv.uint64pow10") (g := 3) (t := 155) (e := 142) (n := 20) (by kernel_rfl) (by kernel_rfl) (by kernel_rfl) (by kernel_rfl) (by kernel_rfl) (by kernel_rfl) hp
  obtain ⟨m, hm⟩ := laysCut.s1_3 W hsh
  have hm : W.cell? ⟨0, 0, none⟩ = some (.int .i64 m) := hm
  refine ⟨m, .iface 161 (.pointer (some a1)), .iface 161 (.pointer (some a0)), ⟨rfl, .inr ⟨_, _, rfl⟩⟩, ⟨rfl, .inr ⟨_, _, rfl⟩⟩, fun g cs hg => ?_⟩
  unfold glU at hg
  split at hg
  · rename_i e; subst e; cases hg
    refine ⟨?_, [.int .i64 m], VCs_raw [.int .i64 m] rfl, fun j u hu => ?_, fun h => absurd rfl h⟩
    · unfold World.cell? at hm
      rcases Nat.lt_or_ge 0 W.heap.size with h | h
      · exact h
      · rw [show W.heap[0]? = none from Array.getElem?_eq_none h] at hm; cases hm
    · cases j with
      | zero => cases hu; exact hm
      | succ j => cases hu
  · split at hg
    · rename_i e; subst e; cases hg; exact glIn_var (vs := [.iface 161 (.pointer (some a1))]) (by kernel_rfl) hv1 rfl
    · split at hg
      · rename_i e; subst e; cases hg; exact glIn_var (vs := [.iface 161 (.pointer (some a0))]) (by kernel_rfl) hv0 rfl
      · split at hg
        · rename_i e; subst e; cases hg
          have := glIn_var (g := 3) (vs := Lib.pow10Tab.map (Value.int .u64)) (by kernel_rfl) hv2 (by decide)
          rw [List.map_map] at this; exact this
        · cases hg
theorem contract (H : Type) (enc : TypeId × Value → H) (W : World) (base : Nat) (args : Array Value) (ds gs : List (DataW H)) (before : List MemPlace)
    (hval : ∀ (j : Nat) t v, Tryd.f5.params[j]? = some t → args[j]? = some v → Value.okWide Tryd.prog W .any base t v)
    (hW : DataW.Whole enc Tryd.prog Tryd.f5.params.toList Rows.shardNilSpec.vars false W args.toList ds gs before) (hL : laidMetH Tryd.prog Rows.shardNilRow.laid W) (hsh : W.ShapedOpen Tryd.prog) :
    Calls Tryd.prog 5 args W fun e W' => ∃ v, e = .returned v ∧ Rows.shardNilSpec.post enc Tryd.prog Tryd.f5 false true false false W args v W' := by
  have hW' := hW
  obtain ⟨p, q, hA0, hV, rfl, hfz, hnd⟩ := hW
  have hA : DataW.TrodAll enc Tryd.prog W 0 (fun _ => true) true Tryd.f5.params.toList args.toList ds p := hA0
  rw [Tryd.params5] at hA hval
  obtain ⟨v0, vs0, d0, ds0, p0, q0, hargs, rfl, rfl, h0, r0⟩ := trodAll_cons hA
  obtain ⟨rfl, rfl, rfl⟩ := trodAll_nil r0
  obtain rfl : args = #[v0] := by cases args; simp_all
  obtain ⟨rfl, rfl⟩ := trodVars_none hV
  obtain ⟨a0, wf0, rl0, vd0⟩ := Ty.arg T0 (t := 44) (by kernel_rfl) (hval 0 44 v0 rfl rfl) h0
  obtain ⟨mm, ee1, ee2, he1, he2, hgl⟩ := glInU hL hsh
  have hs : Eng.Spec Tryd.prog (glU mm ee1 ee2) 5 [.d (T0.toD a0)] [] (.d (.raw (.bool true))) [] := (Spec.mono (pU mm ee1 ee2) (Go.Shd.law_nil_ok a0.1 a0.2.1 a0.2.2.1 a0.2.2.2.1.1 a0.2.2.2.1.2.1 a0.2.2.2.1.2.2.1 a0.2.2.2.1.2.2.2.1 a0.2.2.2.2.1))
  refine (spec_run hs (gl := (glU mm ee1 ee2)) hgl (vas_cons (x := T0.toD a0) vd0 vas_nil)).mono fun e W' ⟨v, he, bel, N, hv⟩ => ?_
  subst he
  obtain rfl := said_true hv
  exact ⟨_, rfl, _, _, _, [], _, [], hW', trodAll_mk1 (shut_bool tyB _), (trodAll_cons_mk (Below.trod laidOut (by kernel_rfl) (of_decide_eq_true (by kernel_rfl)) h0 bel (lt_heap h0)) trodAll_mk0), rfl, bel.frame _, fun h => by cases h⟩
noncomputable def laidWorld (os : Os) : World :=
  { World.holding Tryd.prog os ⟨#[], #[], []⟩ with heap := setG (setG (setG (setG (setG ((World.holding Tryd.prog os ⟨#[.cells #[.string ⟨#[118, 97, 108, 117, 101, 32, 111, 117, 116, 32, 111, 102, 32, 114, 97, 110, 103, 101]⟩] 163, .cells #[.string ⟨#[105, 110, 118, 97, 108, 105, 100, 32, 115, 121, 110, 116, 97, 120]⟩] 163], #[], []⟩).heap) 4 #[.int .u8 0, .int .u8 1, .int .u8 28, .int .u8 2, .int .u8 29, .int .u8 14, .int .u8 24, .int .u8 3, .int .u8 30, .int .u8 22, .int .u8 20, .int .u8 15, .int .u8 25, .int .u8 17, .int .u8 4, .int .u8 8, .int .u8 31, .int .u8 27, .int .u8 13, .int .u8 23, .int .u8 21, .int .u8 19, .int .u8 16, .int .u8 7, .int .u8 26, .int .u8 12, .int .u8 18, .int .u8 6, .int .u8 11, .int .u8 5, .int .u8 10, .int .u8 9]) 5 #[.int .u8 0, .int .u8 1, .int .u8 56, .int .u8 2, .int .u8 57, .int .u8 49, .int .u8 28, .int .u8 3, .int .u8 61, .int .u8 58, .int .u8 42, .int .u8 50, .int .u8 38, .int .u8 29, .int .u8 17, .int .u8 4, .int .u8 62, .int .u8 47, .int .u8 59, .int .u8 36, .int .u8 45, .int .u8 43, .int .u8 51, .int .u8 22, .int .u8 53, .int .u8 39, .int .u8 33, .int .u8 30, .int .u8 24, .int .u8 18, .int .u8 12, .int .u8 5, .int .u8 63, .int .u8 55, .int .u8 48, .int .u8 27, .int .u8 60, .int .u8 41, .int .u8 37, .int .u8 16, .int .u8 46, .int .u8 35, .int .u8 44, .int .u8 21, .int .u8 52, .int .u8 32, .int .u8 23, .int .u8 11, .int .u8 54, .int .u8 26, .int .u8 40, .int .u8 15, .int .u8 34, .int .u8 20, .int .u8 31, .int .u8 10, .int .u8 25, .int .u8 14, .int .u8 19, .int .u8 9, .int .u8 13, .int .u8 8, .int .u8 7, .int .u8 6]) 3 #[.int .u64 1, .int .u64 10, .int .u64 100, .int .u64 1000, .int .u64 10000, .int .u64 100000, .int .u64 1000000, .int .u64 10000000, .int .u64 100000000, .int .u64 1000000000, .int .u64 10000000000, .int .u64 100000000000, .int .u64 1000000000000, .int .u64 10000000000000, .int .u64 100000000000000, .int .u64 1000000000000000, .int .u64 10000000000000000, .int .u64 100000000000000000, .int .u64 1000000000000000000, .int .u64 10000000000000000000]) 2 #[.iface 161 (.pointer (some ⟨(World.settled Tryd.prog os).heap.size, 0, none⟩))]) 1 #[.iface 161 (.pointer (some ⟨(World.settled Tryd.prog os).heap.size + 1, 0, none⟩))] }
theorem laid_met (os : Os) : laidMet Tryd.prog Rows.shardNilRow.laid (((laidWorld os).forCall (fun _ _ => 0) ⟨#[], #[.agg #[.int .i64 0, .int .i64 0, .int .i64 0, .int .i64 0, .string .empty, .string .empty, .string .empty, .string .empty]], []⟩).memory) :=
  laidMet_of_run' 8 (by kernel_rfl) (by kernel_rfl)
theorem reads (os : Os) {H : Type} (enc : TypeId × Value → H) : ∃ places, DataW.whole enc Tryd.prog ((laidWorld os).forCall (fun _ _ => 0) ⟨#[], #[.agg #[.int .i64 0, .int .i64 0, .int .i64 0, .int .i64 0, .string .empty, .string .empty, .string .empty, .string .empty]], []⟩).memory Tryd.f5.params.toList Rows.shardNilSpec.vars false (#[.agg #[.int .i64 0, .int .i64 0, .int .i64 0, .int .i64 0, .string .empty, .string .empty, .string .empty, .string .empty]] : Array Value).toList 8 = some ([.agg [.lit (.int .i64 0), .lit (.int .i64 0), .lit (.int .i64 0), .agg [.lit (.int .i64 0), .lit (.string []), .lit (.string []), .lit (.string [])], .lit (.string [])]], [], places) :=
  ⟨[], by kernel_rfl⟩
theorem lifted (os : Os) (started : os.Started) (H : Type) (enc : TypeId × Value → H) (F : Stop.Interp) :
    ReturnsInHanded {} Tryd.checked os 5 .any ((OpenSpec.ofChange Rows.shardNilSpec).preRow enc Tryd.prog Tryd.f5 Rows.shardNilRow.domain false Rows.shardNilRow.laid) (((OpenSpec.ofChange Rows.shardNilSpec).at F).post enc Tryd.prog Tryd.f5 false true false false) := by
  obtain ⟨places, hx⟩ := reads os enc
  refine returnsInHanded_of_row (C := Tryd.checked) (s := OpenSpec.ofChange Rows.shardNilSpec) own started (by kernel_rfl) Tryd.func5
    (witness_row_atRef (enc := enc) (C := Tryd.checked) false (laidWorld os) #[.agg #[.int .i64 0, .int .i64 0, .int .i64 0, .int .i64 0, .string .empty, .string .empty, .string .empty, .string .empty]] rfl (by kernel_rfl) (by kernel_rfl) (by kernel_rfl)
      (OpenSpec.preRow_of_cond 8 hx (by kernel_rfl) (fun k hk => by cases hk) (by kernel_rfl) (laid_met os))) ?_
  intro W base args ds gs before hval hW _ hcond hwt hL hsh _
  exact contract H enc W base args ds gs before hval hW hL hsh
theorem said : Rows.ShardNilSaid :=
  OpenClaim.holds_of_cond 5 Tryd.f5 rfl rfl rfl rfl rfl rfl rfl ⟨rfl, rfl, rfl, rfl, rfl⟩ rfl rfl rfl rfl rfl (by kernel_rfl) Tryd.func5 (by kernel_rfl)
    (of_decide_eq_true (by kernel_rfl)) (by unfold Func.isWrapper; first | (rw [if_pos (by decide +kernel)]; kernel_rfl) | (rw [if_neg (by decide +kernel)]; exact ⟨rfl, rfl⟩))
    (fun os started H enc _ F => by rw [OpenClaim.pre_eq_preRow]; exact lifted os started H enc F)
theorem plain (f : FuncId) (fn : Func) (hf : Tryd.pinned.checked.prog.funcNamed "wapentake/wapentakelaw14.ShardNil" = some f) (hfn : Tryd.pinned.checked.prog.funcs[f]? = some fn) :
    true = Tryd.pinned.checked.prog.looks [] ∧ ∀ (j : Nat) t, fn.params[j]? = some t → Tryd.pinned.checked.prog.wantsStandIn t = false := by
  obtain rfl : f = 5 := Option.some.inj ((show Tryd.prog.funcNamed "wapentake/wapentakelaw14.ShardNil" = some 5 by kernel_rfl).symm.trans hf) |>.symm
  obtain rfl : fn = Tryd.f5 := (Option.some.inj (Tryd.func5.symm.trans hfn)).symm
  refine ⟨by kernel_rfl, fun j t ht => ?_⟩
  rw [Tryd.params5] at ht
  have hm := Array.mem_of_getElem? ht
  have ht : t = 44 := by simp at hm; first | exact hm | omega
  rcases ht with rfl
  all_goals (show Tryd.prog.wantsStandIn _ = false; kernel_rfl)
theorem shardNil_card : Rows.ShardNilCardSaid :=
  Claim7.holds_tied_plain_at .later [] _ _ _ _ said (fun _ h => by cases h) (by kernel_rfl) (fun _ h => by cases h) shardNil_row_tie rfl ⟨rfl, rfl⟩ (by kernel_rfl) rfl plain (by kernel_rfl)
#print axioms shardNil_card
end Go.Proofs.YtbnfeabagcnacaaDoor.rShardNil
