/-
  Proved here: the given statement of the law SealBytes (the card): whatever the input, it returns true, and each argument reads behind the call as it read before. Conditions: none but the statement's own.
-/
import Derived.Test.YtmgfgcoeflanmaaDoorCards
import Derived.Test.YtmgfgcoeflanmaaDoorTie
import Derived.Stop.LaidErr
import Derived.Deep.DeepWitnessRowRef
import Derived.Test.YtmgfgcoeflanmaaDoorRowK
import Derived.Test.YtmgfgcoeflanmaaDoorRowS
import Derived.Test.YtmgfgcoeflanmaaDoorSeaL
namespace Go.Proofs.YtmgfgcoeflanmaaDoor.rSealBytes
open Go Go.Eng Go.Proofs Go.Nest Go.Shelf Go.Memo Go.Sea
open Go.ChangeShapes Go.WideShapes Go.ChangeAt Go.RowKit
set_option linter.unusedVariables false
set_option maxRecDepth 100000
theorem own : ownKnob Tryd.prog.godebug = none := by kernel_rfl
theorem laidOut : laidOutB Tryd.prog = true := by kernel_rfl
theorem tyB : Tryd.prog.underlying 4 = some .bool := by kernel_rfl
abbrev T0 : Ty := .agg [.agg [.int .i64, .int .i64], .str, .str]
abbrev T1 : Ty := .str
theorem star : "*" ++ "errors.errorString" = "*errors.errorString" := by decide
theorem rowErr (u : TypeId) (h : Tryd.prog.typeName? 3 u = some "*errors.errorString") : u = 156 :=
  typeName_ptr_named (nm := "errors.errorString") (by rw [star]; kernel_rfl) (by kernel_rfl) (by decide) u (by rw [star]; exact h)
theorem glInU {W : World} (h : laidMetH Tryd.prog Rows.sealBytesRow.laid W) (hsh : W.ShapedOpen Tryd.prog) : ∃ m e1 e2, ErrV e1 ∧ ErrV e2 ∧ GlIn (glS m e1 e2) W := by
  have h0 : laidMet Tryd.prog Rows.sealBytesRow.laid W := h
  obtain ⟨a0, s0, hv0, -⟩ := laid_sentinel (g := 3) h0.tail.tail.tail (by kernel_rfl) (by kernel_rfl) Tryd.underlying82 rowErr Tryd.underlying156 Tryd.underlying158 rfl rfl Tryd.underlying9 (by kernel_rfl) (by kernel_rfl)
  obtain ⟨a1, s1, hv1, -⟩ := laid_sentinel (g := 2) h0.tail.tail.tail.tail (by kernel_rfl) (by kernel_rfl) Tryd.underlying82 rowErr Tryd.underlying156 Tryd.underlying158 rfl rfl Tryd.underlying9 (by kernel_rfl) (by kernel_rfl)
  obtain ⟨ps, hp, _⟩ := h0.tail.tail
  obtain ⟨hv2, -⟩ := laid_ints (k := .u64) (zs := Lib.pow10Tab) (name := "internal/strconv.uint64pow10") (g := 4) (t := 149) (e := 94) (n := 20) (by kernel_rfl) (by kernel_rfl) (by kernel_rfl) (by kernel_rfl) (by kernel_rfl) (by kernel_rfl) hp
  obtain ⟨ps, hp, _⟩ := h0.tail.tail.tail.tail.tail
  obtain ⟨f0, ps, hp⟩ := laid_strs (ss := [⟨#[48, 49, 50, 51, 52, 53, 54, 55, 56, 57, 97, 98, 99, 100, 101, 102]⟩, ⟨#[101, 97, 52, 56, 57, 102, 100, 54, 49, 99, 48, 50, 98, 55, 53, 51]⟩, ⟨#[98, 56, 99, 48, 53, 50, 102, 100, 97, 101, 51, 54, 55, 49, 57, 52]⟩, ⟨#[55, 57, 51, 49, 100, 99, 98, 101, 50, 54, 53, 97, 52, 48, 102, 56]⟩, ⟨#[57, 48, 53, 55, 50, 52, 97, 102, 101, 49, 98, 99, 54, 56, 51, 100]⟩, ⟨#[50, 99, 54, 97, 48, 98, 56, 51, 52, 100, 55, 53, 102, 101, 49, 57]⟩, ⟨#[99, 53, 49, 102, 101, 100, 52, 97, 48, 55, 54, 51, 57, 50, 56, 98]⟩, ⟨#[100, 98, 55, 101, 99, 49, 51, 57, 53, 48, 102, 52, 56, 54, 50, 97]⟩, ⟨#[54, 102, 101, 57, 98, 51, 48, 56, 99, 50, 100, 55, 49, 52, 97, 53]⟩, ⟨#[97, 50, 56, 52, 55, 54, 49, 53, 102, 98, 57, 101, 51, 99, 100, 48]⟩]) (name := "wapentake/blake.rows") (g := 1) (t := 112) (e := 9) (n := 10) (by kernel_rfl) (by kernel_rfl) (by kernel_rfl) (by kernel_rfl) (by kernel_rfl) (by kernel_rfl) hp
  obtain ⟨f1, ps, hp⟩ := laid_ints (k := .u32) (zs := [1779033703, 3144134277, 1013904242, 2773480762, 1359893119, 2600822924, 528734635, 1541459225]) (name := "wapentake/blake.start") (g := 0) (t := 93) (e := 92) (n := 8) (by kernel_rfl) (by kernel_rfl) (by kernel_rfl) (by kernel_rfl) (by kernel_rfl) (by kernel_rfl) hp
  obtain ⟨m, hm⟩ := laysCut.s1_3 W hsh
  have hm : W.cell? ⟨5, 0, none⟩ = some (.int .i64 m) := hm
  refine ⟨m, .iface 156 (.pointer (some a1)), .iface 156 (.pointer (some a0)), ⟨rfl, .inr ⟨_, _, rfl⟩⟩, ⟨rfl, .inr ⟨_, _, rfl⟩⟩, fun g cs hg => ?_⟩
  unfold glS at hg
  split at hg
  · rename_i x hx; cases hg
    unfold Go.Bla.gl at hx
    split at hx
    · rename_i e; have e : g = 0 := by simpa using e
      subst e; cases hx; exact glIn_var (by kernel_rfl) f1 (by kernel_rfl)
    · split at hx
      · rename_i e; have e : g = 1 := by simpa using e
        subst e; cases hx; exact glIn_var (by kernel_rfl) f0 (by kernel_rfl)
      · cases hx
  · unfold glU at hg
    split at hg
    · rename_i e; subst e; cases hg
      refine ⟨?_, [.int .i64 m], VCs_raw [.int .i64 m] rfl, fun j u hu => ?_, fun h => absurd rfl h⟩
      · unfold World.cell? at hm
        rcases Nat.lt_or_ge 5 W.heap.size with h | h
        · exact h
        · rw [show W.heap[5]? = none from Array.getElem?_eq_none h] at hm; cases hm
      · cases j with
        | zero => cases hu; exact hm
        | succ j => cases hu
    · split at hg
      · rename_i e; subst e; cases hg; exact glIn_var (vs := [.iface 156 (.pointer (some a1))]) (by kernel_rfl) hv1 rfl
      · split at hg
        · rename_i e; subst e; cases hg; exact glIn_var (vs := [.iface 156 (.pointer (some a0))]) (by kernel_rfl) hv0 rfl
        · split at hg
          · rename_i e; subst e; cases hg
            have := glIn_var (g := 4) (vs := Lib.pow10Tab.map (Value.int .u64)) (by kernel_rfl) hv2 (by decide)
            rw [List.map_map] at this; exact this
          · cases hg
theorem contract (H : Type) (enc : TypeId × Value → H) (W : World) (base : Nat) (args : Array Value) (ds gs : List (DataW H)) (before : List MemPlace)
    (hval : ∀ (j : Nat) t v, Tryd.f6.params[j]? = some t → args[j]? = some v → Value.okWide Tryd.prog W .any base t v)
    (hW : DataW.Whole enc Tryd.prog Tryd.f6.params.toList Rows.sealBytesSpec.vars false W args.toList ds gs before) (hwt : (DataW.weightsEach Tryd.prog (Tryd.f6.params.toList ++ (OpenSpec.ofChange Rows.sealBytesSpec).bare.plain.varTypes Tryd.prog) (ds ++ gs)).all (· ≤ reachBytes) = true) (hL : laidMetH Tryd.prog Rows.sealBytesRow.laid W) (hsh : W.ShapedOpen Tryd.prog) :
    Calls Tryd.prog 6 args W fun e W' => ∃ v, e = .returned v ∧ Rows.sealBytesSpec.post enc Tryd.prog Tryd.f6 false true false false W args v W' := by
  have hW' := hW
  obtain ⟨p, q, hA0, hV, rfl, hfz, hnd⟩ := hW
  have hA : DataW.TrodAll enc Tryd.prog W 0 (fun _ => true) true Tryd.f6.params.toList args.toList ds p := hA0
  rw [Tryd.params6] at hA hval
  obtain ⟨v0, vs0, d0, ds0, p0, q0, hargs, rfl, rfl, h0, r0⟩ := trodAll_cons hA
  obtain ⟨v1, vs1, d1, ds1, p1, q1, rfl, rfl, rfl, h1, r1⟩ := trodAll_cons r0
  obtain ⟨rfl, rfl, rfl⟩ := trodAll_nil r1
  obtain rfl : args = #[v0, v1] := by cases args; simp_all
  obtain ⟨rfl, rfl⟩ := trodVars_none hV
  obtain ⟨a0, wf0, rl0, vd0⟩ := Ty.arg T0 (t := 25) (by kernel_rfl) (hval 0 25 v0 rfl rfl) h0
  obtain ⟨a1, wf1, rl1, vd1⟩ := Ty.arg T1 (t := 9) (by kernel_rfl) (hval 1 9 v1 rfl rfl) h1
  have st0 : T0.strs a0 := Ty.sized T0 25 a0 d0 (by kernel_rfl) rl0 fun n hn => by
    have h := List.all_eq_true.1 hwt n (DataW.weights_mem_each (j := 0) (t := 25) (d := d0) (by kernel_rfl) rfl n hn)
    simpa using h
  have st1 : T1.strs a1 := Ty.sized T1 9 a1 d1 (by kernel_rfl) rl1 fun n hn => by
    have h := List.all_eq_true.1 hwt n (DataW.weights_mem_each (j := 1) (t := 9) (d := d1) (by kernel_rfl) rfl n hn)
    simpa using h
  obtain ⟨mm, ee1, ee2, he1, he2, hgl⟩ := glInU hL hsh
  have hs : Eng.Spec Tryd.prog (glS mm ee1 ee2) 6 [.d (T0.toD a0), .d (T1.toD a1)] [] (.d (.raw (.bool true))) [] := law_bytes_ok mm ee1 ee2 he1 he2 a0.1.1 a0.1.2.1 a0.2.1 a0.2.2.1 a1 st1 st0.2.1
  refine (spec_run hs (gl := (glS mm ee1 ee2)) hgl (vas_cons (x := T0.toD a0) vd0 (vas_cons (x := T1.toD a1) vd1 vas_nil))).mono fun e W' ⟨v, he, bel, N, hv⟩ => ?_
  subst he
  obtain rfl := said_true hv
  exact ⟨_, rfl, _, _, _, [], _, [], hW', trodAll_mk1 (shut_bool tyB _), (trodAll_cons_mk (Below.trod laidOut (by kernel_rfl) (of_decide_eq_true (by kernel_rfl)) h0 bel (lt_heap h0)) (trodAll_cons_mk (Below.trod laidOut (by kernel_rfl) (of_decide_eq_true (by kernel_rfl)) h1 bel (lt_heap h1)) trodAll_mk0)), rfl, bel.frame _, fun h => by cases h⟩
noncomputable def laidWorld (os : Os) : World :=
  { World.holding Tryd.prog os ⟨#[], #[], []⟩ with heap := setG (setG (setG (setG (setG (setG (setG ((World.holding Tryd.prog os ⟨#[.cells #[.string ⟨#[118, 97, 108, 117, 101, 32, 111, 117, 116, 32, 111, 102, 32, 114, 97, 110, 103, 101]⟩] 158, .cells #[.string ⟨#[105, 110, 118, 97, 108, 105, 100, 32, 115, 121, 110, 116, 97, 120]⟩] 158], #[], []⟩).heap) 6 #[.int .u8 0, .int .u8 1, .int .u8 28, .int .u8 2, .int .u8 29, .int .u8 14, .int .u8 24, .int .u8 3, .int .u8 30, .int .u8 22, .int .u8 20, .int .u8 15, .int .u8 25, .int .u8 17, .int .u8 4, .int .u8 8, .int .u8 31, .int .u8 27, .int .u8 13, .int .u8 23, .int .u8 21, .int .u8 19, .int .u8 16, .int .u8 7, .int .u8 26, .int .u8 12, .int .u8 18, .int .u8 6, .int .u8 11, .int .u8 5, .int .u8 10, .int .u8 9]) 7 #[.int .u8 0, .int .u8 1, .int .u8 56, .int .u8 2, .int .u8 57, .int .u8 49, .int .u8 28, .int .u8 3, .int .u8 61, .int .u8 58, .int .u8 42, .int .u8 50, .int .u8 38, .int .u8 29, .int .u8 17, .int .u8 4, .int .u8 62, .int .u8 47, .int .u8 59, .int .u8 36, .int .u8 45, .int .u8 43, .int .u8 51, .int .u8 22, .int .u8 53, .int .u8 39, .int .u8 33, .int .u8 30, .int .u8 24, .int .u8 18, .int .u8 12, .int .u8 5, .int .u8 63, .int .u8 55, .int .u8 48, .int .u8 27, .int .u8 60, .int .u8 41, .int .u8 37, .int .u8 16, .int .u8 46, .int .u8 35, .int .u8 44, .int .u8 21, .int .u8 52, .int .u8 32, .int .u8 23, .int .u8 11, .int .u8 54, .int .u8 26, .int .u8 40, .int .u8 15, .int .u8 34, .int .u8 20, .int .u8 31, .int .u8 10, .int .u8 25, .int .u8 14, .int .u8 19, .int .u8 9, .int .u8 13, .int .u8 8, .int .u8 7, .int .u8 6]) 4 #[.int .u64 1, .int .u64 10, .int .u64 100, .int .u64 1000, .int .u64 10000, .int .u64 100000, .int .u64 1000000, .int .u64 10000000, .int .u64 100000000, .int .u64 1000000000, .int .u64 10000000000, .int .u64 100000000000, .int .u64 1000000000000, .int .u64 10000000000000, .int .u64 100000000000000, .int .u64 1000000000000000, .int .u64 10000000000000000, .int .u64 100000000000000000, .int .u64 1000000000000000000, .int .u64 10000000000000000000]) 3 #[.iface 156 (.pointer (some ⟨(World.settled Tryd.prog os).heap.size, 0, none⟩))]) 2 #[.iface 156 (.pointer (some ⟨(World.settled Tryd.prog os).heap.size + 1, 0, none⟩))]) 0 #[.int .u32 1779033703, .int .u32 3144134277, .int .u32 1013904242, .int .u32 2773480762, .int .u32 1359893119, .int .u32 2600822924, .int .u32 528734635, .int .u32 1541459225]) 1 #[.string ⟨#[48, 49, 50, 51, 52, 53, 54, 55, 56, 57, 97, 98, 99, 100, 101, 102]⟩, .string ⟨#[101, 97, 52, 56, 57, 102, 100, 54, 49, 99, 48, 50, 98, 55, 53, 51]⟩, .string ⟨#[98, 56, 99, 48, 53, 50, 102, 100, 97, 101, 51, 54, 55, 49, 57, 52]⟩, .string ⟨#[55, 57, 51, 49, 100, 99, 98, 101, 50, 54, 53, 97, 52, 48, 102, 56]⟩, .string ⟨#[57, 48, 53, 55, 50, 52, 97, 102, 101, 49, 98, 99, 54, 56, 51, 100]⟩, .string ⟨#[50, 99, 54, 97, 48, 98, 56, 51, 52, 100, 55, 53, 102, 101, 49, 57]⟩, .string ⟨#[99, 53, 49, 102, 101, 100, 52, 97, 48, 55, 54, 51, 57, 50, 56, 98]⟩, .string ⟨#[100, 98, 55, 101, 99, 49, 51, 57, 53, 48, 102, 52, 56, 54, 50, 97]⟩, .string ⟨#[54, 102, 101, 57, 98, 51, 48, 56, 99, 50, 100, 55, 49, 52, 97, 53]⟩, .string ⟨#[97, 50, 56, 52, 55, 54, 49, 53, 102, 98, 57, 101, 51, 99, 100, 48]⟩] }
theorem laid_met (os : Os) : laidMet Tryd.prog Rows.sealBytesRow.laid (((laidWorld os).forCall (fun _ _ => 0) ⟨#[], #[.agg #[.int .i64 0, .int .i64 0, .string .empty, .string .empty], .string .empty], []⟩).memory) :=
  laidMet_of_run' 8 (by kernel_rfl) (by kernel_rfl)
theorem reads (os : Os) {H : Type} (enc : TypeId × Value → H) : ∃ places, DataW.whole enc Tryd.prog ((laidWorld os).forCall (fun _ _ => 0) ⟨#[], #[.agg #[.int .i64 0, .int .i64 0, .string .empty, .string .empty], .string .empty], []⟩).memory Tryd.f6.params.toList Rows.sealBytesSpec.vars false (#[.agg #[.int .i64 0, .int .i64 0, .string .empty, .string .empty], .string .empty] : Array Value).toList 8 = some ([.agg [.agg [.lit (.int .i64 0), .lit (.int .i64 0)], .lit (.string []), .lit (.string [])], .lit (.string [])], [], places) :=
  ⟨[], by kernel_rfl⟩
theorem lifted (os : Os) (started : os.Started) (H : Type) (enc : TypeId × Value → H) (F : Stop.Interp) :
    ReturnsInHanded {} Tryd.checked os 6 .any ((OpenSpec.ofChange Rows.sealBytesSpec).preRow enc Tryd.prog Tryd.f6 Rows.sealBytesRow.domain false Rows.sealBytesRow.laid) (((OpenSpec.ofChange Rows.sealBytesSpec).at F).post enc Tryd.prog Tryd.f6 false true false false) := by
  obtain ⟨places, hx⟩ := reads os enc
  refine returnsInHanded_of_row (C := Tryd.checked) (s := OpenSpec.ofChange Rows.sealBytesSpec) own started (by kernel_rfl) Tryd.func6
    (witness_row_atRef (enc := enc) (C := Tryd.checked) false (laidWorld os) #[.agg #[.int .i64 0, .int .i64 0, .string .empty, .string .empty], .string .empty] rfl (by kernel_rfl) (by kernel_rfl) (by kernel_rfl)
      (OpenSpec.preRow_of_cond 8 hx (by kernel_rfl) (fun k hk => by cases hk) (by kernel_rfl) (laid_met os))) ?_
  intro W base args ds gs before hval hW _ hcond hwt hL hsh _
  exact contract H enc W base args ds gs before hval hW hwt hL hsh
theorem said : Rows.SealBytesSaid :=
  OpenClaim.holds_of_cond 6 Tryd.f6 rfl rfl rfl rfl rfl rfl rfl ⟨rfl, rfl, rfl, rfl, rfl⟩ rfl rfl rfl rfl rfl (by kernel_rfl) Tryd.func6 (by kernel_rfl)
    (of_decide_eq_true (by kernel_rfl)) (by unfold Func.isWrapper; first | (rw [if_pos (by decide +kernel)]; kernel_rfl) | (rw [if_neg (by decide +kernel)]; exact ⟨rfl, rfl⟩))
    (fun os started H enc _ F => by rw [OpenClaim.pre_eq_preRow]; exact lifted os started H enc F)
theorem plain (f : FuncId) (fn : Func) (hf : Tryd.pinned.checked.prog.funcNamed "wapentake/wapentakelaw03.SealBytes" = some f) (hfn : Tryd.pinned.checked.prog.funcs[f]? = some fn) :
    true = Tryd.pinned.checked.prog.looks [] ∧ ∀ (j : Nat) t, fn.params[j]? = some t → Tryd.pinned.checked.prog.wantsStandIn t = false := by
  obtain rfl : f = 6 := Option.some.inj ((show Tryd.prog.funcNamed "wapentake/wapentakelaw03.SealBytes" = some 6 by kernel_rfl).symm.trans hf) |>.symm
  obtain rfl : fn = Tryd.f6 := (Option.some.inj (Tryd.func6.symm.trans hfn)).symm
  refine ⟨by kernel_rfl, fun j t ht => ?_⟩
  rw [Tryd.params6] at ht
  have hm := Array.mem_of_getElem? ht
  have ht : t = 25 ∨ t = 9 := by simp at hm; first | exact hm | omega
  rcases ht with rfl | rfl
  all_goals (show Tryd.prog.wantsStandIn _ = false; kernel_rfl)
theorem sealBytes_card : Rows.SealBytesCardSaid :=
  Claim7.holds_tied_plain_at .later [] _ _ _ _ said (fun _ h => by cases h) (by kernel_rfl) (fun _ h => by cases h) sealBytes_row_tie rfl ⟨rfl, rfl⟩ (by kernel_rfl) rfl plain (by kernel_rfl)
#print axioms sealBytes_card
end Go.Proofs.YtmgfgcoeflanmaaDoor.rSealBytes
