/-
  Contracts of given functions, or plain laws that they need. No condition.
-/
import Derived.Test.YtmhfkicgmdhooaaDoorRowU
import Derived.Test.YtmhfkicgmdhooaaDoorNestG
import Derived.Test.YtmhfkicgmdhooaaDoorProg
import Derived.Shelf.Strconv.Itoa3
import Derived.Shelf.Strings.BuilderK
import Derived.WalkKit
import Derived.BigCall
import Derived.Laws.Concat
namespace Go.Nest
open Go Go.Eng Go.Proofs Go.RowKit Go.Shelf
set_option linter.unusedVariables false
set_option linter.all false
def laysItoa_ren : Go.Shelf.Ren := ⟨fun | 171 => 40 | 243 => 46 | 246 => 49 | 283 => 52 | 284 => 53 | 285 => 54 | 286 => 55 | 129 => 60 | 317 => 59 | 318 => 61 | 319 => 62 | 320 => 63 | 337 => 73 | 338 => 74 | n => n, fun | 3 => 3 | 9 => 9 | 2 => 2 | 4 => 4 | 171 => 101 | 0 => 0 | 53 => 102 | 37 => 74 | 5 => 5 | 173 => 105 | 212 => 110 | 51 => 111 | 20 => 20 | 213 => 112 | 46 => 87 | 232 => 131 | 233 => 132 | n => n, fun | 17 => 1 | 18 => 4 | 19 => 5 | n => n⟩
theorem laysItoa : Go.Proofs.Lays.n171 Tryd.prog laysItoa_ren where
  mixed := by kernel_rfl
  f129 := Tryd.func60.trans (congrArg some (by kernel_rfl))
  f171 := Tryd.func40.trans (congrArg some (by kernel_rfl))
  f243 := Tryd.func46.trans (congrArg some (by kernel_rfl))
  f246 := Tryd.func49.trans (congrArg some (by kernel_rfl))
  f283 := Tryd.func52.trans (congrArg some (by kernel_rfl))
  f284 := Tryd.func53.trans (congrArg some (by kernel_rfl))
  f285 := Tryd.func54.trans (congrArg some (by kernel_rfl))
  f286 := Tryd.func55.trans (congrArg some (by kernel_rfl))
  f317 := Tryd.func59.trans (congrArg some (by kernel_rfl))
  f318 := Tryd.func61.trans (congrArg some (by kernel_rfl))
  f319 := Tryd.func62.trans (congrArg some (by kernel_rfl))
  f320 := Tryd.func63.trans (congrArg some (by kernel_rfl))
  f337 := Tryd.func73.trans (congrArg some (by kernel_rfl))
  f338 := Tryd.func74.trans (congrArg some (by kernel_rfl))
  t0 := Tryd.underlying0
  a0 := Tryd.isAgg0
  z0 := Tryd.sizeOf0
  v0 := Tryd.zeroValue0
  t2 := Tryd.underlying2
  a2 := Tryd.isAgg2
  z2 := Tryd.sizeOf2
  v2 := Tryd.zeroValue2
  t3 := Tryd.underlying3
  a3 := Tryd.isAgg3
  z3 := Tryd.sizeOf3
  v3 := Tryd.zeroValue3
  t4 := Tryd.underlying4
  a4 := Tryd.isAgg4
  z4 := Tryd.sizeOf4
  v4 := Tryd.zeroValue4
  t5 := Tryd.underlying5
  a5 := Tryd.isAgg5
  z5 := Tryd.sizeOf5
  v5 := Tryd.zeroValue5
  t9 := Tryd.underlying9
  a9 := Tryd.isAgg9
  z9 := Tryd.sizeOf9
  v9 := Tryd.zeroValue9
  t20 := Tryd.underlying20
  a20 := Tryd.isAgg20
  z20 := Tryd.sizeOf20
  v20 := Tryd.zeroValue20
  t37 := Tryd.underlying74
  a37 := Tryd.isAgg74
  z37 := Tryd.sizeOf74
  v37 := Tryd.zeroValue74
  t46 := Tryd.underlying87
  a46 := Tryd.isAgg87
  z46 := Tryd.sizeOf87
  v46 := Tryd.zeroValue87
  t51 := Tryd.underlying111
  a51 := Tryd.isAgg111
  z51 := Tryd.sizeOf111
  v51 := Tryd.zeroValue111
  t53 := Tryd.underlying102
  a53 := Tryd.isAgg102
  z53 := Tryd.sizeOf102
  v53 := Tryd.zeroValue102
  t171 := Tryd.underlying101
  a171 := Tryd.isAgg101
  z171 := Tryd.sizeOf101
  v171 := Tryd.zeroValue101
  t173 := Tryd.underlying105
  a173 := Tryd.isAgg105
  z173 := Tryd.sizeOf105
  v173 := Tryd.zeroValue105
  t212 := Tryd.underlying110
  a212 := Tryd.isAgg110
  z212 := Tryd.sizeOf110
  v212 := Tryd.zeroValue110
  t213 := Tryd.underlying112
  a213 := Tryd.isAgg112
  z213 := Tryd.sizeOf112
  t232 := Tryd.underlying131
  a232 := Tryd.isAgg131
  z232 := Tryd.sizeOf131
  v232 := Tryd.zeroValue131
  t233 := Tryd.underlying132
  a233 := Tryd.isAgg132
  z233 := Tryd.sizeOf132
  v233 := Tryd.zeroValue132
  g17 := by kernel_rfl
  g18 := by kernel_rfl
  g19 := by kernel_rfl
set_option linter.all false
def laysWS_ren : Go.Shelf.Ren := ⟨fun | 166 => 32 | 240 => 39 | 276 => 45 | n => n, fun | 70 => 73 | 9 => 9 | 3 => 3 | 75 => 78 | 0 => 0 | 72 => 76 | 37 => 74 | 4 => 4 | 164 => 94 | 80 => 31 | 5 => 5 | 20 => 20 | n => n, fun | n => n⟩
theorem laysWS : Go.Proofs.Lays.n166 Tryd.prog laysWS_ren where
  mixed := by kernel_rfl
  f166 := Tryd.func32.trans (congrArg some (by kernel_rfl))
  f240 := Tryd.func39.trans (congrArg some (by kernel_rfl))
  f276 := Tryd.func45.trans (congrArg some (by kernel_rfl))
  t0 := Tryd.underlying0
  a0 := Tryd.isAgg0
  z0 := Tryd.sizeOf0
  v0 := Tryd.zeroValue0
  t3 := Tryd.underlying3
  a3 := Tryd.isAgg3
  z3 := Tryd.sizeOf3
  v3 := Tryd.zeroValue3
  t4 := Tryd.underlying4
  a4 := Tryd.isAgg4
  z4 := Tryd.sizeOf4
  v4 := Tryd.zeroValue4
  t9 := Tryd.underlying9
  a9 := Tryd.isAgg9
  z9 := Tryd.sizeOf9
  v9 := Tryd.zeroValue9
  t20 := Tryd.underlying20
  a20 := Tryd.isAgg20
  z20 := Tryd.sizeOf20
  v20 := Tryd.zeroValue20
  t37 := Tryd.underlying74
  a37 := Tryd.isAgg74
  z37 := Tryd.sizeOf74
  v37 := Tryd.zeroValue74
  t70 := Tryd.underlying73
  a70 := Tryd.isAgg73
  z70 := Tryd.sizeOf73
  v70 := Tryd.zeroValue73
  t72 := Tryd.underlying76
  a72 := Tryd.isAgg76
  z72 := Tryd.sizeOf76
  v72 := Tryd.zeroValue76
  t75 := Tryd.underlying78
  a75 := Tryd.isAgg78
  z75 := Tryd.sizeOf78
  v75 := Tryd.zeroValue78
  t164 := Tryd.underlying94
  a164 := Tryd.isAgg94
  z164 := Tryd.sizeOf94
  v164 := Tryd.zeroValue94
set_option linter.all false
def laysStr_ren : Go.Shelf.Ren := ⟨fun | 169 => 34 | n => n, fun | 70 => 73 | 9 => 9 | 0 => 0 | 72 => 76 | 37 => 74 | 127 => 88 | 3 => 3 | 5 => 5 | n => n, fun | n => n⟩
theorem laysStr : Go.Proofs.Lays.n169 Tryd.prog laysStr_ren where
  mixed := by kernel_rfl
  f169 := Tryd.func34.trans (congrArg some (by kernel_rfl))
  t0 := Tryd.underlying0
  a0 := Tryd.isAgg0
  z0 := Tryd.sizeOf0
  v0 := Tryd.zeroValue0
  t3 := Tryd.underlying3
  a3 := Tryd.isAgg3
  z3 := Tryd.sizeOf3
  v3 := Tryd.zeroValue3
  t9 := Tryd.underlying9
  a9 := Tryd.isAgg9
  z9 := Tryd.sizeOf9
  v9 := Tryd.zeroValue9
  t37 := Tryd.underlying74
  a37 := Tryd.isAgg74
  z37 := Tryd.sizeOf74
  v37 := Tryd.zeroValue74
  t70 := Tryd.underlying73
  a70 := Tryd.isAgg73
  z70 := Tryd.sizeOf73
  v70 := Tryd.zeroValue73
  t72 := Tryd.underlying76
  a72 := Tryd.isAgg76
  z72 := Tryd.sizeOf76
  v72 := Tryd.zeroValue76
  t127 := Tryd.underlying88
  a127 := Tryd.isAgg88
  z127 := Tryd.sizeOf88
  v127 := Tryd.zeroValue88
theorem extraWS : Builder.Extra Tryd.prog laysWS_ren where
  sizeBuilder := by kernel_rfl
  liesBuilder := by kernel_rfl
  t5 := Tryd.underlying5
  a5 := Tryd.isAgg5
  z5 := Tryd.sizeOf5
  v5 := Tryd.zeroValue5
  infoByte := by kernel_rfl
  cellsByte := by kernel_rfl
  sizeByte := by kernel_rfl
  neB5 := by decide
theorem extraStr : Builder.Extra Tryd.prog laysStr_ren where
  sizeBuilder := by kernel_rfl
  liesBuilder := by kernel_rfl
  t5 := Tryd.underlying5
  a5 := Tryd.isAgg5
  z5 := Tryd.sizeOf5
  v5 := Tryd.zeroValue5
  infoByte := by kernel_rfl
  cellsByte := by kernel_rfl
  sizeByte := by kernel_rfl
  neB5 := by decide

theorem num_small (i : Nat) (hi : i < 100) (w : World) : Calls Tryd.prog 33 #[.int .i64 i] w fun e w' => e = .returned (.string ⟨(Lib.decDigits i).toArray⟩) ∧ w' = w := by
  go_enter Tryd.func33, Tryd.ntmps33
  go_wp2_with (go_at_call 40; refine (Any.strconv_Itoa_small laysItoa i hi _).mono ?_; rintro e w1 ⟨rfl, rfl⟩)
  go_ret
  exact ⟨rfl, rfl⟩
theorem packL_append : ∀ a b : List ByteArray, packL (a ++ b) = packL a ++ packL b
  | [], b => rfl
  | x :: a, b => by simp [packL, packL_append a b]
theorem pack_take (xs : List ByteArray) (k : Nat) (x : ByteArray) (h : xs[k]? = some x) : packL (xs.take (k + 1)) = packL (xs.take k) ++ (Lib.decDigits x.size ++ [58] ++ x.data.toList ++ [44]) := by
  rw [List.take_add_one, h, packL_append]; simp [packL]
theorem dec_len : ∀ i, i < 100 → (Lib.decDigits i).length ≤ 2 := by decide +kernel
theorem packL_len : ∀ xs : List ByteArray, (∀ x ∈ xs, x.size < 100) → (packL xs).length ≤ 104 * xs.length
  | [], _ => by simp [packL]
  | x :: xs, h => by
    have h1 := packL_len xs fun y hy => h y (List.mem_cons_of_mem _ hy)
    have h2 := h x (List.mem_cons_self ..)
    have h3 := dec_len x.size h2
    rw [size_ba] at h2
    simp only [packL, List.length_append, List.length_cons, List.length_nil]
    omega
set_option maxHeartbeats 4000000 in
set_option maxRecDepth 1000000 in
theorem pack_walk (xs : List ByteArray) (bk o c : Nat) (w : World) (hcells : ∀ (j : Nat) x, xs[j]? = some x → w.cell? ⟨bk, o + j, none⟩ = some (.string x)) (hbk : bk < w.heap.size) (hsz : ∀ x ∈ xs, x.size < 100) (hn : xs.length ≤ 1000) :
    Calls Tryd.prog 24 #[.slice (some ⟨bk, o, none⟩) xs.length c] w fun e w' => e = .returned (.string ⟨(packL xs).toArray⟩) ∧ Below w.heap.size w w' := by
  go_enter Tryd.func24, Tryd.ntmps24
  go_wp2
  go_loopw [8] (fun i wr => ∃ k : Nat, k ≤ xs.length ∧ i = .int .i64 k ∧ Lib.IsBuilderF 76 5 w.heap.size w.heap.size (Lib.byteCells (packL (xs.take k))) wr ∧ Below w.heap.size w wr) (fun i _ => xs.length - (intOf i).toNat)
  case atStart => exact ⟨0, Nat.zero_le _, rfl, Lib.IsBuilderF.of (Lib.fresh_isBuilder 76 5 w), (Below.refl _ w).alloc (Nat.le_refl _) _⟩
  case round =>
    obtain ⟨k, hk, rfl, hI, hbw⟩ := hrel
    have hbs := hbw.size
    by_cases hp : k < xs.length
    · obtain ⟨x, hx⟩ : ∃ x, xs[k]? = some x := ⟨xs[k], List.getElem?_eq_getElem hp⟩
      have hxm : x ∈ xs := List.mem_of_getElem? hx
      have hxs := hsz x hxm
      have hc := hcells k x hx
      have hc2 : wr.cell? ⟨bk, o + k, none⟩ = some (.string x) := by
        rw [← hc]; unfold World.cell?; rw [hbw.block bk hbk]
      have hd := dec_len x.size hxs
      have hdA : (ByteArray.mk (Lib.decDigits x.size).toArray).size = (Lib.decDigits x.size).length := by rw [size_ba]
      have a1 := run_string_add_sum (P := Tryd.prog) wr ⟨(Lib.decDigits x.size).toArray⟩ ⟨#[58]⟩ (by rw [hdA]; show _ + 1 ≤ _; omega)
      have a2 := run_string_add_sum (P := Tryd.prog) wr (⟨(Lib.decDigits x.size).toArray⟩ ++ ⟨#[58]⟩) x (by rw [ByteArray.size_append, hdA]; show _ + 1 + _ ≤ _; omega)
      have a3 := run_string_add_sum (P := Tryd.prog) wr (⟨(Lib.decDigits x.size).toArray⟩ ++ ⟨#[58]⟩ ++ x) ⟨#[44]⟩ (by rw [ByteArray.size_append, ByteArray.size_append, hdA]; show _ + 1 + _ + 1 ≤ _; omega)
      go_wp2_with (first
        | (go_at_call 33; refine (num_small x.size hxs _).mono ?_; rintro e w1 ⟨rfl, rfl⟩)
        | (go_at_call 32; refine (Any.Builder_WriteString_k laysWS extraWS w.heap.size w.heap.size _ _ _ hI ?_ hbs).mono ?_))
      case refine_1 =>
        have h1 := packL_len (xs.take k) fun y hy => hsz y (List.mem_of_mem_take hy)
        have h2 : (xs.take k).length ≤ 1000 := by simp; omega
        rw [Lib.byteCells_length, ByteArray.size_append, ByteArray.size_append, ByteArray.size_append, hdA]
        show _ + (_ + 1 + _ + 1) ≤ _
        omega
      case refine_2 =>
        rintro e W1 ⟨rfl, h1, b1, k1⟩
        go_wp2
        go_roundw
        case rel =>
          refine ⟨k + 1, by omega, by simp, ?_, hbw.trans b1⟩
          rw [pack_take xs k x hx, Lib.byteCells_append]
          exact Or.inr h1
        case measure => simp [intOf]; omega
    · go_wp2_with (go_at_call 34; refine (Any.Builder_String_any_k laysStr extraStr w.heap.size w.heap.size (packL (xs.take k)) _ hI hbs).mono ?_)
      rintro e W1 ⟨rfl, _, b1, _⟩
      go_wp2
      go_ret
      rw [List.take_of_length_le (by omega)]
      exact ⟨rfl, hbw.trans b1⟩
set_option maxHeartbeats 4000000 in
set_option maxRecDepth 1000000 in
theorem pack_nil (w : World) : Calls Tryd.prog 24 #[.slice none 0 0] w fun e w' => e = .returned (.string ⟨#[]⟩) ∧ Below w.heap.size w w' := by
  go_enter Tryd.func24, Tryd.ntmps24
  go_wp2
  go_loopw [8] (fun i wr => i = .int .i64 0 ∧ Lib.IsBuilderF 76 5 w.heap.size w.heap.size (Lib.byteCells []) wr ∧ Below w.heap.size w wr) (fun i _ => 0)
  case atStart => exact ⟨rfl, Lib.IsBuilderF.of (Lib.fresh_isBuilder 76 5 w), (Below.refl _ w).alloc (Nat.le_refl _) _⟩
  case round =>
    obtain ⟨rfl, hI, hbw⟩ := hrel
    have hbs := hbw.size
    go_wp2_with (go_at_call 34; refine (Any.Builder_String_any_k laysStr extraStr w.heap.size w.heap.size [] _ hI hbs).mono ?_)
    rintro e W1 ⟨rfl, _, b1, _⟩
    go_wp2
    go_ret
    exact ⟨rfl, hbw.trans b1⟩
theorem packE_ok (n : Nat) (el : Nat → D) (xs : List ByteArray) (hl : n = xs.length) (he : ∀ i, i < n → el i = .raw (.string (xs.getD i ByteArray.empty))) (hsz : ∀ x ∈ xs, x.size < 100) (hn : xs.length ≤ 1000) {gl : Nat → Option (List D)} :
    Eng.Spec Tryd.prog gl 24 [.d (.list 1 n el)] [] (.d (.raw (.string ⟨(packL xs).toArray⟩))) [] := by
  refine Spec.pure rfl fun w N E vs hvs hN => ?_
  rw [VAs_cons] at hvs
  obtain ⟨v, us, rfl, hv, hus⟩ := hvs
  obtain rfl : us = [] := by unfold VAs at hus; exact hus
  unfold VA at hv
  unfold VD at hv
  unfold VC at hv
  obtain ⟨v', hv', hv⟩ := hv
  obtain rfl : v = v' := by simpa using hv'
  rcases hv with ⟨h0, rfl⟩ | ⟨ad, cap, cs, rfl, hcap, _, hsp, hb, hlen, hcell, hel⟩
  · have : xs = [] := List.length_eq_zero_iff.1 (by omega)
    subst this
    exact pack_nil w
  · rcases ad with ⟨bk, o, sp⟩
    cases hsp
    subst hl
    refine pack_walk xs bk o cap w (fun j x hx => ?_) (hN _ hb) hsz hn
    have hj := (List.getElem?_eq_some_iff.1 hx).1
    have h2 := hel j hj
    rw [he j hj] at h2
    unfold VC at h2
    have h3 : cs[j]? = some (.string x) := by
      have := congrArg (·[0]?) h2.1
      simp only [Nat.mul_one, List.getElem?_take, List.getElem?_drop, Nat.add_zero, List.getElem?_cons_zero] at this
      rw [if_pos (by omega)] at this
      rw [this, List.getD_eq_getElem?_getD, hx]; rfl
    have h4 := hcell j _ h3
    unfold Addr.add at h4
    split at h4
    · rename_i e; subst e; exact h4
    · exact h4
end Go.Nest
