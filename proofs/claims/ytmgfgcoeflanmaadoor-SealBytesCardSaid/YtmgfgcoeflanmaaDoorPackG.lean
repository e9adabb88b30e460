/-
  Contracts of given functions, or plain laws that they need. No condition.
-/
import Derived.Test.YtmgfgcoeflanmaaDoorUnpW
import Derived.Test.YtmgfgcoeflanmaaDoorOrdB
import Derived.Shelf.Strings.BuilderK
import Derived.Shelf.Strings.MapGrows
import Derived.WalkKit
import Derived.BigCall
import Derived.Laws.Concat
namespace Go.Nest
open Go Go.Eng Go.Proofs Go.RowKit Go.Shelf
set_option linter.unusedVariables false
set_option linter.all false
def laysWS_ren : Go.Shelf.Ren := ⟨fun | 166 => 37 | 240 => 46 | 276 => 55 | n => n, fun | 70 => 78 | 9 => 9 | 3 => 3 | 75 => 82 | 0 => 0 | 72 => 80 | 37 => 62 | 4 => 4 | 164 => 120 | 80 => 85 | 5 => 5 | 20 => 20 | n => n, fun | n => n⟩
theorem laysWS : Go.Proofs.Lays.n166 Tryd.prog laysWS_ren where
  mixed := by kernel_rfl
  f166 := Tryd.func37.trans (congrArg some (by kernel_rfl))
  f240 := Tryd.func46.trans (congrArg some (by kernel_rfl))
  f276 := Tryd.func55.trans (congrArg some (by kernel_rfl))
  t0 := Tryd.underlying0
  a0 := Tryd.isAgg0
  z0 := Tryd.sizeOf0
  v0 := Tryd.zeroValue0
  t3 := Tryd.underlying3
  a3 := Tryd.isAgg3
  z3 := Tryd.sizeOf3
  v3 := Tryd.zeroValue3
  t4 := Tryd.underlying4
  a4 := Tryd.isAgg4
  z4 := Tryd.sizeOf4
  v4 := Tryd.zeroValue4
  t9 := Tryd.underlying9
  a9 := Tryd.isAgg9
  z9 := Tryd.sizeOf9
  v9 := Tryd.zeroValue9
  t20 := Tryd.underlying20
  a20 := Tryd.isAgg20
  z20 := Tryd.sizeOf20
  v20 := Tryd.zeroValue20
  t37 := Tryd.underlying62
  a37 := Tryd.isAgg62
  z37 := Tryd.sizeOf62
  v37 := Tryd.zeroValue62
  t70 := Tryd.underlying78
  a70 := Tryd.isAgg78
  z70 := Tryd.sizeOf78
  v70 := Tryd.zeroValue78
  t72 := Tryd.underlying80
  a72 := Tryd.isAgg80
  z72 := Tryd.sizeOf80
  v72 := Tryd.zeroValue80
  t75 := Tryd.underlying82
  a75 := Tryd.isAgg82
  z75 := Tryd.sizeOf82
  v75 := Tryd.zeroValue82
  t164 := Tryd.underlying120
  a164 := Tryd.isAgg120
  z164 := Tryd.sizeOf120
  v164 := Tryd.zeroValue120
def laysStr_ren : Go.Shelf.Ren := ⟨fun | 169 => 38 | n => n, fun | 70 => 78 | 9 => 9 | 0 => 0 | 72 => 80 | 37 => 62 | 127 => 102 | 3 => 3 | 5 => 5 | 20 => 20 | n => n, fun | n => n⟩
theorem laysStr : Go.Proofs.Lays.n169 Tryd.prog laysStr_ren where
  mixed := by kernel_rfl
  f169 := Tryd.func38.trans (congrArg some (by kernel_rfl))
  t0 := Tryd.underlying0
  a0 := Tryd.isAgg0
  z0 := Tryd.sizeOf0
  v0 := Tryd.zeroValue0
  t3 := Tryd.underlying3
  a3 := Tryd.isAgg3
  z3 := Tryd.sizeOf3
  v3 := Tryd.zeroValue3
  t9 := Tryd.underlying9
  a9 := Tryd.isAgg9
  z9 := Tryd.sizeOf9
  v9 := Tryd.zeroValue9
  t37 := Tryd.underlying62
  a37 := Tryd.isAgg62
  z37 := Tryd.sizeOf62
  v37 := Tryd.zeroValue62
  t70 := Tryd.underlying78
  a70 := Tryd.isAgg78
  z70 := Tryd.sizeOf78
  v70 := Tryd.zeroValue78
  t72 := Tryd.underlying80
  a72 := Tryd.isAgg80
  z72 := Tryd.sizeOf80
  v72 := Tryd.zeroValue80
  t127 := Tryd.underlying102
  a127 := Tryd.isAgg102
  z127 := Tryd.sizeOf102
  v127 := Tryd.zeroValue102
theorem extraWS : Builder.Extra Tryd.prog laysWS_ren where
  sizeBuilder := by kernel_rfl
  liesBuilder := by kernel_rfl
  t5 := Tryd.underlying5
  a5 := Tryd.isAgg5
  z5 := Tryd.sizeOf5
  v5 := Tryd.zeroValue5
  infoByte := by kernel_rfl
  cellsByte := by kernel_rfl
  sizeByte := by kernel_rfl
  neB5 := by decide
theorem extraStr : Builder.Extra Tryd.prog laysStr_ren where
  sizeBuilder := by kernel_rfl
  liesBuilder := by kernel_rfl
  t5 := Tryd.underlying5
  a5 := Tryd.isAgg5
  z5 := Tryd.sizeOf5
  v5 := Tryd.zeroValue5
  infoByte := by kernel_rfl
  cellsByte := by kernel_rfl
  sizeByte := by kernel_rfl
  neB5 := by decide

theorem num_nat (n : Nat) (hn : n ≤ 9223372036854775807) (w : World) (hL : LibT w) : Calls Tryd.prog 28 #[.int .i64 n] w fun e w' => e = .returned (.string ⟨(Lib.decDigits n).toArray⟩) ∧ Below w.heap.size w w' := by
  have h := num_walk (n : Int) (by omega) (by omega) w hL
  have e : Lib.itoa (n : Int) = Lib.decDigits n := by unfold Lib.itoa; rw [if_neg (by omega)]; rfl
  rw [e] at h; exact h
set_option maxHeartbeats 4000000 in
set_option maxRecDepth 1000000 in
theorem packG_walk (xs : List ByteArray) (bk o c : Nat) (w : World) (hcells : ∀ (j : Nat) x, xs[j]? = some x → w.cell? ⟨bk, o + j, none⟩ = some (.string x)) (hbk : bk < w.heap.size) (hsz : (packL xs).length ≤ 1073741824) (hL : LibT w) (hxl : xs.length ≤ 1073741824) :
    Calls Tryd.prog 27 #[.slice (some ⟨bk, o, none⟩) xs.length c] w fun e w' => e = .returned (.string ⟨(packL xs).toArray⟩) ∧ Below w.heap.size w w' := by
  go_enter Tryd.func27, Tryd.ntmps27
  go_wp2
  go_loopw [8] (fun i wr => ∃ k : Nat, k ≤ xs.length ∧ i = .int .i64 k ∧ Lib.IsBuilderF 80 5 w.heap.size w.heap.size (Lib.byteCells (packL (xs.take k))) wr ∧ Below w.heap.size w wr) (fun i _ => xs.length - (RowKit.intOf i).toNat)
  case atStart => exact ⟨0, Nat.zero_le _, rfl, Lib.IsBuilderF.of (Lib.fresh_isBuilder 80 5 w), (Below.refl _ w).alloc (Nat.le_refl _) _⟩
  case round =>
    obtain ⟨k, hk, rfl, hI, hbw⟩ := hrel
    have hbs := hbw.size
    by_cases hp : k < xs.length
    · obtain ⟨x, hx⟩ : ∃ x, xs[k]? = some x := ⟨xs[k], List.getElem?_eq_getElem hp⟩
      have hxm : x ∈ xs := List.mem_of_getElem? hx
      have hpx := pack_take xs k x hx
      have hple : (packL (xs.take (k + 1))).length ≤ (packL xs).length := by
        conv => rhs; rw [← List.take_append_drop (k + 1) xs, packL_append, List.length_append]
        omega
      have hpl := congrArg List.length hpx
      simp only [List.length_append, List.length_singleton, ← size_ba] at hpl
      have hc := hcells k x hx
      have hc2 : wr.cell? ⟨bk, o + k, none⟩ = some (.string x) := by
        rw [← hc]; unfold World.cell?; rw [hbw.block bk hbk]
      have hdA : (ByteArray.mk (Lib.decDigits x.size).toArray).size = (Lib.decDigits x.size).length := by rw [size_ba]
      have a1 := run_string_add_sum (P := Tryd.prog) wr ⟨(Lib.decDigits x.size).toArray⟩ ⟨#[58]⟩ (by rw [hdA]; show _ + 1 ≤ _; omega)
      have a2 := run_string_add_sum (P := Tryd.prog) wr (⟨(Lib.decDigits x.size).toArray⟩ ++ ⟨#[58]⟩) x (by rw [ByteArray.size_append, hdA]; show _ + 1 + _ ≤ _; omega)
      have a3 := run_string_add_sum (P := Tryd.prog) wr (⟨(Lib.decDigits x.size).toArray⟩ ++ ⟨#[58]⟩ ++ x) ⟨#[44]⟩ (by rw [ByteArray.size_append, ByteArray.size_append, hdA]; show _ + 1 + _ + 1 ≤ _; omega)
      go_wp2_with (first
        | (go_at_call 28; refine (num_nat x.size (by omega) _ (hL.below hbw)).mono ?_; rintro e w1 ⟨rfl, hb1⟩; have hI1 := hI.below hb1; have hbs1 := Nat.le_trans hbs hb1.size)
        | (go_at_call 37; refine (Any.Builder_WriteString_k laysWS extraWS w.heap.size w.heap.size _ _ _ hI1 ?_ hbs1).mono ?_))
      case refine_1 =>
        rw [Lib.byteCells_length, ByteArray.size_append, ByteArray.size_append, ByteArray.size_append, hdA]
        show _ + (_ + 1 + _ + 1) ≤ _
        omega
      case refine_2 =>
        rintro e W1 ⟨rfl, h1, b1, k1⟩
        go_wp2
        go_roundw
        case rel =>
          refine ⟨k + 1, by omega, (by simp [RowKit.wrap64]; try omega), ?_, (hbw.trans (hb1.mono hbs)).trans b1⟩
          rw [pack_take xs k x hx, Lib.byteCells_append]
          exact Or.inr h1
        case measure => simp [RowKit.intOf, RowKit.wrap64]; omega
    · go_wp2_with (go_at_call 38; refine (Any.Builder_String_any_k laysStr extraStr w.heap.size w.heap.size (packL (xs.take k)) _ hI hbs).mono ?_)
      rintro e W1 ⟨rfl, _, b1, _⟩
      go_wp2
      go_ret
      rw [List.take_of_length_le (by omega)]
      exact ⟨rfl, hbw.trans b1⟩
set_option maxHeartbeats 4000000 in
set_option maxRecDepth 1000000 in
theorem pack_nil (w : World) : Calls Tryd.prog 27 #[.slice none 0 0] w fun e w' => e = .returned (.string ⟨#[]⟩) ∧ Below w.heap.size w w' := by
  go_enter Tryd.func27, Tryd.ntmps27
  go_wp2
  go_loopw [8] (fun i wr => i = .int .i64 0 ∧ Lib.IsBuilderF 80 5 w.heap.size w.heap.size (Lib.byteCells []) wr ∧ Below w.heap.size w wr) (fun i _ => 0)
  case atStart => exact ⟨rfl, Lib.IsBuilderF.of (Lib.fresh_isBuilder 80 5 w), (Below.refl _ w).alloc (Nat.le_refl _) _⟩
  case round =>
    obtain ⟨rfl, hI, hbw⟩ := hrel
    have hbs := hbw.size
    go_wp2_with (go_at_call 38; refine (Any.Builder_String_any_k laysStr extraStr w.heap.size w.heap.size [] _ hI hbs).mono ?_)
    rintro e W1 ⟨rfl, _, b1, _⟩
    go_wp2
    go_ret
    exact ⟨rfl, hbw.trans b1⟩
/-- nest.Num of any number. -/
theorem numP_ok (n : Int) (hn : -9223372036854775808 ≤ n ∧ n < 9223372036854775808) : Eng.Spec Tryd.prog glP 28 [.d (.raw (.int .i64 n))] [] (.d (.raw (.string (numJ n)))) [] := by
  refine Spec.pureG fun w N E vs hg hvs hN => ?_
  rw [VAs_cons] at hvs
  obtain ⟨v, us, rfl, hv, hus⟩ := hvs
  obtain rfl : us = [] := by unfold VAs at hus; exact hus
  unfold VA at hv
  obtain rfl := (VD_raw_inv hv).1
  refine (num_walk n hn.1 (by omega) w (libT_of hg)).mono ?_
  rintro e w' ⟨rfl, hb⟩
  exact ⟨_, rfl, hb, by unfold VA; exact VD_raw rfl⟩
/-- nest.Pack of any texts. -/
theorem packP_ok (n : Nat) (el : Nat → D) (xs : List ByteArray) (hl : n = xs.length) (he : ∀ i, i < n → el i = strEl xs i) (hsz : (packL xs).length ≤ 1073741824) :
    Eng.Spec Tryd.prog glP 27 [.d (.list 1 n el)] [] (.d (.raw (.string (packB xs)))) [] := by
  refine Spec.pureG fun w N E vs hg hvs hN => ?_
  rw [VAs_cons] at hvs
  obtain ⟨v, us, rfl, hv, hus⟩ := hvs
  obtain rfl : us = [] := by unfold VAs at hus; exact hus
  have fin : (Calls Tryd.prog 27 #[v] w fun e w' => e = .returned (.string ⟨(packL xs).toArray⟩) ∧ Below w.heap.size w w') → Calls Tryd.prog 27 #[v] w fun e w' => ∃ v, e = .returned v ∧ Below w.heap.size w w' ∧ VA E w' (fun b => b < w'.heap.size ∧ (N b ∨ w.heap.size ≤ b)) (.d (.raw (.string (packB xs)))) v := fun h => h.mono fun e w' h => ⟨_, h.1, h.2, by unfold VA; exact VD_raw rfl⟩
  unfold VA at hv
  unfold VD at hv
  unfold VC at hv
  obtain ⟨v', hv', hv⟩ := hv
  obtain rfl : v = v' := by simpa using hv'
  rcases hv with ⟨h0, rfl⟩ | ⟨ad, cap, cs, rfl, hcap, _, hsp, hb, hlen, hcell, hel⟩
  · have : xs = [] := List.length_eq_zero_iff.1 (by omega)
    subst this
    exact fin (pack_nil w)
  · rcases ad with ⟨bk, o, sp⟩
    cases hsp
    subst hl
    refine fin (packG_walk xs bk o cap w (fun j x hx => ?_) (hN _ hb) hsz (libT_of hg) (Nat.le_trans (packL_ge' xs) hsz))
    have hj := (List.getElem?_eq_some_iff.1 hx).1
    have h2 := hel j hj
    rw [he j hj] at h2
    unfold strEl VC at h2
    have h3 : cs[j]? = some (.string x) := by
      have := congrArg (·[0]?) h2.1
      simp only [Nat.mul_one, List.getElem?_take, List.getElem?_drop, Nat.add_zero, List.getElem?_cons_zero] at this
      rw [if_pos (by omega)] at this
      rw [this, List.getD_eq_getElem?_getD, hx]; rfl
    have h4 := hcell j _ h3
    unfold Addr.add at h4
    split at h4
    · rename_i e; subst e; exact h4
    · exact h4
theorem numG_ok (m : Int) (e1 e2 : Value) (h1 : ErrV e1) (h2 : ErrV e2) (n : Int) (hn : -9223372036854775808 ≤ n ∧ n < 9223372036854775808) : Eng.Spec Tryd.prog (glU m e1 e2) 28 [.d (.raw (.int .i64 n))] [] (.d (.raw (.string (numJ n)))) [] := Spec.mono (pU m e1 e2) (numP_ok n hn)
theorem packG_ok (m : Int) (e1 e2 : Value) (h1 : ErrV e1) (h2 : ErrV e2) (n : Nat) (el : Nat → D) (xs : List ByteArray) (hl : n = xs.length) (he : ∀ i, i < n → el i = strEl xs i) (hsz : (packL xs).length ≤ 1073741824) :
    Eng.Spec Tryd.prog (glU m e1 e2) 27 [.d (.list 1 n el)] [] (.d (.raw (.string (packB xs)))) [] := Spec.mono (pU m e1 e2) (packP_ok n el xs hl he hsz)
end Go.Nest
