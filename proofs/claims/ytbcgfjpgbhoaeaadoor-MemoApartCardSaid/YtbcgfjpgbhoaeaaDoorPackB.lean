/-
  Contracts of given functions, or plain laws that they need. No condition.
-/
import Derived.Test.YtbcgfjpgbhoaeaaDoorNestG
import Derived.Test.YtbcgfjpgbhoaeaaDoorRowU
namespace Go.Nest
open Go Go.Eng
set_option linter.unusedVariables false
theorem packL_append : ∀ a b : List ByteArray, packL (a ++ b) = packL a ++ packL b
  | [], b => rfl
  | x :: a, b => by simp [packL, packL_append a b]
theorem pack_take (xs : List ByteArray) (k : Nat) (x : ByteArray) (h : xs[k]? = some x) : packL (xs.take (k + 1)) = packL (xs.take k) ++ (Lib.decDigits x.size ++ [58] ++ x.data.toList ++ [44]) := by
  rw [List.take_add_one, h, packL_append]; simp [packL]
theorem dec_len : ∀ i, i < 100 → (Lib.decDigits i).length ≤ 2 := by decide +kernel
theorem packL_len : ∀ xs : List ByteArray, (∀ x ∈ xs, x.size < 100) → (packL xs).length ≤ 104 * xs.length
  | [], _ => by simp [packL]
  | x :: xs, h => by
    have h1 := packL_len xs fun y hy => h y (List.mem_cons_of_mem _ hy)
    have h2 := h x (List.mem_cons_self ..)
    have h3 := dec_len x.size h2
    rw [size_ba] at h2
    simp only [packL, List.length_append, List.length_cons, List.length_nil]
    omega
theorem packL_ge' : ∀ r : List ByteArray, r.length ≤ (packL r).length
  | [] => Nat.zero_le _
  | x :: r => by
    have := packL_ge' r
    simp [packL]; omega
end Go.Nest
