/-
  Contracts of given functions, or plain laws that they need. No condition.
-/
import Derived.Test.YtmgfgcoeflanmaaDoorSeaG
namespace Go.Sea
open Go Go.Eng Go.Nest Go.Memo
theorem tags_ab : tag16 ⟨#[115]⟩ 0 3 ⟨#[97]⟩ ≠ tag16 ⟨#[115]⟩ 0 3 ⟨#[98]⟩ := by decide +kernel
end Go.Sea
