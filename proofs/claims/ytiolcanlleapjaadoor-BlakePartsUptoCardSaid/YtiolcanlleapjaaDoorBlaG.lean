/-
  Contracts of given functions, or plain laws that they need. No condition.
-/
import Derived.Test.YtiolcanlleapjaaDoorBlaM
namespace Go.Bla
open Go Go.Eng
set_option maxRecDepth 100000
def gl : Nat → Option (List D) := fun g =>
  if g == 0 then some (ivM.map wd)
  else if g == 1 then some [.raw (.string ⟨#[48, 49, 50, 51, 52, 53, 54, 55, 56, 57, 97, 98, 99, 100, 101, 102]⟩), .raw (.string ⟨#[101, 97, 52, 56, 57, 102, 100, 54, 49, 99, 48, 50, 98, 55, 53, 51]⟩), .raw (.string ⟨#[98, 56, 99, 48, 53, 50, 102, 100, 97, 101, 51, 54, 55, 49, 57, 52]⟩), .raw (.string ⟨#[55, 57, 51, 49, 100, 99, 98, 101, 50, 54, 53, 97, 52, 48, 102, 56]⟩), .raw (.string ⟨#[57, 48, 53, 55, 50, 52, 97, 102, 101, 49, 98, 99, 54, 56, 51, 100]⟩), .raw (.string ⟨#[50, 99, 54, 97, 48, 98, 56, 51, 52, 100, 55, 53, 102, 101, 49, 57]⟩), .raw (.string ⟨#[99, 53, 49, 102, 101, 100, 52, 97, 48, 55, 54, 51, 57, 50, 56, 98]⟩), .raw (.string ⟨#[100, 98, 55, 101, 99, 49, 51, 57, 53, 48, 102, 52, 56, 54, 50, 97]⟩), .raw (.string ⟨#[54, 102, 101, 57, 98, 51, 48, 56, 99, 50, 100, 55, 49, 52, 97, 53]⟩), .raw (.string ⟨#[97, 50, 56, 52, 55, 54, 49, 53, 102, 98, 57, 101, 51, 99, 100, 48]⟩)]
  else none
def O1 : Orc := (Orc.none gl).add 25 false mRot
def O2 : Orc := O1.add 20 false mHalf
def O3 : Orc := O2.add 21 false mDig
end Go.Bla
