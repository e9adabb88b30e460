/-
  DERIVED. GIVEN WITH THE SEED: THE CARDS: each row of YtbcgfjpgbhoaeaaDoorRows.lean that lists a variable, with what it lists TIED to the program's text (the seventh form; the later family's looks); each row that meets fmt, with fmt's text TOLD by the authors' own Lean function (tested against real Go, not proved from fmt's source: count such statements apart). THE CARD IS WHAT COUNTS. Prove the row's statement (the work); the ties are given (YtbcgfjpgbhoaeaaDoorTie.lean); close each card by the builder's one call (the guide's Derived/Test/ToyasCard.lean, 'card_holds'). Laid BY PROGRAM, IN A SANDBOX (cutbox-door.mjs). By AI agents, Wed Nov 11 2026. No macro, syntax, notation, axiom, sorry.
-/
import Derived.Test.YtbcgfjpgbhoaeaaDoorRows
import GoSem.ClaimSeven
namespace Go.Proofs.YtbcgfjpgbhoaeaaDoor
namespace Rows

/-- THE TIED CARD OF 'wapentakelaw19.MemoBytes'. -/
def memoBytesCard : Claim7 := { stood := { row := memoBytesRow, standIns := [], harness := (true, "9f675ddf62b2fa6706eedc4897f984f772c69bbcda5deec90f8c3b897d986584"), looks := true }, kinds := [], alts := [], laidByText := true, laidKinds := [.data, .data, .data, .sentinel, .sentinel], laidTests := true, laidLooks := .later }
def MemoBytesCardSaid : Prop := Claim7.holds Tryd.pinned (.plain (OpenSpec.ofChange memoBytesSpec)) memoBytesCard

/-- THE TIED CARD OF 'wapentakelaw19.MemoApart'. -/
def memoApartCard : Claim7 := { stood := { row := memoApartRow, standIns := [], harness := (true, "9f675ddf62b2fa6706eedc4897f984f772c69bbcda5deec90f8c3b897d986584"), looks := true }, kinds := [], alts := [], laidByText := true, laidKinds := [.data, .data, .data, .sentinel, .sentinel], laidTests := true, laidLooks := .later }
def MemoApartCardSaid : Prop := Claim7.holds Tryd.pinned (.plain (OpenSpec.ofChange memoApartSpec)) memoApartCard

/-- THE SECOND FORM's CARD OF 'wapentakelaw19.MemoBytes'. -/
def memoBytesUptoCard : Claim7 := { stood := { row := memoBytesUptoRow, standIns := [], harness := (true, "9f675ddf62b2fa6706eedc4897f984f772c69bbcda5deec90f8c3b897d986584"), looks := true }, kinds := [], alts := [], laidByText := true, laidKinds := [.data, .data, .data, .sentinel, .sentinel], laidTests := true, laidLooks := .later }
def MemoBytesUptoCardSaid : Prop := Claim7.holds Tryd.pinned (.plain (OpenSpec.upto memoBytesSpec)) memoBytesUptoCard

/-- THE SECOND FORM's CARD OF 'wapentakelaw19.MemoApart'. -/
def memoApartUptoCard : Claim7 := { stood := { row := memoApartUptoRow, standIns := [], harness := (true, "9f675ddf62b2fa6706eedc4897f984f772c69bbcda5deec90f8c3b897d986584"), looks := true }, kinds := [], alts := [], laidByText := true, laidKinds := [.data, .data, .data, .sentinel, .sentinel], laidTests := true, laidLooks := .later }
def MemoApartUptoCardSaid : Prop := Claim7.holds Tryd.pinned (.plain (OpenSpec.upto memoApartSpec)) memoApartUptoCard
end Rows
end Go.Proofs.YtbcgfjpgbhoaeaaDoor
