/-
  DERIVED. GIVEN WITH THE SEED: THE CARDS: each row of YtiolcanlleapjaaDoorRows.lean that lists a variable, with what it lists TIED to the program's text (the seventh form; the later family's looks); each row that meets fmt, with fmt's text TOLD by the authors' own Lean function (tested against real Go, not proved from fmt's source: count such statements apart). THE CARD IS WHAT COUNTS. Prove the row's statement (the work); the ties are given (YtiolcanlleapjaaDoorTie.lean); close each card by the builder's one call (the guide's Derived/Test/ToyasCard.lean, 'card_holds'). Laid BY PROGRAM, IN A SANDBOX (cutbox-door.mjs). By AI agents, Wed Nov 11 2026. No macro, syntax, notation, axiom, sorry.
-/
import Derived.Test.YtiolcanlleapjaaDoorRows
import GoSem.ClaimSeven
namespace Go.Proofs.YtiolcanlleapjaaDoor
namespace Rows

/-- THE TIED CARD OF 'wapentakelaw02.BlakeSums'. -/
def blakeSumsCard : Claim7 := { stood := { row := blakeSumsRow, standIns := [], harness := (true, "d4671d49738bdb9caaeb0baa4b7a1c894c522eddd2849a84e504ab73039d93b1"), looks := false }, kinds := [], alts := [], laidByText := true, laidKinds := [.data, .data], laidTests := true, laidLooks := .later }
def BlakeSumsCardSaid : Prop := Claim7.holds Tryd.pinned (.plain (OpenSpec.ofChange blakeSumsSpec)) blakeSumsCard

/-- THE TIED CARD OF 'wapentakelaw02.BlakeLengths'. -/
def blakeLengthsCard : Claim7 := { stood := { row := blakeLengthsRow, standIns := [], harness := (true, "d4671d49738bdb9caaeb0baa4b7a1c894c522eddd2849a84e504ab73039d93b1"), looks := false }, kinds := [], alts := [], laidByText := true, laidKinds := [.data, .data], laidTests := true, laidLooks := .later }
def BlakeLengthsCardSaid : Prop := Claim7.holds Tryd.pinned (.plain (OpenSpec.ofChange blakeLengthsSpec)) blakeLengthsCard

/-- THE TIED CARD OF 'wapentakelaw02.BlakeParts'. -/
def blakePartsCard : Claim7 := { stood := { row := blakePartsRow, standIns := [], harness := (true, "d4671d49738bdb9caaeb0baa4b7a1c894c522eddd2849a84e504ab73039d93b1"), looks := false }, kinds := [], alts := [], laidByText := true, laidKinds := [.data, .data], laidTests := true, laidLooks := .later }
def BlakePartsCardSaid : Prop := Claim7.holds Tryd.pinned (.plain (OpenSpec.ofChange blakePartsSpec)) blakePartsCard

/-- THE SECOND FORM's CARD OF 'wapentakelaw02.BlakeSums'. -/
def blakeSumsUptoCard : Claim7 := { stood := { row := blakeSumsUptoRow, standIns := [], harness := (true, "d4671d49738bdb9caaeb0baa4b7a1c894c522eddd2849a84e504ab73039d93b1"), looks := false }, kinds := [], alts := [], laidByText := true, laidKinds := [.data, .data], laidTests := true, laidLooks := .later }
def BlakeSumsUptoCardSaid : Prop := Claim7.holds Tryd.pinned (.plain (OpenSpec.upto blakeSumsSpec)) blakeSumsUptoCard

/-- THE SECOND FORM's CARD OF 'wapentakelaw02.BlakeLengths'. -/
def blakeLengthsUptoCard : Claim7 := { stood := { row := blakeLengthsUptoRow, standIns := [], harness := (true, "d4671d49738bdb9caaeb0baa4b7a1c894c522eddd2849a84e504ab73039d93b1"), looks := false }, kinds := [], alts := [], laidByText := true, laidKinds := [.data, .data], laidTests := true, laidLooks := .later }
def BlakeLengthsUptoCardSaid : Prop := Claim7.holds Tryd.pinned (.plain (OpenSpec.upto blakeLengthsSpec)) blakeLengthsUptoCard

/-- THE SECOND FORM's CARD OF 'wapentakelaw02.BlakeParts'. -/
def blakePartsUptoCard : Claim7 := { stood := { row := blakePartsUptoRow, standIns := [], harness := (true, "d4671d49738bdb9caaeb0baa4b7a1c894c522eddd2849a84e504ab73039d93b1"), looks := false }, kinds := [], alts := [], laidByText := true, laidKinds := [.data, .data], laidTests := true, laidLooks := .later }
def BlakePartsUptoCardSaid : Prop := Claim7.holds Tryd.pinned (.plain (OpenSpec.upto blakePartsSpec)) blakePartsUptoCard
end Rows
end Go.Proofs.YtiolcanlleapjaaDoor
