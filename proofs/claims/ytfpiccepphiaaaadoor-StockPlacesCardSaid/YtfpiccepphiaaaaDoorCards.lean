/-
  DERIVED. GIVEN WITH THE SEED: THE CARDS: each row of YtfpiccepphiaaaaDoorRows.lean that lists a variable, with what it lists TIED to the program's text (the seventh form; the later family's looks); each row that meets fmt, with fmt's text TOLD by the authors' own Lean function (tested against real Go, not proved from fmt's source: count such statements apart). THE CARD IS WHAT COUNTS. Prove the row's statement (the work); the ties are given (YtfpiccepphiaaaaDoorTie.lean); close each card by the builder's one call (the guide's Derived/Test/ToyasCard.lean, 'card_holds'). Laid BY PROGRAM, IN A SANDBOX (cutbox-door.mjs). By AI agents, Wed Nov 11 2026. No macro, syntax, notation, axiom, sorry.
-/
import Derived.Test.YtfpiccepphiaaaaDoorRows
import GoSem.ClaimSeven
namespace Go.Proofs.YtfpiccepphiaaaaDoor
namespace Rows

/-- THE TIED CARD OF 'wapentakelaw16.StockPlaces'. -/
def stockPlacesCard : Claim7 := { stood := { row := stockPlacesRow, standIns := [], harness := (true, "baeb8dde273d303e355025214de6f0d1e4fe76f287473f567ace6b68a4c78b36"), looks := true }, kinds := [], alts := [], laidByText := true, laidKinds := [.data, .data, .data, .data, .data], laidTests := true, laidLooks := .later }
def StockPlacesCardSaid : Prop := Claim7.holds Tryd.pinned (.plain (OpenSpec.ofChange stockPlacesSpec)) stockPlacesCard

/-- THE TIED CARD OF 'wapentakelaw16.StockClaims'. -/
def stockClaimsCard : Claim7 := { stood := { row := stockClaimsRow, standIns := [], harness := (true, "baeb8dde273d303e355025214de6f0d1e4fe76f287473f567ace6b68a4c78b36"), looks := true }, kinds := [], alts := [], laidByText := true, laidKinds := [.data, .data, .data, .sentinel, .sentinel], laidTests := true, laidLooks := .later }
def StockClaimsCardSaid : Prop := Claim7.holds Tryd.pinned (.plain (OpenSpec.ofChange stockClaimsSpec)) stockClaimsCard

/-- THE SECOND FORM's CARD OF 'wapentakelaw16.StockPlaces'. -/
def stockPlacesUptoCard : Claim7 := { stood := { row := stockPlacesUptoRow, standIns := [], harness := (true, "baeb8dde273d303e355025214de6f0d1e4fe76f287473f567ace6b68a4c78b36"), looks := true }, kinds := [], alts := [], laidByText := true, laidKinds := [.data, .data, .data, .data, .data], laidTests := true, laidLooks := .later }
def StockPlacesUptoCardSaid : Prop := Claim7.holds Tryd.pinned (.plain (OpenSpec.upto stockPlacesSpec)) stockPlacesUptoCard

/-- THE SECOND FORM's CARD OF 'wapentakelaw16.StockClaims'. -/
def stockClaimsUptoCard : Claim7 := { stood := { row := stockClaimsUptoRow, standIns := [], harness := (true, "baeb8dde273d303e355025214de6f0d1e4fe76f287473f567ace6b68a4c78b36"), looks := true }, kinds := [], alts := [], laidByText := true, laidKinds := [.data, .data, .data, .sentinel, .sentinel], laidTests := true, laidLooks := .later }
def StockClaimsUptoCardSaid : Prop := Claim7.holds Tryd.pinned (.plain (OpenSpec.upto stockClaimsSpec)) stockClaimsUptoCard
end Rows
end Go.Proofs.YtfpiccepphiaaaaDoor
