/-
  DERIVED. GIVEN WITH THE SEED: THE CARDS: each row of YtmgfgcoeflanmaaDoorRows.lean that lists a variable, with what it lists TIED to the program's text (the seventh form; the later family's looks); each row that meets fmt, with fmt's text TOLD by the authors' own Lean function (tested against real Go, not proved from fmt's source: count such statements apart). THE CARD IS WHAT COUNTS. Prove the row's statement (the work); the ties are given (YtmgfgcoeflanmaaDoorTie.lean); close each card by the builder's one call (the guide's Derived/Test/ToyasCard.lean, 'card_holds'). Laid BY PROGRAM, IN A SANDBOX (cutbox-door.mjs). By AI agents, Wed Nov 11 2026. No macro, syntax, notation, axiom, sorry.
-/
import Derived.Test.YtmgfgcoeflanmaaDoorRows
import GoSem.ClaimSeven
namespace Go.Proofs.YtmgfgcoeflanmaaDoor
namespace Rows

/-- THE TIED CARD OF 'wapentakelaw03.SealTags'. -/
def sealTagsCard : Claim7 := { stood := { row := sealTagsRow, standIns := [], harness := (true, "1a1d079ba11992b3c3f3dc90ad9451c6c84ac54a2fd355c12c25bf8c5d8cc06e"), looks := true }, kinds := [], alts := [], laidByText := true, laidKinds := [.data, .data, .data, .data, .data], laidTests := true, laidLooks := .later }
def SealTagsCardSaid : Prop := Claim7.holds Tryd.pinned (.plain (OpenSpec.ofChange sealTagsSpec)) sealTagsCard

/-- THE TIED CARD OF 'wapentakelaw03.SealNil'. -/
def sealNilCard : Claim7 := { stood := { row := sealNilRow, standIns := [], harness := (true, "1a1d079ba11992b3c3f3dc90ad9451c6c84ac54a2fd355c12c25bf8c5d8cc06e"), looks := true }, kinds := [], alts := [], laidByText := true, laidKinds := [.data, .data, .data, .data, .data], laidTests := true, laidLooks := .later }
def SealNilCardSaid : Prop := Claim7.holds Tryd.pinned (.plain (OpenSpec.ofChange sealNilSpec)) sealNilCard

/-- THE TIED CARD OF 'wapentakelaw03.SealNames'. -/
def sealNamesCard : Claim7 := { stood := { row := sealNamesRow, standIns := [], harness := (true, "1a1d079ba11992b3c3f3dc90ad9451c6c84ac54a2fd355c12c25bf8c5d8cc06e"), looks := true }, kinds := [], alts := [], laidByText := true, laidKinds := [.data, .data, .data, .sentinel, .sentinel, .data, .data], laidTests := true, laidLooks := .later }
def SealNamesCardSaid : Prop := Claim7.holds Tryd.pinned (.plain (OpenSpec.ofChange sealNamesSpec)) sealNamesCard

/-- THE TIED CARD OF 'wapentakelaw03.SealBytes'. -/
def sealBytesCard : Claim7 := { stood := { row := sealBytesRow, standIns := [], harness := (true, "1a1d079ba11992b3c3f3dc90ad9451c6c84ac54a2fd355c12c25bf8c5d8cc06e"), looks := true }, kinds := [], alts := [], laidByText := true, laidKinds := [.data, .data, .data, .sentinel, .sentinel, .data, .data], laidTests := true, laidLooks := .later }
def SealBytesCardSaid : Prop := Claim7.holds Tryd.pinned (.plain (OpenSpec.ofChange sealBytesSpec)) sealBytesCard

/-- THE TIED CARD OF 'wapentakelaw03.SealHolds'. -/
def sealHoldsCard : Claim7 := { stood := { row := sealHoldsRow, standIns := [], harness := (true, "1a1d079ba11992b3c3f3dc90ad9451c6c84ac54a2fd355c12c25bf8c5d8cc06e"), looks := true }, kinds := [], alts := [], laidByText := true, laidKinds := [.data, .data, .data, .sentinel, .sentinel, .data, .data], laidTests := true, laidLooks := .later }
def SealHoldsCardSaid : Prop := Claim7.holds Tryd.pinned (.plain (OpenSpec.ofChange sealHoldsSpec)) sealHoldsCard

/-- THE SECOND FORM's CARD OF 'wapentakelaw03.SealTags'. -/
def sealTagsUptoCard : Claim7 := { stood := { row := sealTagsUptoRow, standIns := [], harness := (true, "1a1d079ba11992b3c3f3dc90ad9451c6c84ac54a2fd355c12c25bf8c5d8cc06e"), looks := true }, kinds := [], alts := [], laidByText := true, laidKinds := [.data, .data, .data, .data, .data], laidTests := true, laidLooks := .later }
def SealTagsUptoCardSaid : Prop := Claim7.holds Tryd.pinned (.plain (OpenSpec.upto sealTagsSpec)) sealTagsUptoCard

/-- THE SECOND FORM's CARD OF 'wapentakelaw03.SealNil'. -/
def sealNilUptoCard : Claim7 := { stood := { row := sealNilUptoRow, standIns := [], harness := (true, "1a1d079ba11992b3c3f3dc90ad9451c6c84ac54a2fd355c12c25bf8c5d8cc06e"), looks := true }, kinds := [], alts := [], laidByText := true, laidKinds := [.data, .data, .data, .data, .data], laidTests := true, laidLooks := .later }
def SealNilUptoCardSaid : Prop := Claim7.holds Tryd.pinned (.plain (OpenSpec.upto sealNilSpec)) sealNilUptoCard

/-- THE SECOND FORM's CARD OF 'wapentakelaw03.SealNames'. -/
def sealNamesUptoCard : Claim7 := { stood := { row := sealNamesUptoRow, standIns := [], harness := (true, "1a1d079ba11992b3c3f3dc90ad9451c6c84ac54a2fd355c12c25bf8c5d8cc06e"), looks := true }, kinds := [], alts := [], laidByText := true, laidKinds := [.data, .data, .data, .sentinel, .sentinel, .data, .data], laidTests := true, laidLooks := .later }
def SealNamesUptoCardSaid : Prop := Claim7.holds Tryd.pinned (.plain (OpenSpec.upto sealNamesSpec)) sealNamesUptoCard

/-- THE SECOND FORM's CARD OF 'wapentakelaw03.SealBytes'. -/
def sealBytesUptoCard : Claim7 := { stood := { row := sealBytesUptoRow, standIns := [], harness := (true, "1a1d079ba11992b3c3f3dc90ad9451c6c84ac54a2fd355c12c25bf8c5d8cc06e"), looks := true }, kinds := [], alts := [], laidByText := true, laidKinds := [.data, .data, .data, .sentinel, .sentinel, .data, .data], laidTests := true, laidLooks := .later }
def SealBytesUptoCardSaid : Prop := Claim7.holds Tryd.pinned (.plain (OpenSpec.upto sealBytesSpec)) sealBytesUptoCard

/-- THE SECOND FORM's CARD OF 'wapentakelaw03.SealHolds'. -/
def sealHoldsUptoCard : Claim7 := { stood := { row := sealHoldsUptoRow, standIns := [], harness := (true, "1a1d079ba11992b3c3f3dc90ad9451c6c84ac54a2fd355c12c25bf8c5d8cc06e"), looks := true }, kinds := [], alts := [], laidByText := true, laidKinds := [.data, .data, .data, .sentinel, .sentinel, .data, .data], laidTests := true, laidLooks := .later }
def SealHoldsUptoCardSaid : Prop := Claim7.holds Tryd.pinned (.plain (OpenSpec.upto sealHoldsSpec)) sealHoldsUptoCard
end Rows
end Go.Proofs.YtmgfgcoeflanmaaDoor
