/-
  DERIVED. GIVEN WITH THE SEED: THE CARDS: each row of YtbppcjkpkelbfaaDoorRows.lean that lists a variable, with what it lists TIED to the program's text (the seventh form; the later family's looks); each row that meets fmt, with fmt's text TOLD by the authors' own Lean function (tested against real Go, not proved from fmt's source: count such statements apart). THE CARD IS WHAT COUNTS. Prove the row's statement (the work); the ties are given (YtbppcjkpkelbfaaDoorTie.lean); close each card by the builder's one call (the guide's Derived/Test/ToyasCard.lean, 'card_holds'). Laid BY PROGRAM, IN A SANDBOX (cutbox-door.mjs). By AI agents, Wed Nov 11 2026. No macro, syntax, notation, axiom, sorry.
-/
import Derived.Test.YtbppcjkpkelbfaaDoorRows
import GoSem.ClaimSeven
namespace Go.Proofs.YtbppcjkpkelbfaaDoor
namespace Rows

/-- THE TIED CARD OF 'wapentakelaw27.PleaSplits'. -/
def pleaSplitsCard : Claim7 := { stood := { row := pleaSplitsRow, standIns := [], harness := (true, "62483f0b59932d7076d2639119ee15d3e7a00e80491bacfd5eb19c9425a59e27"), looks := false }, kinds := [], alts := [], laidByText := true, laidKinds := [.data, .data], laidTests := true, laidLooks := .later }
def PleaSplitsCardSaid : Prop := Claim7.holds Tryd.pinned (.plain (OpenSpec.ofChange pleaSplitsSpec)) pleaSplitsCard

/-- THE TIED CARD OF 'wapentakelaw24.ProofChecks'. -/
def proofChecksCard : Claim7 := { stood := { row := proofChecksRow, standIns := [], harness := (true, "62483f0b59932d7076d2639119ee15d3e7a00e80491bacfd5eb19c9425a59e27"), looks := false }, kinds := [], alts := [], laidByText := true, laidKinds := [.data, .data], laidTests := true, laidLooks := .later }
def ProofChecksCardSaid : Prop := Claim7.holds Tryd.pinned (.plain (OpenSpec.ofChange proofChecksSpec)) proofChecksCard

/-- THE TIED CARD OF 'wapentakelaw24.ProofOne'. -/
def proofOneCard : Claim7 := { stood := { row := proofOneRow, standIns := [], harness := (true, "62483f0b59932d7076d2639119ee15d3e7a00e80491bacfd5eb19c9425a59e27"), looks := false }, kinds := [], alts := [], laidByText := true, laidKinds := [.data, .data], laidTests := true, laidLooks := .later }
def ProofOneCardSaid : Prop := Claim7.holds Tryd.pinned (.plain (OpenSpec.ofChange proofOneSpec)) proofOneCard

/-- THE TIED CARD OF 'wapentakelaw24.ProofReplays'. -/
def proofReplaysCard : Claim7 := { stood := { row := proofReplaysRow, standIns := [], harness := (true, "62483f0b59932d7076d2639119ee15d3e7a00e80491bacfd5eb19c9425a59e27"), looks := false }, kinds := [], alts := [], laidByText := true, laidKinds := [.data, .data], laidTests := true, laidLooks := .later }
def ProofReplaysCardSaid : Prop := Claim7.holds Tryd.pinned (.plain (OpenSpec.ofChange proofReplaysSpec)) proofReplaysCard

/-- THE TIED CARD OF 'wapentakelaw24.ProofOrder'. -/
def proofOrderCard : Claim7 := { stood := { row := proofOrderRow, standIns := [], harness := (true, "62483f0b59932d7076d2639119ee15d3e7a00e80491bacfd5eb19c9425a59e27"), looks := false }, kinds := [], alts := [], laidByText := true, laidKinds := [.data, .data], laidTests := true, laidLooks := .later }
def ProofOrderCardSaid : Prop := Claim7.holds Tryd.pinned (.plain (OpenSpec.ofChange proofOrderSpec)) proofOrderCard

/-- THE TIED CARD OF 'wapentakelaw27.PleaChecks'. -/
def pleaChecksCard : Claim7 := { stood := { row := pleaChecksRow, standIns := [], harness := (true, "62483f0b59932d7076d2639119ee15d3e7a00e80491bacfd5eb19c9425a59e27"), looks := false }, kinds := [], alts := [], laidByText := true, laidKinds := [.data, .data], laidTests := true, laidLooks := .later }
def PleaChecksCardSaid : Prop := Claim7.holds Tryd.pinned (.plain (OpenSpec.ofChange pleaChecksSpec)) pleaChecksCard

/-- THE TIED CARD OF 'wapentakelaw27.PleaLocal'. -/
def pleaLocalCard : Claim7 := { stood := { row := pleaLocalRow, standIns := [], harness := (true, "62483f0b59932d7076d2639119ee15d3e7a00e80491bacfd5eb19c9425a59e27"), looks := false }, kinds := [], alts := [], laidByText := true, laidKinds := [.data, .data], laidTests := true, laidLooks := .later }
def PleaLocalCardSaid : Prop := Claim7.holds Tryd.pinned (.plain (OpenSpec.ofChange pleaLocalSpec)) pleaLocalCard

/-- THE SECOND FORM's CARD OF 'wapentakelaw27.PleaSplits'. -/
def pleaSplitsUptoCard : Claim7 := { stood := { row := pleaSplitsUptoRow, standIns := [], harness := (true, "62483f0b59932d7076d2639119ee15d3e7a00e80491bacfd5eb19c9425a59e27"), looks := false }, kinds := [], alts := [], laidByText := true, laidKinds := [.data, .data], laidTests := true, laidLooks := .later }
def PleaSplitsUptoCardSaid : Prop := Claim7.holds Tryd.pinned (.plain (OpenSpec.upto pleaSplitsSpec)) pleaSplitsUptoCard

/-- THE SECOND FORM's CARD OF 'wapentakelaw24.ProofChecks'. -/
def proofChecksUptoCard : Claim7 := { stood := { row := proofChecksUptoRow, standIns := [], harness := (true, "62483f0b59932d7076d2639119ee15d3e7a00e80491bacfd5eb19c9425a59e27"), looks := false }, kinds := [], alts := [], laidByText := true, laidKinds := [.data, .data], laidTests := true, laidLooks := .later }
def ProofChecksUptoCardSaid : Prop := Claim7.holds Tryd.pinned (.plain (OpenSpec.upto proofChecksSpec)) proofChecksUptoCard

/-- THE SECOND FORM's CARD OF 'wapentakelaw24.ProofOne'. -/
def proofOneUptoCard : Claim7 := { stood := { row := proofOneUptoRow, standIns := [], harness := (true, "62483f0b59932d7076d2639119ee15d3e7a00e80491bacfd5eb19c9425a59e27"), looks := false }, kinds := [], alts := [], laidByText := true, laidKinds := [.data, .data], laidTests := true, laidLooks := .later }
def ProofOneUptoCardSaid : Prop := Claim7.holds Tryd.pinned (.plain (OpenSpec.upto proofOneSpec)) proofOneUptoCard

/-- THE SECOND FORM's CARD OF 'wapentakelaw24.ProofReplays'. -/
def proofReplaysUptoCard : Claim7 := { stood := { row := proofReplaysUptoRow, standIns := [], harness := (true, "62483f0b59932d7076d2639119ee15d3e7a00e80491bacfd5eb19c9425a59e27"), looks := false }, kinds := [], alts := [], laidByText := true, laidKinds := [.data, .data], laidTests := true, laidLooks := .later }
def ProofReplaysUptoCardSaid : Prop := Claim7.holds Tryd.pinned (.plain (OpenSpec.upto proofReplaysSpec)) proofReplaysUptoCard

/-- THE SECOND FORM's CARD OF 'wapentakelaw24.ProofOrder'. -/
def proofOrderUptoCard : Claim7 := { stood := { row := proofOrderUptoRow, standIns := [], harness := (true, "62483f0b59932d7076d2639119ee15d3e7a00e80491bacfd5eb19c9425a59e27"), looks := false }, kinds := [], alts := [], laidByText := true, laidKinds := [.data, .data], laidTests := true, laidLooks := .later }
def ProofOrderUptoCardSaid : Prop := Claim7.holds Tryd.pinned (.plain (OpenSpec.upto proofOrderSpec)) proofOrderUptoCard

/-- THE SECOND FORM's CARD OF 'wapentakelaw27.PleaChecks'. -/
def pleaChecksUptoCard : Claim7 := { stood := { row := pleaChecksUptoRow, standIns := [], harness := (true, "62483f0b59932d7076d2639119ee15d3e7a00e80491bacfd5eb19c9425a59e27"), looks := false }, kinds := [], alts := [], laidByText := true, laidKinds := [.data, .data], laidTests := true, laidLooks := .later }
def PleaChecksUptoCardSaid : Prop := Claim7.holds Tryd.pinned (.plain (OpenSpec.upto pleaChecksSpec)) pleaChecksUptoCard

/-- THE SECOND FORM's CARD OF 'wapentakelaw27.PleaLocal'. -/
def pleaLocalUptoCard : Claim7 := { stood := { row := pleaLocalUptoRow, standIns := [], harness := (true, "62483f0b59932d7076d2639119ee15d3e7a00e80491bacfd5eb19c9425a59e27"), looks := false }, kinds := [], alts := [], laidByText := true, laidKinds := [.data, .data], laidTests := true, laidLooks := .later }
def PleaLocalUptoCardSaid : Prop := Claim7.holds Tryd.pinned (.plain (OpenSpec.upto pleaLocalSpec)) pleaLocalUptoCard
end Rows
end Go.Proofs.YtbppcjkpkelbfaaDoor
