/-
  DERIVED. GIVEN WITH THE SEED: THE CARDS: each row of YtbnfeabagcnacaaDoorRows.lean that lists a variable, with what it lists TIED to the program's text (the seventh form; the later family's looks); each row that meets fmt, with fmt's text TOLD by the authors' own Lean function (tested against real Go, not proved from fmt's source: count such statements apart). THE CARD IS WHAT COUNTS. Prove the row's statement (the work); the ties are given (YtbnfeabagcnacaaDoorTie.lean); close each card by the builder's one call (the guide's Derived/Test/ToyasCard.lean, 'card_holds'). Laid BY PROGRAM, IN A SANDBOX (cutbox-door.mjs). By AI agents, Wed Nov 11 2026. No macro, syntax, notation, axiom, sorry.
-/
import Derived.Test.YtbnfeabagcnacaaDoorRows
import GoSem.ClaimSeven
namespace Go.Proofs.YtbnfeabagcnacaaDoor
namespace Rows

/-- THE TIED CARD OF 'wapentakelaw14.ShardWay'. -/
def shardWayCard : Claim7 := { stood := { row := shardWayRow, standIns := [], harness := (true, "4269abff2452276a844353bde3c0d8db2b821f4fe04cf6497775b27df61b78de"), looks := true }, kinds := [], alts := [], laidByText := true, laidKinds := [.data, .data, .data, .sentinel, .sentinel], laidTests := true, laidLooks := .later }
def ShardWayCardSaid : Prop := Claim7.holds Tryd.pinned (.plain (OpenSpec.ofChange shardWaySpec)) shardWayCard

/-- THE TIED CARD OF 'wapentakelaw14.ShardOnce'. -/
def shardOnceCard : Claim7 := { stood := { row := shardOnceRow, standIns := [], harness := (true, "4269abff2452276a844353bde3c0d8db2b821f4fe04cf6497775b27df61b78de"), looks := true }, kinds := [], alts := [], laidByText := true, laidKinds := [.data, .data, .data, .sentinel, .sentinel], laidTests := true, laidLooks := .later }
def ShardOnceCardSaid : Prop := Claim7.holds Tryd.pinned (.plain (OpenSpec.ofChange shardOnceSpec)) shardOnceCard

/-- THE TIED CARD OF 'wapentakelaw14.ShardNil'. -/
def shardNilCard : Claim7 := { stood := { row := shardNilRow, standIns := [], harness := (true, "4269abff2452276a844353bde3c0d8db2b821f4fe04cf6497775b27df61b78de"), looks := true }, kinds := [], alts := [], laidByText := true, laidKinds := [.data, .data, .data, .sentinel, .sentinel], laidTests := true, laidLooks := .later }
def ShardNilCardSaid : Prop := Claim7.holds Tryd.pinned (.plain (OpenSpec.ofChange shardNilSpec)) shardNilCard

/-- THE TIED CARD OF 'wapentakelaw14.ShardLoads'. -/
def shardLoadsCard : Claim7 := { stood := { row := shardLoadsRow, standIns := [], harness := (true, "4269abff2452276a844353bde3c0d8db2b821f4fe04cf6497775b27df61b78de"), looks := true }, kinds := [], alts := [], laidByText := true, laidKinds := [.data, .data, .data, .sentinel, .sentinel], laidTests := true, laidLooks := .later }
def ShardLoadsCardSaid : Prop := Claim7.holds Tryd.pinned (.plain (OpenSpec.ofChange shardLoadsSpec)) shardLoadsCard

/-- THE TIED CARD OF 'wapentakelaw14.ShardStill'. -/
def shardStillCard : Claim7 := { stood := { row := shardStillRow, standIns := [], harness := (true, "4269abff2452276a844353bde3c0d8db2b821f4fe04cf6497775b27df61b78de"), looks := true }, kinds := [], alts := [], laidByText := true, laidKinds := [.data, .data, .data, .sentinel, .sentinel], laidTests := true, laidLooks := .later }
def ShardStillCardSaid : Prop := Claim7.holds Tryd.pinned (.plain (OpenSpec.ofChange shardStillSpec)) shardStillCard

/-- THE SECOND FORM's CARD OF 'wapentakelaw14.ShardWay'. -/
def shardWayUptoCard : Claim7 := { stood := { row := shardWayUptoRow, standIns := [], harness := (true, "4269abff2452276a844353bde3c0d8db2b821f4fe04cf6497775b27df61b78de"), looks := true }, kinds := [], alts := [], laidByText := true, laidKinds := [.data, .data, .data, .sentinel, .sentinel], laidTests := true, laidLooks := .later }
def ShardWayUptoCardSaid : Prop := Claim7.holds Tryd.pinned (.plain (OpenSpec.upto shardWaySpec)) shardWayUptoCard

/-- THE SECOND FORM's CARD OF 'wapentakelaw14.ShardOnce'. -/
def shardOnceUptoCard : Claim7 := { stood := { row := shardOnceUptoRow, standIns := [], harness := (true, "4269abff2452276a844353bde3c0d8db2b821f4fe04cf6497775b27df61b78de"), looks := true }, kinds := [], alts := [], laidByText := true, laidKinds := [.data, .data, .data, .sentinel, .sentinel], laidTests := true, laidLooks := .later }
def ShardOnceUptoCardSaid : Prop := Claim7.holds Tryd.pinned (.plain (OpenSpec.upto shardOnceSpec)) shardOnceUptoCard

/-- THE SECOND FORM's CARD OF 'wapentakelaw14.ShardNil'. -/
def shardNilUptoCard : Claim7 := { stood := { row := shardNilUptoRow, standIns := [], harness := (true, "4269abff2452276a844353bde3c0d8db2b821f4fe04cf6497775b27df61b78de"), looks := true }, kinds := [], alts := [], laidByText := true, laidKinds := [.data, .data, .data, .sentinel, .sentinel], laidTests := true, laidLooks := .later }
def ShardNilUptoCardSaid : Prop := Claim7.holds Tryd.pinned (.plain (OpenSpec.upto shardNilSpec)) shardNilUptoCard

/-- THE SECOND FORM's CARD OF 'wapentakelaw14.ShardLoads'. -/
def shardLoadsUptoCard : Claim7 := { stood := { row := shardLoadsUptoRow, standIns := [], harness := (true, "4269abff2452276a844353bde3c0d8db2b821f4fe04cf6497775b27df61b78de"), looks := true }, kinds := [], alts := [], laidByText := true, laidKinds := [.data, .data, .data, .sentinel, .sentinel], laidTests := true, laidLooks := .later }
def ShardLoadsUptoCardSaid : Prop := Claim7.holds Tryd.pinned (.plain (OpenSpec.upto shardLoadsSpec)) shardLoadsUptoCard

/-- THE SECOND FORM's CARD OF 'wapentakelaw14.ShardStill'. -/
def shardStillUptoCard : Claim7 := { stood := { row := shardStillUptoRow, standIns := [], harness := (true, "4269abff2452276a844353bde3c0d8db2b821f4fe04cf6497775b27df61b78de"), looks := true }, kinds := [], alts := [], laidByText := true, laidKinds := [.data, .data, .data, .sentinel, .sentinel], laidTests := true, laidLooks := .later }
def ShardStillUptoCardSaid : Prop := Claim7.holds Tryd.pinned (.plain (OpenSpec.upto shardStillSpec)) shardStillUptoCard
end Rows
end Go.Proofs.YtbnfeabagcnacaaDoor
