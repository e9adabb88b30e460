/-
  No cell of these rows narrows 'for every input' (looked for: loops, veiled, ifaces, maps, wideKeys, modest, calm, conditions, laid).
  DERIVED. THE GIVEN ROWS OF THIS SEAT. 5 by the template 'for every input the law returns true; each argument reads behind the call as it read before'; 0 by the template 'total and deterministic' (their statements: YticnclmadldkkaaTotals.lean).
  GIVEN WITH THE SEED: the statements are not yours to turn. If you find one false, say at which input.
  Laid BY PROGRAM, IN A SANDBOX (cutbox-rows.mjs): the forced cells as the released guide's own fill.sh prints them over the translation 4134a0a8524c7fdb… (all of the seat's roots in one cut). By AI agents, Wed Nov 11 2026. No macro, syntax, notation, axiom, sorry.
-/
import Derived.Test.YticnclmadldkkaaChecked
import GoSem.Claim
import GoSem.ClaimJoined
import GoSem.ClaimMapViews
import Derived.JoinedTies
import Derived.KernelRfl
namespace Go.Proofs.Yticnclmadldkkaa
/- THE CELL 'sum', in the pinned program and in every row, IS THE sha256 OF THE DUMP (.gsa) THAT YticnclmadldkkaaProg.lean LOADS. Nothing in Lean hashes anything: it is a label: what it is worth is what the hold of that sum in a sandbox is worth. -/
noncomputable def Try.pinned : Pinned := { name := "yticnclmadldkkaa", sum := "4134a0a8524c7fdbb0ae7980039d78ce2bc131c4edd97975b7f9589e1767586b", checked := Try.checked }
namespace Rows
def none {H : Type} : Left H := { results := [], args := [] }

/-- 'wapentakelaw07.RosterMeets': WHATEVER THE INPUT: true; the input reads as it did. -/
def rosterMeetsSpec : ChangeSpec := { name := "rosterMeets", fn := fun _ => fun
  | [d1, d2, d3] => { results := [.lit (.bool true)], args := [d1, d2, d3] }
  | _ => none }
def rosterMeetsRow : OpenClaim := { program := "yticnclmadldkkaa", sum := "4134a0a8524c7fdbb0ae7980039d78ce2bc131c4edd97975b7f9589e1767586b", func := "wapentake/wapentakelaw07.RosterMeets", spec := "rosterMeets", unfollowed := true, recurses := true, apart := false }
def RosterMeetsSaid : Prop := rosterMeetsRow.holds Try.pinned (OpenSpec.ofChange rosterMeetsSpec)

/-- ITS FALSE NEIGHBOUR: 'it returns false'. Refute it at one input. -/
def rosterMeetsWrong : ChangeSpec := { name := "rosterMeets", fn := fun _ => fun
  | [d1, d2, d3] => { results := [.lit (.bool false)], args := [d1, d2, d3] }
  | _ => none }
def RosterMeetsWrongFalsely : Prop := rosterMeetsRow.holds Try.pinned (OpenSpec.ofChange rosterMeetsWrong)

/-- 'wapentakelaw07.RosterTurns': WHATEVER THE INPUT: true; the input reads as it did. -/
def rosterTurnsSpec : ChangeSpec := { name := "rosterTurns", fn := fun _ => fun
  | [d1, d2] => { results := [.lit (.bool true)], args := [d1, d2] }
  | _ => none }
def rosterTurnsRow : OpenClaim := { program := "yticnclmadldkkaa", sum := "4134a0a8524c7fdbb0ae7980039d78ce2bc131c4edd97975b7f9589e1767586b", func := "wapentake/wapentakelaw07.RosterTurns", spec := "rosterTurns", unfollowed := true, recurses := true, apart := false }
def RosterTurnsSaid : Prop := rosterTurnsRow.holds Try.pinned (OpenSpec.ofChange rosterTurnsSpec)

/-- ITS FALSE NEIGHBOUR: 'it returns false'. Refute it at one input. -/
def rosterTurnsWrong : ChangeSpec := { name := "rosterTurns", fn := fun _ => fun
  | [d1, d2] => { results := [.lit (.bool false)], args := [d1, d2] }
  | _ => none }
def RosterTurnsWrongFalsely : Prop := rosterTurnsRow.holds Try.pinned (OpenSpec.ofChange rosterTurnsWrong)

/-- 'wapentakelaw07.RosterCounts': WHATEVER THE INPUT: true; the input reads as it did. -/
def rosterCountsSpec : ChangeSpec := { name := "rosterCounts", fn := fun _ => fun
  | [d1, d2] => { results := [.lit (.bool true)], args := [d1, d2] }
  | _ => none }
def rosterCountsRow : OpenClaim := { program := "yticnclmadldkkaa", sum := "4134a0a8524c7fdbb0ae7980039d78ce2bc131c4edd97975b7f9589e1767586b", func := "wapentake/wapentakelaw07.RosterCounts", spec := "rosterCounts", unfollowed := true, recurses := true, apart := false }
def RosterCountsSaid : Prop := rosterCountsRow.holds Try.pinned (OpenSpec.ofChange rosterCountsSpec)

/-- ITS FALSE NEIGHBOUR: 'it returns false'. Refute it at one input. -/
def rosterCountsWrong : ChangeSpec := { name := "rosterCounts", fn := fun _ => fun
  | [d1, d2] => { results := [.lit (.bool false)], args := [d1, d2] }
  | _ => none }
def RosterCountsWrongFalsely : Prop := rosterCountsRow.holds Try.pinned (OpenSpec.ofChange rosterCountsWrong)

/-- 'wapentakelaw07.RosterBack': WHATEVER THE INPUT: true; the input reads as it did. -/
def rosterBackSpec : ChangeSpec := { name := "rosterBack", fn := fun _ => fun
  | [d1, d2] => { results := [.lit (.bool true)], args := [d1, d2] }
  | _ => none }
def rosterBackRow : OpenClaim := { program := "yticnclmadldkkaa", sum := "4134a0a8524c7fdbb0ae7980039d78ce2bc131c4edd97975b7f9589e1767586b", func := "wapentake/wapentakelaw07.RosterBack", spec := "rosterBack", unfollowed := true, recurses := true, apart := false }
def RosterBackSaid : Prop := rosterBackRow.holds Try.pinned (OpenSpec.ofChange rosterBackSpec)

/-- ITS FALSE NEIGHBOUR: 'it returns false'. Refute it at one input. -/
def rosterBackWrong : ChangeSpec := { name := "rosterBack", fn := fun _ => fun
  | [d1, d2] => { results := [.lit (.bool false)], args := [d1, d2] }
  | _ => none }
def RosterBackWrongFalsely : Prop := rosterBackRow.holds Try.pinned (OpenSpec.ofChange rosterBackWrong)

/-- 'wapentakelaw07.RosterEnds': WHATEVER THE INPUT: true; the input reads as it did. -/
def rosterEndsSpec : ChangeSpec := { name := "rosterEnds", fn := fun _ => fun
  | [d1, d2, d3] => { results := [.lit (.bool true)], args := [d1, d2, d3] }
  | _ => none }
def rosterEndsRow : OpenClaim := { program := "yticnclmadldkkaa", sum := "4134a0a8524c7fdbb0ae7980039d78ce2bc131c4edd97975b7f9589e1767586b", func := "wapentake/wapentakelaw07.RosterEnds", spec := "rosterEnds", unfollowed := true, recurses := true, apart := false }
def RosterEndsSaid : Prop := rosterEndsRow.holds Try.pinned (OpenSpec.ofChange rosterEndsSpec)

/-- ITS FALSE NEIGHBOUR: 'it returns false'. Refute it at one input. -/
def rosterEndsWrong : ChangeSpec := { name := "rosterEnds", fn := fun _ => fun
  | [d1, d2, d3] => { results := [.lit (.bool false)], args := [d1, d2, d3] }
  | _ => none }
def RosterEndsWrongFalsely : Prop := rosterEndsRow.holds Try.pinned (OpenSpec.ofChange rosterEndsWrong)

/- THE SECOND FORM. 'bulk': how many values and letters a reading holds, each counted each time it is reached (what is shared counts as often as it is met; a slice's spare places count too). A statement '..UptoSaid' is the law's where the arguments, and the package variables that the reading takes, are together of bulk at most 1048576: NARROWER than '..Said'. Prove '..Said' where nothing that the law and all that it calls make is longer than what came in: it says more and counts as full. Else prove '..UptoSaid'. A law counts once. -/
mutual
def uptoBulk {H : Type} : DataW H → Nat
  | .lit (.string bytes) => bytes.length + 1
  | .lit _ => 1
  | .nil => 1
  | .ptr d => uptoBulk d + 1
  | .slice elems spare => uptoBulkAll elems + uptoBulkAll spare + 1
  | .agg parts => uptoBulkAll parts + 1
  | .iface _ d => uptoBulk d + 1
  | .map entries => uptoBulkEntries entries + 1
  | .held _ => 1
def uptoBulkAll {H : Type} : List (DataW H) → Nat
  | [] => 0
  | d :: r => uptoBulk d + uptoBulkAll r
def uptoBulkEntries {H : Type} : List (Lit × DataW H) → Nat
  | [] => 0
  | x :: r => uptoBulkEntry x + uptoBulkEntries r
def uptoBulkEntry {H : Type} : Lit × DataW H → Nat
  | (.string bytes, d) => bytes.length + uptoBulk d + 1
  | (_, d) => uptoBulk d + 1
 end
def uptoSmall : (H : Type) → List (DataW H) → Bool := fun _ ds => decide (uptoBulkAll ds ≤ 1048576)
def OpenSpec.upto (s : _root_.Go.ChangeSpec) : _root_.Go.OpenSpec := { _root_.Go.OpenSpec.ofChange s with cond := some uptoSmall }

/-- 'wapentakelaw07.RosterMeets', WHERE WHAT IT READS IS OF BULK AT MOST 1048576: true; the input reads as it did. -/
def rosterMeetsUptoRow : OpenClaim := { program := "yticnclmadldkkaa", sum := "4134a0a8524c7fdbb0ae7980039d78ce2bc131c4edd97975b7f9589e1767586b", func := "wapentake/wapentakelaw07.RosterMeets", spec := "rosterMeets", unfollowed := true, recurses := true, apart := false, narrowed := true }
def RosterMeetsUptoSaid : Prop := rosterMeetsUptoRow.holds Try.pinned (OpenSpec.upto rosterMeetsSpec)

/-- 'wapentakelaw07.RosterTurns', WHERE WHAT IT READS IS OF BULK AT MOST 1048576: true; the input reads as it did. -/
def rosterTurnsUptoRow : OpenClaim := { program := "yticnclmadldkkaa", sum := "4134a0a8524c7fdbb0ae7980039d78ce2bc131c4edd97975b7f9589e1767586b", func := "wapentake/wapentakelaw07.RosterTurns", spec := "rosterTurns", unfollowed := true, recurses := true, apart := false, narrowed := true }
def RosterTurnsUptoSaid : Prop := rosterTurnsUptoRow.holds Try.pinned (OpenSpec.upto rosterTurnsSpec)

/-- 'wapentakelaw07.RosterCounts', WHERE WHAT IT READS IS OF BULK AT MOST 1048576: true; the input reads as it did. -/
def rosterCountsUptoRow : OpenClaim := { program := "yticnclmadldkkaa", sum := "4134a0a8524c7fdbb0ae7980039d78ce2bc131c4edd97975b7f9589e1767586b", func := "wapentake/wapentakelaw07.RosterCounts", spec := "rosterCounts", unfollowed := true, recurses := true, apart := false, narrowed := true }
def RosterCountsUptoSaid : Prop := rosterCountsUptoRow.holds Try.pinned (OpenSpec.upto rosterCountsSpec)

/-- 'wapentakelaw07.RosterBack', WHERE WHAT IT READS IS OF BULK AT MOST 1048576: true; the input reads as it did. -/
def rosterBackUptoRow : OpenClaim := { program := "yticnclmadldkkaa", sum := "4134a0a8524c7fdbb0ae7980039d78ce2bc131c4edd97975b7f9589e1767586b", func := "wapentake/wapentakelaw07.RosterBack", spec := "rosterBack", unfollowed := true, recurses := true, apart := false, narrowed := true }
def RosterBackUptoSaid : Prop := rosterBackUptoRow.holds Try.pinned (OpenSpec.upto rosterBackSpec)

/-- 'wapentakelaw07.RosterEnds', WHERE WHAT IT READS IS OF BULK AT MOST 1048576: true; the input reads as it did. -/
def rosterEndsUptoRow : OpenClaim := { program := "yticnclmadldkkaa", sum := "4134a0a8524c7fdbb0ae7980039d78ce2bc131c4edd97975b7f9589e1767586b", func := "wapentake/wapentakelaw07.RosterEnds", spec := "rosterEnds", unfollowed := true, recurses := true, apart := false, narrowed := true }
def RosterEndsUptoSaid : Prop := rosterEndsUptoRow.holds Try.pinned (OpenSpec.upto rosterEndsSpec)

end Rows
end Go.Proofs.Yticnclmadldkkaa
