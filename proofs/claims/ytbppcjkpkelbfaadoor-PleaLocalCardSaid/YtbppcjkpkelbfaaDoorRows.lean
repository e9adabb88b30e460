/-
  NARROWER THAN 'FOR EVERY INPUT', by the rows' own cells (each row's printed sentence says how): PleaSplits: laid · ProofChecks: laid · ProofOne: laid · ProofReplays: laid · ProofOrder: laid · PleaChecks: laid · PleaLocal: laid.
  DERIVED. THE GIVEN ROWS OF THIS SEAT. 7 by the template 'for every input the law returns true; each argument reads behind the call as it read before'; 0 by the template 'total and deterministic' (their statements: YtbppcjkpkelbfaaDoorTotals.lean).
  GIVEN WITH THE SEED: the statements are not yours to turn. If you find one false, say at which input.
  Laid BY PROGRAM, IN A SANDBOX (cutbox-rows.mjs): the forced cells as the released guide's own fill.sh prints them over the translation e9337f6f6945a3ef… (all of the seat's roots in one cut). By AI agents, Wed Nov 11 2026. No macro, syntax, notation, axiom, sorry.
-/
import Derived.Test.YtbppcjkpkelbfaaDoorChecked
import GoSem.Claim
import GoSem.ClaimJoined
import GoSem.ClaimMapViews
import Derived.JoinedTies
import Derived.KernelRfl
namespace Go.Proofs.YtbppcjkpkelbfaaDoor
/- THE CELL 'sum', in the pinned program and in every row, IS THE sha256 OF THE DUMP (.gsa) THAT YtbppcjkpkelbfaaDoorProg.lean LOADS. Nothing in Lean hashes anything: it is a label: what it is worth is what the hold of that sum in a sandbox is worth. -/
noncomputable def Tryd.pinned : Pinned := { name := "ytbppcjkpkelbfaadoor", sum := "e9337f6f6945a3efd46ca0d0819ff2698d8677d49dc2ba0da459280e50f5f309", checked := Tryd.checked }
namespace Rows
def none {H : Type} : Left H := { results := [], args := [] }

/- WHAT THE LISTED PACKAGE-LEVEL VARIABLES READ AS WHEN THE CALL BEGINS. Each datum BY PROGRAM (the guide's laid-datum.mjs) off the statement by which the dump's own 'gosem.cut.vars' lays the variable. In a bare row this is a premise. The card (YtbppcjkpkelbfaaDoorCards.lean) ties it to the program's text. -/
def laid_wapentake_blake_rows {H : Type} : DataW H := .agg [.lit (.string [48, 49, 50, 51, 52, 53, 54, 55, 56, 57, 97, 98, 99, 100, 101, 102]), .lit (.string [101, 97, 52, 56, 57, 102, 100, 54, 49, 99, 48, 50, 98, 55, 53, 51]), .lit (.string [98, 56, 99, 48, 53, 50, 102, 100, 97, 101, 51, 54, 55, 49, 57, 52]), .lit (.string [55, 57, 51, 49, 100, 99, 98, 101, 50, 54, 53, 97, 52, 48, 102, 56]), .lit (.string [57, 48, 53, 55, 50, 52, 97, 102, 101, 49, 98, 99, 54, 56, 51, 100]), .lit (.string [50, 99, 54, 97, 48, 98, 56, 51, 52, 100, 55, 53, 102, 101, 49, 57]), .lit (.string [99, 53, 49, 102, 101, 100, 52, 97, 48, 55, 54, 51, 57, 50, 56, 98]), .lit (.string [100, 98, 55, 101, 99, 49, 51, 57, 53, 48, 102, 52, 56, 54, 50, 97]), .lit (.string [54, 102, 101, 57, 98, 51, 48, 56, 99, 50, 100, 55, 49, 52, 97, 53]), .lit (.string [97, 50, 56, 52, 55, 54, 49, 53, 102, 98, 57, 101, 51, 99, 100, 48])]
def laid_wapentake_blake_start {H : Type} : DataW H := .agg [.lit (.int .u32 1779033703), .lit (.int .u32 3144134277), .lit (.int .u32 1013904242), .lit (.int .u32 2773480762), .lit (.int .u32 1359893119), .lit (.int .u32 2600822924), .lit (.int .u32 528734635), .lit (.int .u32 1541459225)]

/-- 'wapentakelaw27.PleaSplits': WHATEVER THE INPUT: true; the input reads as it did. -/
def pleaSplitsSpec : ChangeSpec := { name := "pleaSplits", fn := fun _ => fun
  | [d1, d2] => { results := [.lit (.bool true)], args := [d1, d2] }
  | _ => none }
def pleaSplitsRow : OpenClaim := { program := "ytbppcjkpkelbfaadoor", sum := "e9337f6f6945a3efd46ca0d0819ff2698d8677d49dc2ba0da459280e50f5f309", func := "wapentake/wapentakelaw27.PleaSplits", spec := "pleaSplits", unfollowed := true, recurses := true, named := ["wapentake/blake.start", "wapentake/blake.rows"], plainKeys := false, apart := false, laid := [("wapentake/blake.rows", laid_wapentake_blake_rows), ("wapentake/blake.start", laid_wapentake_blake_start)] }
def PleaSplitsSaid : Prop := pleaSplitsRow.holds Tryd.pinned (OpenSpec.ofChange pleaSplitsSpec)

/-- ITS FALSE NEIGHBOUR: 'it returns false'. Refute it at one input. -/
def pleaSplitsWrong : ChangeSpec := { name := "pleaSplits", fn := fun _ => fun
  | [d1, d2] => { results := [.lit (.bool false)], args := [d1, d2] }
  | _ => none }
def PleaSplitsWrongFalsely : Prop := pleaSplitsRow.holds Tryd.pinned (OpenSpec.ofChange pleaSplitsWrong)

/-- 'wapentakelaw24.ProofChecks': WHATEVER THE INPUT: true; the input reads as it did. -/
def proofChecksSpec : ChangeSpec := { name := "proofChecks", fn := fun _ => fun
  | [d1, d2] => { results := [.lit (.bool true)], args := [d1, d2] }
  | _ => none }
def proofChecksRow : OpenClaim := { program := "ytbppcjkpkelbfaadoor", sum := "e9337f6f6945a3efd46ca0d0819ff2698d8677d49dc2ba0da459280e50f5f309", func := "wapentake/wapentakelaw24.ProofChecks", spec := "proofChecks", inPlace := ["internal/bytealg.abigen_runtime_cmpstring"], unfollowed := true, recurses := true, named := ["wapentake/blake.start", "wapentake/blake.rows"], plainKeys := false, apart := false, laid := [("wapentake/blake.rows", laid_wapentake_blake_rows), ("wapentake/blake.start", laid_wapentake_blake_start)] }
def ProofChecksSaid : Prop := proofChecksRow.holds Tryd.pinned (OpenSpec.ofChange proofChecksSpec)

/-- ITS FALSE NEIGHBOUR: 'it returns false'. Refute it at one input. -/
def proofChecksWrong : ChangeSpec := { name := "proofChecks", fn := fun _ => fun
  | [d1, d2] => { results := [.lit (.bool false)], args := [d1, d2] }
  | _ => none }
def ProofChecksWrongFalsely : Prop := proofChecksRow.holds Tryd.pinned (OpenSpec.ofChange proofChecksWrong)

/-- 'wapentakelaw24.ProofOne': WHATEVER THE INPUT: true; the input reads as it did. -/
def proofOneSpec : ChangeSpec := { name := "proofOne", fn := fun _ => fun
  | [d1, d2] => { results := [.lit (.bool true)], args := [d1, d2] }
  | _ => none }
def proofOneRow : OpenClaim := { program := "ytbppcjkpkelbfaadoor", sum := "e9337f6f6945a3efd46ca0d0819ff2698d8677d49dc2ba0da459280e50f5f309", func := "wapentake/wapentakelaw24.ProofOne", spec := "proofOne", inPlace := ["internal/bytealg.abigen_runtime_cmpstring"], unfollowed := true, recurses := true, named := ["wapentake/blake.start", "wapentake/blake.rows"], plainKeys := false, apart := false, laid := [("wapentake/blake.rows", laid_wapentake_blake_rows), ("wapentake/blake.start", laid_wapentake_blake_start)] }
def ProofOneSaid : Prop := proofOneRow.holds Tryd.pinned (OpenSpec.ofChange proofOneSpec)

/-- ITS FALSE NEIGHBOUR: 'it returns false'. Refute it at one input. -/
def proofOneWrong : ChangeSpec := { name := "proofOne", fn := fun _ => fun
  | [d1, d2] => { results := [.lit (.bool false)], args := [d1, d2] }
  | _ => none }
def ProofOneWrongFalsely : Prop := proofOneRow.holds Tryd.pinned (OpenSpec.ofChange proofOneWrong)

/-- 'wapentakelaw24.ProofReplays': WHATEVER THE INPUT: true; the input reads as it did. -/
def proofReplaysSpec : ChangeSpec := { name := "proofReplays", fn := fun _ => fun
  | [d] => { results := [.lit (.bool true)], args := [d] }
  | _ => none }
def proofReplaysRow : OpenClaim := { program := "ytbppcjkpkelbfaadoor", sum := "e9337f6f6945a3efd46ca0d0819ff2698d8677d49dc2ba0da459280e50f5f309", func := "wapentake/wapentakelaw24.ProofReplays", spec := "proofReplays", inPlace := ["internal/bytealg.abigen_runtime_cmpstring"], unfollowed := true, recurses := true, named := ["wapentake/blake.start", "wapentake/blake.rows"], plainKeys := false, apart := false, laid := [("wapentake/blake.rows", laid_wapentake_blake_rows), ("wapentake/blake.start", laid_wapentake_blake_start)] }
def ProofReplaysSaid : Prop := proofReplaysRow.holds Tryd.pinned (OpenSpec.ofChange proofReplaysSpec)

/-- ITS FALSE NEIGHBOUR: 'it returns false'. Refute it at one input. -/
def proofReplaysWrong : ChangeSpec := { name := "proofReplays", fn := fun _ => fun
  | [d] => { results := [.lit (.bool false)], args := [d] }
  | _ => none }
def ProofReplaysWrongFalsely : Prop := proofReplaysRow.holds Tryd.pinned (OpenSpec.ofChange proofReplaysWrong)

/-- 'wapentakelaw24.ProofOrder': WHATEVER THE INPUT: true; the input reads as it did. -/
def proofOrderSpec : ChangeSpec := { name := "proofOrder", fn := fun _ => fun
  | [d1, d2] => { results := [.lit (.bool true)], args := [d1, d2] }
  | _ => none }
def proofOrderRow : OpenClaim := { program := "ytbppcjkpkelbfaadoor", sum := "e9337f6f6945a3efd46ca0d0819ff2698d8677d49dc2ba0da459280e50f5f309", func := "wapentake/wapentakelaw24.ProofOrder", spec := "proofOrder", inPlace := ["internal/bytealg.abigen_runtime_cmpstring"], unfollowed := true, recurses := true, named := ["wapentake/blake.start", "wapentake/blake.rows"], plainKeys := false, apart := false, laid := [("wapentake/blake.rows", laid_wapentake_blake_rows), ("wapentake/blake.start", laid_wapentake_blake_start)] }
def ProofOrderSaid : Prop := proofOrderRow.holds Tryd.pinned (OpenSpec.ofChange proofOrderSpec)

/-- ITS FALSE NEIGHBOUR: 'it returns false'. Refute it at one input. -/
def proofOrderWrong : ChangeSpec := { name := "proofOrder", fn := fun _ => fun
  | [d1, d2] => { results := [.lit (.bool false)], args := [d1, d2] }
  | _ => none }
def ProofOrderWrongFalsely : Prop := proofOrderRow.holds Tryd.pinned (OpenSpec.ofChange proofOrderWrong)

/-- 'wapentakelaw27.PleaChecks': WHATEVER THE INPUT: true; the input reads as it did. -/
def pleaChecksSpec : ChangeSpec := { name := "pleaChecks", fn := fun _ => fun
  | [d] => { results := [.lit (.bool true)], args := [d] }
  | _ => none }
def pleaChecksRow : OpenClaim := { program := "ytbppcjkpkelbfaadoor", sum := "e9337f6f6945a3efd46ca0d0819ff2698d8677d49dc2ba0da459280e50f5f309", func := "wapentake/wapentakelaw27.PleaChecks", spec := "pleaChecks", inPlace := ["internal/bytealg.abigen_runtime_cmpstring"], unfollowed := true, recurses := true, named := ["wapentake/blake.start", "wapentake/blake.rows"], plainKeys := false, apart := false, laid := [("wapentake/blake.rows", laid_wapentake_blake_rows), ("wapentake/blake.start", laid_wapentake_blake_start)] }
def PleaChecksSaid : Prop := pleaChecksRow.holds Tryd.pinned (OpenSpec.ofChange pleaChecksSpec)

/-- ITS FALSE NEIGHBOUR: 'it returns false'. Refute it at one input. -/
def pleaChecksWrong : ChangeSpec := { name := "pleaChecks", fn := fun _ => fun
  | [d] => { results := [.lit (.bool false)], args := [d] }
  | _ => none }
def PleaChecksWrongFalsely : Prop := pleaChecksRow.holds Tryd.pinned (OpenSpec.ofChange pleaChecksWrong)

/-- 'wapentakelaw27.PleaLocal': WHATEVER THE INPUT: true; the input reads as it did. -/
def pleaLocalSpec : ChangeSpec := { name := "pleaLocal", fn := fun _ => fun
  | [d1, d2] => { results := [.lit (.bool true)], args := [d1, d2] }
  | _ => none }
def pleaLocalRow : OpenClaim := { program := "ytbppcjkpkelbfaadoor", sum := "e9337f6f6945a3efd46ca0d0819ff2698d8677d49dc2ba0da459280e50f5f309", func := "wapentake/wapentakelaw27.PleaLocal", spec := "pleaLocal", inPlace := ["internal/bytealg.abigen_runtime_cmpstring"], unfollowed := true, recurses := true, named := ["wapentake/blake.start", "wapentake/blake.rows"], plainKeys := false, apart := false, laid := [("wapentake/blake.rows", laid_wapentake_blake_rows), ("wapentake/blake.start", laid_wapentake_blake_start)] }
def PleaLocalSaid : Prop := pleaLocalRow.holds Tryd.pinned (OpenSpec.ofChange pleaLocalSpec)

/-- ITS FALSE NEIGHBOUR: 'it returns false'. Refute it at one input. -/
def pleaLocalWrong : ChangeSpec := { name := "pleaLocal", fn := fun _ => fun
  | [d1, d2] => { results := [.lit (.bool false)], args := [d1, d2] }
  | _ => none }
def PleaLocalWrongFalsely : Prop := pleaLocalRow.holds Tryd.pinned (OpenSpec.ofChange pleaLocalWrong)

/- THE SECOND FORM. 'bulk': how many values and letters a reading holds, each counted each time it is reached (what is shared counts as often as it is met; a slice's spare places count too). A statement '..UptoSaid' is the law's where the arguments, and the package variables that the reading takes, are together of bulk at most 1048576: NARROWER than '..Said'. Prove '..Said' where nothing that the law and all that it calls make is longer than what came in: it says more and counts as full. Else prove '..UptoSaid'. A law counts once. -/
mutual
def uptoBulk {H : Type} : DataW H → Nat
  | .lit (.string bytes) => bytes.length + 1
  | .lit _ => 1
  | .nil => 1
  | .ptr d => uptoBulk d + 1
  | .slice elems spare => uptoBulkAll elems + uptoBulkAll spare + 1
  | .agg parts => uptoBulkAll parts + 1
  | .iface _ d => uptoBulk d + 1
  | .map entries => uptoBulkEntries entries + 1
  | .held _ => 1
def uptoBulkAll {H : Type} : List (DataW H) → Nat
  | [] => 0
  | d :: r => uptoBulk d + uptoBulkAll r
def uptoBulkEntries {H : Type} : List (Lit × DataW H) → Nat
  | [] => 0
  | x :: r => uptoBulkEntry x + uptoBulkEntries r
def uptoBulkEntry {H : Type} : Lit × DataW H → Nat
  | (.string bytes, d) => bytes.length + uptoBulk d + 1
  | (_, d) => uptoBulk d + 1
 end
def uptoSmall : (H : Type) → List (DataW H) → Bool := fun _ ds => decide (uptoBulkAll ds ≤ 1048576)
def OpenSpec.upto (s : _root_.Go.ChangeSpec) : _root_.Go.OpenSpec := { _root_.Go.OpenSpec.ofChange s with cond := some uptoSmall }

/-- 'wapentakelaw27.PleaSplits', WHERE WHAT IT READS IS OF BULK AT MOST 1048576: true; the input reads as it did. -/
def pleaSplitsUptoRow : OpenClaim := { program := "ytbppcjkpkelbfaadoor", sum := "e9337f6f6945a3efd46ca0d0819ff2698d8677d49dc2ba0da459280e50f5f309", func := "wapentake/wapentakelaw27.PleaSplits", spec := "pleaSplits", unfollowed := true, recurses := true, named := ["wapentake/blake.start", "wapentake/blake.rows"], plainKeys := false, apart := false, laid := [("wapentake/blake.rows", laid_wapentake_blake_rows), ("wapentake/blake.start", laid_wapentake_blake_start)], narrowed := true }
def PleaSplitsUptoSaid : Prop := pleaSplitsUptoRow.holds Tryd.pinned (OpenSpec.upto pleaSplitsSpec)

/-- 'wapentakelaw24.ProofChecks', WHERE WHAT IT READS IS OF BULK AT MOST 1048576: true; the input reads as it did. -/
def proofChecksUptoRow : OpenClaim := { program := "ytbppcjkpkelbfaadoor", sum := "e9337f6f6945a3efd46ca0d0819ff2698d8677d49dc2ba0da459280e50f5f309", func := "wapentake/wapentakelaw24.ProofChecks", spec := "proofChecks", inPlace := ["internal/bytealg.abigen_runtime_cmpstring"], unfollowed := true, recurses := true, named := ["wapentake/blake.start", "wapentake/blake.rows"], plainKeys := false, apart := false, laid := [("wapentake/blake.rows", laid_wapentake_blake_rows), ("wapentake/blake.start", laid_wapentake_blake_start)], narrowed := true }
def ProofChecksUptoSaid : Prop := proofChecksUptoRow.holds Tryd.pinned (OpenSpec.upto proofChecksSpec)

/-- 'wapentakelaw24.ProofOne', WHERE WHAT IT READS IS OF BULK AT MOST 1048576: true; the input reads as it did. -/
def proofOneUptoRow : OpenClaim := { program := "ytbppcjkpkelbfaadoor", sum := "e9337f6f6945a3efd46ca0d0819ff2698d8677d49dc2ba0da459280e50f5f309", func := "wapentake/wapentakelaw24.ProofOne", spec := "proofOne", inPlace := ["internal/bytealg.abigen_runtime_cmpstring"], unfollowed := true, recurses := true, named := ["wapentake/blake.start", "wapentake/blake.rows"], plainKeys := false, apart := false, laid := [("wapentake/blake.rows", laid_wapentake_blake_rows), ("wapentake/blake.start", laid_wapentake_blake_start)], narrowed := true }
def ProofOneUptoSaid : Prop := proofOneUptoRow.holds Tryd.pinned (OpenSpec.upto proofOneSpec)

/-- 'wapentakelaw24.ProofReplays', WHERE WHAT IT READS IS OF BULK AT MOST 1048576: true; the input reads as it did. -/
def proofReplaysUptoRow : OpenClaim := { program := "ytbppcjkpkelbfaadoor", sum := "e9337f6f6945a3efd46ca0d0819ff2698d8677d49dc2ba0da459280e50f5f309", func := "wapentake/wapentakelaw24.ProofReplays", spec := "proofReplays", inPlace := ["internal/bytealg.abigen_runtime_cmpstring"], unfollowed := true, recurses := true, named := ["wapentake/blake.start", "wapentake/blake.rows"], plainKeys := false, apart := false, laid := [("wapentake/blake.rows", laid_wapentake_blake_rows), ("wapentake/blake.start", laid_wapentake_blake_start)], narrowed := true }
def ProofReplaysUptoSaid : Prop := proofReplaysUptoRow.holds Tryd.pinned (OpenSpec.upto proofReplaysSpec)

/-- 'wapentakelaw24.ProofOrder', WHERE WHAT IT READS IS OF BULK AT MOST 1048576: true; the input reads as it did. -/
def proofOrderUptoRow : OpenClaim := { program := "ytbppcjkpkelbfaadoor", sum := "e9337f6f6945a3efd46ca0d0819ff2698d8677d49dc2ba0da459280e50f5f309", func := "wapentake/wapentakelaw24.ProofOrder", spec := "proofOrder", inPlace := ["internal/bytealg.abigen_runtime_cmpstring"], unfollowed := true, recurses := true, named := ["wapentake/blake.start", "wapentake/blake.rows"], plainKeys := false, apart := false, laid := [("wapentake/blake.rows", laid_wapentake_blake_rows), ("wapentake/blake.start", laid_wapentake_blake_start)], narrowed := true }
def ProofOrderUptoSaid : Prop := proofOrderUptoRow.holds Tryd.pinned (OpenSpec.upto proofOrderSpec)

/-- 'wapentakelaw27.PleaChecks', WHERE WHAT IT READS IS OF BULK AT MOST 1048576: true; the input reads as it did. -/
def pleaChecksUptoRow : OpenClaim := { program := "ytbppcjkpkelbfaadoor", sum := "e9337f6f6945a3efd46ca0d0819ff2698d8677d49dc2ba0da459280e50f5f309", func := "wapentake/wapentakelaw27.PleaChecks", spec := "pleaChecks", inPlace := ["internal/bytealg.abigen_runtime_cmpstring"], unfollowed := true, recurses := true, named := ["wapentake/blake.start", "wapentake/blake.rows"], plainKeys := false, apart := false, laid := [("wapentake/blake.rows", laid_wapentake_blake_rows), ("wapentake/blake.start", laid_wapentake_blake_start)], narrowed := true }
def PleaChecksUptoSaid : Prop := pleaChecksUptoRow.holds Tryd.pinned (OpenSpec.upto pleaChecksSpec)

/-- 'wapentakelaw27.PleaLocal', WHERE WHAT IT READS IS OF BULK AT MOST 1048576: true; the input reads as it did. -/
def pleaLocalUptoRow : OpenClaim := { program := "ytbppcjkpkelbfaadoor", sum := "e9337f6f6945a3efd46ca0d0819ff2698d8677d49dc2ba0da459280e50f5f309", func := "wapentake/wapentakelaw27.PleaLocal", spec := "pleaLocal", inPlace := ["internal/bytealg.abigen_runtime_cmpstring"], unfollowed := true, recurses := true, named := ["wapentake/blake.start", "wapentake/blake.rows"], plainKeys := false, apart := false, laid := [("wapentake/blake.rows", laid_wapentake_blake_rows), ("wapentake/blake.start", laid_wapentake_blake_start)], narrowed := true }
def PleaLocalUptoSaid : Prop := pleaLocalUptoRow.holds Tryd.pinned (OpenSpec.upto pleaLocalSpec)

end Rows
end Go.Proofs.YtbppcjkpkelbfaaDoor
