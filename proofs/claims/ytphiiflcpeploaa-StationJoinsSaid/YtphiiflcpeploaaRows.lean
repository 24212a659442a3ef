/-
  No cell of these rows narrows 'for every input' (looked for: loops, veiled, ifaces, maps, wideKeys, modest, calm, conditions, laid).
  DERIVED. THE GIVEN ROWS OF THIS SEAT. 7 by the template 'for every input the law returns true; each argument reads behind the call as it read before'; 0 by the template 'total and deterministic' (their statements: YtphiiflcpeploaaTotals.lean).
  GIVEN WITH THE SEED: the statements are not yours to turn. If you find one false, say at which input.
  Laid BY PROGRAM, IN A SANDBOX (cutbox-rows.mjs): the forced cells as the released guide's own fill.sh prints them over the translation fed8ed4aac61da1d… (all of the seat's roots in one cut). By AI agents, Wed Nov 11 2026. No macro, syntax, notation, axiom, sorry.
-/
import Derived.Test.YtphiiflcpeploaaChecked
import GoSem.Claim
import GoSem.ClaimJoined
import GoSem.ClaimMapViews
import Derived.JoinedTies
import Derived.KernelRfl
namespace Go.Proofs.Ytphiiflcpeploaa
/- THE CELL 'sum', in the pinned program and in every row, IS THE sha256 OF THE DUMP (.gsa) THAT YtphiiflcpeploaaProg.lean LOADS. Nothing in Lean hashes anything: it is a label: what it is worth is what the hold of that sum in a sandbox is worth. -/
noncomputable def Try.pinned : Pinned := { name := "ytphiiflcpeploaa", sum := "fed8ed4aac61da1d51a2dfa1b8aa84814ad36af5ac8d2c70767a06df7c1b1182", checked := Try.checked }
namespace Rows
def none {H : Type} : Left H := { results := [], args := [] }

/-- 'gridhallkeep1.GraphCycles': WHATEVER THE INPUT: true; the input reads as it did. -/
def graphCyclesSpec : ChangeSpec := { name := "graphCycles", fn := fun _ => fun
  | [d1, d2] => { results := [.lit (.bool true)], args := [d1, d2] }
  | _ => none }
def graphCyclesRow : OpenClaim := { program := "ytphiiflcpeploaa", sum := "fed8ed4aac61da1d51a2dfa1b8aa84814ad36af5ac8d2c70767a06df7c1b1182", func := "gridhall/gridhallkeep1.GraphCycles", spec := "graphCycles", unfollowed := true, recurses := true, apart := false }
def GraphCyclesSaid : Prop := graphCyclesRow.holds Try.pinned (OpenSpec.ofChange graphCyclesSpec)

/-- ITS FALSE NEIGHBOUR: 'it returns false'. Refute it at one input. -/
def graphCyclesWrong : ChangeSpec := { name := "graphCycles", fn := fun _ => fun
  | [d1, d2] => { results := [.lit (.bool false)], args := [d1, d2] }
  | _ => none }
def GraphCyclesWrongFalsely : Prop := graphCyclesRow.holds Try.pinned (OpenSpec.ofChange graphCyclesWrong)

/-- 'gridhallkeep1.GraphBridges': WHATEVER THE INPUT: true; the input reads as it did. -/
def graphBridgesSpec : ChangeSpec := { name := "graphBridges", fn := fun _ => fun
  | [d1, d2] => { results := [.lit (.bool true)], args := [d1, d2] }
  | _ => none }
def graphBridgesRow : OpenClaim := { program := "ytphiiflcpeploaa", sum := "fed8ed4aac61da1d51a2dfa1b8aa84814ad36af5ac8d2c70767a06df7c1b1182", func := "gridhall/gridhallkeep1.GraphBridges", spec := "graphBridges", unfollowed := true, recurses := true, apart := false }
def GraphBridgesSaid : Prop := graphBridgesRow.holds Try.pinned (OpenSpec.ofChange graphBridgesSpec)

/-- ITS FALSE NEIGHBOUR: 'it returns false'. Refute it at one input. -/
def graphBridgesWrong : ChangeSpec := { name := "graphBridges", fn := fun _ => fun
  | [d1, d2] => { results := [.lit (.bool false)], args := [d1, d2] }
  | _ => none }
def GraphBridgesWrongFalsely : Prop := graphBridgesRow.holds Try.pinned (OpenSpec.ofChange graphBridgesWrong)

/-- 'gridhallkeep1.GraphWays': WHATEVER THE INPUT: true; the input reads as it did. -/
def graphWaysSpec : ChangeSpec := { name := "graphWays", fn := fun _ => fun
  | [d1, d2, d3, d4] => { results := [.lit (.bool true)], args := [d1, d2, d3, d4] }
  | _ => none }
def graphWaysRow : OpenClaim := { program := "ytphiiflcpeploaa", sum := "fed8ed4aac61da1d51a2dfa1b8aa84814ad36af5ac8d2c70767a06df7c1b1182", func := "gridhall/gridhallkeep1.GraphWays", spec := "graphWays", unfollowed := true, recurses := true, apart := false }
def GraphWaysSaid : Prop := graphWaysRow.holds Try.pinned (OpenSpec.ofChange graphWaysSpec)

/-- ITS FALSE NEIGHBOUR: 'it returns false'. Refute it at one input. -/
def graphWaysWrong : ChangeSpec := { name := "graphWays", fn := fun _ => fun
  | [d1, d2, d3, d4] => { results := [.lit (.bool false)], args := [d1, d2, d3, d4] }
  | _ => none }
def GraphWaysWrongFalsely : Prop := graphWaysRow.holds Try.pinned (OpenSpec.ofChange graphWaysWrong)

/-- 'gridhallkeep1.GraphTrees': WHATEVER THE INPUT: true; the input reads as it did. -/
def graphTreesSpec : ChangeSpec := { name := "graphTrees", fn := fun _ => fun
  | [d1, d2] => { results := [.lit (.bool true)], args := [d1, d2] }
  | _ => none }
def graphTreesRow : OpenClaim := { program := "ytphiiflcpeploaa", sum := "fed8ed4aac61da1d51a2dfa1b8aa84814ad36af5ac8d2c70767a06df7c1b1182", func := "gridhall/gridhallkeep1.GraphTrees", spec := "graphTrees", unfollowed := true, recurses := true, apart := false }
def GraphTreesSaid : Prop := graphTreesRow.holds Try.pinned (OpenSpec.ofChange graphTreesSpec)

/-- ITS FALSE NEIGHBOUR: 'it returns false'. Refute it at one input. -/
def graphTreesWrong : ChangeSpec := { name := "graphTrees", fn := fun _ => fun
  | [d1, d2] => { results := [.lit (.bool false)], args := [d1, d2] }
  | _ => none }
def GraphTreesWrongFalsely : Prop := graphTreesRow.holds Try.pinned (OpenSpec.ofChange graphTreesWrong)

/-- 'gridhallkeep1.TopologyNumbers': WHATEVER THE INPUT: true; the input reads as it did. -/
def topologyNumbersSpec : ChangeSpec := { name := "topologyNumbers", fn := fun _ => fun
  | [d] => { results := [.lit (.bool true)], args := [d] }
  | _ => none }
def topologyNumbersRow : OpenClaim := { program := "ytphiiflcpeploaa", sum := "fed8ed4aac61da1d51a2dfa1b8aa84814ad36af5ac8d2c70767a06df7c1b1182", func := "gridhall/gridhallkeep1.TopologyNumbers", spec := "topologyNumbers", unfollowed := true, recurses := true, apart := false }
def TopologyNumbersSaid : Prop := topologyNumbersRow.holds Try.pinned (OpenSpec.ofChange topologyNumbersSpec)

/-- ITS FALSE NEIGHBOUR: 'it returns false'. Refute it at one input. -/
def topologyNumbersWrong : ChangeSpec := { name := "topologyNumbers", fn := fun _ => fun
  | [d] => { results := [.lit (.bool false)], args := [d] }
  | _ => none }
def TopologyNumbersWrongFalsely : Prop := topologyNumbersRow.holds Try.pinned (OpenSpec.ofChange topologyNumbersWrong)

/-- 'gridhallkeep1.StationIsolates': WHATEVER THE INPUT: true; the input reads as it did. -/
def stationIsolatesSpec : ChangeSpec := { name := "stationIsolates", fn := fun _ => fun
  | [d1, d2] => { results := [.lit (.bool true)], args := [d1, d2] }
  | _ => none }
def stationIsolatesRow : OpenClaim := { program := "ytphiiflcpeploaa", sum := "fed8ed4aac61da1d51a2dfa1b8aa84814ad36af5ac8d2c70767a06df7c1b1182", func := "gridhall/gridhallkeep1.StationIsolates", spec := "stationIsolates", unfollowed := true, recurses := true, apart := false }
def StationIsolatesSaid : Prop := stationIsolatesRow.holds Try.pinned (OpenSpec.ofChange stationIsolatesSpec)

/-- ITS FALSE NEIGHBOUR: 'it returns false'. Refute it at one input. -/
def stationIsolatesWrong : ChangeSpec := { name := "stationIsolates", fn := fun _ => fun
  | [d1, d2] => { results := [.lit (.bool false)], args := [d1, d2] }
  | _ => none }
def StationIsolatesWrongFalsely : Prop := stationIsolatesRow.holds Try.pinned (OpenSpec.ofChange stationIsolatesWrong)

/-- 'gridhallkeep1.StationJoins': WHATEVER THE INPUT: true; the input reads as it did. -/
def stationJoinsSpec : ChangeSpec := { name := "stationJoins", fn := fun _ => fun
  | [d1, d2, d3] => { results := [.lit (.bool true)], args := [d1, d2, d3] }
  | _ => none }
def stationJoinsRow : OpenClaim := { program := "ytphiiflcpeploaa", sum := "fed8ed4aac61da1d51a2dfa1b8aa84814ad36af5ac8d2c70767a06df7c1b1182", func := "gridhall/gridhallkeep1.StationJoins", spec := "stationJoins", unfollowed := true, recurses := true, apart := false }
def StationJoinsSaid : Prop := stationJoinsRow.holds Try.pinned (OpenSpec.ofChange stationJoinsSpec)

/-- ITS FALSE NEIGHBOUR: 'it returns false'. Refute it at one input. -/
def stationJoinsWrong : ChangeSpec := { name := "stationJoins", fn := fun _ => fun
  | [d1, d2, d3] => { results := [.lit (.bool false)], args := [d1, d2, d3] }
  | _ => none }
def StationJoinsWrongFalsely : Prop := stationJoinsRow.holds Try.pinned (OpenSpec.ofChange stationJoinsWrong)

/- THE SECOND FORM. 'bulk': how many values and letters a reading holds, each counted each time it is reached (what is shared counts as often as it is met; a slice's spare places count too). A statement '..UptoSaid' is the law's where the arguments, and the package variables that the reading takes, are together of bulk at most 1048576: NARROWER than '..Said'. Prove '..Said' where nothing that the law and all that it calls make is longer than what came in: it says more and counts as full. Else prove '..UptoSaid'. A law counts once. -/
mutual
def uptoBulk {H : Type} : DataW H → Nat
  | .lit (.string bytes) => bytes.length + 1
  | .lit _ => 1
  | .nil => 1
  | .ptr d => uptoBulk d + 1
  | .slice elems spare => uptoBulkAll elems + uptoBulkAll spare + 1
  | .agg parts => uptoBulkAll parts + 1
  | .iface _ d => uptoBulk d + 1
  | .map entries => uptoBulkEntries entries + 1
  | .held _ => 1
def uptoBulkAll {H : Type} : List (DataW H) → Nat
  | [] => 0
  | d :: r => uptoBulk d + uptoBulkAll r
def uptoBulkEntries {H : Type} : List (Lit × DataW H) → Nat
  | [] => 0
  | x :: r => uptoBulkEntry x + uptoBulkEntries r
def uptoBulkEntry {H : Type} : Lit × DataW H → Nat
  | (.string bytes, d) => bytes.length + uptoBulk d + 1
  | (_, d) => uptoBulk d + 1
 end
def uptoSmall : (H : Type) → List (DataW H) → Bool := fun _ ds => decide (uptoBulkAll ds ≤ 1048576)
def OpenSpec.upto (s : _root_.Go.ChangeSpec) : _root_.Go.OpenSpec := { _root_.Go.OpenSpec.ofChange s with cond := some uptoSmall }

/-- 'gridhallkeep1.GraphCycles', WHERE WHAT IT READS IS OF BULK AT MOST 1048576: true; the input reads as it did. -/
def graphCyclesUptoRow : OpenClaim := { program := "ytphiiflcpeploaa", sum := "fed8ed4aac61da1d51a2dfa1b8aa84814ad36af5ac8d2c70767a06df7c1b1182", func := "gridhall/gridhallkeep1.GraphCycles", spec := "graphCycles", unfollowed := true, recurses := true, apart := false, narrowed := true }
def GraphCyclesUptoSaid : Prop := graphCyclesUptoRow.holds Try.pinned (OpenSpec.upto graphCyclesSpec)

/-- 'gridhallkeep1.GraphBridges', WHERE WHAT IT READS IS OF BULK AT MOST 1048576: true; the input reads as it did. -/
def graphBridgesUptoRow : OpenClaim := { program := "ytphiiflcpeploaa", sum := "fed8ed4aac61da1d51a2dfa1b8aa84814ad36af5ac8d2c70767a06df7c1b1182", func := "gridhall/gridhallkeep1.GraphBridges", spec := "graphBridges", unfollowed := true, recurses := true, apart := false, narrowed := true }
def GraphBridgesUptoSaid : Prop := graphBridgesUptoRow.holds Try.pinned (OpenSpec.upto graphBridgesSpec)

/-- 'gridhallkeep1.GraphWays', WHERE WHAT IT READS IS OF BULK AT MOST 1048576: true; the input reads as it did. -/
def graphWaysUptoRow : OpenClaim := { program := "ytphiiflcpeploaa", sum := "fed8ed4aac61da1d51a2dfa1b8aa84814ad36af5ac8d2c70767a06df7c1b1182", func := "gridhall/gridhallkeep1.GraphWays", spec := "graphWays", unfollowed := true, recurses := true, apart := false, narrowed := true }
def GraphWaysUptoSaid : Prop := graphWaysUptoRow.holds Try.pinned (OpenSpec.upto graphWaysSpec)

/-- 'gridhallkeep1.GraphTrees', WHERE WHAT IT READS IS OF BULK AT MOST 1048576: true; the input reads as it did. -/
def graphTreesUptoRow : OpenClaim := { program := "ytphiiflcpeploaa", sum := "fed8ed4aac61da1d51a2dfa1b8aa84814ad36af5ac8d2c70767a06df7c1b1182", func := "gridhall/gridhallkeep1.GraphTrees", spec := "graphTrees", unfollowed := true, recurses := true, apart := false, narrowed := true }
def GraphTreesUptoSaid : Prop := graphTreesUptoRow.holds Try.pinned (OpenSpec.upto graphTreesSpec)

/-- 'gridhallkeep1.TopologyNumbers', WHERE WHAT IT READS IS OF BULK AT MOST 1048576: true; the input reads as it did. -/
def topologyNumbersUptoRow : OpenClaim := { program := "ytphiiflcpeploaa", sum := "fed8ed4aac61da1d51a2dfa1b8aa84814ad36af5ac8d2c70767a06df7c1b1182", func := "gridhall/gridhallkeep1.TopologyNumbers", spec := "topologyNumbers", unfollowed := true, recurses := true, apart := false, narrowed := true }
def TopologyNumbersUptoSaid : Prop := topologyNumbersUptoRow.holds Try.pinned (OpenSpec.upto topologyNumbersSpec)

/-- 'gridhallkeep1.StationIsolates', WHERE WHAT IT READS IS OF BULK AT MOST 1048576: true; the input reads as it did. -/
def stationIsolatesUptoRow : OpenClaim := { program := "ytphiiflcpeploaa", sum := "fed8ed4aac61da1d51a2dfa1b8aa84814ad36af5ac8d2c70767a06df7c1b1182", func := "gridhall/gridhallkeep1.StationIsolates", spec := "stationIsolates", unfollowed := true, recurses := true, apart := false, narrowed := true }
def StationIsolatesUptoSaid : Prop := stationIsolatesUptoRow.holds Try.pinned (OpenSpec.upto stationIsolatesSpec)

/-- 'gridhallkeep1.StationJoins', WHERE WHAT IT READS IS OF BULK AT MOST 1048576: true; the input reads as it did. -/
def stationJoinsUptoRow : OpenClaim := { program := "ytphiiflcpeploaa", sum := "fed8ed4aac61da1d51a2dfa1b8aa84814ad36af5ac8d2c70767a06df7c1b1182", func := "gridhall/gridhallkeep1.StationJoins", spec := "stationJoins", unfollowed := true, recurses := true, apart := false, narrowed := true }
def StationJoinsUptoSaid : Prop := stationJoinsUptoRow.holds Try.pinned (OpenSpec.upto stationJoinsSpec)

end Rows
end Go.Proofs.Ytphiiflcpeploaa
