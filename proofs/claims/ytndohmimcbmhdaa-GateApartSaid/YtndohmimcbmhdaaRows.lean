/-
  No cell of these rows narrows 'for every input' (looked for: loops, veiled, ifaces, maps, wideKeys, modest, calm, conditions, laid).
  DERIVED. THE GIVEN ROWS OF THIS SEAT. 30 by the template 'for every input the law returns true; each argument reads behind the call as it read before'; 0 by the template 'total and deterministic' (their statements: YtndohmimcbmhdaaTotals.lean).
  GIVEN WITH THE SEED: the statements are not yours to turn. If you find one false, say at which input.
  Laid BY PROGRAM, IN A SANDBOX (cutbox-rows.mjs): the forced cells as the released guide's own fill.sh prints them over the translation faf10dedcb55c614… (all of the seat's roots in one cut). By AI agents, Wed Nov 11 2026. No macro, syntax, notation, axiom, sorry.
-/
import Derived.Test.YtndohmimcbmhdaaChecked
import GoSem.Claim
import GoSem.ClaimJoined
import GoSem.ClaimMapViews
import Derived.JoinedTies
import Derived.KernelRfl
namespace Go.Proofs.Ytndohmimcbmhdaa
/- THE CELL 'sum', in the pinned program and in every row, IS THE sha256 OF THE DUMP (.gsa) THAT YtndohmimcbmhdaaProg.lean LOADS. Nothing in Lean hashes anything: it is a label: what it is worth is what the hold of that sum in a sandbox is worth. -/
noncomputable def Try.pinned : Pinned := { name := "ytndohmimcbmhdaa", sum := "faf10dedcb55c614de0c7298474bb38dd35d69266316e8a3d7d5341721ee939d", checked := Try.checked }
namespace Rows
def none {H : Type} : Left H := { results := [], args := [] }

/-- 'baileylaw09.LabelNames': WHATEVER THE INPUT: true; the input reads as it did. -/
def labelNamesSpec : ChangeSpec := { name := "labelNames", fn := fun _ => fun
  | [] => { results := [.lit (.bool true)], args := [] }
  | _ => none }
def labelNamesRow : OpenClaim := { program := "ytndohmimcbmhdaa", sum := "faf10dedcb55c614de0c7298474bb38dd35d69266316e8a3d7d5341721ee939d", func := "bailey/baileylaw09.LabelNames", spec := "labelNames", unfollowed := true, recurses := true, apart := false }
def LabelNamesSaid : Prop := labelNamesRow.holds Try.pinned (OpenSpec.ofChange labelNamesSpec)

/-- ITS FALSE NEIGHBOUR: 'it returns false'. Refute it at one input. -/
def labelNamesWrong : ChangeSpec := { name := "labelNames", fn := fun _ => fun
  | [] => { results := [.lit (.bool false)], args := [] }
  | _ => none }
def LabelNamesWrongFalsely : Prop := labelNamesRow.holds Try.pinned (OpenSpec.ofChange labelNamesWrong)

/-- 'baileylaw09.LabelMakes': WHATEVER THE INPUT: true; the input reads as it did. -/
def labelMakesSpec : ChangeSpec := { name := "labelMakes", fn := fun _ => fun
  | [d1, d2, d3] => { results := [.lit (.bool true)], args := [d1, d2, d3] }
  | _ => none }
def labelMakesRow : OpenClaim := { program := "ytndohmimcbmhdaa", sum := "faf10dedcb55c614de0c7298474bb38dd35d69266316e8a3d7d5341721ee939d", func := "bailey/baileylaw09.LabelMakes", spec := "labelMakes", unfollowed := true, recurses := true, apart := false }
def LabelMakesSaid : Prop := labelMakesRow.holds Try.pinned (OpenSpec.ofChange labelMakesSpec)

/-- ITS FALSE NEIGHBOUR: 'it returns false'. Refute it at one input. -/
def labelMakesWrong : ChangeSpec := { name := "labelMakes", fn := fun _ => fun
  | [d1, d2, d3] => { results := [.lit (.bool false)], args := [d1, d2, d3] }
  | _ => none }
def LabelMakesWrongFalsely : Prop := labelMakesRow.holds Try.pinned (OpenSpec.ofChange labelMakesWrong)

/-- 'baileylaw09.LabelOrders': WHATEVER THE INPUT: true; the input reads as it did. -/
def labelOrdersSpec : ChangeSpec := { name := "labelOrders", fn := fun _ => fun
  | [d1, d2] => { results := [.lit (.bool true)], args := [d1, d2] }
  | _ => none }
def labelOrdersRow : OpenClaim := { program := "ytndohmimcbmhdaa", sum := "faf10dedcb55c614de0c7298474bb38dd35d69266316e8a3d7d5341721ee939d", func := "bailey/baileylaw09.LabelOrders", spec := "labelOrders", unfollowed := true, recurses := true, apart := false }
def LabelOrdersSaid : Prop := labelOrdersRow.holds Try.pinned (OpenSpec.ofChange labelOrdersSpec)

/-- ITS FALSE NEIGHBOUR: 'it returns false'. Refute it at one input. -/
def labelOrdersWrong : ChangeSpec := { name := "labelOrders", fn := fun _ => fun
  | [d1, d2] => { results := [.lit (.bool false)], args := [d1, d2] }
  | _ => none }
def LabelOrdersWrongFalsely : Prop := labelOrdersRow.holds Try.pinned (OpenSpec.ofChange labelOrdersWrong)

/-- 'baileylaw09.LabelLattice': WHATEVER THE INPUT: true; the input reads as it did. -/
def labelLatticeSpec : ChangeSpec := { name := "labelLattice", fn := fun _ => fun
  | [d1, d2, d3] => { results := [.lit (.bool true)], args := [d1, d2, d3] }
  | _ => none }
def labelLatticeRow : OpenClaim := { program := "ytndohmimcbmhdaa", sum := "faf10dedcb55c614de0c7298474bb38dd35d69266316e8a3d7d5341721ee939d", func := "bailey/baileylaw09.LabelLattice", spec := "labelLattice", unfollowed := true, recurses := true, apart := false }
def LabelLatticeSaid : Prop := labelLatticeRow.holds Try.pinned (OpenSpec.ofChange labelLatticeSpec)

/-- ITS FALSE NEIGHBOUR: 'it returns false'. Refute it at one input. -/
def labelLatticeWrong : ChangeSpec := { name := "labelLattice", fn := fun _ => fun
  | [d1, d2, d3] => { results := [.lit (.bool false)], args := [d1, d2, d3] }
  | _ => none }
def LabelLatticeWrongFalsely : Prop := labelLatticeRow.holds Try.pinned (OpenSpec.ofChange labelLatticeWrong)

/-- 'baileylaw09.LabelMerges': WHATEVER THE INPUT: true; the input reads as it did. -/
def labelMergesSpec : ChangeSpec := { name := "labelMerges", fn := fun _ => fun
  | [d1, d2, d3] => { results := [.lit (.bool true)], args := [d1, d2, d3] }
  | _ => none }
def labelMergesRow : OpenClaim := { program := "ytndohmimcbmhdaa", sum := "faf10dedcb55c614de0c7298474bb38dd35d69266316e8a3d7d5341721ee939d", func := "bailey/baileylaw09.LabelMerges", spec := "labelMerges", unfollowed := true, recurses := true, apart := false }
def LabelMergesSaid : Prop := labelMergesRow.holds Try.pinned (OpenSpec.ofChange labelMergesSpec)

/-- ITS FALSE NEIGHBOUR: 'it returns false'. Refute it at one input. -/
def labelMergesWrong : ChangeSpec := { name := "labelMerges", fn := fun _ => fun
  | [d1, d2, d3] => { results := [.lit (.bool false)], args := [d1, d2, d3] }
  | _ => none }
def LabelMergesWrongFalsely : Prop := labelMergesRow.holds Try.pinned (OpenSpec.ofChange labelMergesWrong)

/-- 'baileylaw09.LabelRights': WHATEVER THE INPUT: true; the input reads as it did. -/
def labelRightsSpec : ChangeSpec := { name := "labelRights", fn := fun _ => fun
  | [d] => { results := [.lit (.bool true)], args := [d] }
  | _ => none }
def labelRightsRow : OpenClaim := { program := "ytndohmimcbmhdaa", sum := "faf10dedcb55c614de0c7298474bb38dd35d69266316e8a3d7d5341721ee939d", func := "bailey/baileylaw09.LabelRights", spec := "labelRights", unfollowed := true, recurses := true, apart := false }
def LabelRightsSaid : Prop := labelRightsRow.holds Try.pinned (OpenSpec.ofChange labelRightsSpec)

/-- ITS FALSE NEIGHBOUR: 'it returns false'. Refute it at one input. -/
def labelRightsWrong : ChangeSpec := { name := "labelRights", fn := fun _ => fun
  | [d] => { results := [.lit (.bool false)], args := [d] }
  | _ => none }
def LabelRightsWrongFalsely : Prop := labelRightsRow.holds Try.pinned (OpenSpec.ofChange labelRightsWrong)

/-- 'baileylaw09.LabelOwns': WHATEVER THE INPUT: true; the input reads as it did. -/
def labelOwnsSpec : ChangeSpec := { name := "labelOwns", fn := fun _ => fun
  | [d1, d2, d3] => { results := [.lit (.bool true)], args := [d1, d2, d3] }
  | _ => none }
def labelOwnsRow : OpenClaim := { program := "ytndohmimcbmhdaa", sum := "faf10dedcb55c614de0c7298474bb38dd35d69266316e8a3d7d5341721ee939d", func := "bailey/baileylaw09.LabelOwns", spec := "labelOwns", unfollowed := true, recurses := true, apart := false }
def LabelOwnsSaid : Prop := labelOwnsRow.holds Try.pinned (OpenSpec.ofChange labelOwnsSpec)

/-- ITS FALSE NEIGHBOUR: 'it returns false'. Refute it at one input. -/
def labelOwnsWrong : ChangeSpec := { name := "labelOwns", fn := fun _ => fun
  | [d1, d2, d3] => { results := [.lit (.bool false)], args := [d1, d2, d3] }
  | _ => none }
def LabelOwnsWrongFalsely : Prop := labelOwnsRow.holds Try.pinned (OpenSpec.ofChange labelOwnsWrong)

/-- 'baileylaw10.FlowReads': WHATEVER THE INPUT: true; the input reads as it did. -/
def flowReadsSpec : ChangeSpec := { name := "flowReads", fn := fun _ => fun
  | [d1, d2] => { results := [.lit (.bool true)], args := [d1, d2] }
  | _ => none }
def flowReadsRow : OpenClaim := { program := "ytndohmimcbmhdaa", sum := "faf10dedcb55c614de0c7298474bb38dd35d69266316e8a3d7d5341721ee939d", func := "bailey/baileylaw10.FlowReads", spec := "flowReads", unfollowed := true, recurses := true, apart := false }
def FlowReadsSaid : Prop := flowReadsRow.holds Try.pinned (OpenSpec.ofChange flowReadsSpec)

/-- ITS FALSE NEIGHBOUR: 'it returns false'. Refute it at one input. -/
def flowReadsWrong : ChangeSpec := { name := "flowReads", fn := fun _ => fun
  | [d1, d2] => { results := [.lit (.bool false)], args := [d1, d2] }
  | _ => none }
def FlowReadsWrongFalsely : Prop := flowReadsRow.holds Try.pinned (OpenSpec.ofChange flowReadsWrong)

/-- 'baileylaw10.FlowUp': WHATEVER THE INPUT: true; the input reads as it did. -/
def flowUpSpec : ChangeSpec := { name := "flowUp", fn := fun _ => fun
  | [d1, d2, d3] => { results := [.lit (.bool true)], args := [d1, d2, d3] }
  | _ => none }
def flowUpRow : OpenClaim := { program := "ytndohmimcbmhdaa", sum := "faf10dedcb55c614de0c7298474bb38dd35d69266316e8a3d7d5341721ee939d", func := "bailey/baileylaw10.FlowUp", spec := "flowUp", unfollowed := true, recurses := true, apart := false }
def FlowUpSaid : Prop := flowUpRow.holds Try.pinned (OpenSpec.ofChange flowUpSpec)

/-- ITS FALSE NEIGHBOUR: 'it returns false'. Refute it at one input. -/
def flowUpWrong : ChangeSpec := { name := "flowUp", fn := fun _ => fun
  | [d1, d2, d3] => { results := [.lit (.bool false)], args := [d1, d2, d3] }
  | _ => none }
def FlowUpWrongFalsely : Prop := flowUpRow.holds Try.pinned (OpenSpec.ofChange flowUpWrong)

/-- 'baileylaw10.FlowOwner': WHATEVER THE INPUT: true; the input reads as it did. -/
def flowOwnerSpec : ChangeSpec := { name := "flowOwner", fn := fun _ => fun
  | [d1, d2, d3] => { results := [.lit (.bool true)], args := [d1, d2, d3] }
  | _ => none }
def flowOwnerRow : OpenClaim := { program := "ytndohmimcbmhdaa", sum := "faf10dedcb55c614de0c7298474bb38dd35d69266316e8a3d7d5341721ee939d", func := "bailey/baileylaw10.FlowOwner", spec := "flowOwner", unfollowed := true, recurses := true, apart := false }
def FlowOwnerSaid : Prop := flowOwnerRow.holds Try.pinned (OpenSpec.ofChange flowOwnerSpec)

/-- ITS FALSE NEIGHBOUR: 'it returns false'. Refute it at one input. -/
def flowOwnerWrong : ChangeSpec := { name := "flowOwner", fn := fun _ => fun
  | [d1, d2, d3] => { results := [.lit (.bool false)], args := [d1, d2, d3] }
  | _ => none }
def FlowOwnerWrongFalsely : Prop := flowOwnerRow.holds Try.pinned (OpenSpec.ofChange flowOwnerWrong)

/-- 'baileylaw10.FlowMakes': WHATEVER THE INPUT: true; the input reads as it did. -/
def flowMakesSpec : ChangeSpec := { name := "flowMakes", fn := fun _ => fun
  | [d1, d2, d3] => { results := [.lit (.bool true)], args := [d1, d2, d3] }
  | _ => none }
def flowMakesRow : OpenClaim := { program := "ytndohmimcbmhdaa", sum := "faf10dedcb55c614de0c7298474bb38dd35d69266316e8a3d7d5341721ee939d", func := "bailey/baileylaw10.FlowMakes", spec := "flowMakes", unfollowed := true, recurses := true, apart := false }
def FlowMakesSaid : Prop := flowMakesRow.holds Try.pinned (OpenSpec.ofChange flowMakesSpec)

/-- ITS FALSE NEIGHBOUR: 'it returns false'. Refute it at one input. -/
def flowMakesWrong : ChangeSpec := { name := "flowMakes", fn := fun _ => fun
  | [d1, d2, d3] => { results := [.lit (.bool false)], args := [d1, d2, d3] }
  | _ => none }
def FlowMakesWrongFalsely : Prop := flowMakesRow.holds Try.pinned (OpenSpec.ofChange flowMakesWrong)

/-- 'baileylaw10.FlowTurns': WHATEVER THE INPUT: true; the input reads as it did. -/
def flowTurnsSpec : ChangeSpec := { name := "flowTurns", fn := fun _ => fun
  | [d1, d2] => { results := [.lit (.bool true)], args := [d1, d2] }
  | _ => none }
def flowTurnsRow : OpenClaim := { program := "ytndohmimcbmhdaa", sum := "faf10dedcb55c614de0c7298474bb38dd35d69266316e8a3d7d5341721ee939d", func := "bailey/baileylaw10.FlowTurns", spec := "flowTurns", unfollowed := true, recurses := true, apart := false }
def FlowTurnsSaid : Prop := flowTurnsRow.holds Try.pinned (OpenSpec.ofChange flowTurnsSpec)

/-- ITS FALSE NEIGHBOUR: 'it returns false'. Refute it at one input. -/
def flowTurnsWrong : ChangeSpec := { name := "flowTurns", fn := fun _ => fun
  | [d1, d2] => { results := [.lit (.bool false)], args := [d1, d2] }
  | _ => none }
def FlowTurnsWrongFalsely : Prop := flowTurnsRow.holds Try.pinned (OpenSpec.ofChange flowTurnsWrong)

/-- 'baileylaw10.FlowEnters': WHATEVER THE INPUT: true; the input reads as it did. -/
def flowEntersSpec : ChangeSpec := { name := "flowEnters", fn := fun _ => fun
  | [d1, d2, d3] => { results := [.lit (.bool true)], args := [d1, d2, d3] }
  | _ => none }
def flowEntersRow : OpenClaim := { program := "ytndohmimcbmhdaa", sum := "faf10dedcb55c614de0c7298474bb38dd35d69266316e8a3d7d5341721ee939d", func := "bailey/baileylaw10.FlowEnters", spec := "flowEnters", unfollowed := true, recurses := true, apart := false }
def FlowEntersSaid : Prop := flowEntersRow.holds Try.pinned (OpenSpec.ofChange flowEntersSpec)

/-- ITS FALSE NEIGHBOUR: 'it returns false'. Refute it at one input. -/
def flowEntersWrong : ChangeSpec := { name := "flowEnters", fn := fun _ => fun
  | [d1, d2, d3] => { results := [.lit (.bool false)], args := [d1, d2, d3] }
  | _ => none }
def FlowEntersWrongFalsely : Prop := flowEntersRow.holds Try.pinned (OpenSpec.ofChange flowEntersWrong)

/-- 'baileylaw10.FlowGates': WHATEVER THE INPUT: true; the input reads as it did. -/
def flowGatesSpec : ChangeSpec := { name := "flowGates", fn := fun _ => fun
  | [d1, d2, d3] => { results := [.lit (.bool true)], args := [d1, d2, d3] }
  | _ => none }
def flowGatesRow : OpenClaim := { program := "ytndohmimcbmhdaa", sum := "faf10dedcb55c614de0c7298474bb38dd35d69266316e8a3d7d5341721ee939d", func := "bailey/baileylaw10.FlowGates", spec := "flowGates", unfollowed := true, recurses := true, apart := false }
def FlowGatesSaid : Prop := flowGatesRow.holds Try.pinned (OpenSpec.ofChange flowGatesSpec)

/-- ITS FALSE NEIGHBOUR: 'it returns false'. Refute it at one input. -/
def flowGatesWrong : ChangeSpec := { name := "flowGates", fn := fun _ => fun
  | [d1, d2, d3] => { results := [.lit (.bool false)], args := [d1, d2, d3] }
  | _ => none }
def FlowGatesWrongFalsely : Prop := flowGatesRow.holds Try.pinned (OpenSpec.ofChange flowGatesWrong)

/-- 'baileylaw17.SpaceNames': WHATEVER THE INPUT: true; the input reads as it did. -/
def spaceNamesSpec : ChangeSpec := { name := "spaceNames", fn := fun _ => fun
  | [] => { results := [.lit (.bool true)], args := [] }
  | _ => none }
def spaceNamesRow : OpenClaim := { program := "ytndohmimcbmhdaa", sum := "faf10dedcb55c614de0c7298474bb38dd35d69266316e8a3d7d5341721ee939d", func := "bailey/baileylaw17.SpaceNames", spec := "spaceNames", inPlace := ["math.Float64frombits"], unfollowed := true, recurses := true, apart := false }
def SpaceNamesSaid : Prop := spaceNamesRow.holds Try.pinned (OpenSpec.ofChange spaceNamesSpec)

/-- ITS FALSE NEIGHBOUR: 'it returns false'. Refute it at one input. -/
def spaceNamesWrong : ChangeSpec := { name := "spaceNames", fn := fun _ => fun
  | [] => { results := [.lit (.bool false)], args := [] }
  | _ => none }
def SpaceNamesWrongFalsely : Prop := spaceNamesRow.holds Try.pinned (OpenSpec.ofChange spaceNamesWrong)

/-- 'baileylaw17.SpaceMaps': WHATEVER THE INPUT: true; the input reads as it did. -/
def spaceMapsSpec : ChangeSpec := { name := "spaceMaps", fn := fun _ => fun
  | [d1, d2, d3] => { results := [.lit (.bool true)], args := [d1, d2, d3] }
  | _ => none }
def spaceMapsRow : OpenClaim := { program := "ytndohmimcbmhdaa", sum := "faf10dedcb55c614de0c7298474bb38dd35d69266316e8a3d7d5341721ee939d", func := "bailey/baileylaw17.SpaceMaps", spec := "spaceMaps", inPlace := ["math.Float64frombits"], unfollowed := true, recurses := true, apart := false }
def SpaceMapsSaid : Prop := spaceMapsRow.holds Try.pinned (OpenSpec.ofChange spaceMapsSpec)

/-- ITS FALSE NEIGHBOUR: 'it returns false'. Refute it at one input. -/
def spaceMapsWrong : ChangeSpec := { name := "spaceMaps", fn := fun _ => fun
  | [d1, d2, d3] => { results := [.lit (.bool false)], args := [d1, d2, d3] }
  | _ => none }
def SpaceMapsWrongFalsely : Prop := spaceMapsRow.holds Try.pinned (OpenSpec.ofChange spaceMapsWrong)

/-- 'baileylaw17.SpaceWindows': WHATEVER THE INPUT: true; the input reads as it did. -/
def spaceWindowsSpec : ChangeSpec := { name := "spaceWindows", fn := fun _ => fun
  | [d1, d2, d3] => { results := [.lit (.bool true)], args := [d1, d2, d3] }
  | _ => none }
def spaceWindowsRow : OpenClaim := { program := "ytndohmimcbmhdaa", sum := "faf10dedcb55c614de0c7298474bb38dd35d69266316e8a3d7d5341721ee939d", func := "bailey/baileylaw17.SpaceWindows", spec := "spaceWindows", inPlace := ["math.Float64frombits"], unfollowed := true, recurses := true, apart := false }
def SpaceWindowsSaid : Prop := spaceWindowsRow.holds Try.pinned (OpenSpec.ofChange spaceWindowsSpec)

/-- ITS FALSE NEIGHBOUR: 'it returns false'. Refute it at one input. -/
def spaceWindowsWrong : ChangeSpec := { name := "spaceWindows", fn := fun _ => fun
  | [d1, d2, d3] => { results := [.lit (.bool false)], args := [d1, d2, d3] }
  | _ => none }
def SpaceWindowsWrongFalsely : Prop := spaceWindowsRow.holds Try.pinned (OpenSpec.ofChange spaceWindowsWrong)

/-- 'baileylaw17.SpaceFour': WHATEVER THE INPUT: true; the input reads as it did. -/
def spaceFourSpec : ChangeSpec := { name := "spaceFour", fn := fun _ => fun
  | [d1, d2, d3] => { results := [.lit (.bool true)], args := [d1, d2, d3] }
  | _ => none }
def spaceFourRow : OpenClaim := { program := "ytndohmimcbmhdaa", sum := "faf10dedcb55c614de0c7298474bb38dd35d69266316e8a3d7d5341721ee939d", func := "bailey/baileylaw17.SpaceFour", spec := "spaceFour", inPlace := ["math.Float64frombits"], unfollowed := true, recurses := true, apart := false }
def SpaceFourSaid : Prop := spaceFourRow.holds Try.pinned (OpenSpec.ofChange spaceFourSpec)

/-- ITS FALSE NEIGHBOUR: 'it returns false'. Refute it at one input. -/
def spaceFourWrong : ChangeSpec := { name := "spaceFour", fn := fun _ => fun
  | [d1, d2, d3] => { results := [.lit (.bool false)], args := [d1, d2, d3] }
  | _ => none }
def SpaceFourWrongFalsely : Prop := spaceFourRow.holds Try.pinned (OpenSpec.ofChange spaceFourWrong)

/-- 'baileylaw18.GateNames': WHATEVER THE INPUT: true; the input reads as it did. -/
def gateNamesSpec : ChangeSpec := { name := "gateNames", fn := fun _ => fun
  | [] => { results := [.lit (.bool true)], args := [] }
  | _ => none }
def gateNamesRow : OpenClaim := { program := "ytndohmimcbmhdaa", sum := "faf10dedcb55c614de0c7298474bb38dd35d69266316e8a3d7d5341721ee939d", func := "bailey/baileylaw18.GateNames", spec := "gateNames", unfollowed := true, recurses := true, apart := false }
def GateNamesSaid : Prop := gateNamesRow.holds Try.pinned (OpenSpec.ofChange gateNamesSpec)

/-- ITS FALSE NEIGHBOUR: 'it returns false'. Refute it at one input. -/
def gateNamesWrong : ChangeSpec := { name := "gateNames", fn := fun _ => fun
  | [] => { results := [.lit (.bool false)], args := [] }
  | _ => none }
def GateNamesWrongFalsely : Prop := gateNamesRow.holds Try.pinned (OpenSpec.ofChange gateNamesWrong)

/-- 'baileylaw18.GatePasses': WHATEVER THE INPUT: true; the input reads as it did. -/
def gatePassesSpec : ChangeSpec := { name := "gatePasses", fn := fun _ => fun
  | [d1, d2, d3] => { results := [.lit (.bool true)], args := [d1, d2, d3] }
  | _ => none }
def gatePassesRow : OpenClaim := { program := "ytndohmimcbmhdaa", sum := "faf10dedcb55c614de0c7298474bb38dd35d69266316e8a3d7d5341721ee939d", func := "bailey/baileylaw18.GatePasses", spec := "gatePasses", unfollowed := true, recurses := true, apart := false }
def GatePassesSaid : Prop := gatePassesRow.holds Try.pinned (OpenSpec.ofChange gatePassesSpec)

/-- ITS FALSE NEIGHBOUR: 'it returns false'. Refute it at one input. -/
def gatePassesWrong : ChangeSpec := { name := "gatePasses", fn := fun _ => fun
  | [d1, d2, d3] => { results := [.lit (.bool false)], args := [d1, d2, d3] }
  | _ => none }
def GatePassesWrongFalsely : Prop := gatePassesRow.holds Try.pinned (OpenSpec.ofChange gatePassesWrong)

/-- 'baileylaw18.GateMints': WHATEVER THE INPUT: true; the input reads as it did. -/
def gateMintsSpec : ChangeSpec := { name := "gateMints", fn := fun _ => fun
  | [d1, d2] => { results := [.lit (.bool true)], args := [d1, d2] }
  | _ => none }
def gateMintsRow : OpenClaim := { program := "ytndohmimcbmhdaa", sum := "faf10dedcb55c614de0c7298474bb38dd35d69266316e8a3d7d5341721ee939d", func := "bailey/baileylaw18.GateMints", spec := "gateMints", unfollowed := true, recurses := true, apart := false }
def GateMintsSaid : Prop := gateMintsRow.holds Try.pinned (OpenSpec.ofChange gateMintsSpec)

/-- ITS FALSE NEIGHBOUR: 'it returns false'. Refute it at one input. -/
def gateMintsWrong : ChangeSpec := { name := "gateMints", fn := fun _ => fun
  | [d1, d2] => { results := [.lit (.bool false)], args := [d1, d2] }
  | _ => none }
def GateMintsWrongFalsely : Prop := gateMintsRow.holds Try.pinned (OpenSpec.ofChange gateMintsWrong)

/-- 'baileylaw18.GateOwns': WHATEVER THE INPUT: true; the input reads as it did. -/
def gateOwnsSpec : ChangeSpec := { name := "gateOwns", fn := fun _ => fun
  | [d1, d2, d3] => { results := [.lit (.bool true)], args := [d1, d2, d3] }
  | _ => none }
def gateOwnsRow : OpenClaim := { program := "ytndohmimcbmhdaa", sum := "faf10dedcb55c614de0c7298474bb38dd35d69266316e8a3d7d5341721ee939d", func := "bailey/baileylaw18.GateOwns", spec := "gateOwns", unfollowed := true, recurses := true, apart := false }
def GateOwnsSaid : Prop := gateOwnsRow.holds Try.pinned (OpenSpec.ofChange gateOwnsSpec)

/-- ITS FALSE NEIGHBOUR: 'it returns false'. Refute it at one input. -/
def gateOwnsWrong : ChangeSpec := { name := "gateOwns", fn := fun _ => fun
  | [d1, d2, d3] => { results := [.lit (.bool false)], args := [d1, d2, d3] }
  | _ => none }
def GateOwnsWrongFalsely : Prop := gateOwnsRow.holds Try.pinned (OpenSpec.ofChange gateOwnsWrong)

/-- 'baileylaw18.GateApart': WHATEVER THE INPUT: true; the input reads as it did. -/
def gateApartSpec : ChangeSpec := { name := "gateApart", fn := fun _ => fun
  | [d1, d2, d3] => { results := [.lit (.bool true)], args := [d1, d2, d3] }
  | _ => none }
def gateApartRow : OpenClaim := { program := "ytndohmimcbmhdaa", sum := "faf10dedcb55c614de0c7298474bb38dd35d69266316e8a3d7d5341721ee939d", func := "bailey/baileylaw18.GateApart", spec := "gateApart", unfollowed := true, recurses := true, apart := false }
def GateApartSaid : Prop := gateApartRow.holds Try.pinned (OpenSpec.ofChange gateApartSpec)

/-- ITS FALSE NEIGHBOUR: 'it returns false'. Refute it at one input. -/
def gateApartWrong : ChangeSpec := { name := "gateApart", fn := fun _ => fun
  | [d1, d2, d3] => { results := [.lit (.bool false)], args := [d1, d2, d3] }
  | _ => none }
def GateApartWrongFalsely : Prop := gateApartRow.holds Try.pinned (OpenSpec.ofChange gateApartWrong)

/-- 'baileylaw11.ThingNames': WHATEVER THE INPUT: true; the input reads as it did. -/
def thingNamesSpec : ChangeSpec := { name := "thingNames", fn := fun _ => fun
  | [] => { results := [.lit (.bool true)], args := [] }
  | _ => none }
def thingNamesRow : OpenClaim := { program := "ytndohmimcbmhdaa", sum := "faf10dedcb55c614de0c7298474bb38dd35d69266316e8a3d7d5341721ee939d", func := "bailey/baileylaw11.ThingNames", spec := "thingNames", inPlace := ["math.Float64frombits"], unfollowed := true, recurses := true, apart := false }
def ThingNamesSaid : Prop := thingNamesRow.holds Try.pinned (OpenSpec.ofChange thingNamesSpec)

/-- ITS FALSE NEIGHBOUR: 'it returns false'. Refute it at one input. -/
def thingNamesWrong : ChangeSpec := { name := "thingNames", fn := fun _ => fun
  | [] => { results := [.lit (.bool false)], args := [] }
  | _ => none }
def ThingNamesWrongFalsely : Prop := thingNamesRow.holds Try.pinned (OpenSpec.ofChange thingNamesWrong)

/-- 'baileylaw11.ThingImages': WHATEVER THE INPUT: true; the input reads as it did. -/
def thingImagesSpec : ChangeSpec := { name := "thingImages", fn := fun _ => fun
  | [d] => { results := [.lit (.bool true)], args := [d] }
  | _ => none }
def thingImagesRow : OpenClaim := { program := "ytndohmimcbmhdaa", sum := "faf10dedcb55c614de0c7298474bb38dd35d69266316e8a3d7d5341721ee939d", func := "bailey/baileylaw11.ThingImages", spec := "thingImages", inPlace := ["math.Float64frombits"], unfollowed := true, recurses := true, apart := false }
def ThingImagesSaid : Prop := thingImagesRow.holds Try.pinned (OpenSpec.ofChange thingImagesSpec)

/-- ITS FALSE NEIGHBOUR: 'it returns false'. Refute it at one input. -/
def thingImagesWrong : ChangeSpec := { name := "thingImages", fn := fun _ => fun
  | [d] => { results := [.lit (.bool false)], args := [d] }
  | _ => none }
def ThingImagesWrongFalsely : Prop := thingImagesRow.holds Try.pinned (OpenSpec.ofChange thingImagesWrong)

/-- 'baileylaw11.ThingReads': WHATEVER THE INPUT: true; the input reads as it did. -/
def thingReadsSpec : ChangeSpec := { name := "thingReads", fn := fun _ => fun
  | [d] => { results := [.lit (.bool true)], args := [d] }
  | _ => none }
def thingReadsRow : OpenClaim := { program := "ytndohmimcbmhdaa", sum := "faf10dedcb55c614de0c7298474bb38dd35d69266316e8a3d7d5341721ee939d", func := "bailey/baileylaw11.ThingReads", spec := "thingReads", inPlace := ["math.Float64frombits"], unfollowed := true, recurses := true, apart := false }
def ThingReadsSaid : Prop := thingReadsRow.holds Try.pinned (OpenSpec.ofChange thingReadsSpec)

/-- ITS FALSE NEIGHBOUR: 'it returns false'. Refute it at one input. -/
def thingReadsWrong : ChangeSpec := { name := "thingReads", fn := fun _ => fun
  | [d] => { results := [.lit (.bool false)], args := [d] }
  | _ => none }
def ThingReadsWrongFalsely : Prop := thingReadsRow.holds Try.pinned (OpenSpec.ofChange thingReadsWrong)

/-- 'baileylaw11.ThingBack': WHATEVER THE INPUT: true; the input reads as it did. -/
def thingBackSpec : ChangeSpec := { name := "thingBack", fn := fun _ => fun
  | [d1, d2] => { results := [.lit (.bool true)], args := [d1, d2] }
  | _ => none }
def thingBackRow : OpenClaim := { program := "ytndohmimcbmhdaa", sum := "faf10dedcb55c614de0c7298474bb38dd35d69266316e8a3d7d5341721ee939d", func := "bailey/baileylaw11.ThingBack", spec := "thingBack", inPlace := ["math.Float64frombits"], unfollowed := true, recurses := true, apart := false }
def ThingBackSaid : Prop := thingBackRow.holds Try.pinned (OpenSpec.ofChange thingBackSpec)

/-- ITS FALSE NEIGHBOUR: 'it returns false'. Refute it at one input. -/
def thingBackWrong : ChangeSpec := { name := "thingBack", fn := fun _ => fun
  | [d1, d2] => { results := [.lit (.bool false)], args := [d1, d2] }
  | _ => none }
def ThingBackWrongFalsely : Prop := thingBackRow.holds Try.pinned (OpenSpec.ofChange thingBackWrong)

/-- 'baileylaw11.ThingSizes': WHATEVER THE INPUT: true; the input reads as it did. -/
def thingSizesSpec : ChangeSpec := { name := "thingSizes", fn := fun _ => fun
  | [d] => { results := [.lit (.bool true)], args := [d] }
  | _ => none }
def thingSizesRow : OpenClaim := { program := "ytndohmimcbmhdaa", sum := "faf10dedcb55c614de0c7298474bb38dd35d69266316e8a3d7d5341721ee939d", func := "bailey/baileylaw11.ThingSizes", spec := "thingSizes", inPlace := ["math.Float64frombits"], unfollowed := true, recurses := true, apart := false }
def ThingSizesSaid : Prop := thingSizesRow.holds Try.pinned (OpenSpec.ofChange thingSizesSpec)

/-- ITS FALSE NEIGHBOUR: 'it returns false'. Refute it at one input. -/
def thingSizesWrong : ChangeSpec := { name := "thingSizes", fn := fun _ => fun
  | [d] => { results := [.lit (.bool false)], args := [d] }
  | _ => none }
def ThingSizesWrongFalsely : Prop := thingSizesRow.holds Try.pinned (OpenSpec.ofChange thingSizesWrong)

/-- 'baileylaw11.ThingRights': WHATEVER THE INPUT: true; the input reads as it did. -/
def thingRightsSpec : ChangeSpec := { name := "thingRights", fn := fun _ => fun
  | [d1, d2] => { results := [.lit (.bool true)], args := [d1, d2] }
  | _ => none }
def thingRightsRow : OpenClaim := { program := "ytndohmimcbmhdaa", sum := "faf10dedcb55c614de0c7298474bb38dd35d69266316e8a3d7d5341721ee939d", func := "bailey/baileylaw11.ThingRights", spec := "thingRights", inPlace := ["math.Float64frombits"], unfollowed := true, recurses := true, apart := false }
def ThingRightsSaid : Prop := thingRightsRow.holds Try.pinned (OpenSpec.ofChange thingRightsSpec)

/-- ITS FALSE NEIGHBOUR: 'it returns false'. Refute it at one input. -/
def thingRightsWrong : ChangeSpec := { name := "thingRights", fn := fun _ => fun
  | [d1, d2] => { results := [.lit (.bool false)], args := [d1, d2] }
  | _ => none }
def ThingRightsWrongFalsely : Prop := thingRightsRow.holds Try.pinned (OpenSpec.ofChange thingRightsWrong)

/-- 'baileylaw11.ThingApart': WHATEVER THE INPUT: true; the input reads as it did. -/
def thingApartSpec : ChangeSpec := { name := "thingApart", fn := fun _ => fun
  | [d1, d2] => { results := [.lit (.bool true)], args := [d1, d2] }
  | _ => none }
def thingApartRow : OpenClaim := { program := "ytndohmimcbmhdaa", sum := "faf10dedcb55c614de0c7298474bb38dd35d69266316e8a3d7d5341721ee939d", func := "bailey/baileylaw11.ThingApart", spec := "thingApart", inPlace := ["math.Float64frombits"], unfollowed := true, recurses := true, apart := false }
def ThingApartSaid : Prop := thingApartRow.holds Try.pinned (OpenSpec.ofChange thingApartSpec)

/-- ITS FALSE NEIGHBOUR: 'it returns false'. Refute it at one input. -/
def thingApartWrong : ChangeSpec := { name := "thingApart", fn := fun _ => fun
  | [d1, d2] => { results := [.lit (.bool false)], args := [d1, d2] }
  | _ => none }
def ThingApartWrongFalsely : Prop := thingApartRow.holds Try.pinned (OpenSpec.ofChange thingApartWrong)

/- THE SECOND FORM. 'bulk': how many values and letters a reading holds, each counted each time it is reached (what is shared counts as often as it is met; a slice's spare places count too). A statement '..UptoSaid' is the law's where the arguments, and the package variables that the reading takes, are together of bulk at most 1048576: NARROWER than '..Said'. Prove '..Said' where nothing that the law and all that it calls make is longer than what came in: it says more and counts as full. Else prove '..UptoSaid'. A law counts once. -/
mutual
def uptoBulk {H : Type} : DataW H → Nat
  | .lit (.string bytes) => bytes.length + 1
  | .lit _ => 1
  | .nil => 1
  | .ptr d => uptoBulk d + 1
  | .slice elems spare => uptoBulkAll elems + uptoBulkAll spare + 1
  | .agg parts => uptoBulkAll parts + 1
  | .iface _ d => uptoBulk d + 1
  | .map entries => uptoBulkEntries entries + 1
  | .held _ => 1
def uptoBulkAll {H : Type} : List (DataW H) → Nat
  | [] => 0
  | d :: r => uptoBulk d + uptoBulkAll r
def uptoBulkEntries {H : Type} : List (Lit × DataW H) → Nat
  | [] => 0
  | x :: r => uptoBulkEntry x + uptoBulkEntries r
def uptoBulkEntry {H : Type} : Lit × DataW H → Nat
  | (.string bytes, d) => bytes.length + uptoBulk d + 1
  | (_, d) => uptoBulk d + 1
 end
def uptoSmall : (H : Type) → List (DataW H) → Bool := fun _ ds => decide (uptoBulkAll ds ≤ 1048576)
def OpenSpec.upto (s : _root_.Go.ChangeSpec) : _root_.Go.OpenSpec := { _root_.Go.OpenSpec.ofChange s with cond := some uptoSmall }

/-- 'baileylaw09.LabelNames', WHERE WHAT IT READS IS OF BULK AT MOST 1048576: true; the input reads as it did. -/
def labelNamesUptoRow : OpenClaim := { program := "ytndohmimcbmhdaa", sum := "faf10dedcb55c614de0c7298474bb38dd35d69266316e8a3d7d5341721ee939d", func := "bailey/baileylaw09.LabelNames", spec := "labelNames", unfollowed := true, recurses := true, apart := false, narrowed := true }
def LabelNamesUptoSaid : Prop := labelNamesUptoRow.holds Try.pinned (OpenSpec.upto labelNamesSpec)

/-- 'baileylaw09.LabelMakes', WHERE WHAT IT READS IS OF BULK AT MOST 1048576: true; the input reads as it did. -/
def labelMakesUptoRow : OpenClaim := { program := "ytndohmimcbmhdaa", sum := "faf10dedcb55c614de0c7298474bb38dd35d69266316e8a3d7d5341721ee939d", func := "bailey/baileylaw09.LabelMakes", spec := "labelMakes", unfollowed := true, recurses := true, apart := false, narrowed := true }
def LabelMakesUptoSaid : Prop := labelMakesUptoRow.holds Try.pinned (OpenSpec.upto labelMakesSpec)

/-- 'baileylaw09.LabelOrders', WHERE WHAT IT READS IS OF BULK AT MOST 1048576: true; the input reads as it did. -/
def labelOrdersUptoRow : OpenClaim := { program := "ytndohmimcbmhdaa", sum := "faf10dedcb55c614de0c7298474bb38dd35d69266316e8a3d7d5341721ee939d", func := "bailey/baileylaw09.LabelOrders", spec := "labelOrders", unfollowed := true, recurses := true, apart := false, narrowed := true }
def LabelOrdersUptoSaid : Prop := labelOrdersUptoRow.holds Try.pinned (OpenSpec.upto labelOrdersSpec)

/-- 'baileylaw09.LabelLattice', WHERE WHAT IT READS IS OF BULK AT MOST 1048576: true; the input reads as it did. -/
def labelLatticeUptoRow : OpenClaim := { program := "ytndohmimcbmhdaa", sum := "faf10dedcb55c614de0c7298474bb38dd35d69266316e8a3d7d5341721ee939d", func := "bailey/baileylaw09.LabelLattice", spec := "labelLattice", unfollowed := true, recurses := true, apart := false, narrowed := true }
def LabelLatticeUptoSaid : Prop := labelLatticeUptoRow.holds Try.pinned (OpenSpec.upto labelLatticeSpec)

/-- 'baileylaw09.LabelMerges', WHERE WHAT IT READS IS OF BULK AT MOST 1048576: true; the input reads as it did. -/
def labelMergesUptoRow : OpenClaim := { program := "ytndohmimcbmhdaa", sum := "faf10dedcb55c614de0c7298474bb38dd35d69266316e8a3d7d5341721ee939d", func := "bailey/baileylaw09.LabelMerges", spec := "labelMerges", unfollowed := true, recurses := true, apart := false, narrowed := true }
def LabelMergesUptoSaid : Prop := labelMergesUptoRow.holds Try.pinned (OpenSpec.upto labelMergesSpec)

/-- 'baileylaw09.LabelRights', WHERE WHAT IT READS IS OF BULK AT MOST 1048576: true; the input reads as it did. -/
def labelRightsUptoRow : OpenClaim := { program := "ytndohmimcbmhdaa", sum := "faf10dedcb55c614de0c7298474bb38dd35d69266316e8a3d7d5341721ee939d", func := "bailey/baileylaw09.LabelRights", spec := "labelRights", unfollowed := true, recurses := true, apart := false, narrowed := true }
def LabelRightsUptoSaid : Prop := labelRightsUptoRow.holds Try.pinned (OpenSpec.upto labelRightsSpec)

/-- 'baileylaw09.LabelOwns', WHERE WHAT IT READS IS OF BULK AT MOST 1048576: true; the input reads as it did. -/
def labelOwnsUptoRow : OpenClaim := { program := "ytndohmimcbmhdaa", sum := "faf10dedcb55c614de0c7298474bb38dd35d69266316e8a3d7d5341721ee939d", func := "bailey/baileylaw09.LabelOwns", spec := "labelOwns", unfollowed := true, recurses := true, apart := false, narrowed := true }
def LabelOwnsUptoSaid : Prop := labelOwnsUptoRow.holds Try.pinned (OpenSpec.upto labelOwnsSpec)

/-- 'baileylaw10.FlowReads', WHERE WHAT IT READS IS OF BULK AT MOST 1048576: true; the input reads as it did. -/
def flowReadsUptoRow : OpenClaim := { program := "ytndohmimcbmhdaa", sum := "faf10dedcb55c614de0c7298474bb38dd35d69266316e8a3d7d5341721ee939d", func := "bailey/baileylaw10.FlowReads", spec := "flowReads", unfollowed := true, recurses := true, apart := false, narrowed := true }
def FlowReadsUptoSaid : Prop := flowReadsUptoRow.holds Try.pinned (OpenSpec.upto flowReadsSpec)

/-- 'baileylaw10.FlowUp', WHERE WHAT IT READS IS OF BULK AT MOST 1048576: true; the input reads as it did. -/
def flowUpUptoRow : OpenClaim := { program := "ytndohmimcbmhdaa", sum := "faf10dedcb55c614de0c7298474bb38dd35d69266316e8a3d7d5341721ee939d", func := "bailey/baileylaw10.FlowUp", spec := "flowUp", unfollowed := true, recurses := true, apart := false, narrowed := true }
def FlowUpUptoSaid : Prop := flowUpUptoRow.holds Try.pinned (OpenSpec.upto flowUpSpec)

/-- 'baileylaw10.FlowOwner', WHERE WHAT IT READS IS OF BULK AT MOST 1048576: true; the input reads as it did. -/
def flowOwnerUptoRow : OpenClaim := { program := "ytndohmimcbmhdaa", sum := "faf10dedcb55c614de0c7298474bb38dd35d69266316e8a3d7d5341721ee939d", func := "bailey/baileylaw10.FlowOwner", spec := "flowOwner", unfollowed := true, recurses := true, apart := false, narrowed := true }
def FlowOwnerUptoSaid : Prop := flowOwnerUptoRow.holds Try.pinned (OpenSpec.upto flowOwnerSpec)

/-- 'baileylaw10.FlowMakes', WHERE WHAT IT READS IS OF BULK AT MOST 1048576: true; the input reads as it did. -/
def flowMakesUptoRow : OpenClaim := { program := "ytndohmimcbmhdaa", sum := "faf10dedcb55c614de0c7298474bb38dd35d69266316e8a3d7d5341721ee939d", func := "bailey/baileylaw10.FlowMakes", spec := "flowMakes", unfollowed := true, recurses := true, apart := false, narrowed := true }
def FlowMakesUptoSaid : Prop := flowMakesUptoRow.holds Try.pinned (OpenSpec.upto flowMakesSpec)

/-- 'baileylaw10.FlowTurns', WHERE WHAT IT READS IS OF BULK AT MOST 1048576: true; the input reads as it did. -/
def flowTurnsUptoRow : OpenClaim := { program := "ytndohmimcbmhdaa", sum := "faf10dedcb55c614de0c7298474bb38dd35d69266316e8a3d7d5341721ee939d", func := "bailey/baileylaw10.FlowTurns", spec := "flowTurns", unfollowed := true, recurses := true, apart := false, narrowed := true }
def FlowTurnsUptoSaid : Prop := flowTurnsUptoRow.holds Try.pinned (OpenSpec.upto flowTurnsSpec)

/-- 'baileylaw10.FlowEnters', WHERE WHAT IT READS IS OF BULK AT MOST 1048576: true; the input reads as it did. -/
def flowEntersUptoRow : OpenClaim := { program := "ytndohmimcbmhdaa", sum := "faf10dedcb55c614de0c7298474bb38dd35d69266316e8a3d7d5341721ee939d", func := "bailey/baileylaw10.FlowEnters", spec := "flowEnters", unfollowed := true, recurses := true, apart := false, narrowed := true }
def FlowEntersUptoSaid : Prop := flowEntersUptoRow.holds Try.pinned (OpenSpec.upto flowEntersSpec)

/-- 'baileylaw10.FlowGates', WHERE WHAT IT READS IS OF BULK AT MOST 1048576: true; the input reads as it did. -/
def flowGatesUptoRow : OpenClaim := { program := "ytndohmimcbmhdaa", sum := "faf10dedcb55c614de0c7298474bb38dd35d69266316e8a3d7d5341721ee939d", func := "bailey/baileylaw10.FlowGates", spec := "flowGates", unfollowed := true, recurses := true, apart := false, narrowed := true }
def FlowGatesUptoSaid : Prop := flowGatesUptoRow.holds Try.pinned (OpenSpec.upto flowGatesSpec)

/-- 'baileylaw17.SpaceNames', WHERE WHAT IT READS IS OF BULK AT MOST 1048576: true; the input reads as it did. -/
def spaceNamesUptoRow : OpenClaim := { program := "ytndohmimcbmhdaa", sum := "faf10dedcb55c614de0c7298474bb38dd35d69266316e8a3d7d5341721ee939d", func := "bailey/baileylaw17.SpaceNames", spec := "spaceNames", inPlace := ["math.Float64frombits"], unfollowed := true, recurses := true, apart := false, narrowed := true }
def SpaceNamesUptoSaid : Prop := spaceNamesUptoRow.holds Try.pinned (OpenSpec.upto spaceNamesSpec)

/-- 'baileylaw17.SpaceMaps', WHERE WHAT IT READS IS OF BULK AT MOST 1048576: true; the input reads as it did. -/
def spaceMapsUptoRow : OpenClaim := { program := "ytndohmimcbmhdaa", sum := "faf10dedcb55c614de0c7298474bb38dd35d69266316e8a3d7d5341721ee939d", func := "bailey/baileylaw17.SpaceMaps", spec := "spaceMaps", inPlace := ["math.Float64frombits"], unfollowed := true, recurses := true, apart := false, narrowed := true }
def SpaceMapsUptoSaid : Prop := spaceMapsUptoRow.holds Try.pinned (OpenSpec.upto spaceMapsSpec)

/-- 'baileylaw17.SpaceWindows', WHERE WHAT IT READS IS OF BULK AT MOST 1048576: true; the input reads as it did. -/
def spaceWindowsUptoRow : OpenClaim := { program := "ytndohmimcbmhdaa", sum := "faf10dedcb55c614de0c7298474bb38dd35d69266316e8a3d7d5341721ee939d", func := "bailey/baileylaw17.SpaceWindows", spec := "spaceWindows", inPlace := ["math.Float64frombits"], unfollowed := true, recurses := true, apart := false, narrowed := true }
def SpaceWindowsUptoSaid : Prop := spaceWindowsUptoRow.holds Try.pinned (OpenSpec.upto spaceWindowsSpec)

/-- 'baileylaw17.SpaceFour', WHERE WHAT IT READS IS OF BULK AT MOST 1048576: true; the input reads as it did. -/
def spaceFourUptoRow : OpenClaim := { program := "ytndohmimcbmhdaa", sum := "faf10dedcb55c614de0c7298474bb38dd35d69266316e8a3d7d5341721ee939d", func := "bailey/baileylaw17.SpaceFour", spec := "spaceFour", inPlace := ["math.Float64frombits"], unfollowed := true, recurses := true, apart := false, narrowed := true }
def SpaceFourUptoSaid : Prop := spaceFourUptoRow.holds Try.pinned (OpenSpec.upto spaceFourSpec)

/-- 'baileylaw18.GateNames', WHERE WHAT IT READS IS OF BULK AT MOST 1048576: true; the input reads as it did. -/
def gateNamesUptoRow : OpenClaim := { program := "ytndohmimcbmhdaa", sum := "faf10dedcb55c614de0c7298474bb38dd35d69266316e8a3d7d5341721ee939d", func := "bailey/baileylaw18.GateNames", spec := "gateNames", unfollowed := true, recurses := true, apart := false, narrowed := true }
def GateNamesUptoSaid : Prop := gateNamesUptoRow.holds Try.pinned (OpenSpec.upto gateNamesSpec)

/-- 'baileylaw18.GatePasses', WHERE WHAT IT READS IS OF BULK AT MOST 1048576: true; the input reads as it did. -/
def gatePassesUptoRow : OpenClaim := { program := "ytndohmimcbmhdaa", sum := "faf10dedcb55c614de0c7298474bb38dd35d69266316e8a3d7d5341721ee939d", func := "bailey/baileylaw18.GatePasses", spec := "gatePasses", unfollowed := true, recurses := true, apart := false, narrowed := true }
def GatePassesUptoSaid : Prop := gatePassesUptoRow.holds Try.pinned (OpenSpec.upto gatePassesSpec)

/-- 'baileylaw18.GateMints', WHERE WHAT IT READS IS OF BULK AT MOST 1048576: true; the input reads as it did. -/
def gateMintsUptoRow : OpenClaim := { program := "ytndohmimcbmhdaa", sum := "faf10dedcb55c614de0c7298474bb38dd35d69266316e8a3d7d5341721ee939d", func := "bailey/baileylaw18.GateMints", spec := "gateMints", unfollowed := true, recurses := true, apart := false, narrowed := true }
def GateMintsUptoSaid : Prop := gateMintsUptoRow.holds Try.pinned (OpenSpec.upto gateMintsSpec)

/-- 'baileylaw18.GateOwns', WHERE WHAT IT READS IS OF BULK AT MOST 1048576: true; the input reads as it did. -/
def gateOwnsUptoRow : OpenClaim := { program := "ytndohmimcbmhdaa", sum := "faf10dedcb55c614de0c7298474bb38dd35d69266316e8a3d7d5341721ee939d", func := "bailey/baileylaw18.GateOwns", spec := "gateOwns", unfollowed := true, recurses := true, apart := false, narrowed := true }
def GateOwnsUptoSaid : Prop := gateOwnsUptoRow.holds Try.pinned (OpenSpec.upto gateOwnsSpec)

/-- 'baileylaw18.GateApart', WHERE WHAT IT READS IS OF BULK AT MOST 1048576: true; the input reads as it did. -/
def gateApartUptoRow : OpenClaim := { program := "ytndohmimcbmhdaa", sum := "faf10dedcb55c614de0c7298474bb38dd35d69266316e8a3d7d5341721ee939d", func := "bailey/baileylaw18.GateApart", spec := "gateApart", unfollowed := true, recurses := true, apart := false, narrowed := true }
def GateApartUptoSaid : Prop := gateApartUptoRow.holds Try.pinned (OpenSpec.upto gateApartSpec)

/-- 'baileylaw11.ThingNames', WHERE WHAT IT READS IS OF BULK AT MOST 1048576: true; the input reads as it did. -/
def thingNamesUptoRow : OpenClaim := { program := "ytndohmimcbmhdaa", sum := "faf10dedcb55c614de0c7298474bb38dd35d69266316e8a3d7d5341721ee939d", func := "bailey/baileylaw11.ThingNames", spec := "thingNames", inPlace := ["math.Float64frombits"], unfollowed := true, recurses := true, apart := false, narrowed := true }
def ThingNamesUptoSaid : Prop := thingNamesUptoRow.holds Try.pinned (OpenSpec.upto thingNamesSpec)

/-- 'baileylaw11.ThingImages', WHERE WHAT IT READS IS OF BULK AT MOST 1048576: true; the input reads as it did. -/
def thingImagesUptoRow : OpenClaim := { program := "ytndohmimcbmhdaa", sum := "faf10dedcb55c614de0c7298474bb38dd35d69266316e8a3d7d5341721ee939d", func := "bailey/baileylaw11.ThingImages", spec := "thingImages", inPlace := ["math.Float64frombits"], unfollowed := true, recurses := true, apart := false, narrowed := true }
def ThingImagesUptoSaid : Prop := thingImagesUptoRow.holds Try.pinned (OpenSpec.upto thingImagesSpec)

/-- 'baileylaw11.ThingReads', WHERE WHAT IT READS IS OF BULK AT MOST 1048576: true; the input reads as it did. -/
def thingReadsUptoRow : OpenClaim := { program := "ytndohmimcbmhdaa", sum := "faf10dedcb55c614de0c7298474bb38dd35d69266316e8a3d7d5341721ee939d", func := "bailey/baileylaw11.ThingReads", spec := "thingReads", inPlace := ["math.Float64frombits"], unfollowed := true, recurses := true, apart := false, narrowed := true }
def ThingReadsUptoSaid : Prop := thingReadsUptoRow.holds Try.pinned (OpenSpec.upto thingReadsSpec)

/-- 'baileylaw11.ThingBack', WHERE WHAT IT READS IS OF BULK AT MOST 1048576: true; the input reads as it did. -/
def thingBackUptoRow : OpenClaim := { program := "ytndohmimcbmhdaa", sum := "faf10dedcb55c614de0c7298474bb38dd35d69266316e8a3d7d5341721ee939d", func := "bailey/baileylaw11.ThingBack", spec := "thingBack", inPlace := ["math.Float64frombits"], unfollowed := true, recurses := true, apart := false, narrowed := true }
def ThingBackUptoSaid : Prop := thingBackUptoRow.holds Try.pinned (OpenSpec.upto thingBackSpec)

/-- 'baileylaw11.ThingSizes', WHERE WHAT IT READS IS OF BULK AT MOST 1048576: true; the input reads as it did. -/
def thingSizesUptoRow : OpenClaim := { program := "ytndohmimcbmhdaa", sum := "faf10dedcb55c614de0c7298474bb38dd35d69266316e8a3d7d5341721ee939d", func := "bailey/baileylaw11.ThingSizes", spec := "thingSizes", inPlace := ["math.Float64frombits"], unfollowed := true, recurses := true, apart := false, narrowed := true }
def ThingSizesUptoSaid : Prop := thingSizesUptoRow.holds Try.pinned (OpenSpec.upto thingSizesSpec)

/-- 'baileylaw11.ThingRights', WHERE WHAT IT READS IS OF BULK AT MOST 1048576: true; the input reads as it did. -/
def thingRightsUptoRow : OpenClaim := { program := "ytndohmimcbmhdaa", sum := "faf10dedcb55c614de0c7298474bb38dd35d69266316e8a3d7d5341721ee939d", func := "bailey/baileylaw11.ThingRights", spec := "thingRights", inPlace := ["math.Float64frombits"], unfollowed := true, recurses := true, apart := false, narrowed := true }
def ThingRightsUptoSaid : Prop := thingRightsUptoRow.holds Try.pinned (OpenSpec.upto thingRightsSpec)

/-- 'baileylaw11.ThingApart', WHERE WHAT IT READS IS OF BULK AT MOST 1048576: true; the input reads as it did. -/
def thingApartUptoRow : OpenClaim := { program := "ytndohmimcbmhdaa", sum := "faf10dedcb55c614de0c7298474bb38dd35d69266316e8a3d7d5341721ee939d", func := "bailey/baileylaw11.ThingApart", spec := "thingApart", inPlace := ["math.Float64frombits"], unfollowed := true, recurses := true, apart := false, narrowed := true }
def ThingApartUptoSaid : Prop := thingApartUptoRow.holds Try.pinned (OpenSpec.upto thingApartSpec)

end Rows
end Go.Proofs.Ytndohmimcbmhdaa
