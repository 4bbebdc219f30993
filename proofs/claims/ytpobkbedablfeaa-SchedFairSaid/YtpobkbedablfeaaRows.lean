/-
  No cell of these rows narrows 'for every input' (looked for: loops, veiled, ifaces, maps, wideKeys, modest, calm, conditions, laid).
  DERIVED. THE GIVEN ROWS OF THIS SEAT. 13 by the template 'for every input the law returns true; each argument reads behind the call as it read before'; 0 by the template 'total and deterministic' (their statements: YtpobkbedablfeaaTotals.lean).
  GIVEN WITH THE SEED: the statements are not yours to turn. If you find one false, say at which input.
  Laid BY PROGRAM, IN A SANDBOX (cutbox-rows.mjs): the forced cells as the released guide's own fill.sh prints them over the translation 2733115ed7ed6e00… (all of the seat's roots in one cut). By AI agents, Wed Nov 11 2026. No macro, syntax, notation, axiom, sorry.
-/
import Derived.Test.YtpobkbedablfeaaChecked
import GoSem.Claim
import GoSem.ClaimJoined
import GoSem.ClaimMapViews
import Derived.JoinedTies
import Derived.KernelRfl
namespace Go.Proofs.Ytpobkbedablfeaa
/- THE CELL 'sum', in the pinned program and in every row, IS THE sha256 OF THE DUMP (.gsa) THAT YtpobkbedablfeaaProg.lean LOADS. Nothing in Lean hashes anything: it is a label: what it is worth is what the hold of that sum in a sandbox is worth. -/
noncomputable def Try.pinned : Pinned := { name := "ytpobkbedablfeaa", sum := "2733115ed7ed6e0066427f8000523068118fd9b5e06e4f3747e8f3aea2ac39e5", checked := Try.checked }
namespace Rows
def none {H : Type} : Left H := { results := [], args := [] }

/-- 'baileylaw01.NumOrders': WHATEVER THE INPUT: true; the input reads as it did. -/
def numOrdersSpec : ChangeSpec := { name := "numOrders", fn := fun _ => fun
  | [d1, d2] => { results := [.lit (.bool true)], args := [d1, d2] }
  | _ => none }
def numOrdersRow : OpenClaim := { program := "ytpobkbedablfeaa", sum := "2733115ed7ed6e0066427f8000523068118fd9b5e06e4f3747e8f3aea2ac39e5", func := "bailey/baileylaw01.NumOrders", spec := "numOrders", inPlace := ["math.Float64frombits"], apart := false }
def NumOrdersSaid : Prop := numOrdersRow.holds Try.pinned (OpenSpec.ofChange numOrdersSpec)

/-- ITS FALSE NEIGHBOUR: 'it returns false'. Refute it at one input. -/
def numOrdersWrong : ChangeSpec := { name := "numOrders", fn := fun _ => fun
  | [d1, d2] => { results := [.lit (.bool false)], args := [d1, d2] }
  | _ => none }
def NumOrdersWrongFalsely : Prop := numOrdersRow.holds Try.pinned (OpenSpec.ofChange numOrdersWrong)

/-- 'baileylaw01.NumTotal': WHATEVER THE INPUT: true; the input reads as it did. -/
def numTotalSpec : ChangeSpec := { name := "numTotal", fn := fun _ => fun
  | [d1, d2, d3] => { results := [.lit (.bool true)], args := [d1, d2, d3] }
  | _ => none }
def numTotalRow : OpenClaim := { program := "ytpobkbedablfeaa", sum := "2733115ed7ed6e0066427f8000523068118fd9b5e06e4f3747e8f3aea2ac39e5", func := "bailey/baileylaw01.NumTotal", spec := "numTotal", inPlace := ["math.Float64frombits"], apart := false }
def NumTotalSaid : Prop := numTotalRow.holds Try.pinned (OpenSpec.ofChange numTotalSpec)

/-- ITS FALSE NEIGHBOUR: 'it returns false'. Refute it at one input. -/
def numTotalWrong : ChangeSpec := { name := "numTotal", fn := fun _ => fun
  | [d1, d2, d3] => { results := [.lit (.bool false)], args := [d1, d2, d3] }
  | _ => none }
def NumTotalWrongFalsely : Prop := numTotalRow.holds Try.pinned (OpenSpec.ofChange numTotalWrong)

/-- 'baileylaw21.SchedNames': WHATEVER THE INPUT: true; the input reads as it did. -/
def schedNamesSpec : ChangeSpec := { name := "schedNames", fn := fun _ => fun
  | [] => { results := [.lit (.bool true)], args := [] }
  | _ => none }
def schedNamesRow : OpenClaim := { program := "ytpobkbedablfeaa", sum := "2733115ed7ed6e0066427f8000523068118fd9b5e06e4f3747e8f3aea2ac39e5", func := "bailey/baileylaw21.SchedNames", spec := "schedNames", apart := false }
def SchedNamesSaid : Prop := schedNamesRow.holds Try.pinned (OpenSpec.ofChange schedNamesSpec)

/-- ITS FALSE NEIGHBOUR: 'it returns false'. Refute it at one input. -/
def schedNamesWrong : ChangeSpec := { name := "schedNames", fn := fun _ => fun
  | [] => { results := [.lit (.bool false)], args := [] }
  | _ => none }
def SchedNamesWrongFalsely : Prop := schedNamesRow.holds Try.pinned (OpenSpec.ofChange schedNamesWrong)

/-- 'baileylaw21.SchedTurns': WHATEVER THE INPUT: true; the input reads as it did. -/
def schedTurnsSpec : ChangeSpec := { name := "schedTurns", fn := fun _ => fun
  | [d1, d2, d3] => { results := [.lit (.bool true)], args := [d1, d2, d3] }
  | _ => none }
def schedTurnsRow : OpenClaim := { program := "ytpobkbedablfeaa", sum := "2733115ed7ed6e0066427f8000523068118fd9b5e06e4f3747e8f3aea2ac39e5", func := "bailey/baileylaw21.SchedTurns", spec := "schedTurns", apart := false }
def SchedTurnsSaid : Prop := schedTurnsRow.holds Try.pinned (OpenSpec.ofChange schedTurnsSpec)

/-- ITS FALSE NEIGHBOUR: 'it returns false'. Refute it at one input. -/
def schedTurnsWrong : ChangeSpec := { name := "schedTurns", fn := fun _ => fun
  | [d1, d2, d3] => { results := [.lit (.bool false)], args := [d1, d2, d3] }
  | _ => none }
def SchedTurnsWrongFalsely : Prop := schedTurnsRow.holds Try.pinned (OpenSpec.ofChange schedTurnsWrong)

/-- 'baileylaw21.SchedTicks': WHATEVER THE INPUT: true; the input reads as it did. -/
def schedTicksSpec : ChangeSpec := { name := "schedTicks", fn := fun _ => fun
  | [d1, d2] => { results := [.lit (.bool true)], args := [d1, d2] }
  | _ => none }
def schedTicksRow : OpenClaim := { program := "ytpobkbedablfeaa", sum := "2733115ed7ed6e0066427f8000523068118fd9b5e06e4f3747e8f3aea2ac39e5", func := "bailey/baileylaw21.SchedTicks", spec := "schedTicks", apart := false }
def SchedTicksSaid : Prop := schedTicksRow.holds Try.pinned (OpenSpec.ofChange schedTicksSpec)

/-- ITS FALSE NEIGHBOUR: 'it returns false'. Refute it at one input. -/
def schedTicksWrong : ChangeSpec := { name := "schedTicks", fn := fun _ => fun
  | [d1, d2] => { results := [.lit (.bool false)], args := [d1, d2] }
  | _ => none }
def SchedTicksWrongFalsely : Prop := schedTicksRow.holds Try.pinned (OpenSpec.ofChange schedTicksWrong)

/-- 'baileylaw21.SchedFair': WHATEVER THE INPUT: true; the input reads as it did. -/
def schedFairSpec : ChangeSpec := { name := "schedFair", fn := fun _ => fun
  | [d1, d2] => { results := [.lit (.bool true)], args := [d1, d2] }
  | _ => none }
def schedFairRow : OpenClaim := { program := "ytpobkbedablfeaa", sum := "2733115ed7ed6e0066427f8000523068118fd9b5e06e4f3747e8f3aea2ac39e5", func := "bailey/baileylaw21.SchedFair", spec := "schedFair", apart := false }
def SchedFairSaid : Prop := schedFairRow.holds Try.pinned (OpenSpec.ofChange schedFairSpec)

/-- ITS FALSE NEIGHBOUR: 'it returns false'. Refute it at one input. -/
def schedFairWrong : ChangeSpec := { name := "schedFair", fn := fun _ => fun
  | [d1, d2] => { results := [.lit (.bool false)], args := [d1, d2] }
  | _ => none }
def SchedFairWrongFalsely : Prop := schedFairRow.holds Try.pinned (OpenSpec.ofChange schedFairWrong)

/-- 'baileylaw21.SchedPeriod': WHATEVER THE INPUT: true; the input reads as it did. -/
def schedPeriodSpec : ChangeSpec := { name := "schedPeriod", fn := fun _ => fun
  | [d1, d2] => { results := [.lit (.bool true)], args := [d1, d2] }
  | _ => none }
def schedPeriodRow : OpenClaim := { program := "ytpobkbedablfeaa", sum := "2733115ed7ed6e0066427f8000523068118fd9b5e06e4f3747e8f3aea2ac39e5", func := "bailey/baileylaw21.SchedPeriod", spec := "schedPeriod", apart := false }
def SchedPeriodSaid : Prop := schedPeriodRow.holds Try.pinned (OpenSpec.ofChange schedPeriodSpec)

/-- ITS FALSE NEIGHBOUR: 'it returns false'. Refute it at one input. -/
def schedPeriodWrong : ChangeSpec := { name := "schedPeriod", fn := fun _ => fun
  | [d1, d2] => { results := [.lit (.bool false)], args := [d1, d2] }
  | _ => none }
def SchedPeriodWrongFalsely : Prop := schedPeriodRow.holds Try.pinned (OpenSpec.ofChange schedPeriodWrong)

/-- 'baileylaw01.NumNames': WHATEVER THE INPUT: true; the input reads as it did. -/
def numNamesSpec : ChangeSpec := { name := "numNames", fn := fun _ => fun
  | [] => { results := [.lit (.bool true)], args := [] }
  | _ => none }
def numNamesRow : OpenClaim := { program := "ytpobkbedablfeaa", sum := "2733115ed7ed6e0066427f8000523068118fd9b5e06e4f3747e8f3aea2ac39e5", func := "bailey/baileylaw01.NumNames", spec := "numNames", inPlace := ["math.Float64frombits", "math.Float64bits"], apart := false }
def NumNamesSaid : Prop := numNamesRow.holds Try.pinned (OpenSpec.ofChange numNamesSpec)

/-- ITS FALSE NEIGHBOUR: 'it returns false'. Refute it at one input. -/
def numNamesWrong : ChangeSpec := { name := "numNames", fn := fun _ => fun
  | [] => { results := [.lit (.bool false)], args := [] }
  | _ => none }
def NumNamesWrongFalsely : Prop := numNamesRow.holds Try.pinned (OpenSpec.ofChange numNamesWrong)

/-- 'baileylaw01.NumDoes': WHATEVER THE INPUT: true; the input reads as it did. -/
def numDoesSpec : ChangeSpec := { name := "numDoes", fn := fun _ => fun
  | [d1, d2, d3] => { results := [.lit (.bool true)], args := [d1, d2, d3] }
  | _ => none }
def numDoesRow : OpenClaim := { program := "ytpobkbedablfeaa", sum := "2733115ed7ed6e0066427f8000523068118fd9b5e06e4f3747e8f3aea2ac39e5", func := "bailey/baileylaw01.NumDoes", spec := "numDoes", inPlace := ["math.Float64frombits", "math.Float64bits"], apart := false }
def NumDoesSaid : Prop := numDoesRow.holds Try.pinned (OpenSpec.ofChange numDoesSpec)

/-- ITS FALSE NEIGHBOUR: 'it returns false'. Refute it at one input. -/
def numDoesWrong : ChangeSpec := { name := "numDoes", fn := fun _ => fun
  | [d1, d2, d3] => { results := [.lit (.bool false)], args := [d1, d2, d3] }
  | _ => none }
def NumDoesWrongFalsely : Prop := numDoesRow.holds Try.pinned (OpenSpec.ofChange numDoesWrong)

/-- 'baileylaw01.NumEdges': WHATEVER THE INPUT: true; the input reads as it did. -/
def numEdgesSpec : ChangeSpec := { name := "numEdges", fn := fun _ => fun
  | [] => { results := [.lit (.bool true)], args := [] }
  | _ => none }
def numEdgesRow : OpenClaim := { program := "ytpobkbedablfeaa", sum := "2733115ed7ed6e0066427f8000523068118fd9b5e06e4f3747e8f3aea2ac39e5", func := "bailey/baileylaw01.NumEdges", spec := "numEdges", inPlace := ["math.Float64frombits", "math.Float64bits"], apart := false }
def NumEdgesSaid : Prop := numEdgesRow.holds Try.pinned (OpenSpec.ofChange numEdgesSpec)

/-- ITS FALSE NEIGHBOUR: 'it returns false'. Refute it at one input. -/
def numEdgesWrong : ChangeSpec := { name := "numEdges", fn := fun _ => fun
  | [] => { results := [.lit (.bool false)], args := [] }
  | _ => none }
def NumEdgesWrongFalsely : Prop := numEdgesRow.holds Try.pinned (OpenSpec.ofChange numEdgesWrong)

/-- 'baileylaw01.NumKeeps': WHATEVER THE INPUT: true; the input reads as it did. -/
def numKeepsSpec : ChangeSpec := { name := "numKeeps", fn := fun _ => fun
  | [d1, d2, d3] => { results := [.lit (.bool true)], args := [d1, d2, d3] }
  | _ => none }
def numKeepsRow : OpenClaim := { program := "ytpobkbedablfeaa", sum := "2733115ed7ed6e0066427f8000523068118fd9b5e06e4f3747e8f3aea2ac39e5", func := "bailey/baileylaw01.NumKeeps", spec := "numKeeps", inPlace := ["math.Float64frombits", "math.Float64bits"], apart := false }
def NumKeepsSaid : Prop := numKeepsRow.holds Try.pinned (OpenSpec.ofChange numKeepsSpec)

/-- ITS FALSE NEIGHBOUR: 'it returns false'. Refute it at one input. -/
def numKeepsWrong : ChangeSpec := { name := "numKeeps", fn := fun _ => fun
  | [d1, d2, d3] => { results := [.lit (.bool false)], args := [d1, d2, d3] }
  | _ => none }
def NumKeepsWrongFalsely : Prop := numKeepsRow.holds Try.pinned (OpenSpec.ofChange numKeepsWrong)

/-- 'baileylaw01.NumCanons': WHATEVER THE INPUT: true; the input reads as it did. -/
def numCanonsSpec : ChangeSpec := { name := "numCanons", fn := fun _ => fun
  | [d] => { results := [.lit (.bool true)], args := [d] }
  | _ => none }
def numCanonsRow : OpenClaim := { program := "ytpobkbedablfeaa", sum := "2733115ed7ed6e0066427f8000523068118fd9b5e06e4f3747e8f3aea2ac39e5", func := "bailey/baileylaw01.NumCanons", spec := "numCanons", inPlace := ["math.Float64frombits", "math.Float64bits"], apart := false }
def NumCanonsSaid : Prop := numCanonsRow.holds Try.pinned (OpenSpec.ofChange numCanonsSpec)

/-- ITS FALSE NEIGHBOUR: 'it returns false'. Refute it at one input. -/
def numCanonsWrong : ChangeSpec := { name := "numCanons", fn := fun _ => fun
  | [d] => { results := [.lit (.bool false)], args := [d] }
  | _ => none }
def NumCanonsWrongFalsely : Prop := numCanonsRow.holds Try.pinned (OpenSpec.ofChange numCanonsWrong)

/-- 'baileylaw01.NumTakes': WHATEVER THE INPUT: true; the input reads as it did. -/
def numTakesSpec : ChangeSpec := { name := "numTakes", fn := fun _ => fun
  | [d1, d2] => { results := [.lit (.bool true)], args := [d1, d2] }
  | _ => none }
def numTakesRow : OpenClaim := { program := "ytpobkbedablfeaa", sum := "2733115ed7ed6e0066427f8000523068118fd9b5e06e4f3747e8f3aea2ac39e5", func := "bailey/baileylaw01.NumTakes", spec := "numTakes", inPlace := ["math.Float64frombits", "math.Float64bits"], apart := false }
def NumTakesSaid : Prop := numTakesRow.holds Try.pinned (OpenSpec.ofChange numTakesSpec)

/-- ITS FALSE NEIGHBOUR: 'it returns false'. Refute it at one input. -/
def numTakesWrong : ChangeSpec := { name := "numTakes", fn := fun _ => fun
  | [d1, d2] => { results := [.lit (.bool false)], args := [d1, d2] }
  | _ => none }
def NumTakesWrongFalsely : Prop := numTakesRow.holds Try.pinned (OpenSpec.ofChange numTakesWrong)

/- THE SECOND FORM. 'bulk': how many values and letters a reading holds, each counted each time it is reached (what is shared counts as often as it is met; a slice's spare places count too). A statement '..UptoSaid' is the law's where the arguments, and the package variables that the reading takes, are together of bulk at most 1048576: NARROWER than '..Said'. Prove '..Said' where nothing that the law and all that it calls make is longer than what came in: it says more and counts as full. Else prove '..UptoSaid'. A law counts once. -/
mutual
def uptoBulk {H : Type} : DataW H → Nat
  | .lit (.string bytes) => bytes.length + 1
  | .lit _ => 1
  | .nil => 1
  | .ptr d => uptoBulk d + 1
  | .slice elems spare => uptoBulkAll elems + uptoBulkAll spare + 1
  | .agg parts => uptoBulkAll parts + 1
  | .iface _ d => uptoBulk d + 1
  | .map entries => uptoBulkEntries entries + 1
  | .held _ => 1
def uptoBulkAll {H : Type} : List (DataW H) → Nat
  | [] => 0
  | d :: r => uptoBulk d + uptoBulkAll r
def uptoBulkEntries {H : Type} : List (Lit × DataW H) → Nat
  | [] => 0
  | x :: r => uptoBulkEntry x + uptoBulkEntries r
def uptoBulkEntry {H : Type} : Lit × DataW H → Nat
  | (.string bytes, d) => bytes.length + uptoBulk d + 1
  | (_, d) => uptoBulk d + 1
 end
def uptoSmall : (H : Type) → List (DataW H) → Bool := fun _ ds => decide (uptoBulkAll ds ≤ 1048576)
def OpenSpec.upto (s : _root_.Go.ChangeSpec) : _root_.Go.OpenSpec := { _root_.Go.OpenSpec.ofChange s with cond := some uptoSmall }

/-- 'baileylaw01.NumOrders', WHERE WHAT IT READS IS OF BULK AT MOST 1048576: true; the input reads as it did. -/
def numOrdersUptoRow : OpenClaim := { program := "ytpobkbedablfeaa", sum := "2733115ed7ed6e0066427f8000523068118fd9b5e06e4f3747e8f3aea2ac39e5", func := "bailey/baileylaw01.NumOrders", spec := "numOrders", inPlace := ["math.Float64frombits"], apart := false, narrowed := true }
def NumOrdersUptoSaid : Prop := numOrdersUptoRow.holds Try.pinned (OpenSpec.upto numOrdersSpec)

/-- 'baileylaw01.NumTotal', WHERE WHAT IT READS IS OF BULK AT MOST 1048576: true; the input reads as it did. -/
def numTotalUptoRow : OpenClaim := { program := "ytpobkbedablfeaa", sum := "2733115ed7ed6e0066427f8000523068118fd9b5e06e4f3747e8f3aea2ac39e5", func := "bailey/baileylaw01.NumTotal", spec := "numTotal", inPlace := ["math.Float64frombits"], apart := false, narrowed := true }
def NumTotalUptoSaid : Prop := numTotalUptoRow.holds Try.pinned (OpenSpec.upto numTotalSpec)

/-- 'baileylaw21.SchedNames', WHERE WHAT IT READS IS OF BULK AT MOST 1048576: true; the input reads as it did. -/
def schedNamesUptoRow : OpenClaim := { program := "ytpobkbedablfeaa", sum := "2733115ed7ed6e0066427f8000523068118fd9b5e06e4f3747e8f3aea2ac39e5", func := "bailey/baileylaw21.SchedNames", spec := "schedNames", apart := false, narrowed := true }
def SchedNamesUptoSaid : Prop := schedNamesUptoRow.holds Try.pinned (OpenSpec.upto schedNamesSpec)

/-- 'baileylaw21.SchedTurns', WHERE WHAT IT READS IS OF BULK AT MOST 1048576: true; the input reads as it did. -/
def schedTurnsUptoRow : OpenClaim := { program := "ytpobkbedablfeaa", sum := "2733115ed7ed6e0066427f8000523068118fd9b5e06e4f3747e8f3aea2ac39e5", func := "bailey/baileylaw21.SchedTurns", spec := "schedTurns", apart := false, narrowed := true }
def SchedTurnsUptoSaid : Prop := schedTurnsUptoRow.holds Try.pinned (OpenSpec.upto schedTurnsSpec)

/-- 'baileylaw21.SchedTicks', WHERE WHAT IT READS IS OF BULK AT MOST 1048576: true; the input reads as it did. -/
def schedTicksUptoRow : OpenClaim := { program := "ytpobkbedablfeaa", sum := "2733115ed7ed6e0066427f8000523068118fd9b5e06e4f3747e8f3aea2ac39e5", func := "bailey/baileylaw21.SchedTicks", spec := "schedTicks", apart := false, narrowed := true }
def SchedTicksUptoSaid : Prop := schedTicksUptoRow.holds Try.pinned (OpenSpec.upto schedTicksSpec)

/-- 'baileylaw21.SchedFair', WHERE WHAT IT READS IS OF BULK AT MOST 1048576: true; the input reads as it did. -/
def schedFairUptoRow : OpenClaim := { program := "ytpobkbedablfeaa", sum := "2733115ed7ed6e0066427f8000523068118fd9b5e06e4f3747e8f3aea2ac39e5", func := "bailey/baileylaw21.SchedFair", spec := "schedFair", apart := false, narrowed := true }
def SchedFairUptoSaid : Prop := schedFairUptoRow.holds Try.pinned (OpenSpec.upto schedFairSpec)

/-- 'baileylaw21.SchedPeriod', WHERE WHAT IT READS IS OF BULK AT MOST 1048576: true; the input reads as it did. -/
def schedPeriodUptoRow : OpenClaim := { program := "ytpobkbedablfeaa", sum := "2733115ed7ed6e0066427f8000523068118fd9b5e06e4f3747e8f3aea2ac39e5", func := "bailey/baileylaw21.SchedPeriod", spec := "schedPeriod", apart := false, narrowed := true }
def SchedPeriodUptoSaid : Prop := schedPeriodUptoRow.holds Try.pinned (OpenSpec.upto schedPeriodSpec)

/-- 'baileylaw01.NumNames', WHERE WHAT IT READS IS OF BULK AT MOST 1048576: true; the input reads as it did. -/
def numNamesUptoRow : OpenClaim := { program := "ytpobkbedablfeaa", sum := "2733115ed7ed6e0066427f8000523068118fd9b5e06e4f3747e8f3aea2ac39e5", func := "bailey/baileylaw01.NumNames", spec := "numNames", inPlace := ["math.Float64frombits", "math.Float64bits"], apart := false, narrowed := true }
def NumNamesUptoSaid : Prop := numNamesUptoRow.holds Try.pinned (OpenSpec.upto numNamesSpec)

/-- 'baileylaw01.NumDoes', WHERE WHAT IT READS IS OF BULK AT MOST 1048576: true; the input reads as it did. -/
def numDoesUptoRow : OpenClaim := { program := "ytpobkbedablfeaa", sum := "2733115ed7ed6e0066427f8000523068118fd9b5e06e4f3747e8f3aea2ac39e5", func := "bailey/baileylaw01.NumDoes", spec := "numDoes", inPlace := ["math.Float64frombits", "math.Float64bits"], apart := false, narrowed := true }
def NumDoesUptoSaid : Prop := numDoesUptoRow.holds Try.pinned (OpenSpec.upto numDoesSpec)

/-- 'baileylaw01.NumEdges', WHERE WHAT IT READS IS OF BULK AT MOST 1048576: true; the input reads as it did. -/
def numEdgesUptoRow : OpenClaim := { program := "ytpobkbedablfeaa", sum := "2733115ed7ed6e0066427f8000523068118fd9b5e06e4f3747e8f3aea2ac39e5", func := "bailey/baileylaw01.NumEdges", spec := "numEdges", inPlace := ["math.Float64frombits", "math.Float64bits"], apart := false, narrowed := true }
def NumEdgesUptoSaid : Prop := numEdgesUptoRow.holds Try.pinned (OpenSpec.upto numEdgesSpec)

/-- 'baileylaw01.NumKeeps', WHERE WHAT IT READS IS OF BULK AT MOST 1048576: true; the input reads as it did. -/
def numKeepsUptoRow : OpenClaim := { program := "ytpobkbedablfeaa", sum := "2733115ed7ed6e0066427f8000523068118fd9b5e06e4f3747e8f3aea2ac39e5", func := "bailey/baileylaw01.NumKeeps", spec := "numKeeps", inPlace := ["math.Float64frombits", "math.Float64bits"], apart := false, narrowed := true }
def NumKeepsUptoSaid : Prop := numKeepsUptoRow.holds Try.pinned (OpenSpec.upto numKeepsSpec)

/-- 'baileylaw01.NumCanons', WHERE WHAT IT READS IS OF BULK AT MOST 1048576: true; the input reads as it did. -/
def numCanonsUptoRow : OpenClaim := { program := "ytpobkbedablfeaa", sum := "2733115ed7ed6e0066427f8000523068118fd9b5e06e4f3747e8f3aea2ac39e5", func := "bailey/baileylaw01.NumCanons", spec := "numCanons", inPlace := ["math.Float64frombits", "math.Float64bits"], apart := false, narrowed := true }
def NumCanonsUptoSaid : Prop := numCanonsUptoRow.holds Try.pinned (OpenSpec.upto numCanonsSpec)

/-- 'baileylaw01.NumTakes', WHERE WHAT IT READS IS OF BULK AT MOST 1048576: true; the input reads as it did. -/
def numTakesUptoRow : OpenClaim := { program := "ytpobkbedablfeaa", sum := "2733115ed7ed6e0066427f8000523068118fd9b5e06e4f3747e8f3aea2ac39e5", func := "bailey/baileylaw01.NumTakes", spec := "numTakes", inPlace := ["math.Float64frombits", "math.Float64bits"], apart := false, narrowed := true }
def NumTakesUptoSaid : Prop := numTakesUptoRow.holds Try.pinned (OpenSpec.upto numTakesSpec)

end Rows
end Go.Proofs.Ytpobkbedablfeaa
