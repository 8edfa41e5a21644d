/-
  No cell of these rows narrows 'for every input' (looked for: loops, veiled, ifaces, maps, wideKeys, modest, calm, conditions, laid).
  DERIVED. THE GIVEN ROWS OF THIS SEAT. 16 by the template 'for every input the law returns true; each argument reads behind the call as it read before'; 0 by the template 'total and deterministic' (their statements: YteckhaafdojoeaaTotals.lean).
  GIVEN WITH THE SEED: the statements are not yours to turn. If you find one false, say at which input.
  Laid BY PROGRAM, IN A SANDBOX (cutbox-rows.mjs): the forced cells as the released guide's own fill.sh prints them over the translation eef17e45c2c807c4… (all of the seat's roots in one cut). By AI agents, Wed Nov 11 2026. No macro, syntax, notation, axiom, sorry.
-/
import Derived.Test.YteckhaafdojoeaaChecked
import GoSem.Claim
import GoSem.ClaimJoined
import GoSem.ClaimMapViews
import Derived.JoinedTies
import Derived.KernelRfl
namespace Go.Proofs.Yteckhaafdojoeaa
/- THE CELL 'sum', in the pinned program and in every row, IS THE sha256 OF THE DUMP (.gsa) THAT YteckhaafdojoeaaProg.lean LOADS. Nothing in Lean hashes anything: it is a label: what it is worth is what the hold of that sum in a sandbox is worth. -/
noncomputable def Try.pinned : Pinned := { name := "yteckhaafdojoeaa", sum := "eef17e45c2c807c4ca141b08c18a8364fad5ea2aada2bccc78629a018d690506", checked := Try.checked }
namespace Rows
def none {H : Type} : Left H := { results := [], args := [] }

/-- 'laws.FnPermMat': WHATEVER THE INPUT: true; the input reads as it did. -/
def fnPermMatSpec : ChangeSpec := { name := "fnPermMat", fn := fun _ => fun
  | [d] => { results := [.lit (.bool true)], args := [d] }
  | _ => none }
def fnPermMatRow : OpenClaim := { program := "yteckhaafdojoeaa", sum := "eef17e45c2c807c4ca141b08c18a8364fad5ea2aada2bccc78629a018d690506", func := "loop.example/g00506/laws.FnPermMat", spec := "fnPermMat", apart := false }
def FnPermMatSaid : Prop := fnPermMatRow.holds Try.pinned (OpenSpec.ofChange fnPermMatSpec)

/-- ITS FALSE NEIGHBOUR: 'it returns false'. Refute it at one input. -/
def fnPermMatWrong : ChangeSpec := { name := "fnPermMat", fn := fun _ => fun
  | [d] => { results := [.lit (.bool false)], args := [d] }
  | _ => none }
def FnPermMatWrongFalsely : Prop := fnPermMatRow.holds Try.pinned (OpenSpec.ofChange fnPermMatWrong)

/-- 'laws.FnJoined': WHATEVER THE INPUT: true; the input reads as it did. -/
def fnJoinedSpec : ChangeSpec := { name := "fnJoined", fn := fun _ => fun
  | [d] => { results := [.lit (.bool true)], args := [d] }
  | _ => none }
def fnJoinedRow : OpenClaim := { program := "yteckhaafdojoeaa", sum := "eef17e45c2c807c4ca141b08c18a8364fad5ea2aada2bccc78629a018d690506", func := "loop.example/g00506/laws.FnJoined", spec := "fnJoined", apart := false }
def FnJoinedSaid : Prop := fnJoinedRow.holds Try.pinned (OpenSpec.ofChange fnJoinedSpec)

/-- ITS FALSE NEIGHBOUR: 'it returns false'. Refute it at one input. -/
def fnJoinedWrong : ChangeSpec := { name := "fnJoined", fn := fun _ => fun
  | [d] => { results := [.lit (.bool false)], args := [d] }
  | _ => none }
def FnJoinedWrongFalsely : Prop := fnJoinedRow.holds Try.pinned (OpenSpec.ofChange fnJoinedWrong)

/-- 'laws.FnUndone': WHATEVER THE INPUT: true; the input reads as it did. -/
def fnUndoneSpec : ChangeSpec := { name := "fnUndone", fn := fun _ => fun
  | [d] => { results := [.lit (.bool true)], args := [d] }
  | _ => none }
def fnUndoneRow : OpenClaim := { program := "yteckhaafdojoeaa", sum := "eef17e45c2c807c4ca141b08c18a8364fad5ea2aada2bccc78629a018d690506", func := "loop.example/g00506/laws.FnUndone", spec := "fnUndone", apart := false }
def FnUndoneSaid : Prop := fnUndoneRow.holds Try.pinned (OpenSpec.ofChange fnUndoneSpec)

/-- ITS FALSE NEIGHBOUR: 'it returns false'. Refute it at one input. -/
def fnUndoneWrong : ChangeSpec := { name := "fnUndone", fn := fun _ => fun
  | [d] => { results := [.lit (.bool false)], args := [d] }
  | _ => none }
def FnUndoneWrongFalsely : Prop := fnUndoneRow.holds Try.pinned (OpenSpec.ofChange fnUndoneWrong)

/-- 'laws.FnExactIsUnitary': WHATEVER THE INPUT: true; the input reads as it did. -/
def fnExactIsUnitarySpec : ChangeSpec := { name := "fnExactIsUnitary", fn := fun _ => fun
  | [d] => { results := [.lit (.bool true)], args := [d] }
  | _ => none }
def fnExactIsUnitaryRow : OpenClaim := { program := "yteckhaafdojoeaa", sum := "eef17e45c2c807c4ca141b08c18a8364fad5ea2aada2bccc78629a018d690506", func := "loop.example/g00506/laws.FnExactIsUnitary", spec := "fnExactIsUnitary", apart := false }
def FnExactIsUnitarySaid : Prop := fnExactIsUnitaryRow.holds Try.pinned (OpenSpec.ofChange fnExactIsUnitarySpec)

/-- ITS FALSE NEIGHBOUR: 'it returns false'. Refute it at one input. -/
def fnExactIsUnitaryWrong : ChangeSpec := { name := "fnExactIsUnitary", fn := fun _ => fun
  | [d] => { results := [.lit (.bool false)], args := [d] }
  | _ => none }
def FnExactIsUnitaryWrongFalsely : Prop := fnExactIsUnitaryRow.holds Try.pinned (OpenSpec.ofChange fnExactIsUnitaryWrong)

/-- 'laws.FnExactApplyGate': WHATEVER THE INPUT: true; the input reads as it did. -/
def fnExactApplyGateSpec : ChangeSpec := { name := "fnExactApplyGate", fn := fun _ => fun
  | [d1, d2] => { results := [.lit (.bool true)], args := [d1, d2] }
  | _ => none }
def fnExactApplyGateRow : OpenClaim := { program := "yteckhaafdojoeaa", sum := "eef17e45c2c807c4ca141b08c18a8364fad5ea2aada2bccc78629a018d690506", func := "loop.example/g00506/laws.FnExactApplyGate", spec := "fnExactApplyGate", apart := false }
def FnExactApplyGateSaid : Prop := fnExactApplyGateRow.holds Try.pinned (OpenSpec.ofChange fnExactApplyGateSpec)

/-- ITS FALSE NEIGHBOUR: 'it returns false'. Refute it at one input. -/
def fnExactApplyGateWrong : ChangeSpec := { name := "fnExactApplyGate", fn := fun _ => fun
  | [d1, d2] => { results := [.lit (.bool false)], args := [d1, d2] }
  | _ => none }
def FnExactApplyGateWrongFalsely : Prop := fnExactApplyGateRow.holds Try.pinned (OpenSpec.ofChange fnExactApplyGateWrong)

/-- 'laws.FnExactGateMatrix': WHATEVER THE INPUT: true; the input reads as it did. -/
def fnExactGateMatrixSpec : ChangeSpec := { name := "fnExactGateMatrix", fn := fun _ => fun
  | [d1, d2] => { results := [.lit (.bool true)], args := [d1, d2] }
  | _ => none }
def fnExactGateMatrixRow : OpenClaim := { program := "yteckhaafdojoeaa", sum := "eef17e45c2c807c4ca141b08c18a8364fad5ea2aada2bccc78629a018d690506", func := "loop.example/g00506/laws.FnExactGateMatrix", spec := "fnExactGateMatrix", apart := false }
def FnExactGateMatrixSaid : Prop := fnExactGateMatrixRow.holds Try.pinned (OpenSpec.ofChange fnExactGateMatrixSpec)

/-- ITS FALSE NEIGHBOUR: 'it returns false'. Refute it at one input. -/
def fnExactGateMatrixWrong : ChangeSpec := { name := "fnExactGateMatrix", fn := fun _ => fun
  | [d1, d2] => { results := [.lit (.bool false)], args := [d1, d2] }
  | _ => none }
def FnExactGateMatrixWrongFalsely : Prop := fnExactGateMatrixRow.holds Try.pinned (OpenSpec.ofChange fnExactGateMatrixWrong)

/-- 'laws.FnExactApplyGates': WHATEVER THE INPUT: true; the input reads as it did. -/
def fnExactApplyGatesSpec : ChangeSpec := { name := "fnExactApplyGates", fn := fun _ => fun
  | [d1, d2] => { results := [.lit (.bool true)], args := [d1, d2] }
  | _ => none }
def fnExactApplyGatesRow : OpenClaim := { program := "yteckhaafdojoeaa", sum := "eef17e45c2c807c4ca141b08c18a8364fad5ea2aada2bccc78629a018d690506", func := "loop.example/g00506/laws.FnExactApplyGates", spec := "fnExactApplyGates", apart := false }
def FnExactApplyGatesSaid : Prop := fnExactApplyGatesRow.holds Try.pinned (OpenSpec.ofChange fnExactApplyGatesSpec)

/-- ITS FALSE NEIGHBOUR: 'it returns false'. Refute it at one input. -/
def fnExactApplyGatesWrong : ChangeSpec := { name := "fnExactApplyGates", fn := fun _ => fun
  | [d1, d2] => { results := [.lit (.bool false)], args := [d1, d2] }
  | _ => none }
def FnExactApplyGatesWrongFalsely : Prop := fnExactApplyGatesRow.holds Try.pinned (OpenSpec.ofChange fnExactApplyGatesWrong)

/-- 'laws.FnApart': WHATEVER THE INPUT: true; the input reads as it did. -/
def fnApartSpec : ChangeSpec := { name := "fnApart", fn := fun _ => fun
  | [d] => { results := [.lit (.bool true)], args := [d] }
  | _ => none }
def fnApartRow : OpenClaim := { program := "yteckhaafdojoeaa", sum := "eef17e45c2c807c4ca141b08c18a8364fad5ea2aada2bccc78629a018d690506", func := "loop.example/g00506/laws.FnApart", spec := "fnApart", apart := false }
def FnApartSaid : Prop := fnApartRow.holds Try.pinned (OpenSpec.ofChange fnApartSpec)

/-- ITS FALSE NEIGHBOUR: 'it returns false'. Refute it at one input. -/
def fnApartWrong : ChangeSpec := { name := "fnApart", fn := fun _ => fun
  | [d] => { results := [.lit (.bool false)], args := [d] }
  | _ => none }
def FnApartWrongFalsely : Prop := fnApartRow.holds Try.pinned (OpenSpec.ofChange fnApartWrong)

/-- 'laws.FnRunGates': WHATEVER THE INPUT: true; the input reads as it did. -/
def fnRunGatesSpec : ChangeSpec := { name := "fnRunGates", fn := fun _ => fun
  | [d] => { results := [.lit (.bool true)], args := [d] }
  | _ => none }
def fnRunGatesRow : OpenClaim := { program := "yteckhaafdojoeaa", sum := "eef17e45c2c807c4ca141b08c18a8364fad5ea2aada2bccc78629a018d690506", func := "loop.example/g00506/laws.FnRunGates", spec := "fnRunGates", apart := false }
def FnRunGatesSaid : Prop := fnRunGatesRow.holds Try.pinned (OpenSpec.ofChange fnRunGatesSpec)

/-- ITS FALSE NEIGHBOUR: 'it returns false'. Refute it at one input. -/
def fnRunGatesWrong : ChangeSpec := { name := "fnRunGates", fn := fun _ => fun
  | [d] => { results := [.lit (.bool false)], args := [d] }
  | _ => none }
def FnRunGatesWrongFalsely : Prop := fnRunGatesRow.holds Try.pinned (OpenSpec.ofChange fnRunGatesWrong)

/-- 'laws.FnApplyGate': WHATEVER THE INPUT: true; the input reads as it did. -/
def fnApplyGateSpec : ChangeSpec := { name := "fnApplyGate", fn := fun _ => fun
  | [d] => { results := [.lit (.bool true)], args := [d] }
  | _ => none }
def fnApplyGateRow : OpenClaim := { program := "yteckhaafdojoeaa", sum := "eef17e45c2c807c4ca141b08c18a8364fad5ea2aada2bccc78629a018d690506", func := "loop.example/g00506/laws.FnApplyGate", spec := "fnApplyGate", apart := false }
def FnApplyGateSaid : Prop := fnApplyGateRow.holds Try.pinned (OpenSpec.ofChange fnApplyGateSpec)

/-- ITS FALSE NEIGHBOUR: 'it returns false'. Refute it at one input. -/
def fnApplyGateWrong : ChangeSpec := { name := "fnApplyGate", fn := fun _ => fun
  | [d] => { results := [.lit (.bool false)], args := [d] }
  | _ => none }
def FnApplyGateWrongFalsely : Prop := fnApplyGateRow.holds Try.pinned (OpenSpec.ofChange fnApplyGateWrong)

/-- 'laws.FnMulMat': WHATEVER THE INPUT: true; the input reads as it did. -/
def fnMulMatSpec : ChangeSpec := { name := "fnMulMat", fn := fun _ => fun
  | [d] => { results := [.lit (.bool true)], args := [d] }
  | _ => none }
def fnMulMatRow : OpenClaim := { program := "yteckhaafdojoeaa", sum := "eef17e45c2c807c4ca141b08c18a8364fad5ea2aada2bccc78629a018d690506", func := "loop.example/g00506/laws.FnMulMat", spec := "fnMulMat", apart := false }
def FnMulMatSaid : Prop := fnMulMatRow.holds Try.pinned (OpenSpec.ofChange fnMulMatSpec)

/-- ITS FALSE NEIGHBOUR: 'it returns false'. Refute it at one input. -/
def fnMulMatWrong : ChangeSpec := { name := "fnMulMat", fn := fun _ => fun
  | [d] => { results := [.lit (.bool false)], args := [d] }
  | _ => none }
def FnMulMatWrongFalsely : Prop := fnMulMatRow.holds Try.pinned (OpenSpec.ofChange fnMulMatWrong)

/-- 'laws.FnAdjoint': WHATEVER THE INPUT: true; the input reads as it did. -/
def fnAdjointSpec : ChangeSpec := { name := "fnAdjoint", fn := fun _ => fun
  | [d] => { results := [.lit (.bool true)], args := [d] }
  | _ => none }
def fnAdjointRow : OpenClaim := { program := "yteckhaafdojoeaa", sum := "eef17e45c2c807c4ca141b08c18a8364fad5ea2aada2bccc78629a018d690506", func := "loop.example/g00506/laws.FnAdjoint", spec := "fnAdjoint", apart := false }
def FnAdjointSaid : Prop := fnAdjointRow.holds Try.pinned (OpenSpec.ofChange fnAdjointSpec)

/-- ITS FALSE NEIGHBOUR: 'it returns false'. Refute it at one input. -/
def fnAdjointWrong : ChangeSpec := { name := "fnAdjoint", fn := fun _ => fun
  | [d] => { results := [.lit (.bool false)], args := [d] }
  | _ => none }
def FnAdjointWrongFalsely : Prop := fnAdjointRow.holds Try.pinned (OpenSpec.ofChange fnAdjointWrong)

/-- 'laws.FnExactCircuitMatrix': WHATEVER THE INPUT: true; the input reads as it did. -/
def fnExactCircuitMatrixSpec : ChangeSpec := { name := "fnExactCircuitMatrix", fn := fun _ => fun
  | [d] => { results := [.lit (.bool true)], args := [d] }
  | _ => none }
def fnExactCircuitMatrixRow : OpenClaim := { program := "yteckhaafdojoeaa", sum := "eef17e45c2c807c4ca141b08c18a8364fad5ea2aada2bccc78629a018d690506", func := "loop.example/g00506/laws.FnExactCircuitMatrix", spec := "fnExactCircuitMatrix", apart := false }
def FnExactCircuitMatrixSaid : Prop := fnExactCircuitMatrixRow.holds Try.pinned (OpenSpec.ofChange fnExactCircuitMatrixSpec)

/-- ITS FALSE NEIGHBOUR: 'it returns false'. Refute it at one input. -/
def fnExactCircuitMatrixWrong : ChangeSpec := { name := "fnExactCircuitMatrix", fn := fun _ => fun
  | [d] => { results := [.lit (.bool false)], args := [d] }
  | _ => none }
def FnExactCircuitMatrixWrongFalsely : Prop := fnExactCircuitMatrixRow.holds Try.pinned (OpenSpec.ofChange fnExactCircuitMatrixWrong)

/-- 'laws.FnLayers': WHATEVER THE INPUT: true; the input reads as it did. -/
def fnLayersSpec : ChangeSpec := { name := "fnLayers", fn := fun _ => fun
  | [d] => { results := [.lit (.bool true)], args := [d] }
  | _ => none }
def fnLayersRow : OpenClaim := { program := "yteckhaafdojoeaa", sum := "eef17e45c2c807c4ca141b08c18a8364fad5ea2aada2bccc78629a018d690506", func := "loop.example/g00506/laws.FnLayers", spec := "fnLayers", apart := false }
def FnLayersSaid : Prop := fnLayersRow.holds Try.pinned (OpenSpec.ofChange fnLayersSpec)

/-- ITS FALSE NEIGHBOUR: 'it returns false'. Refute it at one input. -/
def fnLayersWrong : ChangeSpec := { name := "fnLayers", fn := fun _ => fun
  | [d] => { results := [.lit (.bool false)], args := [d] }
  | _ => none }
def FnLayersWrongFalsely : Prop := fnLayersRow.holds Try.pinned (OpenSpec.ofChange fnLayersWrong)

/-- 'laws.FnControlMat': WHATEVER THE INPUT: true; the input reads as it did. -/
def fnControlMatSpec : ChangeSpec := { name := "fnControlMat", fn := fun _ => fun
  | [d] => { results := [.lit (.bool true)], args := [d] }
  | _ => none }
def fnControlMatRow : OpenClaim := { program := "yteckhaafdojoeaa", sum := "eef17e45c2c807c4ca141b08c18a8364fad5ea2aada2bccc78629a018d690506", func := "loop.example/g00506/laws.FnControlMat", spec := "fnControlMat", apart := false }
def FnControlMatSaid : Prop := fnControlMatRow.holds Try.pinned (OpenSpec.ofChange fnControlMatSpec)

/-- ITS FALSE NEIGHBOUR: 'it returns false'. Refute it at one input. -/
def fnControlMatWrong : ChangeSpec := { name := "fnControlMat", fn := fun _ => fun
  | [d] => { results := [.lit (.bool false)], args := [d] }
  | _ => none }
def FnControlMatWrongFalsely : Prop := fnControlMatRow.holds Try.pinned (OpenSpec.ofChange fnControlMatWrong)

/-- 'laws.FnMovedCirc': WHATEVER THE INPUT: true; the input reads as it did. -/
def fnMovedCircSpec : ChangeSpec := { name := "fnMovedCirc", fn := fun _ => fun
  | [d] => { results := [.lit (.bool true)], args := [d] }
  | _ => none }
def fnMovedCircRow : OpenClaim := { program := "yteckhaafdojoeaa", sum := "eef17e45c2c807c4ca141b08c18a8364fad5ea2aada2bccc78629a018d690506", func := "loop.example/g00506/laws.FnMovedCirc", spec := "fnMovedCirc", apart := false }
def FnMovedCircSaid : Prop := fnMovedCircRow.holds Try.pinned (OpenSpec.ofChange fnMovedCircSpec)

/-- ITS FALSE NEIGHBOUR: 'it returns false'. Refute it at one input. -/
def fnMovedCircWrong : ChangeSpec := { name := "fnMovedCirc", fn := fun _ => fun
  | [d] => { results := [.lit (.bool false)], args := [d] }
  | _ => none }
def FnMovedCircWrongFalsely : Prop := fnMovedCircRow.holds Try.pinned (OpenSpec.ofChange fnMovedCircWrong)

/- THE SECOND FORM. 'bulk': how many values and letters a reading holds, each counted each time it is reached (what is shared counts as often as it is met; a slice's spare places count too). A statement '..UptoSaid' is the law's where the arguments, and the package variables that the reading takes, are together of bulk at most 1048576: NARROWER than '..Said'. Prove '..Said' where nothing that the law and all that it calls make is longer than what came in: it says more and counts as full. Else prove '..UptoSaid'. A law counts once. -/
mutual
def uptoBulk {H : Type} : DataW H → Nat
  | .lit (.string bytes) => bytes.length + 1
  | .lit _ => 1
  | .nil => 1
  | .ptr d => uptoBulk d + 1
  | .slice elems spare => uptoBulkAll elems + uptoBulkAll spare + 1
  | .agg parts => uptoBulkAll parts + 1
  | .iface _ d => uptoBulk d + 1
  | .map entries => uptoBulkEntries entries + 1
  | .held _ => 1
def uptoBulkAll {H : Type} : List (DataW H) → Nat
  | [] => 0
  | d :: r => uptoBulk d + uptoBulkAll r
def uptoBulkEntries {H : Type} : List (Lit × DataW H) → Nat
  | [] => 0
  | x :: r => uptoBulkEntry x + uptoBulkEntries r
def uptoBulkEntry {H : Type} : Lit × DataW H → Nat
  | (.string bytes, d) => bytes.length + uptoBulk d + 1
  | (_, d) => uptoBulk d + 1
 end
def uptoSmall : (H : Type) → List (DataW H) → Bool := fun _ ds => decide (uptoBulkAll ds ≤ 1048576)
def OpenSpec.upto (s : _root_.Go.ChangeSpec) : _root_.Go.OpenSpec := { _root_.Go.OpenSpec.ofChange s with cond := some uptoSmall }

/-- 'laws.FnPermMat', WHERE WHAT IT READS IS OF BULK AT MOST 1048576: true; the input reads as it did. -/
def fnPermMatUptoRow : OpenClaim := { program := "yteckhaafdojoeaa", sum := "eef17e45c2c807c4ca141b08c18a8364fad5ea2aada2bccc78629a018d690506", func := "loop.example/g00506/laws.FnPermMat", spec := "fnPermMat", apart := false, narrowed := true }
def FnPermMatUptoSaid : Prop := fnPermMatUptoRow.holds Try.pinned (OpenSpec.upto fnPermMatSpec)

/-- 'laws.FnJoined', WHERE WHAT IT READS IS OF BULK AT MOST 1048576: true; the input reads as it did. -/
def fnJoinedUptoRow : OpenClaim := { program := "yteckhaafdojoeaa", sum := "eef17e45c2c807c4ca141b08c18a8364fad5ea2aada2bccc78629a018d690506", func := "loop.example/g00506/laws.FnJoined", spec := "fnJoined", apart := false, narrowed := true }
def FnJoinedUptoSaid : Prop := fnJoinedUptoRow.holds Try.pinned (OpenSpec.upto fnJoinedSpec)

/-- 'laws.FnUndone', WHERE WHAT IT READS IS OF BULK AT MOST 1048576: true; the input reads as it did. -/
def fnUndoneUptoRow : OpenClaim := { program := "yteckhaafdojoeaa", sum := "eef17e45c2c807c4ca141b08c18a8364fad5ea2aada2bccc78629a018d690506", func := "loop.example/g00506/laws.FnUndone", spec := "fnUndone", apart := false, narrowed := true }
def FnUndoneUptoSaid : Prop := fnUndoneUptoRow.holds Try.pinned (OpenSpec.upto fnUndoneSpec)

/-- 'laws.FnExactIsUnitary', WHERE WHAT IT READS IS OF BULK AT MOST 1048576: true; the input reads as it did. -/
def fnExactIsUnitaryUptoRow : OpenClaim := { program := "yteckhaafdojoeaa", sum := "eef17e45c2c807c4ca141b08c18a8364fad5ea2aada2bccc78629a018d690506", func := "loop.example/g00506/laws.FnExactIsUnitary", spec := "fnExactIsUnitary", apart := false, narrowed := true }
def FnExactIsUnitaryUptoSaid : Prop := fnExactIsUnitaryUptoRow.holds Try.pinned (OpenSpec.upto fnExactIsUnitarySpec)

/-- 'laws.FnExactApplyGate', WHERE WHAT IT READS IS OF BULK AT MOST 1048576: true; the input reads as it did. -/
def fnExactApplyGateUptoRow : OpenClaim := { program := "yteckhaafdojoeaa", sum := "eef17e45c2c807c4ca141b08c18a8364fad5ea2aada2bccc78629a018d690506", func := "loop.example/g00506/laws.FnExactApplyGate", spec := "fnExactApplyGate", apart := false, narrowed := true }
def FnExactApplyGateUptoSaid : Prop := fnExactApplyGateUptoRow.holds Try.pinned (OpenSpec.upto fnExactApplyGateSpec)

/-- 'laws.FnExactGateMatrix', WHERE WHAT IT READS IS OF BULK AT MOST 1048576: true; the input reads as it did. -/
def fnExactGateMatrixUptoRow : OpenClaim := { program := "yteckhaafdojoeaa", sum := "eef17e45c2c807c4ca141b08c18a8364fad5ea2aada2bccc78629a018d690506", func := "loop.example/g00506/laws.FnExactGateMatrix", spec := "fnExactGateMatrix", apart := false, narrowed := true }
def FnExactGateMatrixUptoSaid : Prop := fnExactGateMatrixUptoRow.holds Try.pinned (OpenSpec.upto fnExactGateMatrixSpec)

/-- 'laws.FnExactApplyGates', WHERE WHAT IT READS IS OF BULK AT MOST 1048576: true; the input reads as it did. -/
def fnExactApplyGatesUptoRow : OpenClaim := { program := "yteckhaafdojoeaa", sum := "eef17e45c2c807c4ca141b08c18a8364fad5ea2aada2bccc78629a018d690506", func := "loop.example/g00506/laws.FnExactApplyGates", spec := "fnExactApplyGates", apart := false, narrowed := true }
def FnExactApplyGatesUptoSaid : Prop := fnExactApplyGatesUptoRow.holds Try.pinned (OpenSpec.upto fnExactApplyGatesSpec)

/-- 'laws.FnApart', WHERE WHAT IT READS IS OF BULK AT MOST 1048576: true; the input reads as it did. -/
def fnApartUptoRow : OpenClaim := { program := "yteckhaafdojoeaa", sum := "eef17e45c2c807c4ca141b08c18a8364fad5ea2aada2bccc78629a018d690506", func := "loop.example/g00506/laws.FnApart", spec := "fnApart", apart := false, narrowed := true }
def FnApartUptoSaid : Prop := fnApartUptoRow.holds Try.pinned (OpenSpec.upto fnApartSpec)

/-- 'laws.FnRunGates', WHERE WHAT IT READS IS OF BULK AT MOST 1048576: true; the input reads as it did. -/
def fnRunGatesUptoRow : OpenClaim := { program := "yteckhaafdojoeaa", sum := "eef17e45c2c807c4ca141b08c18a8364fad5ea2aada2bccc78629a018d690506", func := "loop.example/g00506/laws.FnRunGates", spec := "fnRunGates", apart := false, narrowed := true }
def FnRunGatesUptoSaid : Prop := fnRunGatesUptoRow.holds Try.pinned (OpenSpec.upto fnRunGatesSpec)

/-- 'laws.FnApplyGate', WHERE WHAT IT READS IS OF BULK AT MOST 1048576: true; the input reads as it did. -/
def fnApplyGateUptoRow : OpenClaim := { program := "yteckhaafdojoeaa", sum := "eef17e45c2c807c4ca141b08c18a8364fad5ea2aada2bccc78629a018d690506", func := "loop.example/g00506/laws.FnApplyGate", spec := "fnApplyGate", apart := false, narrowed := true }
def FnApplyGateUptoSaid : Prop := fnApplyGateUptoRow.holds Try.pinned (OpenSpec.upto fnApplyGateSpec)

/-- 'laws.FnMulMat', WHERE WHAT IT READS IS OF BULK AT MOST 1048576: true; the input reads as it did. -/
def fnMulMatUptoRow : OpenClaim := { program := "yteckhaafdojoeaa", sum := "eef17e45c2c807c4ca141b08c18a8364fad5ea2aada2bccc78629a018d690506", func := "loop.example/g00506/laws.FnMulMat", spec := "fnMulMat", apart := false, narrowed := true }
def FnMulMatUptoSaid : Prop := fnMulMatUptoRow.holds Try.pinned (OpenSpec.upto fnMulMatSpec)

/-- 'laws.FnAdjoint', WHERE WHAT IT READS IS OF BULK AT MOST 1048576: true; the input reads as it did. -/
def fnAdjointUptoRow : OpenClaim := { program := "yteckhaafdojoeaa", sum := "eef17e45c2c807c4ca141b08c18a8364fad5ea2aada2bccc78629a018d690506", func := "loop.example/g00506/laws.FnAdjoint", spec := "fnAdjoint", apart := false, narrowed := true }
def FnAdjointUptoSaid : Prop := fnAdjointUptoRow.holds Try.pinned (OpenSpec.upto fnAdjointSpec)

/-- 'laws.FnExactCircuitMatrix', WHERE WHAT IT READS IS OF BULK AT MOST 1048576: true; the input reads as it did. -/
def fnExactCircuitMatrixUptoRow : OpenClaim := { program := "yteckhaafdojoeaa", sum := "eef17e45c2c807c4ca141b08c18a8364fad5ea2aada2bccc78629a018d690506", func := "loop.example/g00506/laws.FnExactCircuitMatrix", spec := "fnExactCircuitMatrix", apart := false, narrowed := true }
def FnExactCircuitMatrixUptoSaid : Prop := fnExactCircuitMatrixUptoRow.holds Try.pinned (OpenSpec.upto fnExactCircuitMatrixSpec)

/-- 'laws.FnLayers', WHERE WHAT IT READS IS OF BULK AT MOST 1048576: true; the input reads as it did. -/
def fnLayersUptoRow : OpenClaim := { program := "yteckhaafdojoeaa", sum := "eef17e45c2c807c4ca141b08c18a8364fad5ea2aada2bccc78629a018d690506", func := "loop.example/g00506/laws.FnLayers", spec := "fnLayers", apart := false, narrowed := true }
def FnLayersUptoSaid : Prop := fnLayersUptoRow.holds Try.pinned (OpenSpec.upto fnLayersSpec)

/-- 'laws.FnControlMat', WHERE WHAT IT READS IS OF BULK AT MOST 1048576: true; the input reads as it did. -/
def fnControlMatUptoRow : OpenClaim := { program := "yteckhaafdojoeaa", sum := "eef17e45c2c807c4ca141b08c18a8364fad5ea2aada2bccc78629a018d690506", func := "loop.example/g00506/laws.FnControlMat", spec := "fnControlMat", apart := false, narrowed := true }
def FnControlMatUptoSaid : Prop := fnControlMatUptoRow.holds Try.pinned (OpenSpec.upto fnControlMatSpec)

/-- 'laws.FnMovedCirc', WHERE WHAT IT READS IS OF BULK AT MOST 1048576: true; the input reads as it did. -/
def fnMovedCircUptoRow : OpenClaim := { program := "yteckhaafdojoeaa", sum := "eef17e45c2c807c4ca141b08c18a8364fad5ea2aada2bccc78629a018d690506", func := "loop.example/g00506/laws.FnMovedCirc", spec := "fnMovedCirc", apart := false, narrowed := true }
def FnMovedCircUptoSaid : Prop := fnMovedCircUptoRow.holds Try.pinned (OpenSpec.upto fnMovedCircSpec)

end Rows
end Go.Proofs.Yteckhaafdojoeaa
