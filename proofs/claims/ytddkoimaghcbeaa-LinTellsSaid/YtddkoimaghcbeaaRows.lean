/-
  No cell of these rows narrows 'for every input' (looked for: loops, veiled, ifaces, maps, wideKeys, modest, calm, conditions, laid).
  DERIVED. THE GIVEN ROWS OF THIS SEAT. 19 by the template 'for every input the law returns true; each argument reads behind the call as it read before'; 0 by the template 'total and deterministic' (their statements: YtddkoimaghcbeaaTotals.lean).
  GIVEN WITH THE SEED: the statements are not yours to turn. If you find one false, say at which input.
  Laid BY PROGRAM, IN A SANDBOX (cutbox-rows.mjs): the forced cells as the released guide's own fill.sh prints them over the translation ee4be8aae40dbcd3… (all of the seat's roots in one cut). By AI agents, Wed Nov 11 2026. No macro, syntax, notation, axiom, sorry.
-/
import Derived.Test.YtddkoimaghcbeaaChecked
import GoSem.Claim
import GoSem.ClaimJoined
import GoSem.ClaimMapViews
import Derived.JoinedTies
import Derived.KernelRfl
namespace Go.Proofs.Ytddkoimaghcbeaa
/- THE CELL 'sum', in the pinned program and in every row, IS THE sha256 OF THE DUMP (.gsa) THAT YtddkoimaghcbeaaProg.lean LOADS. Nothing in Lean hashes anything: it is a label: what it is worth is what the hold of that sum in a sandbox is worth. -/
noncomputable def Try.pinned : Pinned := { name := "ytddkoimaghcbeaa", sum := "ee4be8aae40dbcd3970498f3715a6da8d976b9046c6feb60d64a3f9138742bbb", checked := Try.checked }
namespace Rows
def none {H : Type} : Left H := { results := [], args := [] }

/-- 'inquestlaw16.VmSteps': WHATEVER THE INPUT: true; the input reads as it did. -/
def vmStepsSpec : ChangeSpec := { name := "vmSteps", fn := fun _ => fun
  | [d1, d2] => { results := [.lit (.bool true)], args := [d1, d2] }
  | _ => none }
def vmStepsRow : OpenClaim := { program := "ytddkoimaghcbeaa", sum := "ee4be8aae40dbcd3970498f3715a6da8d976b9046c6feb60d64a3f9138742bbb", func := "inquest/inquestlaw16.VmSteps", spec := "vmSteps", unfollowed := true, recurses := true, plainKeys := false, apart := false }
def VmStepsSaid : Prop := vmStepsRow.holds Try.pinned (OpenSpec.ofChange vmStepsSpec)

/-- ITS FALSE NEIGHBOUR: 'it returns false'. Refute it at one input. -/
def vmStepsWrong : ChangeSpec := { name := "vmSteps", fn := fun _ => fun
  | [d1, d2] => { results := [.lit (.bool false)], args := [d1, d2] }
  | _ => none }
def VmStepsWrongFalsely : Prop := vmStepsRow.holds Try.pinned (OpenSpec.ofChange vmStepsWrong)

/-- 'inquestlaw16.VmFuel': WHATEVER THE INPUT: true; the input reads as it did. -/
def vmFuelSpec : ChangeSpec := { name := "vmFuel", fn := fun _ => fun
  | [d1, d2, d3] => { results := [.lit (.bool true)], args := [d1, d2, d3] }
  | _ => none }
def vmFuelRow : OpenClaim := { program := "ytddkoimaghcbeaa", sum := "ee4be8aae40dbcd3970498f3715a6da8d976b9046c6feb60d64a3f9138742bbb", func := "inquest/inquestlaw16.VmFuel", spec := "vmFuel", unfollowed := true, recurses := true, plainKeys := false, apart := false }
def VmFuelSaid : Prop := vmFuelRow.holds Try.pinned (OpenSpec.ofChange vmFuelSpec)

/-- ITS FALSE NEIGHBOUR: 'it returns false'. Refute it at one input. -/
def vmFuelWrong : ChangeSpec := { name := "vmFuel", fn := fun _ => fun
  | [d1, d2, d3] => { results := [.lit (.bool false)], args := [d1, d2, d3] }
  | _ => none }
def VmFuelWrongFalsely : Prop := vmFuelRow.holds Try.pinned (OpenSpec.ofChange vmFuelWrong)

/-- 'inquestlaw16.VmAgain': WHATEVER THE INPUT: true; the input reads as it did. -/
def vmAgainSpec : ChangeSpec := { name := "vmAgain", fn := fun _ => fun
  | [d1, d2] => { results := [.lit (.bool true)], args := [d1, d2] }
  | _ => none }
def vmAgainRow : OpenClaim := { program := "ytddkoimaghcbeaa", sum := "ee4be8aae40dbcd3970498f3715a6da8d976b9046c6feb60d64a3f9138742bbb", func := "inquest/inquestlaw16.VmAgain", spec := "vmAgain", unfollowed := true, recurses := true, plainKeys := false, apart := false }
def VmAgainSaid : Prop := vmAgainRow.holds Try.pinned (OpenSpec.ofChange vmAgainSpec)

/-- ITS FALSE NEIGHBOUR: 'it returns false'. Refute it at one input. -/
def vmAgainWrong : ChangeSpec := { name := "vmAgain", fn := fun _ => fun
  | [d1, d2] => { results := [.lit (.bool false)], args := [d1, d2] }
  | _ => none }
def VmAgainWrongFalsely : Prop := vmAgainRow.holds Try.pinned (OpenSpec.ofChange vmAgainWrong)

/-- 'inquestlaw16.VmKinds': WHATEVER THE INPUT: true; the input reads as it did. -/
def vmKindsSpec : ChangeSpec := { name := "vmKinds", fn := fun _ => fun
  | [d1, d2] => { results := [.lit (.bool true)], args := [d1, d2] }
  | _ => none }
def vmKindsRow : OpenClaim := { program := "ytddkoimaghcbeaa", sum := "ee4be8aae40dbcd3970498f3715a6da8d976b9046c6feb60d64a3f9138742bbb", func := "inquest/inquestlaw16.VmKinds", spec := "vmKinds", unfollowed := true, recurses := true, plainKeys := false, apart := false }
def VmKindsSaid : Prop := vmKindsRow.holds Try.pinned (OpenSpec.ofChange vmKindsSpec)

/-- ITS FALSE NEIGHBOUR: 'it returns false'. Refute it at one input. -/
def vmKindsWrong : ChangeSpec := { name := "vmKinds", fn := fun _ => fun
  | [d1, d2] => { results := [.lit (.bool false)], args := [d1, d2] }
  | _ => none }
def VmKindsWrongFalsely : Prop := vmKindsRow.holds Try.pinned (OpenSpec.ofChange vmKindsWrong)

/-- 'inquestlaw16.VmSums': WHATEVER THE INPUT: true; the input reads as it did. -/
def vmSumsSpec : ChangeSpec := { name := "vmSums", fn := fun _ => fun
  | [d1, d2] => { results := [.lit (.bool true)], args := [d1, d2] }
  | _ => none }
def vmSumsRow : OpenClaim := { program := "ytddkoimaghcbeaa", sum := "ee4be8aae40dbcd3970498f3715a6da8d976b9046c6feb60d64a3f9138742bbb", func := "inquest/inquestlaw16.VmSums", spec := "vmSums", unfollowed := true, recurses := true, plainKeys := false, apart := false }
def VmSumsSaid : Prop := vmSumsRow.holds Try.pinned (OpenSpec.ofChange vmSumsSpec)

/-- ITS FALSE NEIGHBOUR: 'it returns false'. Refute it at one input. -/
def vmSumsWrong : ChangeSpec := { name := "vmSums", fn := fun _ => fun
  | [d1, d2] => { results := [.lit (.bool false)], args := [d1, d2] }
  | _ => none }
def VmSumsWrongFalsely : Prop := vmSumsRow.holds Try.pinned (OpenSpec.ofChange vmSumsWrong)

/-- 'inquestlaw16.VmCells': WHATEVER THE INPUT: true; the input reads as it did. -/
def vmCellsSpec : ChangeSpec := { name := "vmCells", fn := fun _ => fun
  | [d1, d2, d3, d4] => { results := [.lit (.bool true)], args := [d1, d2, d3, d4] }
  | _ => none }
def vmCellsRow : OpenClaim := { program := "ytddkoimaghcbeaa", sum := "ee4be8aae40dbcd3970498f3715a6da8d976b9046c6feb60d64a3f9138742bbb", func := "inquest/inquestlaw16.VmCells", spec := "vmCells", unfollowed := true, recurses := true, plainKeys := false, apart := false }
def VmCellsSaid : Prop := vmCellsRow.holds Try.pinned (OpenSpec.ofChange vmCellsSpec)

/-- ITS FALSE NEIGHBOUR: 'it returns false'. Refute it at one input. -/
def vmCellsWrong : ChangeSpec := { name := "vmCells", fn := fun _ => fun
  | [d1, d2, d3, d4] => { results := [.lit (.bool false)], args := [d1, d2, d3, d4] }
  | _ => none }
def VmCellsWrongFalsely : Prop := vmCellsRow.holds Try.pinned (OpenSpec.ofChange vmCellsWrong)

/-- 'inquestlaw16.VmNobody': WHATEVER THE INPUT: true; the input reads as it did. -/
def vmNobodySpec : ChangeSpec := { name := "vmNobody", fn := fun _ => fun
  | [d] => { results := [.lit (.bool true)], args := [d] }
  | _ => none }
def vmNobodyRow : OpenClaim := { program := "ytddkoimaghcbeaa", sum := "ee4be8aae40dbcd3970498f3715a6da8d976b9046c6feb60d64a3f9138742bbb", func := "inquest/inquestlaw16.VmNobody", spec := "vmNobody", unfollowed := true, recurses := true, plainKeys := false, apart := false }
def VmNobodySaid : Prop := vmNobodyRow.holds Try.pinned (OpenSpec.ofChange vmNobodySpec)

/-- ITS FALSE NEIGHBOUR: 'it returns false'. Refute it at one input. -/
def vmNobodyWrong : ChangeSpec := { name := "vmNobody", fn := fun _ => fun
  | [d] => { results := [.lit (.bool false)], args := [d] }
  | _ => none }
def VmNobodyWrongFalsely : Prop := vmNobodyRow.holds Try.pinned (OpenSpec.ofChange vmNobodyWrong)

/-- 'inquestlaw17.OrderChecks': WHATEVER THE INPUT: true; the input reads as it did. -/
def orderChecksSpec : ChangeSpec := { name := "orderChecks", fn := fun _ => fun
  | [d1, d2, d3, d4] => { results := [.lit (.bool true)], args := [d1, d2, d3, d4] }
  | _ => none }
def orderChecksRow : OpenClaim := { program := "ytddkoimaghcbeaa", sum := "ee4be8aae40dbcd3970498f3715a6da8d976b9046c6feb60d64a3f9138742bbb", func := "inquest/inquestlaw17.OrderChecks", spec := "orderChecks", unfollowed := true, recurses := true, plainKeys := false, apart := false }
def OrderChecksSaid : Prop := orderChecksRow.holds Try.pinned (OpenSpec.ofChange orderChecksSpec)

/-- ITS FALSE NEIGHBOUR: 'it returns false'. Refute it at one input. -/
def orderChecksWrong : ChangeSpec := { name := "orderChecks", fn := fun _ => fun
  | [d1, d2, d3, d4] => { results := [.lit (.bool false)], args := [d1, d2, d3, d4] }
  | _ => none }
def OrderChecksWrongFalsely : Prop := orderChecksRow.holds Try.pinned (OpenSpec.ofChange orderChecksWrong)

/-- 'inquestlaw17.OrderMeans': WHATEVER THE INPUT: true; the input reads as it did. -/
def orderMeansSpec : ChangeSpec := { name := "orderMeans", fn := fun _ => fun
  | [d1, d2, d3, d4] => { results := [.lit (.bool true)], args := [d1, d2, d3, d4] }
  | _ => none }
def orderMeansRow : OpenClaim := { program := "ytddkoimaghcbeaa", sum := "ee4be8aae40dbcd3970498f3715a6da8d976b9046c6feb60d64a3f9138742bbb", func := "inquest/inquestlaw17.OrderMeans", spec := "orderMeans", unfollowed := true, recurses := true, plainKeys := false, apart := false }
def OrderMeansSaid : Prop := orderMeansRow.holds Try.pinned (OpenSpec.ofChange orderMeansSpec)

/-- ITS FALSE NEIGHBOUR: 'it returns false'. Refute it at one input. -/
def orderMeansWrong : ChangeSpec := { name := "orderMeans", fn := fun _ => fun
  | [d1, d2, d3, d4] => { results := [.lit (.bool false)], args := [d1, d2, d3, d4] }
  | _ => none }
def OrderMeansWrongFalsely : Prop := orderMeansRow.holds Try.pinned (OpenSpec.ofChange orderMeansWrong)

/-- 'inquestlaw17.OrderFuel': WHATEVER THE INPUT: true; the input reads as it did. -/
def orderFuelSpec : ChangeSpec := { name := "orderFuel", fn := fun _ => fun
  | [d1, d2, d3, d4, d5] => { results := [.lit (.bool true)], args := [d1, d2, d3, d4, d5] }
  | _ => none }
def orderFuelRow : OpenClaim := { program := "ytddkoimaghcbeaa", sum := "ee4be8aae40dbcd3970498f3715a6da8d976b9046c6feb60d64a3f9138742bbb", func := "inquest/inquestlaw17.OrderFuel", spec := "orderFuel", unfollowed := true, recurses := true, plainKeys := false, apart := false }
def OrderFuelSaid : Prop := orderFuelRow.holds Try.pinned (OpenSpec.ofChange orderFuelSpec)

/-- ITS FALSE NEIGHBOUR: 'it returns false'. Refute it at one input. -/
def orderFuelWrong : ChangeSpec := { name := "orderFuel", fn := fun _ => fun
  | [d1, d2, d3, d4, d5] => { results := [.lit (.bool false)], args := [d1, d2, d3, d4, d5] }
  | _ => none }
def OrderFuelWrongFalsely : Prop := orderFuelRow.holds Try.pinned (OpenSpec.ofChange orderFuelWrong)

/-- 'inquestlaw17.OrderSwaps': WHATEVER THE INPUT: true; the input reads as it did. -/
def orderSwapsSpec : ChangeSpec := { name := "orderSwaps", fn := fun _ => fun
  | [d1, d2, d3, d4, d5] => { results := [.lit (.bool true)], args := [d1, d2, d3, d4, d5] }
  | _ => none }
def orderSwapsRow : OpenClaim := { program := "ytddkoimaghcbeaa", sum := "ee4be8aae40dbcd3970498f3715a6da8d976b9046c6feb60d64a3f9138742bbb", func := "inquest/inquestlaw17.OrderSwaps", spec := "orderSwaps", unfollowed := true, recurses := true, plainKeys := false, apart := false }
def OrderSwapsSaid : Prop := orderSwapsRow.holds Try.pinned (OpenSpec.ofChange orderSwapsSpec)

/-- ITS FALSE NEIGHBOUR: 'it returns false'. Refute it at one input. -/
def orderSwapsWrong : ChangeSpec := { name := "orderSwaps", fn := fun _ => fun
  | [d1, d2, d3, d4, d5] => { results := [.lit (.bool false)], args := [d1, d2, d3, d4, d5] }
  | _ => none }
def OrderSwapsWrongFalsely : Prop := orderSwapsRow.holds Try.pinned (OpenSpec.ofChange orderSwapsWrong)

/-- 'inquestlaw18.LinTells': WHATEVER THE INPUT: true; the input reads as it did. -/
def linTellsSpec : ChangeSpec := { name := "linTells", fn := fun _ => fun
  | [d1, d2, d3, d4] => { results := [.lit (.bool true)], args := [d1, d2, d3, d4] }
  | _ => none }
def linTellsRow : OpenClaim := { program := "ytddkoimaghcbeaa", sum := "ee4be8aae40dbcd3970498f3715a6da8d976b9046c6feb60d64a3f9138742bbb", func := "inquest/inquestlaw18.LinTells", spec := "linTells", unfollowed := true, recurses := true, plainKeys := false, apart := false }
def LinTellsSaid : Prop := linTellsRow.holds Try.pinned (OpenSpec.ofChange linTellsSpec)

/-- ITS FALSE NEIGHBOUR: 'it returns false'. Refute it at one input. -/
def linTellsWrong : ChangeSpec := { name := "linTells", fn := fun _ => fun
  | [d1, d2, d3, d4] => { results := [.lit (.bool false)], args := [d1, d2, d3, d4] }
  | _ => none }
def LinTellsWrongFalsely : Prop := linTellsRow.holds Try.pinned (OpenSpec.ofChange linTellsWrong)

/-- 'inquestlaw18.LinPieces': WHATEVER THE INPUT: true; the input reads as it did. -/
def linPiecesSpec : ChangeSpec := { name := "linPieces", fn := fun _ => fun
  | [d1, d2, d3, d4, d5] => { results := [.lit (.bool true)], args := [d1, d2, d3, d4, d5] }
  | _ => none }
def linPiecesRow : OpenClaim := { program := "ytddkoimaghcbeaa", sum := "ee4be8aae40dbcd3970498f3715a6da8d976b9046c6feb60d64a3f9138742bbb", func := "inquest/inquestlaw18.LinPieces", spec := "linPieces", unfollowed := true, recurses := true, plainKeys := false, apart := false }
def LinPiecesSaid : Prop := linPiecesRow.holds Try.pinned (OpenSpec.ofChange linPiecesSpec)

/-- ITS FALSE NEIGHBOUR: 'it returns false'. Refute it at one input. -/
def linPiecesWrong : ChangeSpec := { name := "linPieces", fn := fun _ => fun
  | [d1, d2, d3, d4, d5] => { results := [.lit (.bool false)], args := [d1, d2, d3, d4, d5] }
  | _ => none }
def LinPiecesWrongFalsely : Prop := linPiecesRow.holds Try.pinned (OpenSpec.ofChange linPiecesWrong)

/-- 'inquestlaw18.LinNobody': WHATEVER THE INPUT: true; the input reads as it did. -/
def linNobodySpec : ChangeSpec := { name := "linNobody", fn := fun _ => fun
  | [d] => { results := [.lit (.bool true)], args := [d] }
  | _ => none }
def linNobodyRow : OpenClaim := { program := "ytddkoimaghcbeaa", sum := "ee4be8aae40dbcd3970498f3715a6da8d976b9046c6feb60d64a3f9138742bbb", func := "inquest/inquestlaw18.LinNobody", spec := "linNobody", unfollowed := true, recurses := true, plainKeys := false, apart := false }
def LinNobodySaid : Prop := linNobodyRow.holds Try.pinned (OpenSpec.ofChange linNobodySpec)

/-- ITS FALSE NEIGHBOUR: 'it returns false'. Refute it at one input. -/
def linNobodyWrong : ChangeSpec := { name := "linNobody", fn := fun _ => fun
  | [d] => { results := [.lit (.bool false)], args := [d] }
  | _ => none }
def LinNobodyWrongFalsely : Prop := linNobodyRow.holds Try.pinned (OpenSpec.ofChange linNobodyWrong)

/-- 'inquestlaw18.LinBudget': WHATEVER THE INPUT: true; the input reads as it did. -/
def linBudgetSpec : ChangeSpec := { name := "linBudget", fn := fun _ => fun
  | [d1, d2, d3, d4] => { results := [.lit (.bool true)], args := [d1, d2, d3, d4] }
  | _ => none }
def linBudgetRow : OpenClaim := { program := "ytddkoimaghcbeaa", sum := "ee4be8aae40dbcd3970498f3715a6da8d976b9046c6feb60d64a3f9138742bbb", func := "inquest/inquestlaw18.LinBudget", spec := "linBudget", unfollowed := true, recurses := true, plainKeys := false, apart := false }
def LinBudgetSaid : Prop := linBudgetRow.holds Try.pinned (OpenSpec.ofChange linBudgetSpec)

/-- ITS FALSE NEIGHBOUR: 'it returns false'. Refute it at one input. -/
def linBudgetWrong : ChangeSpec := { name := "linBudget", fn := fun _ => fun
  | [d1, d2, d3, d4] => { results := [.lit (.bool false)], args := [d1, d2, d3, d4] }
  | _ => none }
def LinBudgetWrongFalsely : Prop := linBudgetRow.holds Try.pinned (OpenSpec.ofChange linBudgetWrong)

/-- 'inquestlaw18.LinEnough': WHATEVER THE INPUT: true; the input reads as it did. -/
def linEnoughSpec : ChangeSpec := { name := "linEnough", fn := fun _ => fun
  | [d] => { results := [.lit (.bool true)], args := [d] }
  | _ => none }
def linEnoughRow : OpenClaim := { program := "ytddkoimaghcbeaa", sum := "ee4be8aae40dbcd3970498f3715a6da8d976b9046c6feb60d64a3f9138742bbb", func := "inquest/inquestlaw18.LinEnough", spec := "linEnough", unfollowed := true, recurses := true, plainKeys := false, apart := false }
def LinEnoughSaid : Prop := linEnoughRow.holds Try.pinned (OpenSpec.ofChange linEnoughSpec)

/-- ITS FALSE NEIGHBOUR: 'it returns false'. Refute it at one input. -/
def linEnoughWrong : ChangeSpec := { name := "linEnough", fn := fun _ => fun
  | [d] => { results := [.lit (.bool false)], args := [d] }
  | _ => none }
def LinEnoughWrongFalsely : Prop := linEnoughRow.holds Try.pinned (OpenSpec.ofChange linEnoughWrong)

/-- 'inquestlaw18.LinBegins': WHATEVER THE INPUT: true; the input reads as it did. -/
def linBeginsSpec : ChangeSpec := { name := "linBegins", fn := fun _ => fun
  | [d1, d2, d3, d4] => { results := [.lit (.bool true)], args := [d1, d2, d3, d4] }
  | _ => none }
def linBeginsRow : OpenClaim := { program := "ytddkoimaghcbeaa", sum := "ee4be8aae40dbcd3970498f3715a6da8d976b9046c6feb60d64a3f9138742bbb", func := "inquest/inquestlaw18.LinBegins", spec := "linBegins", unfollowed := true, recurses := true, plainKeys := false, apart := false }
def LinBeginsSaid : Prop := linBeginsRow.holds Try.pinned (OpenSpec.ofChange linBeginsSpec)

/-- ITS FALSE NEIGHBOUR: 'it returns false'. Refute it at one input. -/
def linBeginsWrong : ChangeSpec := { name := "linBegins", fn := fun _ => fun
  | [d1, d2, d3, d4] => { results := [.lit (.bool false)], args := [d1, d2, d3, d4] }
  | _ => none }
def LinBeginsWrongFalsely : Prop := linBeginsRow.holds Try.pinned (OpenSpec.ofChange linBeginsWrong)

/-- 'inquestlaw18.LinSound': WHATEVER THE INPUT: true; the input reads as it did. -/
def linSoundSpec : ChangeSpec := { name := "linSound", fn := fun _ => fun
  | [d1, d2, d3, d4] => { results := [.lit (.bool true)], args := [d1, d2, d3, d4] }
  | _ => none }
def linSoundRow : OpenClaim := { program := "ytddkoimaghcbeaa", sum := "ee4be8aae40dbcd3970498f3715a6da8d976b9046c6feb60d64a3f9138742bbb", func := "inquest/inquestlaw18.LinSound", spec := "linSound", unfollowed := true, recurses := true, plainKeys := false, apart := false }
def LinSoundSaid : Prop := linSoundRow.holds Try.pinned (OpenSpec.ofChange linSoundSpec)

/-- ITS FALSE NEIGHBOUR: 'it returns false'. Refute it at one input. -/
def linSoundWrong : ChangeSpec := { name := "linSound", fn := fun _ => fun
  | [d1, d2, d3, d4] => { results := [.lit (.bool false)], args := [d1, d2, d3, d4] }
  | _ => none }
def LinSoundWrongFalsely : Prop := linSoundRow.holds Try.pinned (OpenSpec.ofChange linSoundWrong)

/-- 'inquestlaw18.LinWhole': WHATEVER THE INPUT: true; the input reads as it did. -/
def linWholeSpec : ChangeSpec := { name := "linWhole", fn := fun _ => fun
  | [d1, d2, d3] => { results := [.lit (.bool true)], args := [d1, d2, d3] }
  | _ => none }
def linWholeRow : OpenClaim := { program := "ytddkoimaghcbeaa", sum := "ee4be8aae40dbcd3970498f3715a6da8d976b9046c6feb60d64a3f9138742bbb", func := "inquest/inquestlaw18.LinWhole", spec := "linWhole", unfollowed := true, recurses := true, plainKeys := false, apart := false }
def LinWholeSaid : Prop := linWholeRow.holds Try.pinned (OpenSpec.ofChange linWholeSpec)

/-- ITS FALSE NEIGHBOUR: 'it returns false'. Refute it at one input. -/
def linWholeWrong : ChangeSpec := { name := "linWhole", fn := fun _ => fun
  | [d1, d2, d3] => { results := [.lit (.bool false)], args := [d1, d2, d3] }
  | _ => none }
def LinWholeWrongFalsely : Prop := linWholeRow.holds Try.pinned (OpenSpec.ofChange linWholeWrong)

/- THE SECOND FORM. 'bulk': how many values and letters a reading holds, each counted each time it is reached (what is shared counts as often as it is met; a slice's spare places count too). A statement '..UptoSaid' is the law's where the arguments, and the package variables that the reading takes, are together of bulk at most 1048576: NARROWER than '..Said'. Prove '..Said' where nothing that the law and all that it calls make is longer than what came in: it says more and counts as full. Else prove '..UptoSaid'. A law counts once. -/
mutual
def uptoBulk {H : Type} : DataW H → Nat
  | .lit (.string bytes) => bytes.length + 1
  | .lit _ => 1
  | .nil => 1
  | .ptr d => uptoBulk d + 1
  | .slice elems spare => uptoBulkAll elems + uptoBulkAll spare + 1
  | .agg parts => uptoBulkAll parts + 1
  | .iface _ d => uptoBulk d + 1
  | .map entries => uptoBulkEntries entries + 1
  | .held _ => 1
def uptoBulkAll {H : Type} : List (DataW H) → Nat
  | [] => 0
  | d :: r => uptoBulk d + uptoBulkAll r
def uptoBulkEntries {H : Type} : List (Lit × DataW H) → Nat
  | [] => 0
  | x :: r => uptoBulkEntry x + uptoBulkEntries r
def uptoBulkEntry {H : Type} : Lit × DataW H → Nat
  | (.string bytes, d) => bytes.length + uptoBulk d + 1
  | (_, d) => uptoBulk d + 1
 end
def uptoSmall : (H : Type) → List (DataW H) → Bool := fun _ ds => decide (uptoBulkAll ds ≤ 1048576)
def OpenSpec.upto (s : _root_.Go.ChangeSpec) : _root_.Go.OpenSpec := { _root_.Go.OpenSpec.ofChange s with cond := some uptoSmall }

/-- 'inquestlaw16.VmSteps', WHERE WHAT IT READS IS OF BULK AT MOST 1048576: true; the input reads as it did. -/
def vmStepsUptoRow : OpenClaim := { program := "ytddkoimaghcbeaa", sum := "ee4be8aae40dbcd3970498f3715a6da8d976b9046c6feb60d64a3f9138742bbb", func := "inquest/inquestlaw16.VmSteps", spec := "vmSteps", unfollowed := true, recurses := true, plainKeys := false, apart := false, narrowed := true }
def VmStepsUptoSaid : Prop := vmStepsUptoRow.holds Try.pinned (OpenSpec.upto vmStepsSpec)

/-- 'inquestlaw16.VmFuel', WHERE WHAT IT READS IS OF BULK AT MOST 1048576: true; the input reads as it did. -/
def vmFuelUptoRow : OpenClaim := { program := "ytddkoimaghcbeaa", sum := "ee4be8aae40dbcd3970498f3715a6da8d976b9046c6feb60d64a3f9138742bbb", func := "inquest/inquestlaw16.VmFuel", spec := "vmFuel", unfollowed := true, recurses := true, plainKeys := false, apart := false, narrowed := true }
def VmFuelUptoSaid : Prop := vmFuelUptoRow.holds Try.pinned (OpenSpec.upto vmFuelSpec)

/-- 'inquestlaw16.VmAgain', WHERE WHAT IT READS IS OF BULK AT MOST 1048576: true; the input reads as it did. -/
def vmAgainUptoRow : OpenClaim := { program := "ytddkoimaghcbeaa", sum := "ee4be8aae40dbcd3970498f3715a6da8d976b9046c6feb60d64a3f9138742bbb", func := "inquest/inquestlaw16.VmAgain", spec := "vmAgain", unfollowed := true, recurses := true, plainKeys := false, apart := false, narrowed := true }
def VmAgainUptoSaid : Prop := vmAgainUptoRow.holds Try.pinned (OpenSpec.upto vmAgainSpec)

/-- 'inquestlaw16.VmKinds', WHERE WHAT IT READS IS OF BULK AT MOST 1048576: true; the input reads as it did. -/
def vmKindsUptoRow : OpenClaim := { program := "ytddkoimaghcbeaa", sum := "ee4be8aae40dbcd3970498f3715a6da8d976b9046c6feb60d64a3f9138742bbb", func := "inquest/inquestlaw16.VmKinds", spec := "vmKinds", unfollowed := true, recurses := true, plainKeys := false, apart := false, narrowed := true }
def VmKindsUptoSaid : Prop := vmKindsUptoRow.holds Try.pinned (OpenSpec.upto vmKindsSpec)

/-- 'inquestlaw16.VmSums', WHERE WHAT IT READS IS OF BULK AT MOST 1048576: true; the input reads as it did. -/
def vmSumsUptoRow : OpenClaim := { program := "ytddkoimaghcbeaa", sum := "ee4be8aae40dbcd3970498f3715a6da8d976b9046c6feb60d64a3f9138742bbb", func := "inquest/inquestlaw16.VmSums", spec := "vmSums", unfollowed := true, recurses := true, plainKeys := false, apart := false, narrowed := true }
def VmSumsUptoSaid : Prop := vmSumsUptoRow.holds Try.pinned (OpenSpec.upto vmSumsSpec)

/-- 'inquestlaw16.VmCells', WHERE WHAT IT READS IS OF BULK AT MOST 1048576: true; the input reads as it did. -/
def vmCellsUptoRow : OpenClaim := { program := "ytddkoimaghcbeaa", sum := "ee4be8aae40dbcd3970498f3715a6da8d976b9046c6feb60d64a3f9138742bbb", func := "inquest/inquestlaw16.VmCells", spec := "vmCells", unfollowed := true, recurses := true, plainKeys := false, apart := false, narrowed := true }
def VmCellsUptoSaid : Prop := vmCellsUptoRow.holds Try.pinned (OpenSpec.upto vmCellsSpec)

/-- 'inquestlaw16.VmNobody', WHERE WHAT IT READS IS OF BULK AT MOST 1048576: true; the input reads as it did. -/
def vmNobodyUptoRow : OpenClaim := { program := "ytddkoimaghcbeaa", sum := "ee4be8aae40dbcd3970498f3715a6da8d976b9046c6feb60d64a3f9138742bbb", func := "inquest/inquestlaw16.VmNobody", spec := "vmNobody", unfollowed := true, recurses := true, plainKeys := false, apart := false, narrowed := true }
def VmNobodyUptoSaid : Prop := vmNobodyUptoRow.holds Try.pinned (OpenSpec.upto vmNobodySpec)

/-- 'inquestlaw17.OrderChecks', WHERE WHAT IT READS IS OF BULK AT MOST 1048576: true; the input reads as it did. -/
def orderChecksUptoRow : OpenClaim := { program := "ytddkoimaghcbeaa", sum := "ee4be8aae40dbcd3970498f3715a6da8d976b9046c6feb60d64a3f9138742bbb", func := "inquest/inquestlaw17.OrderChecks", spec := "orderChecks", unfollowed := true, recurses := true, plainKeys := false, apart := false, narrowed := true }
def OrderChecksUptoSaid : Prop := orderChecksUptoRow.holds Try.pinned (OpenSpec.upto orderChecksSpec)

/-- 'inquestlaw17.OrderMeans', WHERE WHAT IT READS IS OF BULK AT MOST 1048576: true; the input reads as it did. -/
def orderMeansUptoRow : OpenClaim := { program := "ytddkoimaghcbeaa", sum := "ee4be8aae40dbcd3970498f3715a6da8d976b9046c6feb60d64a3f9138742bbb", func := "inquest/inquestlaw17.OrderMeans", spec := "orderMeans", unfollowed := true, recurses := true, plainKeys := false, apart := false, narrowed := true }
def OrderMeansUptoSaid : Prop := orderMeansUptoRow.holds Try.pinned (OpenSpec.upto orderMeansSpec)

/-- 'inquestlaw17.OrderFuel', WHERE WHAT IT READS IS OF BULK AT MOST 1048576: true; the input reads as it did. -/
def orderFuelUptoRow : OpenClaim := { program := "ytddkoimaghcbeaa", sum := "ee4be8aae40dbcd3970498f3715a6da8d976b9046c6feb60d64a3f9138742bbb", func := "inquest/inquestlaw17.OrderFuel", spec := "orderFuel", unfollowed := true, recurses := true, plainKeys := false, apart := false, narrowed := true }
def OrderFuelUptoSaid : Prop := orderFuelUptoRow.holds Try.pinned (OpenSpec.upto orderFuelSpec)

/-- 'inquestlaw17.OrderSwaps', WHERE WHAT IT READS IS OF BULK AT MOST 1048576: true; the input reads as it did. -/
def orderSwapsUptoRow : OpenClaim := { program := "ytddkoimaghcbeaa", sum := "ee4be8aae40dbcd3970498f3715a6da8d976b9046c6feb60d64a3f9138742bbb", func := "inquest/inquestlaw17.OrderSwaps", spec := "orderSwaps", unfollowed := true, recurses := true, plainKeys := false, apart := false, narrowed := true }
def OrderSwapsUptoSaid : Prop := orderSwapsUptoRow.holds Try.pinned (OpenSpec.upto orderSwapsSpec)

/-- 'inquestlaw18.LinTells', WHERE WHAT IT READS IS OF BULK AT MOST 1048576: true; the input reads as it did. -/
def linTellsUptoRow : OpenClaim := { program := "ytddkoimaghcbeaa", sum := "ee4be8aae40dbcd3970498f3715a6da8d976b9046c6feb60d64a3f9138742bbb", func := "inquest/inquestlaw18.LinTells", spec := "linTells", unfollowed := true, recurses := true, plainKeys := false, apart := false, narrowed := true }
def LinTellsUptoSaid : Prop := linTellsUptoRow.holds Try.pinned (OpenSpec.upto linTellsSpec)

/-- 'inquestlaw18.LinPieces', WHERE WHAT IT READS IS OF BULK AT MOST 1048576: true; the input reads as it did. -/
def linPiecesUptoRow : OpenClaim := { program := "ytddkoimaghcbeaa", sum := "ee4be8aae40dbcd3970498f3715a6da8d976b9046c6feb60d64a3f9138742bbb", func := "inquest/inquestlaw18.LinPieces", spec := "linPieces", unfollowed := true, recurses := true, plainKeys := false, apart := false, narrowed := true }
def LinPiecesUptoSaid : Prop := linPiecesUptoRow.holds Try.pinned (OpenSpec.upto linPiecesSpec)

/-- 'inquestlaw18.LinNobody', WHERE WHAT IT READS IS OF BULK AT MOST 1048576: true; the input reads as it did. -/
def linNobodyUptoRow : OpenClaim := { program := "ytddkoimaghcbeaa", sum := "ee4be8aae40dbcd3970498f3715a6da8d976b9046c6feb60d64a3f9138742bbb", func := "inquest/inquestlaw18.LinNobody", spec := "linNobody", unfollowed := true, recurses := true, plainKeys := false, apart := false, narrowed := true }
def LinNobodyUptoSaid : Prop := linNobodyUptoRow.holds Try.pinned (OpenSpec.upto linNobodySpec)

/-- 'inquestlaw18.LinBudget', WHERE WHAT IT READS IS OF BULK AT MOST 1048576: true; the input reads as it did. -/
def linBudgetUptoRow : OpenClaim := { program := "ytddkoimaghcbeaa", sum := "ee4be8aae40dbcd3970498f3715a6da8d976b9046c6feb60d64a3f9138742bbb", func := "inquest/inquestlaw18.LinBudget", spec := "linBudget", unfollowed := true, recurses := true, plainKeys := false, apart := false, narrowed := true }
def LinBudgetUptoSaid : Prop := linBudgetUptoRow.holds Try.pinned (OpenSpec.upto linBudgetSpec)

/-- 'inquestlaw18.LinEnough', WHERE WHAT IT READS IS OF BULK AT MOST 1048576: true; the input reads as it did. -/
def linEnoughUptoRow : OpenClaim := { program := "ytddkoimaghcbeaa", sum := "ee4be8aae40dbcd3970498f3715a6da8d976b9046c6feb60d64a3f9138742bbb", func := "inquest/inquestlaw18.LinEnough", spec := "linEnough", unfollowed := true, recurses := true, plainKeys := false, apart := false, narrowed := true }
def LinEnoughUptoSaid : Prop := linEnoughUptoRow.holds Try.pinned (OpenSpec.upto linEnoughSpec)

/-- 'inquestlaw18.LinBegins', WHERE WHAT IT READS IS OF BULK AT MOST 1048576: true; the input reads as it did. -/
def linBeginsUptoRow : OpenClaim := { program := "ytddkoimaghcbeaa", sum := "ee4be8aae40dbcd3970498f3715a6da8d976b9046c6feb60d64a3f9138742bbb", func := "inquest/inquestlaw18.LinBegins", spec := "linBegins", unfollowed := true, recurses := true, plainKeys := false, apart := false, narrowed := true }
def LinBeginsUptoSaid : Prop := linBeginsUptoRow.holds Try.pinned (OpenSpec.upto linBeginsSpec)

/-- 'inquestlaw18.LinSound', WHERE WHAT IT READS IS OF BULK AT MOST 1048576: true; the input reads as it did. -/
def linSoundUptoRow : OpenClaim := { program := "ytddkoimaghcbeaa", sum := "ee4be8aae40dbcd3970498f3715a6da8d976b9046c6feb60d64a3f9138742bbb", func := "inquest/inquestlaw18.LinSound", spec := "linSound", unfollowed := true, recurses := true, plainKeys := false, apart := false, narrowed := true }
def LinSoundUptoSaid : Prop := linSoundUptoRow.holds Try.pinned (OpenSpec.upto linSoundSpec)

/-- 'inquestlaw18.LinWhole', WHERE WHAT IT READS IS OF BULK AT MOST 1048576: true; the input reads as it did. -/
def linWholeUptoRow : OpenClaim := { program := "ytddkoimaghcbeaa", sum := "ee4be8aae40dbcd3970498f3715a6da8d976b9046c6feb60d64a3f9138742bbb", func := "inquest/inquestlaw18.LinWhole", spec := "linWhole", unfollowed := true, recurses := true, plainKeys := false, apart := false, narrowed := true }
def LinWholeUptoSaid : Prop := linWholeUptoRow.holds Try.pinned (OpenSpec.upto linWholeSpec)

end Rows
end Go.Proofs.Ytddkoimaghcbeaa
