/-
  No cell of these rows narrows 'for every input' (looked for: loops, veiled, ifaces, maps, wideKeys, modest, calm, conditions, laid).
  DERIVED. THE GIVEN ROWS OF THIS SEAT. 7 by the template 'for every input the law returns true; each argument reads behind the call as it read before'; 0 by the template 'total and deterministic' (their statements: YtofhghpahmeolaaTotals.lean).
  GIVEN WITH THE SEED: the statements are not yours to turn. If you find one false, say at which input.
  Laid BY PROGRAM, IN A SANDBOX (cutbox-rows.mjs): the forced cells as the released guide's own fill.sh prints them over the translation de2e2bb62a0392b4… (all of the seat's roots in one cut). By AI agents, Wed Nov 11 2026. No macro, syntax, notation, axiom, sorry.
-/
import Derived.Test.YtofhghpahmeolaaChecked
import GoSem.Claim
import GoSem.ClaimJoined
import GoSem.ClaimMapViews
import Derived.JoinedTies
import Derived.KernelRfl
namespace Go.Proofs.Ytofhghpahmeolaa
/- THE CELL 'sum', in the pinned program and in every row, IS THE sha256 OF THE DUMP (.gsa) THAT YtofhghpahmeolaaProg.lean LOADS. Nothing in Lean hashes anything: it is a label: what it is worth is what the hold of that sum in a sandbox is worth. -/
noncomputable def Try.pinned : Pinned := { name := "ytofhghpahmeolaa", sum := "de2e2bb62a0392b46d1a0a58fb36e5a9fb6217a28edb7bee8040ac394980aebf", checked := Try.checked }
namespace Rows
def none {H : Type} : Left H := { results := [], args := [] }

/-- 'inquestlaw14.HistChecks': WHATEVER THE INPUT: true; the input reads as it did. -/
def histChecksSpec : ChangeSpec := { name := "histChecks", fn := fun _ => fun
  | [d] => { results := [.lit (.bool true)], args := [d] }
  | _ => none }
def histChecksRow : OpenClaim := { program := "ytofhghpahmeolaa", sum := "de2e2bb62a0392b46d1a0a58fb36e5a9fb6217a28edb7bee8040ac394980aebf", func := "inquest/inquestlaw14.HistChecks", spec := "histChecks", apart := false }
def HistChecksSaid : Prop := histChecksRow.holds Try.pinned (OpenSpec.ofChange histChecksSpec)

/-- ITS FALSE NEIGHBOUR: 'it returns false'. Refute it at one input. -/
def histChecksWrong : ChangeSpec := { name := "histChecks", fn := fun _ => fun
  | [d] => { results := [.lit (.bool false)], args := [d] }
  | _ => none }
def HistChecksWrongFalsely : Prop := histChecksRow.holds Try.pinned (OpenSpec.ofChange histChecksWrong)

/-- 'inquestlaw14.HistOps': WHATEVER THE INPUT: true; the input reads as it did. -/
def histOpsSpec : ChangeSpec := { name := "histOps", fn := fun _ => fun
  | [d] => { results := [.lit (.bool true)], args := [d] }
  | _ => none }
def histOpsRow : OpenClaim := { program := "ytofhghpahmeolaa", sum := "de2e2bb62a0392b46d1a0a58fb36e5a9fb6217a28edb7bee8040ac394980aebf", func := "inquest/inquestlaw14.HistOps", spec := "histOps", apart := false }
def HistOpsSaid : Prop := histOpsRow.holds Try.pinned (OpenSpec.ofChange histOpsSpec)

/-- ITS FALSE NEIGHBOUR: 'it returns false'. Refute it at one input. -/
def histOpsWrong : ChangeSpec := { name := "histOps", fn := fun _ => fun
  | [d] => { results := [.lit (.bool false)], args := [d] }
  | _ => none }
def HistOpsWrongFalsely : Prop := histOpsRow.holds Try.pinned (OpenSpec.ofChange histOpsWrong)

/-- 'inquestlaw14.HistLonger': WHATEVER THE INPUT: true; the input reads as it did. -/
def histLongerSpec : ChangeSpec := { name := "histLonger", fn := fun _ => fun
  | [d1, d2] => { results := [.lit (.bool true)], args := [d1, d2] }
  | _ => none }
def histLongerRow : OpenClaim := { program := "ytofhghpahmeolaa", sum := "de2e2bb62a0392b46d1a0a58fb36e5a9fb6217a28edb7bee8040ac394980aebf", func := "inquest/inquestlaw14.HistLonger", spec := "histLonger", apart := false }
def HistLongerSaid : Prop := histLongerRow.holds Try.pinned (OpenSpec.ofChange histLongerSpec)

/-- ITS FALSE NEIGHBOUR: 'it returns false'. Refute it at one input. -/
def histLongerWrong : ChangeSpec := { name := "histLonger", fn := fun _ => fun
  | [d1, d2] => { results := [.lit (.bool false)], args := [d1, d2] }
  | _ => none }
def HistLongerWrongFalsely : Prop := histLongerRow.holds Try.pinned (OpenSpec.ofChange histLongerWrong)

/-- 'inquestlaw14.HistWhole': WHATEVER THE INPUT: true; the input reads as it did. -/
def histWholeSpec : ChangeSpec := { name := "histWhole", fn := fun _ => fun
  | [d] => { results := [.lit (.bool true)], args := [d] }
  | _ => none }
def histWholeRow : OpenClaim := { program := "ytofhghpahmeolaa", sum := "de2e2bb62a0392b46d1a0a58fb36e5a9fb6217a28edb7bee8040ac394980aebf", func := "inquest/inquestlaw14.HistWhole", spec := "histWhole", apart := false }
def HistWholeSaid : Prop := histWholeRow.holds Try.pinned (OpenSpec.ofChange histWholeSpec)

/-- ITS FALSE NEIGHBOUR: 'it returns false'. Refute it at one input. -/
def histWholeWrong : ChangeSpec := { name := "histWhole", fn := fun _ => fun
  | [d] => { results := [.lit (.bool false)], args := [d] }
  | _ => none }
def HistWholeWrongFalsely : Prop := histWholeRow.holds Try.pinned (OpenSpec.ofChange histWholeWrong)

/-- 'inquestlaw14.HistBefore': WHATEVER THE INPUT: true; the input reads as it did. -/
def histBeforeSpec : ChangeSpec := { name := "histBefore", fn := fun _ => fun
  | [d1, d2, d3, d4] => { results := [.lit (.bool true)], args := [d1, d2, d3, d4] }
  | _ => none }
def histBeforeRow : OpenClaim := { program := "ytofhghpahmeolaa", sum := "de2e2bb62a0392b46d1a0a58fb36e5a9fb6217a28edb7bee8040ac394980aebf", func := "inquest/inquestlaw14.HistBefore", spec := "histBefore", apart := false }
def HistBeforeSaid : Prop := histBeforeRow.holds Try.pinned (OpenSpec.ofChange histBeforeSpec)

/-- ITS FALSE NEIGHBOUR: 'it returns false'. Refute it at one input. -/
def histBeforeWrong : ChangeSpec := { name := "histBefore", fn := fun _ => fun
  | [d1, d2, d3, d4] => { results := [.lit (.bool false)], args := [d1, d2, d3, d4] }
  | _ => none }
def HistBeforeWrongFalsely : Prop := histBeforeRow.holds Try.pinned (OpenSpec.ofChange histBeforeWrong)

/-- 'inquestlaw14.HistTexts': WHATEVER THE INPUT: true; the input reads as it did. -/
def histTextsSpec : ChangeSpec := { name := "histTexts", fn := fun _ => fun
  | [d1, d2] => { results := [.lit (.bool true)], args := [d1, d2] }
  | _ => none }
def histTextsRow : OpenClaim := { program := "ytofhghpahmeolaa", sum := "de2e2bb62a0392b46d1a0a58fb36e5a9fb6217a28edb7bee8040ac394980aebf", func := "inquest/inquestlaw14.HistTexts", spec := "histTexts", recurses := true, apart := false }
def HistTextsSaid : Prop := histTextsRow.holds Try.pinned (OpenSpec.ofChange histTextsSpec)

/-- ITS FALSE NEIGHBOUR: 'it returns false'. Refute it at one input. -/
def histTextsWrong : ChangeSpec := { name := "histTexts", fn := fun _ => fun
  | [d1, d2] => { results := [.lit (.bool false)], args := [d1, d2] }
  | _ => none }
def HistTextsWrongFalsely : Prop := histTextsRow.holds Try.pinned (OpenSpec.ofChange histTextsWrong)

/-- 'inquestlaw14.HistBack': WHATEVER THE INPUT: true; the input reads as it did. -/
def histBackSpec : ChangeSpec := { name := "histBack", fn := fun _ => fun
  | [d1, d2] => { results := [.lit (.bool true)], args := [d1, d2] }
  | _ => none }
def histBackRow : OpenClaim := { program := "ytofhghpahmeolaa", sum := "de2e2bb62a0392b46d1a0a58fb36e5a9fb6217a28edb7bee8040ac394980aebf", func := "inquest/inquestlaw14.HistBack", spec := "histBack", apart := false }
def HistBackSaid : Prop := histBackRow.holds Try.pinned (OpenSpec.ofChange histBackSpec)

/-- ITS FALSE NEIGHBOUR: 'it returns false'. Refute it at one input. -/
def histBackWrong : ChangeSpec := { name := "histBack", fn := fun _ => fun
  | [d1, d2] => { results := [.lit (.bool false)], args := [d1, d2] }
  | _ => none }
def HistBackWrongFalsely : Prop := histBackRow.holds Try.pinned (OpenSpec.ofChange histBackWrong)

/- THE SECOND FORM. 'bulk': how many values and letters a reading holds, each counted each time it is reached (what is shared counts as often as it is met; a slice's spare places count too). A statement '..UptoSaid' is the law's where the arguments, and the package variables that the reading takes, are together of bulk at most 1048576: NARROWER than '..Said'. Prove '..Said' where nothing that the law and all that it calls make is longer than what came in: it says more and counts as full. Else prove '..UptoSaid'. A law counts once. -/
mutual
def uptoBulk {H : Type} : DataW H → Nat
  | .lit (.string bytes) => bytes.length + 1
  | .lit _ => 1
  | .nil => 1
  | .ptr d => uptoBulk d + 1
  | .slice elems spare => uptoBulkAll elems + uptoBulkAll spare + 1
  | .agg parts => uptoBulkAll parts + 1
  | .iface _ d => uptoBulk d + 1
  | .map entries => uptoBulkEntries entries + 1
  | .held _ => 1
def uptoBulkAll {H : Type} : List (DataW H) → Nat
  | [] => 0
  | d :: r => uptoBulk d + uptoBulkAll r
def uptoBulkEntries {H : Type} : List (Lit × DataW H) → Nat
  | [] => 0
  | x :: r => uptoBulkEntry x + uptoBulkEntries r
def uptoBulkEntry {H : Type} : Lit × DataW H → Nat
  | (.string bytes, d) => bytes.length + uptoBulk d + 1
  | (_, d) => uptoBulk d + 1
 end
def uptoSmall : (H : Type) → List (DataW H) → Bool := fun _ ds => decide (uptoBulkAll ds ≤ 1048576)
def OpenSpec.upto (s : _root_.Go.ChangeSpec) : _root_.Go.OpenSpec := { _root_.Go.OpenSpec.ofChange s with cond := some uptoSmall }

/-- 'inquestlaw14.HistChecks', WHERE WHAT IT READS IS OF BULK AT MOST 1048576: true; the input reads as it did. -/
def histChecksUptoRow : OpenClaim := { program := "ytofhghpahmeolaa", sum := "de2e2bb62a0392b46d1a0a58fb36e5a9fb6217a28edb7bee8040ac394980aebf", func := "inquest/inquestlaw14.HistChecks", spec := "histChecks", apart := false, narrowed := true }
def HistChecksUptoSaid : Prop := histChecksUptoRow.holds Try.pinned (OpenSpec.upto histChecksSpec)

/-- 'inquestlaw14.HistOps', WHERE WHAT IT READS IS OF BULK AT MOST 1048576: true; the input reads as it did. -/
def histOpsUptoRow : OpenClaim := { program := "ytofhghpahmeolaa", sum := "de2e2bb62a0392b46d1a0a58fb36e5a9fb6217a28edb7bee8040ac394980aebf", func := "inquest/inquestlaw14.HistOps", spec := "histOps", apart := false, narrowed := true }
def HistOpsUptoSaid : Prop := histOpsUptoRow.holds Try.pinned (OpenSpec.upto histOpsSpec)

/-- 'inquestlaw14.HistLonger', WHERE WHAT IT READS IS OF BULK AT MOST 1048576: true; the input reads as it did. -/
def histLongerUptoRow : OpenClaim := { program := "ytofhghpahmeolaa", sum := "de2e2bb62a0392b46d1a0a58fb36e5a9fb6217a28edb7bee8040ac394980aebf", func := "inquest/inquestlaw14.HistLonger", spec := "histLonger", apart := false, narrowed := true }
def HistLongerUptoSaid : Prop := histLongerUptoRow.holds Try.pinned (OpenSpec.upto histLongerSpec)

/-- 'inquestlaw14.HistWhole', WHERE WHAT IT READS IS OF BULK AT MOST 1048576: true; the input reads as it did. -/
def histWholeUptoRow : OpenClaim := { program := "ytofhghpahmeolaa", sum := "de2e2bb62a0392b46d1a0a58fb36e5a9fb6217a28edb7bee8040ac394980aebf", func := "inquest/inquestlaw14.HistWhole", spec := "histWhole", apart := false, narrowed := true }
def HistWholeUptoSaid : Prop := histWholeUptoRow.holds Try.pinned (OpenSpec.upto histWholeSpec)

/-- 'inquestlaw14.HistBefore', WHERE WHAT IT READS IS OF BULK AT MOST 1048576: true; the input reads as it did. -/
def histBeforeUptoRow : OpenClaim := { program := "ytofhghpahmeolaa", sum := "de2e2bb62a0392b46d1a0a58fb36e5a9fb6217a28edb7bee8040ac394980aebf", func := "inquest/inquestlaw14.HistBefore", spec := "histBefore", apart := false, narrowed := true }
def HistBeforeUptoSaid : Prop := histBeforeUptoRow.holds Try.pinned (OpenSpec.upto histBeforeSpec)

/-- 'inquestlaw14.HistTexts', WHERE WHAT IT READS IS OF BULK AT MOST 1048576: true; the input reads as it did. -/
def histTextsUptoRow : OpenClaim := { program := "ytofhghpahmeolaa", sum := "de2e2bb62a0392b46d1a0a58fb36e5a9fb6217a28edb7bee8040ac394980aebf", func := "inquest/inquestlaw14.HistTexts", spec := "histTexts", recurses := true, apart := false, narrowed := true }
def HistTextsUptoSaid : Prop := histTextsUptoRow.holds Try.pinned (OpenSpec.upto histTextsSpec)

/-- 'inquestlaw14.HistBack', WHERE WHAT IT READS IS OF BULK AT MOST 1048576: true; the input reads as it did. -/
def histBackUptoRow : OpenClaim := { program := "ytofhghpahmeolaa", sum := "de2e2bb62a0392b46d1a0a58fb36e5a9fb6217a28edb7bee8040ac394980aebf", func := "inquest/inquestlaw14.HistBack", spec := "histBack", apart := false, narrowed := true }
def HistBackUptoSaid : Prop := histBackUptoRow.holds Try.pinned (OpenSpec.upto histBackSpec)

end Rows
end Go.Proofs.Ytofhghpahmeolaa
