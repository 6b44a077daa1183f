/-
  No cell of these rows narrows 'for every input' (looked for: loops, veiled, ifaces, maps, wideKeys, modest, calm, conditions, laid).
  DERIVED. THE GIVEN ROWS OF THIS SEAT. 6 by the template 'for every input the law returns true; each argument reads behind the call as it read before'; 0 by the template 'total and deterministic' (their statements: YtifmajpcjgolgaaTotals.lean).
  GIVEN WITH THE SEED: the statements are not yours to turn. If you find one false, say at which input.
  Laid BY PROGRAM, IN A SANDBOX (cutbox-rows.mjs): the forced cells as the released guide's own fill.sh prints them over the translation 4a986d70fde053a6… (all of the seat's roots in one cut). By AI agents, Wed Nov 11 2026. No macro, syntax, notation, axiom, sorry.
-/
import Derived.Test.YtifmajpcjgolgaaChecked
import GoSem.Claim
import GoSem.ClaimJoined
import GoSem.ClaimMapViews
import Derived.JoinedTies
import Derived.KernelRfl
namespace Go.Proofs.Ytifmajpcjgolgaa
/- THE CELL 'sum', in the pinned program and in every row, IS THE sha256 OF THE DUMP (.gsa) THAT YtifmajpcjgolgaaProg.lean LOADS. Nothing in Lean hashes anything: it is a label: what it is worth is what the hold of that sum in a sandbox is worth. -/
noncomputable def Try.pinned : Pinned := { name := "ytifmajpcjgolgaa", sum := "4a986d70fde053a62552a956a7f2359bfb1d6773559bacbbee42cc8c70240af3", checked := Try.checked }
namespace Rows
def none {H : Type} : Left H := { results := [], args := [] }

/-- 'inquestlaw15.CodeTables': WHATEVER THE INPUT: true; the input reads as it did. -/
def codeTablesSpec : ChangeSpec := { name := "codeTables", fn := fun _ => fun
  | [d] => { results := [.lit (.bool true)], args := [d] }
  | _ => none }
def codeTablesRow : OpenClaim := { program := "ytifmajpcjgolgaa", sum := "4a986d70fde053a62552a956a7f2359bfb1d6773559bacbbee42cc8c70240af3", func := "inquest/inquestlaw15.CodeTables", spec := "codeTables", apart := false }
def CodeTablesSaid : Prop := codeTablesRow.holds Try.pinned (OpenSpec.ofChange codeTablesSpec)

/-- ITS FALSE NEIGHBOUR: 'it returns false'. Refute it at one input. -/
def codeTablesWrong : ChangeSpec := { name := "codeTables", fn := fun _ => fun
  | [d] => { results := [.lit (.bool false)], args := [d] }
  | _ => none }
def CodeTablesWrongFalsely : Prop := codeTablesRow.holds Try.pinned (OpenSpec.ofChange codeTablesWrong)

/-- 'inquestlaw15.CodeChecks': WHATEVER THE INPUT: true; the input reads as it did. -/
def codeChecksSpec : ChangeSpec := { name := "codeChecks", fn := fun _ => fun
  | [d] => { results := [.lit (.bool true)], args := [d] }
  | _ => none }
def codeChecksRow : OpenClaim := { program := "ytifmajpcjgolgaa", sum := "4a986d70fde053a62552a956a7f2359bfb1d6773559bacbbee42cc8c70240af3", func := "inquest/inquestlaw15.CodeChecks", spec := "codeChecks", apart := false }
def CodeChecksSaid : Prop := codeChecksRow.holds Try.pinned (OpenSpec.ofChange codeChecksSpec)

/-- ITS FALSE NEIGHBOUR: 'it returns false'. Refute it at one input. -/
def codeChecksWrong : ChangeSpec := { name := "codeChecks", fn := fun _ => fun
  | [d] => { results := [.lit (.bool false)], args := [d] }
  | _ => none }
def CodeChecksWrongFalsely : Prop := codeChecksRow.holds Try.pinned (OpenSpec.ofChange codeChecksWrong)

/-- 'inquestlaw15.CodeWays': WHATEVER THE INPUT: true; the input reads as it did. -/
def codeWaysSpec : ChangeSpec := { name := "codeWays", fn := fun _ => fun
  | [d1, d2] => { results := [.lit (.bool true)], args := [d1, d2] }
  | _ => none }
def codeWaysRow : OpenClaim := { program := "ytifmajpcjgolgaa", sum := "4a986d70fde053a62552a956a7f2359bfb1d6773559bacbbee42cc8c70240af3", func := "inquest/inquestlaw15.CodeWays", spec := "codeWays", apart := false }
def CodeWaysSaid : Prop := codeWaysRow.holds Try.pinned (OpenSpec.ofChange codeWaysSpec)

/-- ITS FALSE NEIGHBOUR: 'it returns false'. Refute it at one input. -/
def codeWaysWrong : ChangeSpec := { name := "codeWays", fn := fun _ => fun
  | [d1, d2] => { results := [.lit (.bool false)], args := [d1, d2] }
  | _ => none }
def CodeWaysWrongFalsely : Prop := codeWaysRow.holds Try.pinned (OpenSpec.ofChange codeWaysWrong)

/-- 'inquestlaw15.CodeLonger': WHATEVER THE INPUT: true; the input reads as it did. -/
def codeLongerSpec : ChangeSpec := { name := "codeLonger", fn := fun _ => fun
  | [d1, d2] => { results := [.lit (.bool true)], args := [d1, d2] }
  | _ => none }
def codeLongerRow : OpenClaim := { program := "ytifmajpcjgolgaa", sum := "4a986d70fde053a62552a956a7f2359bfb1d6773559bacbbee42cc8c70240af3", func := "inquest/inquestlaw15.CodeLonger", spec := "codeLonger", apart := false }
def CodeLongerSaid : Prop := codeLongerRow.holds Try.pinned (OpenSpec.ofChange codeLongerSpec)

/-- ITS FALSE NEIGHBOUR: 'it returns false'. Refute it at one input. -/
def codeLongerWrong : ChangeSpec := { name := "codeLonger", fn := fun _ => fun
  | [d1, d2] => { results := [.lit (.bool false)], args := [d1, d2] }
  | _ => none }
def CodeLongerWrongFalsely : Prop := codeLongerRow.holds Try.pinned (OpenSpec.ofChange codeLongerWrong)

/-- 'inquestlaw15.CodeTexts': WHATEVER THE INPUT: true; the input reads as it did. -/
def codeTextsSpec : ChangeSpec := { name := "codeTexts", fn := fun _ => fun
  | [d1, d2] => { results := [.lit (.bool true)], args := [d1, d2] }
  | _ => none }
def codeTextsRow : OpenClaim := { program := "ytifmajpcjgolgaa", sum := "4a986d70fde053a62552a956a7f2359bfb1d6773559bacbbee42cc8c70240af3", func := "inquest/inquestlaw15.CodeTexts", spec := "codeTexts", recurses := true, apart := false }
def CodeTextsSaid : Prop := codeTextsRow.holds Try.pinned (OpenSpec.ofChange codeTextsSpec)

/-- ITS FALSE NEIGHBOUR: 'it returns false'. Refute it at one input. -/
def codeTextsWrong : ChangeSpec := { name := "codeTexts", fn := fun _ => fun
  | [d1, d2] => { results := [.lit (.bool false)], args := [d1, d2] }
  | _ => none }
def CodeTextsWrongFalsely : Prop := codeTextsRow.holds Try.pinned (OpenSpec.ofChange codeTextsWrong)

/-- 'inquestlaw15.CodeBack': WHATEVER THE INPUT: true; the input reads as it did. -/
def codeBackSpec : ChangeSpec := { name := "codeBack", fn := fun _ => fun
  | [d1, d2] => { results := [.lit (.bool true)], args := [d1, d2] }
  | _ => none }
def codeBackRow : OpenClaim := { program := "ytifmajpcjgolgaa", sum := "4a986d70fde053a62552a956a7f2359bfb1d6773559bacbbee42cc8c70240af3", func := "inquest/inquestlaw15.CodeBack", spec := "codeBack", apart := false }
def CodeBackSaid : Prop := codeBackRow.holds Try.pinned (OpenSpec.ofChange codeBackSpec)

/-- ITS FALSE NEIGHBOUR: 'it returns false'. Refute it at one input. -/
def codeBackWrong : ChangeSpec := { name := "codeBack", fn := fun _ => fun
  | [d1, d2] => { results := [.lit (.bool false)], args := [d1, d2] }
  | _ => none }
def CodeBackWrongFalsely : Prop := codeBackRow.holds Try.pinned (OpenSpec.ofChange codeBackWrong)

/- THE SECOND FORM. 'bulk': how many values and letters a reading holds, each counted each time it is reached (what is shared counts as often as it is met; a slice's spare places count too). A statement '..UptoSaid' is the law's where the arguments, and the package variables that the reading takes, are together of bulk at most 1048576: NARROWER than '..Said'. Prove '..Said' where nothing that the law and all that it calls make is longer than what came in: it says more and counts as full. Else prove '..UptoSaid'. A law counts once. -/
mutual
def uptoBulk {H : Type} : DataW H → Nat
  | .lit (.string bytes) => bytes.length + 1
  | .lit _ => 1
  | .nil => 1
  | .ptr d => uptoBulk d + 1
  | .slice elems spare => uptoBulkAll elems + uptoBulkAll spare + 1
  | .agg parts => uptoBulkAll parts + 1
  | .iface _ d => uptoBulk d + 1
  | .map entries => uptoBulkEntries entries + 1
  | .held _ => 1
def uptoBulkAll {H : Type} : List (DataW H) → Nat
  | [] => 0
  | d :: r => uptoBulk d + uptoBulkAll r
def uptoBulkEntries {H : Type} : List (Lit × DataW H) → Nat
  | [] => 0
  | x :: r => uptoBulkEntry x + uptoBulkEntries r
def uptoBulkEntry {H : Type} : Lit × DataW H → Nat
  | (.string bytes, d) => bytes.length + uptoBulk d + 1
  | (_, d) => uptoBulk d + 1
 end
def uptoSmall : (H : Type) → List (DataW H) → Bool := fun _ ds => decide (uptoBulkAll ds ≤ 1048576)
def OpenSpec.upto (s : _root_.Go.ChangeSpec) : _root_.Go.OpenSpec := { _root_.Go.OpenSpec.ofChange s with cond := some uptoSmall }

/-- 'inquestlaw15.CodeTables', WHERE WHAT IT READS IS OF BULK AT MOST 1048576: true; the input reads as it did. -/
def codeTablesUptoRow : OpenClaim := { program := "ytifmajpcjgolgaa", sum := "4a986d70fde053a62552a956a7f2359bfb1d6773559bacbbee42cc8c70240af3", func := "inquest/inquestlaw15.CodeTables", spec := "codeTables", apart := false, narrowed := true }
def CodeTablesUptoSaid : Prop := codeTablesUptoRow.holds Try.pinned (OpenSpec.upto codeTablesSpec)

/-- 'inquestlaw15.CodeChecks', WHERE WHAT IT READS IS OF BULK AT MOST 1048576: true; the input reads as it did. -/
def codeChecksUptoRow : OpenClaim := { program := "ytifmajpcjgolgaa", sum := "4a986d70fde053a62552a956a7f2359bfb1d6773559bacbbee42cc8c70240af3", func := "inquest/inquestlaw15.CodeChecks", spec := "codeChecks", apart := false, narrowed := true }
def CodeChecksUptoSaid : Prop := codeChecksUptoRow.holds Try.pinned (OpenSpec.upto codeChecksSpec)

/-- 'inquestlaw15.CodeWays', WHERE WHAT IT READS IS OF BULK AT MOST 1048576: true; the input reads as it did. -/
def codeWaysUptoRow : OpenClaim := { program := "ytifmajpcjgolgaa", sum := "4a986d70fde053a62552a956a7f2359bfb1d6773559bacbbee42cc8c70240af3", func := "inquest/inquestlaw15.CodeWays", spec := "codeWays", apart := false, narrowed := true }
def CodeWaysUptoSaid : Prop := codeWaysUptoRow.holds Try.pinned (OpenSpec.upto codeWaysSpec)

/-- 'inquestlaw15.CodeLonger', WHERE WHAT IT READS IS OF BULK AT MOST 1048576: true; the input reads as it did. -/
def codeLongerUptoRow : OpenClaim := { program := "ytifmajpcjgolgaa", sum := "4a986d70fde053a62552a956a7f2359bfb1d6773559bacbbee42cc8c70240af3", func := "inquest/inquestlaw15.CodeLonger", spec := "codeLonger", apart := false, narrowed := true }
def CodeLongerUptoSaid : Prop := codeLongerUptoRow.holds Try.pinned (OpenSpec.upto codeLongerSpec)

/-- 'inquestlaw15.CodeTexts', WHERE WHAT IT READS IS OF BULK AT MOST 1048576: true; the input reads as it did. -/
def codeTextsUptoRow : OpenClaim := { program := "ytifmajpcjgolgaa", sum := "4a986d70fde053a62552a956a7f2359bfb1d6773559bacbbee42cc8c70240af3", func := "inquest/inquestlaw15.CodeTexts", spec := "codeTexts", recurses := true, apart := false, narrowed := true }
def CodeTextsUptoSaid : Prop := codeTextsUptoRow.holds Try.pinned (OpenSpec.upto codeTextsSpec)

/-- 'inquestlaw15.CodeBack', WHERE WHAT IT READS IS OF BULK AT MOST 1048576: true; the input reads as it did. -/
def codeBackUptoRow : OpenClaim := { program := "ytifmajpcjgolgaa", sum := "4a986d70fde053a62552a956a7f2359bfb1d6773559bacbbee42cc8c70240af3", func := "inquest/inquestlaw15.CodeBack", spec := "codeBack", apart := false, narrowed := true }
def CodeBackUptoSaid : Prop := codeBackUptoRow.holds Try.pinned (OpenSpec.upto codeBackSpec)

end Rows
end Go.Proofs.Ytifmajpcjgolgaa
