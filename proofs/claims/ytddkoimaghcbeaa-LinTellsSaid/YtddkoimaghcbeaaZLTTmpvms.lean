/- A part of what the law LinTells stands on, only as far as it is needed (the words and walks were printed or written in this seat; this text was cut by a program of this session, wip/bin/trim.py). No condition beyond what each theorem says. -/
import Derived.Test.YtddkoimaghcbeaaZLTPVmStepsx0
import Derived.Test.YtddkoimaghcbeaaZLTPVmStepsx2
import Derived.Test.YtddkoimaghcbeaaZLTPVmStepsx3
import Derived.Test.YtddkoimaghcbeaaZLTPVmStepsx4
import Derived.Test.YtddkoimaghcbeaaZLTPVmStepsx5
import Derived.Test.YtddkoimaghcbeaaZLTPVmStepsx6
import Derived.Test.YtddkoimaghcbeaaZLTTmpvmr
namespace Go.Proofs.Ytddkoimaghcbeaa.PVmSteps
open Go.RowKit Go.Proofs.YtddkoimaghcbeaaW.PrintWords Go.Proofs.YtddkoimaghcbeaaW.PrintLast Go.Proofs.YtddkoimaghcbeaaW.PrintMore
set_option linter.unusedVariables false
set_option linter.unusedSimpArgs false
/-- A new variable inside a drawn statement: on: it is made; st: it is written. -/
def rbX (W : World) (base : Nat) (on st : Bool) (u : Value) (z x : Obj) : Prop := on = true → ∃ g, u = .pointer (some ⟨g, 0, none⟩) ∧ base ≤ g ∧ W.heap[g]? = some (if st then x else z)
theorem rbX.below {W W' : World} {base : Nat} {on st : Bool} {u : Value} {z x : Obj} (h : rbX W base on st u z x) (hb : Below W.heap.size W W') : rbX W' base on st u z x := fun ho =>
  let ⟨g, e, h1, h2⟩ := h ho; ⟨g, e, h1, blk_below h2 hb⟩
theorem rbX.new {W : World} {base : Nat} {on st : Bool} {z x : Obj} (hst : st = false) (hb : base ≤ W.heap.size) : rbX (W.alloc z) base on st (.pointer (some ⟨W.heap.size, 0, none⟩)) z x := fun _ => ⟨_, rfl, hb, by subst hst; exact blk_new W _⟩
theorem rbX.at {W : World} {base : Nat} {on st : Bool} {u : Value} {z x : Obj} (h : rbX W base on st u z x) (ho : on = true) (hs : st = false) : ∃ g, u = .pointer (some ⟨g, 0, none⟩) ∧ base ≤ g ∧ W.heap[g]? = some z := by
  obtain ⟨g, e, h1, h2⟩ := h ho
  subst hs
  exact ⟨g, e, h1, h2⟩
theorem rbX.done {W : World} {base : Nat} {on st : Bool} {u : Value} {z x : Obj} (h : rbX W base on st u z x) (ho : on = true) (hs : st = true) : ∃ g, u = .pointer (some ⟨g, 0, none⟩) ∧ base ≤ g ∧ W.heap[g]? = some x := by
  obtain ⟨g, e, h1, h2⟩ := h ho
  subst hs
  exact ⟨g, e, h1, h2⟩
theorem up_off {b : Nat → Bool} {i j : Nat} (h : j ≠ i) : up b i j = b j := by simp [up, h]
end Go.Proofs.Ytddkoimaghcbeaa.PVmSteps
