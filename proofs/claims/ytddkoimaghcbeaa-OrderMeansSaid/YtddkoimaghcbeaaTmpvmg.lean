/- A part of the proofs about layers 16 to 18 (vm, order, lin) and their references: contracts and plain lemmas that the laws stand on. No condition beyond what each theorem says. -/
import Derived.Test.YtddkoimaghcbeaaPVmStepsx1
import Derived.Test.YtddkoimaghcbeaaPVmStepsx2
import Derived.Test.YtddkoimaghcbeaaPVmStepsx3
import Derived.Test.YtddkoimaghcbeaaPVmStepsx4
import Derived.Test.YtddkoimaghcbeaaPVmStepsx5
import Derived.Test.YtddkoimaghcbeaaPVmStepsx6
import Derived.Test.YtddkoimaghcbeaaTmpvmf
namespace Go.Proofs.Ytddkoimaghcbeaa.PVmSteps
open Go.RowKit Go.Proofs.YtddkoimaghcbeaaW.PrintWords Go.Proofs.YtddkoimaghcbeaaW.PrintLast Go.Proofs.YtddkoimaghcbeaaW.PrintMore
set_option linter.unusedVariables false
set_option linter.unusedSimpArgs false
/-- A step's answer. -/
def stepV (k : Int) (cs : List Int) (ret used : Int) : Value := .agg #[.int .i64 k, .int .i64 (rdOf 0 cs 0), .int .i64 (rdOf 0 cs 1), .int .i64 (rdOf 0 cs 2), .int .i64 (rdOf 0 cs 3), .int .i64 ret, .int .i64 used]
def stateV (cs : List Int) : Value := .agg #[.int .i64 (rdOf 0 cs 0), .int .i64 (rdOf 0 cs 1), .int .i64 (rdOf 0 cs 2), .int .i64 (rdOf 0 cs 3)]
theorem vm_Step_nil (cs : List Int) (kind arg fuel : Int) (w : World) :
    Calls Try.prog 26 #[.pointer none, stateV cs, .int .i64 kind, .int .i64 arg, .int .i64 fuel] w fun e w' => e = .returned (stepV 4 [] 0 0) ∧ Below w.heap.size w w' := by
  unfold stateV
  go_enter Try.func26, Try.ntmps26
  go_wp2
  exact bodyPost_ret (v := stepV 4 [] 0 0) (by simp [results, Try.results26, go_sem, stepV, rdOf]) rfl ⟨rfl, by repeat (first | exact Below.refl _ _ | refine below_alloc ?_ _)⟩
theorem vm_Step_empty (gm : Nat) (cs : List Int) (kind arg fuel : Int) (w : World) (hm : w.cell? ⟨gm, 0, none⟩ = some (.slice none 0 0)) (hlt : gm < w.heap.size) :
    Calls Try.prog 26 #[.pointer (some ⟨gm, 0, none⟩), stateV cs, .int .i64 kind, .int .i64 arg, .int .i64 fuel] w fun e w' => e = .returned (stepV 4 [] 0 0) ∧ Below w.heap.size w w' := by
  unfold stateV
  have n1 : gm ≠ w.heap.size := Nat.ne_of_lt hlt
  have n2 : gm ≠ w.heap.size + 1 := by omega
  go_enter Try.func26, Try.ntmps26
  go_wp2
  exact bodyPost_ret (v := stepV 4 [] 0 0) (by simp [results, Try.results26, go_sem, stepV, rdOf]) rfl ⟨rfl, by repeat (first | exact Below.refl _ _ | refine below_alloc ?_ _)⟩

end Go.Proofs.Ytddkoimaghcbeaa.PVmSteps
