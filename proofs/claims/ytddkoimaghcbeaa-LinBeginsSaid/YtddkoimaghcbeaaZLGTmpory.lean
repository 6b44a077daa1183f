/- A part of what the law LinBegins stands on, only as far as it is needed (the words and walks were printed or written in this seat; this text was cut by a program of this session, wip/bin/trim.py). No condition beyond what each theorem says. -/
import Derived.IntWalk
import Derived.StillTailTactics
import Derived.Deep.RegionHeld3
import Derived.Deep.QuietTactic
import Derived.BigQuiet
import Derived.Test.YtddkoimaghcbeaaZLGPVmStepsx0
import Derived.Test.YtddkoimaghcbeaaZLGPVmStepsx2
import Derived.Test.YtddkoimaghcbeaaZLGPVmStepsx3
import Derived.Test.YtddkoimaghcbeaaZLGPVmStepsx4
import Derived.Test.YtddkoimaghcbeaaZLGPVmStepsx5
import Derived.Test.YtddkoimaghcbeaaZLGTmpvmu
import Derived.Test.YtddkoimaghcbeaaZLGTmpvmq
import Derived.Test.YtddkoimaghcbeaaZLGTmporp
namespace Go.Proofs.Ytddkoimaghcbeaa.PVmSteps
open Go.RowKit Go.Proofs.YtddkoimaghcbeaaW.PrintWords Go.Proofs.YtddkoimaghcbeaaW.PrintLast Go.Proofs.YtddkoimaghcbeaaW.PrintMore
set_option linter.unusedVariables false
set_option linter.unusedSimpArgs false
def befZ (a b : S65) : Bool := if a.f3 = true then decide (a.f6 < b.f5) else false
theorem hist_bef (a b : S65) : hist_Before.f a.f0 a.f1 a.f2 a.f3 a.f4 a.f5 a.f6 b.f0 b.f1 b.f2 b.f3 b.f4 b.f5 b.f6 = some (befZ a b) := by
  unfold hist_Before.f befZ; split <;> rfl
theorem or_info3 : (Try.prog.info? 3).map (fun i => (i.zero, i.size, i.bytes)) = some (some (.int .i64 0), 1, 8) := by kernel_rfl
theorem op_cells7 {w : World} {A : Option Addr} {n : Nat} {xs : List S65} (h : Kd.C k65 w A n xs) (i : Int) (h0 : 0 ≤ i) (h1 : i < n) : ∃ ad, A = some ad ∧ ∀ W_ : World, Below w.heap.size w W_ → (W_.cell? (ad.add (i.toNat * 7)) = some (.int .i64 (rd_T65 xs i).f0) ∧ W_.cell? ⟨(ad.add (i.toNat * 7)).block, (ad.add (i.toNat * 7)).off + 1, none⟩ = some (.int .i64 (rd_T65 xs i).f1) ∧ W_.cell? ⟨(ad.add (i.toNat * 7)).block, (ad.add (i.toNat * 7)).off + 2, none⟩ = some (.int .i64 (rd_T65 xs i).f2) ∧ W_.cell? ⟨(ad.add (i.toNat * 7)).block, (ad.add (i.toNat * 7)).off + 3, none⟩ = some (.bool (rd_T65 xs i).f3) ∧ W_.cell? ⟨(ad.add (i.toNat * 7)).block, (ad.add (i.toNat * 7)).off + 4, none⟩ = some (.int .i64 (rd_T65 xs i).f4) ∧ W_.cell? ⟨(ad.add (i.toNat * 7)).block, (ad.add (i.toNat * 7)).off + 5, none⟩ = some (.int .i64 (rd_T65 xs i).f5) ∧ W_.cell? ⟨(ad.add (i.toNat * 7)).block, (ad.add (i.toNat * 7)).off + 6, none⟩ = some (.int .i64 (rd_T65 xs i).f6)) := by
  obtain ⟨ad, e, x0, x1, x2, x3, x4, x5, x6⟩ := at_T65 h i h0 h1
  exact ⟨ad, e, fun W_ hb => ⟨(hb.cell (World.block_lt_of_cell? w _ x0)).trans x0, (hb.cell (World.block_lt_of_cell? w _ x1)).trans x1, (hb.cell (World.block_lt_of_cell? w _ x2)).trans x2, (hb.cell (World.block_lt_of_cell? w _ x3)).trans x3, (hb.cell (World.block_lt_of_cell? w _ x4)).trans x4, (hb.cell (World.block_lt_of_cell? w _ x5)).trans x5, (hb.cell (World.block_lt_of_cell? w _ x6)).trans x6⟩⟩
end Go.Proofs.Ytddkoimaghcbeaa.PVmSteps
