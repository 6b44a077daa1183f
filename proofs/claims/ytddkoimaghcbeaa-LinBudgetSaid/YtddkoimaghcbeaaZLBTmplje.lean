/- A part of what the law LinBudget stands on, only as far as it is needed (the words and walks were printed or written in this seat; this text was cut by a program of this session, wip/bin/trim.py). No condition beyond what each theorem says. -/
import Derived.StillTailTactics
import Derived.Deep.RegionHeld3
import Derived.IntWalk
import Derived.Deep.QuietTactic
import Derived.BigQuiet
import Derived.Test.YtddkoimaghcbeaaZLBPVmStepsx0
import Derived.Test.YtddkoimaghcbeaaZLBPVmStepsx2
import Derived.Test.YtddkoimaghcbeaaZLBPVmStepsx3
import Derived.Test.YtddkoimaghcbeaaZLBPVmStepsx4
import Derived.Test.YtddkoimaghcbeaaZLBPVmStepsx5
import Derived.Test.YtddkoimaghcbeaaZLBTmplja
import Derived.Test.YtddkoimaghcbeaaZLBTmpvmu
import Derived.Test.YtddkoimaghcbeaaZLBTmpvmq
import Derived.Test.YtddkoimaghcbeaaZLBTmplbs
namespace Go.Proofs.Ytddkoimaghcbeaa.PVmSteps
open Go.RowKit Go.Proofs.YtddkoimaghcbeaaW.PrintWords Go.Proofs.YtddkoimaghcbeaaW.PrintLast Go.Proofs.YtddkoimaghcbeaaW.PrintMore
set_option linter.unusedVariables false
set_option linter.unusedSimpArgs false
/-- How many tries are enough. -/
def enZ (n : Int) : Int := if n ≤ 0 then 0 else if 20 < n then 4611686018427387904 else (lin_Enough.f 100 n).getD 0
theorem enZ_small : ∀ m : Nat, m < 26 → lin_Enough.f 100 (m : Int) = some (enZ m) := by decide +kernel
def enR (d : Nat) : Int := (List.range (16 - d)).foldl (fun (a : Int) (t : Nat) => a * (26 - (t : Int))) 1
theorem enR_step : ∀ d : Nat, d < 16 → enR d = enR (d + 1) * (11 + (d : Int)) ∧ 1 ≤ enR (d + 1) := by decide +kernel
theorem en_big : ∀ (d : Nat), d ≤ 16 → ∀ x0 x3 x4 : Int, 10 + (d : Int) ≤ x0 → x0 ≤ 9223372036854775807 → 0 ≤ x3 → x3 ≤ 4611686018427387904 → enR d ≤ x4 → x4 ≤ 4611686018427387904 → ∃ k, lin_Enough.l0 k x0 x3 x4 = some 4611686018427387904
  | 0, _, x0, x3, x4, h0, _, _, _, h4, h5 => by
    have : (4611686018427387904 : Int) < enR 0 := by decide +kernel
    omega
  | d + 1, hd, x0, x3, x4, h0, h1, h2, h3, h4, h5 => by
    obtain ⟨e1, e2⟩ := enR_step d (by omega)
    have hx0 : 0 < x0 := by omega
    have hq0 : 0 ≤ (4611686018427387904 : Int) / x0 := Int.ediv_nonneg (by decide) (by omega)
    have hq1 : (4611686018427387904 : Int) / x0 ≤ 4611686018427387904 := Int.ediv_le_self _ (by decide)
    have hw : wrap64 (Int.tdiv (4611686018427387904 : Int) x0) = (4611686018427387904 : Int) / x0 := by rw [Int.tdiv_eq_ediv_of_nonneg (by decide)]; exact w64 (by omega) (by omega)
    by_cases c : x4 > (4611686018427387904 : Int) / x0
    · refine ⟨1, ?_⟩
      rw [lin_Enough.l0, if_pos (by omega), if_neg (by omega), hw, if_pos c]
    have hm : x4 * x0 ≤ 4611686018427387904 := (Int.le_ediv_iff_mul_le hx0).mp (by omega)
    have hl : enR d ≤ x4 * x0 := by
      rw [e1]
      have h40 : 0 ≤ x4 := by omega
      have hd0 : 0 ≤ 11 + (d : Int) := by omega
      exact Int.mul_le_mul h4 (by push_cast at h0; omega) hd0 h40
    have hp : 0 ≤ x4 * x0 := Int.mul_nonneg (by omega) (by omega)
    have hwm : wrap64 (x4 * x0) = x4 * x0 := w64 (by omega) (by omega)
    have hws : wrap64 (4611686018427387904 - x4 * x0) = 4611686018427387904 - x4 * x0 := w64 (by omega) (by omega)
    by_cases c2 : x3 > 4611686018427387904 - x4 * x0
    · refine ⟨1, ?_⟩
      rw [lin_Enough.l0, if_pos (by omega), if_neg (by omega), hw, if_neg c, hwm, hws, if_pos c2]
    have hw1 : wrap64 (x0 - 1) = x0 - 1 := w64 (by omega) (by omega)
    have hw2 : wrap64 (x3 + x4 * x0) = x3 + x4 * x0 := w64 (by omega) (by omega)
    obtain ⟨k, hk⟩ := en_big d (by omega) (x0 - 1) (x3 + x4 * x0) (x4 * x0) (by push_cast at h0; omega) (by omega) (by omega) (by omega) hl hm
    refine ⟨k + 1, ?_⟩
    rw [lin_Enough.l0, if_pos (by omega), if_neg (by omega), hw, if_neg c, hwm, hws, if_neg c2, hw1, hw2]
    exact hk
theorem lin_en (n : Int) (h1 : n ≤ 9223372036854775807) : ∃ k, lin_Enough.f k n = some (enZ n) := by
  by_cases c : n ≤ 0
  · refine ⟨1, ?_⟩
    rw [lin_Enough.f, lin_Enough.l0, if_neg (by omega), enZ, if_pos c]
  by_cases d : n < 26
  · obtain ⟨m, rfl⟩ := Int.eq_ofNat_of_zero_le (show 0 ≤ n by omega)
    exact ⟨100, enZ_small m (by omega)⟩
  · obtain ⟨k, hk⟩ := en_big 16 (Nat.le_refl _) n 0 1 (by omega) h1 (by decide) (by decide) (by decide +kernel) (by decide)
    refine ⟨k, ?_⟩
    rw [enZ, if_neg c, if_pos (by omega)]
    exact hk
end Go.Proofs.Ytddkoimaghcbeaa.PVmSteps
