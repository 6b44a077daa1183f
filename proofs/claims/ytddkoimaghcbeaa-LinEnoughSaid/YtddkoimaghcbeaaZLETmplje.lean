/- A part of what the law LinEnough stands on, only as far as it is needed (the words and walks were printed or written in this seat; this text was cut by a program of this session, wip/bin/trim.py). No condition beyond what each theorem says. -/
import Derived.Test.YtddkoimaghcbeaaZLEPVmStepsx0
import Derived.Test.YtddkoimaghcbeaaZLEPVmStepsx2
import Derived.Test.YtddkoimaghcbeaaZLEPVmStepsx3
import Derived.Test.YtddkoimaghcbeaaZLEPVmStepsx4
import Derived.Test.YtddkoimaghcbeaaZLEPVmStepsx5
import Derived.Test.YtddkoimaghcbeaaZLETmplja
import Derived.Test.YtddkoimaghcbeaaZLETmprfs
import Derived.Test.YtddkoimaghcbeaaZLETmpljp
namespace Go.Proofs.Ytddkoimaghcbeaa.PVmSteps
open Go.RowKit Go.Proofs.YtddkoimaghcbeaaW.PrintWords Go.Proofs.YtddkoimaghcbeaaW.PrintLast Go.Proofs.YtddkoimaghcbeaaW.PrintMore
set_option linter.unusedVariables false
set_option linter.unusedSimpArgs false
/-- How many tries are enough. -/
def enZ (n : Int) : Int := if n ≤ 0 then 0 else if 20 < n then 4611686018427387904 else (lin_Enough.f 100 n).getD 0
theorem enZ_small : ∀ m : Nat, m < 26 → lin_Enough.f 100 (m : Int) = some (enZ m) := by decide +kernel
theorem enZ_ref : ∀ m : Nat, m < 26 → inquestref18_Enough.f 1000 (m : Int) = some (enZ m) := by decide +kernel
theorem enZ_mono : ∀ m : Nat, m < 22 → enZ (m : Int) ≤ enZ ((m : Int) + 1) := by decide +kernel
def enR (d : Nat) : Int := (List.range (16 - d)).foldl (fun (a : Int) (t : Nat) => a * (26 - (t : Int))) 1
theorem enR_step : ∀ d : Nat, d < 16 → enR d = enR (d + 1) * (11 + (d : Int)) ∧ 1 ≤ enR (d + 1) := by decide +kernel
theorem en_big : ∀ (d : Nat), d ≤ 16 → ∀ x0 x3 x4 : Int, 10 + (d : Int) ≤ x0 → x0 ≤ 9223372036854775807 → 0 ≤ x3 → x3 ≤ 4611686018427387904 → enR d ≤ x4 → x4 ≤ 4611686018427387904 → ∃ k, lin_Enough.l0 k x0 x3 x4 = some 4611686018427387904
  | 0, _, x0, x3, x4, h0, _, _, _, h4, h5 => by
    have : (4611686018427387904 : Int) < enR 0 := by decide +kernel
    omega
  | d + 1, hd, x0, x3, x4, h0, h1, h2, h3, h4, h5 => by
    obtain ⟨e1, e2⟩ := enR_step d (by omega)
    have hx0 : 0 < x0 := by omega
    have hq0 : 0 ≤ (4611686018427387904 : Int) / x0 := Int.ediv_nonneg (by decide) (by omega)
    have hq1 : (4611686018427387904 : Int) / x0 ≤ 4611686018427387904 := Int.ediv_le_self _ (by decide)
    have hw : wrap64 (Int.tdiv (4611686018427387904 : Int) x0) = (4611686018427387904 : Int) / x0 := by rw [Int.tdiv_eq_ediv_of_nonneg (by decide)]; exact w64 (by omega) (by omega)
    by_cases c : x4 > (4611686018427387904 : Int) / x0
    · refine ⟨1, ?_⟩
      rw [lin_Enough.l0, if_pos (by omega), if_neg (by omega), hw, if_pos c]
    have hm : x4 * x0 ≤ 4611686018427387904 := (Int.le_ediv_iff_mul_le hx0).mp (by omega)
    have hl : enR d ≤ x4 * x0 := by
      rw [e1]
      have h40 : 0 ≤ x4 := by omega
      have hd0 : 0 ≤ 11 + (d : Int) := by omega
      exact Int.mul_le_mul h4 (by push_cast at h0; omega) hd0 h40
    have hp : 0 ≤ x4 * x0 := Int.mul_nonneg (by omega) (by omega)
    have hwm : wrap64 (x4 * x0) = x4 * x0 := w64 (by omega) (by omega)
    have hws : wrap64 (4611686018427387904 - x4 * x0) = 4611686018427387904 - x4 * x0 := w64 (by omega) (by omega)
    by_cases c2 : x3 > 4611686018427387904 - x4 * x0
    · refine ⟨1, ?_⟩
      rw [lin_Enough.l0, if_pos (by omega), if_neg (by omega), hw, if_neg c, hwm, hws, if_pos c2]
    have hw1 : wrap64 (x0 - 1) = x0 - 1 := w64 (by omega) (by omega)
    have hw2 : wrap64 (x3 + x4 * x0) = x3 + x4 * x0 := w64 (by omega) (by omega)
    obtain ⟨k, hk⟩ := en_big d (by omega) (x0 - 1) (x3 + x4 * x0) (x4 * x0) (by push_cast at h0; omega) (by omega) (by omega) (by omega) hl hm
    refine ⟨k + 1, ?_⟩
    rw [lin_Enough.l0, if_pos (by omega), if_neg (by omega), hw, if_neg c, hwm, hws, if_neg c2, hw1, hw2]
    exact hk
theorem lin_en (n : Int) (h1 : n ≤ 9223372036854775807) : ∃ k, lin_Enough.f k n = some (enZ n) := by
  by_cases c : n ≤ 0
  · refine ⟨1, ?_⟩
    rw [lin_Enough.f, lin_Enough.l0, if_neg (by omega), enZ, if_pos c]
  by_cases d : n < 26
  · obtain ⟨m, rfl⟩ := Int.eq_ofNat_of_zero_le (show 0 ≤ n by omega)
    exact ⟨100, enZ_small m (by omega)⟩
  · obtain ⟨k, hk⟩ := en_big 16 (Nat.le_refl _) n 0 1 (by omega) h1 (by decide) (by decide) (by decide +kernel) (by decide)
    refine ⟨k, ?_⟩
    rw [enZ, if_neg c, if_pos (by omega)]
    exact hk
theorem ref_en (n : Int) : ∃ k, inquestref18_Enough.f k n = some (enZ n) := by
  by_cases c : n ≤ 0
  · refine ⟨1, ?_⟩
    rw [inquestref18_Enough.f, if_neg (by omega), inquestref18_Enough.l0, if_neg (by omega), enZ, if_pos c]
  by_cases d : n < 26
  · obtain ⟨m, rfl⟩ := Int.eq_ofNat_of_zero_le (show 0 ≤ n by omega)
    exact ⟨1000, enZ_ref m (by omega)⟩
  · refine ⟨1, ?_⟩
    rw [inquestref18_Enough.f, if_pos (by omega), enZ, if_neg c, if_pos (by omega)]
theorem enZ_le (m : Int) (h0 : 0 ≤ m) : enZ m ≤ enZ (m + 1) := by
  by_cases c : m < 22
  · obtain ⟨k, rfl⟩ := Int.eq_ofNat_of_zero_le h0
    exact enZ_mono k (by omega)
  · rw [enZ, if_neg (by omega), if_pos (by omega), enZ, if_neg (by omega), if_pos (by omega)]
    exact Int.le_refl _
set_option maxRecDepth 100000 in
set_option maxHeartbeats 4000000 in
theorem inquestlaw18_LinEnough.any (n : Int) (w : World) (hn : (Lit.int .i64 n).wf = true) : Calls Try.prog 18 #[.int .i64 n] w fun e w' => e = .returned (.bool true) ∧ Below w.heap.size w w' := by
  obtain ⟨m, hm, hm0, hm1⟩ := least01 n 0 100 (by decide)
  have hr := inR_wf hn
  obtain ⟨k1, hk1⟩ := lin_en n hr.2
  obtain ⟨k2, hk2⟩ := ref_en n
  obtain ⟨k3, hk3⟩ := lin_en m (by omega)
  have hwm : wrap64 (m + 1) = m + 1 := w64 (by omega) (by omega)
  obtain ⟨k4, hk4⟩ := lin_en (m + 1) (by omega)
  have hle : decide (enZ m ≤ enZ (m + 1)) = true := decide_eq_true (enZ_le m hm0)
  obtain ⟨e0, he0⟩ : ∃ x, x = enZ n := ⟨_, rfl⟩
  obtain ⟨e1, he1⟩ : ∃ x, x = enZ m := ⟨_, rfl⟩
  obtain ⟨e2, he2⟩ : ∃ x, x = enZ (m + 1) := ⟨_, rfl⟩
  rw [← he0] at hk1 hk2
  rw [← he1] at hk3 hle
  rw [← he2] at hk4 hle
  replace hm := Aside0.mk hm
  replace hk1 := Aside0.mk hk1
  replace hk2 := Aside0.mk hk2
  replace hk3 := Aside0.mk hk3
  replace hk4 := Aside0.mk hk4
  clear he0 he1 he2 hr hn hwm
  go_enter Try.func18, Try.ntmps18
  go_wp2_with (first | (go_at_call 30; (with_reducible refine (inquestref01_Least.calls n 0 100 m _ hm.out).mono ?_); rintro e W1 ⟨rfl, ⟨n1, rfl⟩⟩) | (go_at_call 49; (with_reducible refine (lin_Enough.calls k1 n e0 _ hk1.out).mono ?_); rintro e W2 ⟨rfl, ⟨n2, rfl⟩⟩) | (go_at_call 50; (with_reducible refine (inquestref18_Enough.calls k2 n e0 _ hk2.out).mono ?_); rintro e W3 ⟨rfl, ⟨n3, rfl⟩⟩) | (go_at_call 49; (with_reducible refine (lin_Enough.calls k3 m e1 _ hk3.out).mono ?_); rintro e W4 ⟨rfl, ⟨n4, rfl⟩⟩) | (go_at_call 49; (with_reducible refine (lin_Enough.calls k4 (m + 1) e2 _ hk4.out).mono ?_); rintro e W5 ⟨rfl, ⟨n5, rfl⟩⟩) | (go_at_call 41; (with_reducible refine (lin_lives _).mono ?_); rintro e WZ ⟨rfl, hBZ⟩; replace hBZ := Aside0.mk hBZ))
  go_ret
  exact ⟨rfl, below_step (by repeat (first | exact Below.refl _ _ | apply pw_below_drewN)) hBZ.out⟩
end Go.Proofs.Ytddkoimaghcbeaa.PVmSteps
