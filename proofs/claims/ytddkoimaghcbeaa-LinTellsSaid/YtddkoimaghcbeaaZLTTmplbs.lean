/- A part of what the law LinTells stands on, only as far as it is needed (the words and walks were printed or written in this seat; this text was cut by a program of this session, wip/bin/trim.py). No condition beyond what each theorem says. -/
import Derived.Test.YtddkoimaghcbeaaZLTPVmStepsx0
import Derived.Test.YtddkoimaghcbeaaZLTPVmStepsx2
import Derived.Test.YtddkoimaghcbeaaZLTPVmStepsx3
import Derived.Test.YtddkoimaghcbeaaZLTPVmStepsx4
import Derived.Test.YtddkoimaghcbeaaZLTPVmStepsx5
import Derived.Test.YtddkoimaghcbeaaZLTPVmStepsx6
import Derived.Test.YtddkoimaghcbeaaZLTTmpljb
namespace Go.Proofs.Ytddkoimaghcbeaa.PVmSteps
open Go.RowKit Go.Proofs.YtddkoimaghcbeaaW.PrintWords Go.Proofs.YtddkoimaghcbeaaW.PrintLast Go.Proofs.YtddkoimaghcbeaaW.PrintMore
set_option linter.unusedVariables false
set_option linter.unusedSimpArgs false
theorem ints_self (l : List Int) (hl : l.length ≤ 4611686018427387904) : ∃ k, inquestref15_Ints.f k l l = some true := by
  have h : ∀ (d i : Nat), i + d = l.length → inquestref15_Ints.l0 (d + 1) l l (i : Int) = some true := by
    intro d
    induction d with
    | zero =>
      intro i hi
      rw [inquestref15_Ints.l0, if_neg (by omega)]
    | succ d ih =>
      intro i hi
      rw [inquestref15_Ints.l0, if_pos (by omega), if_pos (by omega), if_pos (by omega), if_pos rfl, w64 (by omega) (by omega)]
      exact ih (i + 1) (by omega)
  refine ⟨l.length + 1, ?_⟩
  unfold inquestref15_Ints.f
  rw [if_pos rfl]
  exact h l.length 0 (by omega)
set_option maxRecDepth 100000 in
theorem r18_Same_self (kd td : Int) (od : List Int) (A B : Option Addr) (c d : Nat) (w : World) (hA : Kd.C (Kd.int .i64) w A od.length od) (hc : od.length ≤ c) (hB : Kd.C (Kd.int .i64) w B od.length od) (hd : od.length ≤ d) (hl : od.length ≤ 1073741825) :
    Calls Try.prog 45 #[.agg #[.int .i64 kd, .slice A od.length c, .int .i64 td], .agg #[.int .i64 kd, .slice B od.length d, .int .i64 td]] w fun e w' => e = .returned (.bool true) ∧ Below w.heap.size w w' := by
  obtain ⟨k, hk⟩ := ints_self od (by omega)
  replace hk := Aside0.mk hk
  replace hA := Aside0.mk hA
  replace hB := Aside0.mk hB
  replace hl := Aside0.mk hl
  go_enter Try.func45, Try.ntmps45
  go_wp2_with (first | (go_at_call 36; (with_reducible refine (inquestref15_Ints.calls k A c od B d od true _ (Kd.C_alloc (Kd.C_alloc hA.out _) _) hc (Kd.C_alloc (Kd.C_alloc hB.out _) _) hd hk.out).mono ?_); rintro e W1 ⟨rfl, ⟨n1, rfl⟩⟩))
  go_ret
  exact ⟨rfl, by repeat (first | exact Below.refl _ _ | apply pw_below_drewN | apply below_alloc)⟩
end Go.Proofs.Ytddkoimaghcbeaa.PVmSteps
