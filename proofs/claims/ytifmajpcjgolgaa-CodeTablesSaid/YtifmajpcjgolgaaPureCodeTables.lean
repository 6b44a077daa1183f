/- The law CodeTables answers true at every input: how many numbers any instruction takes off and puts on. No condition. The printed texts beside it were written by wip/bin/pp.sh of this session. -/
import Derived.Test.YtifmajpcjgolgaaPCodeTablesx4
namespace Go.Proofs.Ytifmajpcjgolgaa.Pure
open Go.RowKit Go.Proofs.Ytifmajpcjgolgaa.PCodeTables Go.Proofs.YtifmajpcjgolgaaW.PrintWords Go.Proofs.YtifmajpcjgolgaaW.PrintLast Go.Proofs.YtifmajpcjgolgaaW.PrintMore
set_option linter.unusedVariables false
set_option linter.unusedSimpArgs false
def offT : List Int := [0, 1, 1, 2, 0, 1, 0, 0, 2, 2, 2, 2, 2, 2, 2, 1, 0, 1, 1, 0]
def onT : List Int := [1, 0, 2, 2, 1, 0, 1, 1, 1, 1, 1, 1, 1, 1, 1, 1, 0, 0, 0, 0]
/-- How many numbers an instruction takes off, puts on. -/
def takesZ (a : Int) : Int := if 0 ≤ a ∧ a ≤ 19 then rd offT a else -1
def putsZ (a : Int) : Int := if 0 ≤ a ∧ a ≤ 19 then rd onT a else -1
theorem code_Takes_ev (a : Int) : Ev (fun k => code_Takes.f k a) (takesZ a) := by
  by_cases h : 0 ≤ a ∧ a ≤ 19
  · obtain ⟨n, rfl⟩ := Int.eq_ofNat_of_zero_le h.1
    have key : ∀ n : Nat, n < 20 → code_Takes.f 3 (n : Int) = some (takesZ n) := by decide +kernel
    exact Ev.of (code_Takes.mono _) (key n (by omega))
  · refine Ev.of (code_Takes.mono _) (k := 2) ?_
    unfold takesZ
    rw [if_neg h]
    unfold code_Takes.f
    rw [if_neg (by omega), if_neg (by omega), if_neg (by omega), if_neg (by omega), if_neg (by omega), show (a == 19) = false from beq_eq_false_iff_ne.mpr (by omega)]
    simp only [code_Takes.j0, show ¬ a = 1 from by omega, show ¬ a = 2 from by omega, show ¬ a = 5 from by omega, show ¬ a = 15 from by omega, show ¬ a = 17 from by omega, if_false, show (a == 18) = false from beq_eq_false_iff_ne.mpr (by omega)]
    simp [code_Takes.j1, show ¬ a = 3 from by omega, show ¬ a = 8 from by omega, show ¬ a = 9 from by omega, show ¬ a = 10 from by omega, show ¬ a = 11 from by omega, show ¬ a = 12 from by omega, show ¬ a = 13 from by omega, show ¬ a = 14 from by omega]
theorem code_Puts_ev (a : Int) : Ev (fun k => code_Puts.f k a) (putsZ a) := by
  by_cases h : 0 ≤ a ∧ a ≤ 19
  · obtain ⟨n, rfl⟩ := Int.eq_ofNat_of_zero_le h.1
    have key : ∀ n : Nat, n < 20 → code_Puts.f 3 (n : Int) = some (putsZ n) := by decide +kernel
    exact Ev.of (code_Puts.mono _) (key n (by omega))
  · refine Ev.of (code_Puts.mono _) (k := 2) ?_
    unfold putsZ
    rw [if_neg h]
    unfold code_Puts.f
    rw [if_neg (by omega), if_neg (by omega), if_neg (by omega), if_neg (by omega), if_neg (by omega), show (a == 19) = false from beq_eq_false_iff_ne.mpr (by omega)]
    simp only [code_Puts.j0, show ¬ a = 2 from by omega, if_false, show (a == 3) = false from beq_eq_false_iff_ne.mpr (by omega)]
    by_cases c : a < 0
    · simp [code_Puts.j1, c]
    · simp [code_Puts.j1, c, show a > 19 from by omega]
theorem lives15 : Ev (fun k => inquestlaw15_lives.f k) true :=
  Ev.of inquestlaw15_lives.mono (k := 12) (by decide +kernel)
theorem r15_Takes_is (a : Int) : inquestref15_Takes.f a = some (takesZ a) := by
  by_cases h : 0 ≤ a ∧ a ≤ 19
  · obtain ⟨n, rfl⟩ := Int.eq_ofNat_of_zero_le h.1
    have key : ∀ n : Nat, n < 20 → inquestref15_Takes.f (n : Int) = some (takesZ n) := by decide +kernel
    exact key n (by omega)
  · unfold inquestref15_Takes.f inquestref15_Is.f takesZ
    rw [if_neg h]
    by_cases c : a ≥ 0
    · rw [if_pos c, decide_eq_false (by omega)]; rfl
    · rw [if_neg c]; rfl
theorem r15_Puts_is (a : Int) : inquestref15_Puts.f a = some (putsZ a) := by
  by_cases h : 0 ≤ a ∧ a ≤ 19
  · obtain ⟨n, rfl⟩ := Int.eq_ofNat_of_zero_le h.1
    have key : ∀ n : Nat, n < 20 → inquestref15_Puts.f (n : Int) = some (putsZ n) := by decide +kernel
    exact key n (by omega)
  · unfold inquestref15_Puts.f inquestref15_Is.f putsZ
    rw [if_neg h]
    by_cases c : a ≥ 0
    · rw [if_pos c, decide_eq_false (by omega)]; rfl
    · rw [if_neg c]; rfl
theorem CodeTables : inquestlaw15_CodeTables.Pure := by
  intro a _
  refine Ev.rounds ?_
  unfold inquestlaw15_CodeTables.f
  simp only [r15_Takes_is, r15_Puts_is, Option.bind_some]
  refine Ev.bind (code_Takes_ev a) ?_
  refine Ev.congr (fun k => if_pos rfl) ?_
  refine Ev.bind (code_Puts_ev a) ?_
  refine Ev.congr (fun k => if_pos rfl) ?_
  exact Ev.bind lives15 (Ev.now _)

end Go.Proofs.Ytifmajpcjgolgaa.Pure
