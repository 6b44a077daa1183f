/- A part of the proofs about layers 16 to 18 (vm, order, lin) and their references: contracts and plain lemmas that the laws stand on. No condition beyond what each theorem says. -/
import Derived.Test.YtddkoimaghcbeaaPVmStepsx1
import Derived.Test.YtddkoimaghcbeaaPVmStepsx2
import Derived.Test.YtddkoimaghcbeaaPVmStepsx3
import Derived.Test.YtddkoimaghcbeaaPVmStepsx4
import Derived.Test.YtddkoimaghcbeaaPVmStepsx5
import Derived.Test.YtddkoimaghcbeaaPVmStepsx6
import Derived.Test.YtddkoimaghcbeaaTmpvmt
namespace Go.Proofs.Ytddkoimaghcbeaa.PVmSteps
open Go.RowKit Go.Proofs.YtddkoimaghcbeaaW.PrintWords Go.Proofs.YtddkoimaghcbeaaW.PrintLast Go.Proofs.YtddkoimaghcbeaaW.PrintMore
set_option linter.unusedVariables false
set_option linter.unusedSimpArgs false
/-- What any run comes to. -/
theorem vgo_facts (L : List S36) (kind arg : Int) (c0 : List Int) : ∀ (f : Nat) (u : Int) (r : VR) (rk : Int) (rs : List Int) (rr ru : Int), vgo L kind arg c0 f u r = some (rk, rs, rr, ru) →
    (rk = 1 ∨ (rk = 2 ∧ rs = c0 ∧ rr = 0) ∨ (rk = 3 ∧ rs = c0 ∧ rr = 0 ∧ ru = u + f)) ∧ (r.en = 0 → rk ≠ 3 → u < ru) ∧ u ≤ ru ∧ ru ≤ u + f := by
  intro f
  induction f with
  | zero =>
    intro u r rk rs rr ru h
    by_cases he : r.en = 0
    · rw [vgo_0 he] at h
      cases h
      exact ⟨.inr (.inr ⟨rfl, rfl, rfl, by simp⟩), fun _ h => absurd rfl h, by omega, by omega⟩
    · by_cases he2 : r.en = 2
      · rw [vgo_2 he2] at h
        cases h
        exact ⟨.inr (.inl ⟨rfl, rfl, rfl⟩), fun h => absurd h he, by omega, by omega⟩
      · rw [vgo_1 he he2] at h
        cases h
        exact ⟨.inl rfl, fun h => absurd h he, by omega, by omega⟩
  | succ f ih =>
    intro u r rk rs rr ru h
    by_cases he : r.en = 0
    · obtain ⟨⟨g0, g1, g2, g3, g4⟩, gd, gs⟩ := vgo_s he h
      cases hv : vdo (rd_T36 L r.at_).f0 (rd_T36 L r.at_).f1 kind arg r with
      | none => exact absurd hv gd
      | some o =>
        cases o with
        | none =>
          have h2 := gs ⟨c0, [], 0, 2, 0⟩ (.inr ⟨hv, rfl⟩)
          rw [vgo_2 rfl] at h2
          cases h2
          exact ⟨.inr (.inl ⟨rfl, rfl, rfl⟩), fun _ _ => by omega, by omega, by omega⟩
        | some r' =>
          obtain ⟨h3, h4, h5, h6⟩ := ih (u + 1) r' rk rs rr ru (gs r' (.inl hv))
          refine ⟨?_, fun _ _ => by omega, by omega, by omega⟩
          rcases h3 with h3 | h3 | ⟨h3, h7, h8, h9⟩
          · exact .inl h3
          · exact .inr (.inl h3)
          · exact .inr (.inr ⟨h3, h7, h8, by omega⟩)
    · by_cases he2 : r.en = 2
      · rw [vgo_2 he2] at h
        cases h
        exact ⟨.inr (.inl ⟨rfl, rfl, rfl⟩), fun h => absurd h he, by omega, by omega⟩
      · rw [vgo_1 he he2] at h
        cases h
        exact ⟨.inl rfl, fun h => absurd h he, by omega, by omega⟩
/-- With as much fuel as was used, or more, it is the same; with less it lacks. -/
theorem vgo_fuel (L : List S36) (kind arg : Int) (c0 : List Int) : ∀ (f : Nat) (u : Int) (r : VR) (rk : Int) (rs : List Int) (rr ru : Int), vgo L kind arg c0 f u r = some (rk, rs, rr, ru) → rk ≠ 3 →
    ∀ f' : Nat, (ru ≤ u + f' → vgo L kind arg c0 f' u r = some (rk, rs, rr, ru)) ∧ (u + f' < ru → vgo L kind arg c0 f' u r = some (3, c0, 0, u + f')) := by
  intro f
  induction f with
  | zero =>
    intro u r rk rs rr ru h hk f'
    by_cases he : r.en = 0
    · rw [vgo_0 he] at h
      cases h
      exact absurd rfl hk
    · by_cases he2 : r.en = 2
      · rw [vgo_2 he2] at h
        cases h
        exact ⟨fun _ => vgo_2 he2, fun h => by omega⟩
      · rw [vgo_1 he he2] at h
        cases h
        exact ⟨fun _ => vgo_1 he he2, fun h => by omega⟩
  | succ f ih =>
    intro u r rk rs rr ru h hk f'
    by_cases he : r.en = 0
    · have hf := vgo_facts L kind arg c0 (f + 1) u r rk rs rr ru h
      have hlt := hf.2.1 he hk
      cases f' with
      | zero => exact ⟨fun h => by omega, fun _ => by rw [vgo_0 he]; simp⟩
      | succ f' =>
        obtain ⟨⟨g0, g1, g2, g3, g4⟩, gd, gs⟩ := vgo_s he h
        have hstep : ∀ x, (match vdo (rd_T36 L r.at_).f0 (rd_T36 L r.at_).f1 kind arg r with
            | none => none
            | some none => some (2, c0, 0, u + 1)
            | some (some r') => vgo L kind arg c0 f' (u + 1) r') = x → vgo L kind arg c0 (f' + 1) u r = x := by
          intro x hx
          unfold vgo
          rw [if_pos he]
          dsimp only
          rw [if_pos ⟨g0, g1, g2, g3, g4⟩]
          exact hx
        cases hv : vdo (rd_T36 L r.at_).f0 (rd_T36 L r.at_).f1 kind arg r with
        | none => exact absurd hv gd
        | some o =>
          rw [hv] at hstep
          cases o with
          | none =>
            have h2 := gs ⟨c0, [], 0, 2, 0⟩ (.inr ⟨hv, rfl⟩)
            rw [vgo_2 rfl] at h2
            cases h2
            exact ⟨fun _ => hstep _ rfl, fun h => by omega⟩
          | some r' =>
            obtain ⟨k1, k2⟩ := ih (u + 1) r' rk rs rr ru (gs r' (.inl hv)) hk f'
            refine ⟨fun h => hstep _ (k1 (by omega)), fun h => hstep _ ?_⟩
            have := k2 (by omega)
            simp only at this ⊢
            rw [this]
            congr 4
            omega
    · by_cases he2 : r.en = 2
      · rw [vgo_2 he2] at h
        cases h
        exact ⟨fun _ => vgo_2 he2, fun h => by omega⟩
      · rw [vgo_1 he he2] at h
        cases h
        exact ⟨fun _ => vgo_1 he he2, fun h => by omega⟩
theorem vstep_facts {L : List S36} {c0 : List Int} {kind arg fuel rk : Int} {rs : List Int} {rr ru : Int} (h : vstep L c0 kind arg fuel = some (rk, rs, rr, ru)) :
    (rk = 1 ∨ (rk = 2 ∧ rs = c0 ∧ rr = 0) ∨ (rk = 3 ∧ rs = c0 ∧ rr = 0 ∧ ru = (fuel.toNat : Int))) ∧ (rk ≠ 3 → 0 < ru) ∧ 0 ≤ ru ∧ ru ≤ (fuel.toNat : Int) := by
  obtain ⟨h1, h2, h3, h4⟩ := vgo_facts L kind arg c0 _ _ _ _ _ _ _ h
  refine ⟨?_, h2 rfl, h3, by omega⟩
  rcases h1 with h1 | h1 | ⟨h1, h5, h6, h7⟩
  · exact .inl h1
  · exact .inr (.inl h1)
  · exact .inr (.inr ⟨h1, h5, h6, by omega⟩)
theorem vstep_same {L : List S36} {c0 : List Int} {kind arg fuel rk : Int} {rs : List Int} {rr ru : Int} (h : vstep L c0 kind arg fuel = some (rk, rs, rr, ru)) (hk : rk ≠ 3) (fuel' : Int) (hf : ru ≤ fuel') : vstep L c0 kind arg fuel' = some (rk, rs, rr, ru) :=
  (vgo_fuel L kind arg c0 _ _ _ _ _ _ _ h hk fuel'.toNat).1 (by omega)
theorem vstep_less {L : List S36} {c0 : List Int} {kind arg fuel rk : Int} {rs : List Int} {rr ru : Int} (h : vstep L c0 kind arg fuel = some (rk, rs, rr, ru)) (hk : rk ≠ 3) : vstep L c0 kind arg (ru - 1) = some (3, c0, 0, ru - 1) := by
  have hp := (vstep_facts h).2.1 hk
  have h2 := (vgo_fuel L kind arg c0 _ _ _ _ _ _ _ h hk (ru - 1).toNat).2 (by omega)
  unfold vstep
  rw [h2]
  congr 4
  omega

end Go.Proofs.Ytddkoimaghcbeaa.PVmSteps
