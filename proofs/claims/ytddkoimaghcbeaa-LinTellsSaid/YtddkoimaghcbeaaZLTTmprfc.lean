/- A part of what the law LinTells stands on, only as far as it is needed (the words and walks were printed or written in this seat; this text was cut by a program of this session, wip/bin/trim.py). No condition beyond what each theorem says. -/
import Derived.Test.YtddkoimaghcbeaaZLTPVmStepsx0
import Derived.Test.YtddkoimaghcbeaaZLTPVmStepsx2
import Derived.Test.YtddkoimaghcbeaaZLTPVmStepsx3
import Derived.Test.YtddkoimaghcbeaaZLTPVmStepsx4
import Derived.Test.YtddkoimaghcbeaaZLTPVmStepsx5
import Derived.Test.YtddkoimaghcbeaaZLTPVmStepsx6
import Derived.Test.YtddkoimaghcbeaaZLTTmprfb
namespace Go.Proofs.Ytddkoimaghcbeaa.PVmSteps
open Go.RowKit Go.Proofs.YtddkoimaghcbeaaW.PrintWords Go.Proofs.YtddkoimaghcbeaaW.PrintLast Go.Proofs.YtddkoimaghcbeaaW.PrintMore
set_option linter.unusedVariables false
set_option linter.unusedSimpArgs false
/-- One instruction of the reference's, as vm.does has it: where the step ends the rest doesn't matter. -/
def vsubR (op n kind arg : Int) (r : VR) (r2 : VR) : Prop := vdo op n kind arg r = some (some r2) ∨ (vdo op n kind arg r = some none ∧ r2.en = 2) ∨ (∃ r', vdo op n kind arg r = some (some r') ∧ r'.en = 1 ∧ r2.en = 1 ∧ r2.cs = r'.cs ∧ r2.rt = r'.rt)
theorem rf_mono {w0 w : World} {K : List (Nat × Obj)} {g : Nat} {op n kind arg u : Int} {r r2 : VR} {f : Nat} {args : Array Value}
    (h : Calls Try.prog f args w fun e w' => e = .returned (.tuple #[]) ∧ RfB w0 w' K g r2 u) (hs : vsubR op n kind arg r r2) :
    Calls Try.prog f args w fun e w' => e = .returned (.tuple #[]) ∧ ∃ r2, vsubR op n kind arg r r2 ∧ RfB w0 w' K g r2 u := h.mono fun e w' ⟨he, hb⟩ => ⟨he, r2, hs, hb⟩
theorem rf_Does {w0 w : World} {K : List (Nat × Obj)} {g : Nat} {op n kind arg us : Int} {r : VR} (h : RfB w0 w K g r us) (hsm : r.st.length ≤ 900) (hop : 0 ≤ op ∧ op ≤ 19) (hok : VRok r) (hd : vdo op n kind arg r ≠ none) :
    Calls Try.prog 58 #[.pointer (some ⟨g, 0, none⟩), .agg #[.int .i64 op, .int .i64 n], .int .i64 kind, .int .i64 arg] w fun e w' => e = .returned (.tuple #[]) ∧ ∃ r2, vsubR op n kind arg r r2 ∧ RfB w0 w' K g r2 (wrap64 (us + 1)) := by
  obtain ⟨cs, st, at_, en, rt⟩ := r
  obtain ⟨ok1, ok2, ok3⟩ := hok
  simp only at ok1 ok2 ok3 hsm
  by_cases c0 : op = 0
  · subst c0
    cases st with
    | nil => exact rf_mono (rdo_pushE (st := []) n kind arg h (by simp)) (.inl (by unfold vdo; rw [if_pos rfl]))
    | cons y st => exact rf_mono (rdo_pushN n kind arg y h (by simp only [List.length_cons] at hsm; omega)) (.inl (by unfold vdo; rw [if_pos rfl]))
  by_cases c1 : op = 1
  · subst c1
    cases st with
    | nil => exact absurd (by unfold vdo; rw [if_neg (by decide)]; rw [if_pos rfl]) hd
    | cons y st =>
      exact rf_mono (rdo_pop n kind arg y h (by simp only [List.length_cons] at hsm; omega)) (.inl (by unfold vdo; rw [if_neg (by decide)]; rw [if_pos rfl]))
  by_cases c2 : op = 2
  · subst c2
    cases st with
    | nil => exact absurd (by unfold vdo; rw [if_neg (by decide)]; rw [if_neg (by decide)]; rw [if_pos rfl]) hd
    | cons y st =>
      exact rf_mono (rdo_dup n kind arg y h (by simp only [List.length_cons] at hsm; omega)) (.inl (by unfold vdo; rw [if_neg (by decide)]; rw [if_neg (by decide)]; rw [if_pos rfl]))
  by_cases c3 : op = 3
  · subst c3
    cases st with
    | nil => exact absurd (by unfold vdo; rw [if_neg (by decide)]; rw [if_neg (by decide)]; rw [if_neg (by decide)]; rw [if_pos rfl]) hd
    | cons b st =>
      cases st with
      | nil => exact absurd (by unfold vdo; rw [if_neg (by decide)]; rw [if_neg (by decide)]; rw [if_neg (by decide)]; rw [if_pos rfl]) hd
      | cons a st => exact rf_mono (rdo_swap n kind arg a b h (by simp only [List.length_cons] at hsm; omega)) (.inl (by unfold vdo; rw [if_neg (by decide)]; rw [if_neg (by decide)]; rw [if_neg (by decide)]; rw [if_pos rfl]))
  by_cases c4 : op = 4
  · subst c4
    by_cases hn : 0 ≤ n ∧ n < 4
    · have hn4 : n = 0 ∨ n = 1 ∨ n = 2 ∨ n = 3 := by omega
      cases st with
      | nil =>
        rcases hn4 with rfl | rfl | rfl | rfl
        · exact rf_mono (rdo_load0E (st := []) _ kind arg rfl h (by simp)) (.inl (by unfold vdo; rw [if_neg (by decide)]; rw [if_neg (by decide)]; rw [if_neg (by decide)]; rw [if_neg (by decide)]; rw [if_pos rfl]; rw [if_pos hn]))
        · exact rf_mono (rdo_load1E (st := []) _ kind arg rfl h (by simp)) (.inl (by unfold vdo; rw [if_neg (by decide)]; rw [if_neg (by decide)]; rw [if_neg (by decide)]; rw [if_neg (by decide)]; rw [if_pos rfl]; rw [if_pos hn]))
        · exact rf_mono (rdo_load2E (st := []) _ kind arg rfl h (by simp)) (.inl (by unfold vdo; rw [if_neg (by decide)]; rw [if_neg (by decide)]; rw [if_neg (by decide)]; rw [if_neg (by decide)]; rw [if_pos rfl]; rw [if_pos hn]))
        · exact rf_mono (rdo_load3E (st := []) _ kind arg rfl h (by simp)) (.inl (by unfold vdo; rw [if_neg (by decide)]; rw [if_neg (by decide)]; rw [if_neg (by decide)]; rw [if_neg (by decide)]; rw [if_pos rfl]; rw [if_pos hn]))
      | cons y st =>
        rcases hn4 with rfl | rfl | rfl | rfl
        · exact rf_mono (rdo_load0N _ kind arg y rfl h (by simp only [List.length_cons] at hsm; omega)) (.inl (by unfold vdo; rw [if_neg (by decide)]; rw [if_neg (by decide)]; rw [if_neg (by decide)]; rw [if_neg (by decide)]; rw [if_pos rfl]; rw [if_pos hn]))
        · exact rf_mono (rdo_load1N _ kind arg y rfl h (by simp only [List.length_cons] at hsm; omega)) (.inl (by unfold vdo; rw [if_neg (by decide)]; rw [if_neg (by decide)]; rw [if_neg (by decide)]; rw [if_neg (by decide)]; rw [if_pos rfl]; rw [if_pos hn]))
        · exact rf_mono (rdo_load2N _ kind arg y rfl h (by simp only [List.length_cons] at hsm; omega)) (.inl (by unfold vdo; rw [if_neg (by decide)]; rw [if_neg (by decide)]; rw [if_neg (by decide)]; rw [if_neg (by decide)]; rw [if_pos rfl]; rw [if_pos hn]))
        · exact rf_mono (rdo_load3N _ kind arg y rfl h (by simp only [List.length_cons] at hsm; omega)) (.inl (by unfold vdo; rw [if_neg (by decide)]; rw [if_neg (by decide)]; rw [if_neg (by decide)]; rw [if_neg (by decide)]; rw [if_pos rfl]; rw [if_pos hn]))
    · exact absurd (by unfold vdo; rw [if_neg (by decide)]; rw [if_neg (by decide)]; rw [if_neg (by decide)]; rw [if_neg (by decide)]; rw [if_pos rfl]; rw [if_neg hn]) hd
  by_cases c5 : op = 5
  · subst c5
    cases st with
    | nil => exact absurd (by unfold vdo; rw [if_neg (by decide)]; rw [if_neg (by decide)]; rw [if_neg (by decide)]; rw [if_neg (by decide)]; rw [if_neg (by decide)]; rw [if_pos rfl]) hd
    | cons y st =>
      by_cases hn : 0 ≤ n ∧ n < 4
      · have hn4 : n = 0 ∨ n = 1 ∨ n = 2 ∨ n = 3 := by omega
        rcases hn4 with rfl | rfl | rfl | rfl
        · exact rf_mono (rdo_store0 _ kind arg y rfl h (by simp only [List.length_cons] at hsm; omega)) (.inl (by unfold vdo; rw [if_neg (by decide)]; rw [if_neg (by decide)]; rw [if_neg (by decide)]; rw [if_neg (by decide)]; rw [if_neg (by decide)]; rw [if_pos rfl]; dsimp only; rw [if_pos hn]; rfl))
        · exact rf_mono (rdo_store1 _ kind arg y rfl h (by simp only [List.length_cons] at hsm; omega)) (.inl (by unfold vdo; rw [if_neg (by decide)]; rw [if_neg (by decide)]; rw [if_neg (by decide)]; rw [if_neg (by decide)]; rw [if_neg (by decide)]; rw [if_pos rfl]; dsimp only; rw [if_pos hn]; rfl))
        · exact rf_mono (rdo_store2 _ kind arg y rfl h (by simp only [List.length_cons] at hsm; omega)) (.inl (by unfold vdo; rw [if_neg (by decide)]; rw [if_neg (by decide)]; rw [if_neg (by decide)]; rw [if_neg (by decide)]; rw [if_neg (by decide)]; rw [if_pos rfl]; dsimp only; rw [if_pos hn]; rfl))
        · exact rf_mono (rdo_store3 _ kind arg y rfl h (by simp only [List.length_cons] at hsm; omega)) (.inl (by unfold vdo; rw [if_neg (by decide)]; rw [if_neg (by decide)]; rw [if_neg (by decide)]; rw [if_neg (by decide)]; rw [if_neg (by decide)]; rw [if_pos rfl]; dsimp only; rw [if_pos hn]; rfl))
      · exact absurd (by unfold vdo; rw [if_neg (by decide)]; rw [if_neg (by decide)]; rw [if_neg (by decide)]; rw [if_neg (by decide)]; rw [if_neg (by decide)]; rw [if_pos rfl]; dsimp only; rw [if_neg hn]) hd
  by_cases c6 : op = 6
  · subst c6
    cases st with
    | nil => exact rf_mono (rdo_argE (st := []) n kind arg h (by simp)) (.inl (by unfold vdo; rw [if_neg (by decide)]; rw [if_neg (by decide)]; rw [if_neg (by decide)]; rw [if_neg (by decide)]; rw [if_neg (by decide)]; rw [if_neg (by decide)]; rw [if_pos rfl]))
    | cons y st => exact rf_mono (rdo_argN n kind arg y h (by simp only [List.length_cons] at hsm; omega)) (.inl (by unfold vdo; rw [if_neg (by decide)]; rw [if_neg (by decide)]; rw [if_neg (by decide)]; rw [if_neg (by decide)]; rw [if_neg (by decide)]; rw [if_neg (by decide)]; rw [if_pos rfl]))
  by_cases c7 : op = 7
  · subst c7
    cases st with
    | nil => exact rf_mono (rdo_kindE (st := []) n kind arg h (by simp)) (.inl (by unfold vdo; rw [if_neg (by decide)]; rw [if_neg (by decide)]; rw [if_neg (by decide)]; rw [if_neg (by decide)]; rw [if_neg (by decide)]; rw [if_neg (by decide)]; rw [if_neg (by decide)]; rw [if_pos rfl]))
    | cons y st => exact rf_mono (rdo_kindN n kind arg y h (by simp only [List.length_cons] at hsm; omega)) (.inl (by unfold vdo; rw [if_neg (by decide)]; rw [if_neg (by decide)]; rw [if_neg (by decide)]; rw [if_neg (by decide)]; rw [if_neg (by decide)]; rw [if_neg (by decide)]; rw [if_neg (by decide)]; rw [if_pos rfl]))
  by_cases c15 : op = 15
  · subst c15
    cases st with
    | nil => exact absurd (by unfold vdo; rw [if_neg (by decide)]; rw [if_neg (by decide)]; rw [if_neg (by decide)]; rw [if_neg (by decide)]; rw [if_neg (by decide)]; rw [if_neg (by decide)]; rw [if_neg (by decide)]; rw [if_neg (by decide)]; rw [if_pos rfl]) hd
    | cons y st =>
      by_cases hx : y = 0
      · exact rf_mono (rdo_not1 n kind arg y hx h (by simp only [List.length_cons] at hsm; omega)) (.inl (by unfold vdo; rw [if_neg (by decide)]; rw [if_neg (by decide)]; rw [if_neg (by decide)]; rw [if_neg (by decide)]; rw [if_neg (by decide)]; rw [if_neg (by decide)]; rw [if_neg (by decide)]; rw [if_neg (by decide)]; rw [if_pos rfl]; dsimp only; rw [if_pos hx]))
      · exact rf_mono (rdo_not0 n kind arg y hx h (by simp only [List.length_cons] at hsm; omega)) (.inl (by unfold vdo; rw [if_neg (by decide)]; rw [if_neg (by decide)]; rw [if_neg (by decide)]; rw [if_neg (by decide)]; rw [if_neg (by decide)]; rw [if_neg (by decide)]; rw [if_neg (by decide)]; rw [if_neg (by decide)]; rw [if_pos rfl]; dsimp only; rw [if_neg hx]))
  by_cases c16 : op = 16
  · subst c16
    cases st with
    | nil => exact rf_mono (rdo_jumpE (st := []) n kind arg h (by simp)) (.inl (by unfold vdo; rw [if_neg (by decide)]; rw [if_neg (by decide)]; rw [if_neg (by decide)]; rw [if_neg (by decide)]; rw [if_neg (by decide)]; rw [if_neg (by decide)]; rw [if_neg (by decide)]; rw [if_neg (by decide)]; rw [if_neg (by decide)]; rw [if_pos rfl]))
    | cons y st => exact rf_mono (rdo_jumpN n kind arg y h (by simp only [List.length_cons] at hsm; omega)) (.inl (by unfold vdo; rw [if_neg (by decide)]; rw [if_neg (by decide)]; rw [if_neg (by decide)]; rw [if_neg (by decide)]; rw [if_neg (by decide)]; rw [if_neg (by decide)]; rw [if_neg (by decide)]; rw [if_neg (by decide)]; rw [if_neg (by decide)]; rw [if_pos rfl]))
  by_cases c17 : op = 17
  · subst c17
    cases st with
    | nil => exact absurd (by unfold vdo; rw [if_neg (by decide)]; rw [if_neg (by decide)]; rw [if_neg (by decide)]; rw [if_neg (by decide)]; rw [if_neg (by decide)]; rw [if_neg (by decide)]; rw [if_neg (by decide)]; rw [if_neg (by decide)]; rw [if_neg (by decide)]; rw [if_neg (by decide)]; rw [if_pos rfl]) hd
    | cons y st =>
      by_cases hx : y = 0
      · exact rf_mono (rdo_unless0 n kind arg y hx h (by simp only [List.length_cons] at hsm; omega)) (.inl (by unfold vdo; rw [if_neg (by decide)]; rw [if_neg (by decide)]; rw [if_neg (by decide)]; rw [if_neg (by decide)]; rw [if_neg (by decide)]; rw [if_neg (by decide)]; rw [if_neg (by decide)]; rw [if_neg (by decide)]; rw [if_neg (by decide)]; rw [if_neg (by decide)]; rw [if_pos rfl]; dsimp only; rw [if_pos hx]))
      · exact rf_mono (rdo_unless1 n kind arg y hx h (by simp only [List.length_cons] at hsm; omega)) (.inl (by unfold vdo; rw [if_neg (by decide)]; rw [if_neg (by decide)]; rw [if_neg (by decide)]; rw [if_neg (by decide)]; rw [if_neg (by decide)]; rw [if_neg (by decide)]; rw [if_neg (by decide)]; rw [if_neg (by decide)]; rw [if_neg (by decide)]; rw [if_neg (by decide)]; rw [if_pos rfl]; dsimp only; rw [if_neg hx]))
  by_cases c18 : op = 18
  · subst c18
    cases st with
    | nil => exact absurd (by unfold vdo; rw [if_neg (by decide)]; rw [if_neg (by decide)]; rw [if_neg (by decide)]; rw [if_neg (by decide)]; rw [if_neg (by decide)]; rw [if_neg (by decide)]; rw [if_neg (by decide)]; rw [if_neg (by decide)]; rw [if_neg (by decide)]; rw [if_neg (by decide)]; rw [if_neg (by decide)]; rw [if_pos rfl]) hd
    | cons y st =>
      exact rf_mono (rdo_answer n kind arg y h (by simp only [List.length_cons] at hsm; omega)) (.inr (.inr ⟨⟨cs, st, wrap64 (at_ + 1), 1, y⟩, by unfold vdo; rw [if_neg (by decide)]; rw [if_neg (by decide)]; rw [if_neg (by decide)]; rw [if_neg (by decide)]; rw [if_neg (by decide)]; rw [if_neg (by decide)]; rw [if_neg (by decide)]; rw [if_neg (by decide)]; rw [if_neg (by decide)]; rw [if_neg (by decide)]; rw [if_neg (by decide)]; rw [if_pos rfl], rfl, rfl, rfl, rfl⟩))
  by_cases c19 : op = 19
  · subst c19
    cases st with
    | nil => exact rf_mono (rdo_refuseE (st := []) n kind arg h (by simp)) (.inl (by unfold vdo; rw [if_neg (by decide)]; rw [if_neg (by decide)]; rw [if_neg (by decide)]; rw [if_neg (by decide)]; rw [if_neg (by decide)]; rw [if_neg (by decide)]; rw [if_neg (by decide)]; rw [if_neg (by decide)]; rw [if_neg (by decide)]; rw [if_neg (by decide)]; rw [if_neg (by decide)]; rw [if_neg (by decide)]; rw [if_pos rfl]))
    | cons y st => exact rf_mono (rdo_refuseN n kind arg y h (by simp only [List.length_cons] at hsm; omega)) (.inl (by unfold vdo; rw [if_neg (by decide)]; rw [if_neg (by decide)]; rw [if_neg (by decide)]; rw [if_neg (by decide)]; rw [if_neg (by decide)]; rw [if_neg (by decide)]; rw [if_neg (by decide)]; rw [if_neg (by decide)]; rw [if_neg (by decide)]; rw [if_neg (by decide)]; rw [if_neg (by decide)]; rw [if_neg (by decide)]; rw [if_pos rfl]))
  have hop2 : 8 ≤ op ∧ op ≤ 14 := by omega
  cases st with
  | nil => exact absurd (by unfold vdo; rw [if_neg c0]; rw [if_neg c1]; rw [if_neg c2]; rw [if_neg c3]; rw [if_neg c4]; rw [if_neg c5]; rw [if_neg c6]; rw [if_neg c7]; rw [if_neg c15]; rw [if_neg c16]; rw [if_neg c17]; rw [if_neg c18]; rw [if_neg c19]; (first | done | rfl)) hd
  | cons b st =>
    cases st with
    | nil => exact absurd (by unfold vdo; rw [if_neg c0]; rw [if_neg c1]; rw [if_neg c2]; rw [if_neg c3]; rw [if_neg c4]; rw [if_neg c5]; rw [if_neg c6]; rw [if_neg c7]; rw [if_neg c15]; rw [if_neg c16]; rw [if_neg c17]; rw [if_neg c18]; rw [if_neg c19]; (first | done | rfl)) hd
    | cons a st =>
      have g1 := List.forall_mem_cons.1 ok2
      have g2 := List.forall_mem_cons.1 g1.2
      have hj := joined_v op a b hop2 g2.1 g1.1
      cases hv : vtwo op a b with
      | none =>
        rw [hv] at hj
        exact rf_mono (rdo_twono n kind arg op a b 0 hop2 hj h (by simp only [List.length_cons] at hsm; omega)) (.inr (.inl ⟨by unfold vdo; rw [if_neg c0]; rw [if_neg c1]; rw [if_neg c2]; rw [if_neg c3]; rw [if_neg c4]; rw [if_neg c5]; rw [if_neg c6]; rw [if_neg c7]; rw [if_neg c15]; rw [if_neg c16]; rw [if_neg c17]; rw [if_neg c18]; rw [if_neg c19]; (first | done | (dsimp only; rw [hv])), rfl⟩))
      | some v =>
        rw [hv] at hj
        exact rf_mono (rdo_two n kind arg op a b v hop2 hj h (by simp only [List.length_cons] at hsm; omega)) (.inl (by unfold vdo; rw [if_neg c0]; rw [if_neg c1]; rw [if_neg c2]; rw [if_neg c3]; rw [if_neg c4]; rw [if_neg c5]; rw [if_neg c6]; rw [if_neg c7]; rw [if_neg c15]; rw [if_neg c16]; rw [if_neg c17]; rw [if_neg c18]; rw [if_neg c19]; (first | done | (dsimp only; rw [hv]))))
end Go.Proofs.Ytddkoimaghcbeaa.PVmSteps
