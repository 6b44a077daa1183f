/- A part of the proofs about layers 16 to 18 (vm, order, lin) and their references: contracts and plain lemmas that the laws stand on. No condition beyond what each theorem says. -/
import Derived.Test.YtddkoimaghcbeaaPVmStepsx1
import Derived.Test.YtddkoimaghcbeaaPVmStepsx2
import Derived.Test.YtddkoimaghcbeaaPVmStepsx3
import Derived.Test.YtddkoimaghcbeaaPVmStepsx4
import Derived.Test.YtddkoimaghcbeaaPVmStepsx5
import Derived.Test.YtddkoimaghcbeaaPVmStepsx6
import Derived.Test.YtddkoimaghcbeaaTmpvmq
namespace Go.Proofs.Ytddkoimaghcbeaa.PVmSteps
open Go.RowKit Go.Proofs.YtddkoimaghcbeaaW.PrintWords Go.Proofs.YtddkoimaghcbeaaW.PrintLast Go.Proofs.YtddkoimaghcbeaaW.PrintMore
set_option linter.unusedVariables false
set_option linter.unusedSimpArgs false
/-- A number of 64 bits. -/
def inR (a : Int) : Prop := -9223372036854775808 ≤ a ∧ a ≤ 9223372036854775807
theorem inR_w (a : Int) : inR (wrap64 a) := by unfold inR wrap64; omega
theorem w_inR {a : Int} (h : inR a) : wrap64 a = a := by unfold inR at h; unfold wrap64; omega
theorem w_u_add (a b : Int) : wrap64 (IntKind.u64.wrap ((IntKind.u64.wrap a) + (IntKind.u64.wrap b))) = wrap64 (a + b) := by rw [wu64, wu64, wu64]; unfold wrap64; omega
theorem w_u_sub (a b : Int) : wrap64 (IntKind.u64.wrap ((IntKind.u64.wrap a) - (IntKind.u64.wrap b))) = wrap64 (a - b) := by rw [wu64, wu64, wu64]; unfold wrap64; omega
theorem w_emod (a : Int) : wrap64 (a % 18446744073709551616) = wrap64 a := by unfold wrap64; omega
theorem w_u_mul (a b : Int) : wrap64 (IntKind.u64.wrap ((IntKind.u64.wrap a) * (IntKind.u64.wrap b))) = wrap64 (a * b) := by
  rw [wu64, wu64, wu64, w_emod]
  have h : ((a % 18446744073709551616) * (b % 18446744073709551616)) % 18446744073709551616 = (a * b) % 18446744073709551616 := (Int.mul_emod a b _).symm
  rw [← w_emod, h, w_emod]
theorem tdiv_ab (a b : Int) (hb : b ≠ 0) (hb1 : b ≠ -1) (ha : inR a) : inR (a.tdiv b) := by
  have h := Int.natAbs_tdiv a b
  have h2 : a.natAbs / b.natAbs ≤ a.natAbs := Nat.div_le_self _ _
  unfold inR at *
  by_cases hb2 : b = 1
  · subst hb2; rw [Int.tdiv_one]; exact ha
  · have h3 : a.natAbs / b.natAbs ≤ a.natAbs / 2 := Nat.div_le_div_left (by omega) (by omega)
    have h4 : (a.tdiv b).natAbs ≤ a.natAbs / 2 := by rw [h]; exact h3
    omega
theorem tmod_b (a b : Int) : (0 ≤ a → 0 ≤ a.tmod b ∧ a.tmod b ≤ a) ∧ (a ≤ 0 → a ≤ a.tmod b ∧ a.tmod b ≤ 0) := by
  have h1 := Int.natAbs_tmod a b
  have h2 : a.natAbs % b.natAbs ≤ a.natAbs := Nat.mod_le _ _
  have h3 : (a.tmod b).natAbs ≤ a.natAbs := by rw [h1]; exact h2
  refine ⟨fun h => ?_, fun h => ?_⟩
  · have := Int.tmod_nonneg b h
    omega
  · have h5 := Int.tmod_nonneg b (show 0 ≤ -a by omega)
    rw [Int.neg_tmod] at h5
    omega
theorem joined_v (op a b : Int) (hop : 8 ≤ op ∧ op ≤ 14) (ha : inR a) (hb : inR b) : inquestref16_joined.f op a b = some ((vtwo op a b).getD 0, (vtwo op a b).isSome) := by
  unfold inquestref16_joined.f vtwo
  by_cases h8 : op = 8
  · rw [if_pos h8, if_pos h8, w_u_add]; rfl
  rw [if_neg h8, if_neg h8]
  by_cases h9 : op = 9
  · rw [if_pos h9, if_pos h9, w_u_sub]; rfl
  rw [if_neg h9, if_neg h9]
  by_cases h10 : op = 10
  · rw [if_pos h10, if_pos h10, w_u_mul]; rfl
  rw [if_neg h10, if_neg h10]
  by_cases h13 : op = 13
  · rw [if_pos h13, if_pos h13]
    unfold inquestref16_truth.f
    by_cases c : a < b <;> simp [c]
  rw [if_neg h13, if_neg h13]
  by_cases h14 : op = 14
  · rw [if_pos h14, if_pos h14]
    unfold inquestref16_truth.f
    by_cases c : a = b <;> simp [c]
  rw [if_neg h14, if_neg h14]
  by_cases hb0 : b = 0
  · rw [if_pos hb0, if_pos hb0]; rfl
  rw [if_neg hb0, if_neg hb0]
  by_cases hb1 : b = -1
  · subst hb1
    rw [if_pos rfl]
    by_cases h11 : op = 11
    · rw [if_pos h11, if_pos h11, wu64, wu64, w_emod, Int.tdiv_neg, Int.tdiv_one]
      simp only [Option.getD_some, Option.isSome_some]
      congr 2
      unfold wrap64; omega
    · rw [if_neg h11, if_neg h11]
      simp [Int.tmod_neg, Int.tmod_one]
  · have hd := tdiv_ab a b hb0 hb1 ha
    rw [if_neg hb1]
    by_cases h11 : op = 11
    · rw [if_pos h11, if_pos h11]; rfl
    · rw [if_neg h11, if_neg h11, w_inR hd]
      have e := Int.tdiv_mul_add_tmod a b
      have hm : inR (a.tdiv b * b) := by
        have h1 := tmod_b a b
        unfold inR at *; omega
      rw [w_inR hm]
      have e2 : a - a.tdiv b * b = a.tmod b := by omega
      rw [e2]
      have hr : inR (a.tmod b) := by
        have h1 := tmod_b a b
        unfold inR at *; omega
      rw [w_inR hr]; rfl
theorem vtwo_inR (op a b v : Int) (ha : inR a) (h : vtwo op a b = some v) : inR v := by
  unfold vtwo at h
  split at h
  · cases h; exact inR_w _
  split at h
  · cases h; exact inR_w _
  split at h
  · cases h; exact inR_w _
  split at h
  · cases h; unfold inR; split <;> omega
  split at h
  · cases h; unfold inR; split <;> omega
  split at h
  · cases h
  split at h
  · cases h; exact inR_w _
  · cases h
    have h1 := tmod_b a b
    unfold inR at *; omega
/-- All numbers of a run are of 64 bits. -/
def VRok (r : VR) : Prop := (∀ x ∈ r.cs, inR x) ∧ (∀ x ∈ r.st, inR x) ∧ inR r.rt
theorem rd_inR {cs : List Int} (h : ∀ x ∈ cs, inR x) (n : Int) : inR (rdOf 0 cs n) := by
  unfold rdOf
  rw [List.getD_eq_getElem?_getD]
  cases e : cs[n.toNat]? with
  | none => simp [inR]
  | some v => exact h v (List.mem_of_getElem? e)
theorem vdo_ok (op n kind arg : Int) (r r' : VR) (hr : VRok r) (hn : inR n) (hk : inR kind) (ha : inR arg) (h : vdo op n kind arg r = some (some r')) : VRok r' := by
  obtain ⟨cs, st, at_, en, rt⟩ := r
  obtain ⟨h1, h2, h3⟩ := hr
  unfold vdo at h
  simp only at h h1 h2 h3
  by_cases c0 : op = 0
  · rw [if_pos c0] at h
    cases h
    exact ⟨h1, List.forall_mem_cons.2 ⟨hn, h2⟩, h3⟩
  rw [if_neg c0] at h
  by_cases c1 : op = 1
  · rw [if_pos c1] at h
    cases st with
    | nil => cases h
    | cons x s =>
      dsimp only at h
      cases h
      exact ⟨h1, (List.forall_mem_cons.1 h2).2, h3⟩
  rw [if_neg c1] at h
  by_cases c2 : op = 2
  · rw [if_pos c2] at h
    cases st with
    | nil => cases h
    | cons x s =>
      dsimp only at h
      cases h
      exact ⟨h1, List.forall_mem_cons.2 ⟨(List.forall_mem_cons.1 h2).1, h2⟩, h3⟩
  rw [if_neg c2] at h
  by_cases c3 : op = 3
  · rw [if_pos c3] at h
    cases st with
    | nil => cases h
    | cons b s =>
      cases s with
      | nil => cases h
      | cons a s =>
        dsimp only at h
        cases h
        have g1 := List.forall_mem_cons.1 h2
        have g2 := List.forall_mem_cons.1 g1.2
        exact ⟨h1, List.forall_mem_cons.2 ⟨g2.1, List.forall_mem_cons.2 ⟨g1.1, g2.2⟩⟩, h3⟩
  rw [if_neg c3] at h
  by_cases c4 : op = 4
  · rw [if_pos c4] at h
    split at h
    · cases h
      exact ⟨h1, List.forall_mem_cons.2 ⟨rd_inR h1 _, h2⟩, h3⟩
    · cases h
  rw [if_neg c4] at h
  by_cases c5 : op = 5
  · rw [if_pos c5] at h
    cases st with
    | nil => cases h
    | cons x s =>
      dsimp only at h
      split at h
      · cases h
        exact ⟨fun x hx => by
          rcases List.mem_or_eq_of_mem_set hx with hx | rfl
          · exact h1 _ hx
          · exact (List.forall_mem_cons.1 h2).1, (List.forall_mem_cons.1 h2).2, h3⟩
      · cases h
  rw [if_neg c5] at h
  by_cases c6 : op = 6
  · rw [if_pos c6] at h
    cases h
    exact ⟨h1, List.forall_mem_cons.2 ⟨ha, h2⟩, h3⟩
  rw [if_neg c6] at h
  by_cases c7 : op = 7
  · rw [if_pos c7] at h
    cases h
    exact ⟨h1, List.forall_mem_cons.2 ⟨hk, h2⟩, h3⟩
  rw [if_neg c7] at h
  by_cases c15 : op = 15
  · rw [if_pos c15] at h
    cases st with
    | nil => cases h
    | cons x s =>
      dsimp only at h
      cases h
      exact ⟨h1, List.forall_mem_cons.2 ⟨by unfold inR; split <;> omega, (List.forall_mem_cons.1 h2).2⟩, h3⟩
  rw [if_neg c15] at h
  by_cases c16 : op = 16
  · rw [if_pos c16] at h
    cases h
    exact ⟨h1, h2, h3⟩
  rw [if_neg c16] at h
  by_cases c17 : op = 17
  · rw [if_pos c17] at h
    cases st with
    | nil => cases h
    | cons x s =>
      dsimp only at h
      cases h
      exact ⟨h1, (List.forall_mem_cons.1 h2).2, h3⟩
  rw [if_neg c17] at h
  by_cases c18 : op = 18
  · rw [if_pos c18] at h
    cases st with
    | nil => cases h
    | cons x s =>
      dsimp only at h
      cases h
      exact ⟨h1, (List.forall_mem_cons.1 h2).2, (List.forall_mem_cons.1 h2).1⟩
  rw [if_neg c18] at h
  by_cases c19 : op = 19
  · rw [if_pos c19] at h
    cases h
    exact ⟨h1, h2, h3⟩
  rw [if_neg c19] at h
  cases st with
  | nil => cases h
  | cons b s =>
    cases s with
    | nil => cases h
    | cons a s =>
      dsimp only at h
      cases h4 : vtwo op a b with
      | none => rw [h4] at h; cases h
      | some v =>
        rw [h4] at h
        cases h
        have g1 := List.forall_mem_cons.1 h2
        have g2 := List.forall_mem_cons.1 g1.2
        exact ⟨h1, List.forall_mem_cons.2 ⟨vtwo_inR op a b v g2.1 h4, g2.2⟩, h3⟩

end Go.Proofs.Ytddkoimaghcbeaa.PVmSteps
