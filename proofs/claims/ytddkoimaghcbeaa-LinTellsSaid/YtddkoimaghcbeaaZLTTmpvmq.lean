/- A part of what the law LinTells stands on, only as far as it is needed (the words and walks were printed or written in this seat; this text was cut by a program of this session, wip/bin/trim.py). No condition beyond what each theorem says. -/
import Derived.Test.YtddkoimaghcbeaaZLTPVmStepsx0
import Derived.Test.YtddkoimaghcbeaaZLTPVmStepsx2
import Derived.Test.YtddkoimaghcbeaaZLTPVmStepsx3
import Derived.Test.YtddkoimaghcbeaaZLTPVmStepsx4
import Derived.Test.YtddkoimaghcbeaaZLTPVmStepsx5
import Derived.Test.YtddkoimaghcbeaaZLTPVmStepsx6
import Derived.Test.YtddkoimaghcbeaaZLTTmpvmp
import Derived.Test.YtddkoimaghcbeaaZLTTmpvmh
namespace Go.Proofs.Ytddkoimaghcbeaa.PVmSteps
open Go.RowKit Go.Proofs.YtddkoimaghcbeaaW.PrintWords Go.Proofs.YtddkoimaghcbeaaW.PrintLast Go.Proofs.YtddkoimaghcbeaaW.PrintMore
set_option linter.unusedVariables false
set_option linter.unusedSimpArgs false
theorem vm_w (a : Int) (h0 : 0 ≤ a) (h1 : a < 1000000) : wrap64 (a + 1) = a + 1 := by unfold wrap64; omega
theorem vm_pick (op : Int) (h : 0 ≤ op ∧ op ≤ 19) : op = 0 ∨ op = 1 ∨ op = 2 ∨ op = 3 ∨ op = 4 ∨ op = 5 ∨ op = 6 ∨ op = 7 ∨ op = 8 ∨ op = 9 ∨ op = 10 ∨ op = 11 ∨ op = 12 ∨ op = 13 ∨ op = 14 ∨ op = 15 ∨ op = 16 ∨ op = 17 ∨ op = 18 ∨ op = 19 := by omega
theorem vdo_good0 (n kind arg : Int) (r : VR) (h4 : r.cs.length = 4) (he : r.en = 0) (h0 : 0 ≤ r.at_) (h1 : r.at_ < 1000000) (hc : canZ 1000000 0 n = true ∨ True) (hN : True) (P : Int → Int → Prop) (ht : takesZ 0 ≤ (r.st.length : Int))
    (hn : ∀ q ∈ nextZ 0 n r.at_, P q ((r.st.length : Int) - takesZ 0 + putsZ 0)) : vdo 0 n kind arg r ≠ none ∧ ∀ r', vdo 0 n kind arg r = some (some r') → r'.cs.length = 4 ∧ (r'.en = 0 → P r'.at_ (r'.st.length : Int)) := by
  obtain ⟨cs, st, at_, en, rt⟩ := r
  simp only at h4 he h0 h1 ht hn
  rw [show takesZ 0 = 0 from by decide] at ht hn
  rw [show putsZ 0 = 1 from by decide] at hn
  have hw := vm_w at_ h0 h1
  have hq := hn (at_ + 1) (by simp [nextZ])
  unfold vdo
  rw [if_pos (by decide)]
  refine ⟨by simp, fun r' h => ?_⟩
  cases h
  refine ⟨h4, fun hz => ?_⟩
  simp only [hw, List.length_cons] at hq ⊢
  refine (congrArg (P _) ?_).mp hq
  omega
theorem vdo_good1 (n kind arg : Int) (r : VR) (h4 : r.cs.length = 4) (he : r.en = 0) (h0 : 0 ≤ r.at_) (h1 : r.at_ < 1000000) (hc : canZ 1000000 1 n = true ∨ True) (hN : True) (P : Int → Int → Prop) (ht : takesZ 1 ≤ (r.st.length : Int))
    (hn : ∀ q ∈ nextZ 1 n r.at_, P q ((r.st.length : Int) - takesZ 1 + putsZ 1)) : vdo 1 n kind arg r ≠ none ∧ ∀ r', vdo 1 n kind arg r = some (some r') → r'.cs.length = 4 ∧ (r'.en = 0 → P r'.at_ (r'.st.length : Int)) := by
  obtain ⟨cs, st, at_, en, rt⟩ := r
  simp only at h4 he h0 h1 ht hn
  rw [show takesZ 1 = 1 from by decide] at ht hn
  rw [show putsZ 1 = 0 from by decide] at hn
  have hw := vm_w at_ h0 h1
  have hq := hn (at_ + 1) (by simp [nextZ])
  unfold vdo
  rw [if_neg (by decide)]
  rw [if_pos (by decide)]
  cases st with
  | nil => simp at ht
  | cons x s =>
    dsimp only
    refine ⟨by simp, fun r' h => ?_⟩
    cases h
    refine ⟨h4, fun hz => ?_⟩
    simp only [hw, List.length_cons] at hq ⊢
    refine (congrArg (P _) ?_).mp hq
    omega
theorem vdo_good2 (n kind arg : Int) (r : VR) (h4 : r.cs.length = 4) (he : r.en = 0) (h0 : 0 ≤ r.at_) (h1 : r.at_ < 1000000) (hc : canZ 1000000 2 n = true ∨ True) (hN : True) (P : Int → Int → Prop) (ht : takesZ 2 ≤ (r.st.length : Int))
    (hn : ∀ q ∈ nextZ 2 n r.at_, P q ((r.st.length : Int) - takesZ 2 + putsZ 2)) : vdo 2 n kind arg r ≠ none ∧ ∀ r', vdo 2 n kind arg r = some (some r') → r'.cs.length = 4 ∧ (r'.en = 0 → P r'.at_ (r'.st.length : Int)) := by
  obtain ⟨cs, st, at_, en, rt⟩ := r
  simp only at h4 he h0 h1 ht hn
  rw [show takesZ 2 = 1 from by decide] at ht hn
  rw [show putsZ 2 = 2 from by decide] at hn
  have hw := vm_w at_ h0 h1
  have hq := hn (at_ + 1) (by simp [nextZ])
  unfold vdo
  rw [if_neg (by decide)]
  rw [if_neg (by decide)]
  rw [if_pos (by decide)]
  cases st with
  | nil => simp at ht
  | cons x s =>
    dsimp only
    refine ⟨by simp, fun r' h => ?_⟩
    cases h
    refine ⟨h4, fun hz => ?_⟩
    simp only [hw, List.length_cons] at hq ⊢
    refine (congrArg (P _) ?_).mp hq
    omega
theorem vdo_good3 (n kind arg : Int) (r : VR) (h4 : r.cs.length = 4) (he : r.en = 0) (h0 : 0 ≤ r.at_) (h1 : r.at_ < 1000000) (hc : canZ 1000000 3 n = true ∨ True) (hN : True) (P : Int → Int → Prop) (ht : takesZ 3 ≤ (r.st.length : Int))
    (hn : ∀ q ∈ nextZ 3 n r.at_, P q ((r.st.length : Int) - takesZ 3 + putsZ 3)) : vdo 3 n kind arg r ≠ none ∧ ∀ r', vdo 3 n kind arg r = some (some r') → r'.cs.length = 4 ∧ (r'.en = 0 → P r'.at_ (r'.st.length : Int)) := by
  obtain ⟨cs, st, at_, en, rt⟩ := r
  simp only at h4 he h0 h1 ht hn
  rw [show takesZ 3 = 2 from by decide] at ht hn
  rw [show putsZ 3 = 2 from by decide] at hn
  have hw := vm_w at_ h0 h1
  have hq := hn (at_ + 1) (by simp [nextZ])
  unfold vdo
  rw [if_neg (by decide)]
  rw [if_neg (by decide)]
  rw [if_neg (by decide)]
  rw [if_pos (by decide)]
  cases st with
  | nil => simp at ht
  | cons b s =>
    cases s with
    | nil => exact absurd ht (by simp)
    | cons a s =>
      dsimp only
      refine ⟨by simp, fun r' h => ?_⟩
      cases h
      refine ⟨h4, fun hz => ?_⟩
      simp only [hw, List.length_cons] at hq ⊢
      refine (congrArg (P _) ?_).mp hq
      omega
theorem vdo_good4 (n kind arg : Int) (r : VR) (h4 : r.cs.length = 4) (he : r.en = 0) (h0 : 0 ≤ r.at_) (h1 : r.at_ < 1000000) (hc : canZ 1000000 4 n = true ∨ True) (hN : 0 ≤ n ∧ n < 4) (P : Int → Int → Prop) (ht : takesZ 4 ≤ (r.st.length : Int))
    (hn : ∀ q ∈ nextZ 4 n r.at_, P q ((r.st.length : Int) - takesZ 4 + putsZ 4)) : vdo 4 n kind arg r ≠ none ∧ ∀ r', vdo 4 n kind arg r = some (some r') → r'.cs.length = 4 ∧ (r'.en = 0 → P r'.at_ (r'.st.length : Int)) := by
  obtain ⟨cs, st, at_, en, rt⟩ := r
  simp only at h4 he h0 h1 ht hn
  rw [show takesZ 4 = 0 from by decide] at ht hn
  rw [show putsZ 4 = 1 from by decide] at hn
  have hw := vm_w at_ h0 h1
  have hq := hn (at_ + 1) (by simp [nextZ])
  unfold vdo
  rw [if_neg (by decide)]
  rw [if_neg (by decide)]
  rw [if_neg (by decide)]
  rw [if_neg (by decide)]
  rw [if_pos (by decide)]
  rw [if_pos hN]
  refine ⟨by simp, fun r' h => ?_⟩
  cases h
  refine ⟨h4, fun hz => ?_⟩
  simp only [hw, List.length_cons] at hq ⊢
  refine (congrArg (P _) ?_).mp hq
  omega
theorem vdo_good5 (n kind arg : Int) (r : VR) (h4 : r.cs.length = 4) (he : r.en = 0) (h0 : 0 ≤ r.at_) (h1 : r.at_ < 1000000) (hc : canZ 1000000 5 n = true ∨ True) (hN : 0 ≤ n ∧ n < 4) (P : Int → Int → Prop) (ht : takesZ 5 ≤ (r.st.length : Int))
    (hn : ∀ q ∈ nextZ 5 n r.at_, P q ((r.st.length : Int) - takesZ 5 + putsZ 5)) : vdo 5 n kind arg r ≠ none ∧ ∀ r', vdo 5 n kind arg r = some (some r') → r'.cs.length = 4 ∧ (r'.en = 0 → P r'.at_ (r'.st.length : Int)) := by
  obtain ⟨cs, st, at_, en, rt⟩ := r
  simp only at h4 he h0 h1 ht hn
  rw [show takesZ 5 = 1 from by decide] at ht hn
  rw [show putsZ 5 = 0 from by decide] at hn
  have hw := vm_w at_ h0 h1
  have hq := hn (at_ + 1) (by simp [nextZ])
  unfold vdo
  rw [if_neg (by decide)]
  rw [if_neg (by decide)]
  rw [if_neg (by decide)]
  rw [if_neg (by decide)]
  rw [if_neg (by decide)]
  rw [if_pos (by decide)]
  cases st with
  | nil => simp at ht
  | cons x s =>
    dsimp only
    rw [if_pos hN]
    refine ⟨by simp, fun r' h => ?_⟩
    cases h
    refine ⟨by simpa using h4, fun hz => ?_⟩
    simp only [hw, List.length_cons] at hq ⊢
    refine (congrArg (P _) ?_).mp hq
    omega
theorem vdo_good6 (n kind arg : Int) (r : VR) (h4 : r.cs.length = 4) (he : r.en = 0) (h0 : 0 ≤ r.at_) (h1 : r.at_ < 1000000) (hc : canZ 1000000 6 n = true ∨ True) (hN : True) (P : Int → Int → Prop) (ht : takesZ 6 ≤ (r.st.length : Int))
    (hn : ∀ q ∈ nextZ 6 n r.at_, P q ((r.st.length : Int) - takesZ 6 + putsZ 6)) : vdo 6 n kind arg r ≠ none ∧ ∀ r', vdo 6 n kind arg r = some (some r') → r'.cs.length = 4 ∧ (r'.en = 0 → P r'.at_ (r'.st.length : Int)) := by
  obtain ⟨cs, st, at_, en, rt⟩ := r
  simp only at h4 he h0 h1 ht hn
  rw [show takesZ 6 = 0 from by decide] at ht hn
  rw [show putsZ 6 = 1 from by decide] at hn
  have hw := vm_w at_ h0 h1
  have hq := hn (at_ + 1) (by simp [nextZ])
  unfold vdo
  rw [if_neg (by decide)]
  rw [if_neg (by decide)]
  rw [if_neg (by decide)]
  rw [if_neg (by decide)]
  rw [if_neg (by decide)]
  rw [if_neg (by decide)]
  rw [if_pos (by decide)]
  refine ⟨by simp, fun r' h => ?_⟩
  cases h
  refine ⟨h4, fun hz => ?_⟩
  simp only [hw, List.length_cons] at hq ⊢
  refine (congrArg (P _) ?_).mp hq
  omega
theorem vdo_good7 (n kind arg : Int) (r : VR) (h4 : r.cs.length = 4) (he : r.en = 0) (h0 : 0 ≤ r.at_) (h1 : r.at_ < 1000000) (hc : canZ 1000000 7 n = true ∨ True) (hN : True) (P : Int → Int → Prop) (ht : takesZ 7 ≤ (r.st.length : Int))
    (hn : ∀ q ∈ nextZ 7 n r.at_, P q ((r.st.length : Int) - takesZ 7 + putsZ 7)) : vdo 7 n kind arg r ≠ none ∧ ∀ r', vdo 7 n kind arg r = some (some r') → r'.cs.length = 4 ∧ (r'.en = 0 → P r'.at_ (r'.st.length : Int)) := by
  obtain ⟨cs, st, at_, en, rt⟩ := r
  simp only at h4 he h0 h1 ht hn
  rw [show takesZ 7 = 0 from by decide] at ht hn
  rw [show putsZ 7 = 1 from by decide] at hn
  have hw := vm_w at_ h0 h1
  have hq := hn (at_ + 1) (by simp [nextZ])
  unfold vdo
  rw [if_neg (by decide)]
  rw [if_neg (by decide)]
  rw [if_neg (by decide)]
  rw [if_neg (by decide)]
  rw [if_neg (by decide)]
  rw [if_neg (by decide)]
  rw [if_neg (by decide)]
  rw [if_pos (by decide)]
  refine ⟨by simp, fun r' h => ?_⟩
  cases h
  refine ⟨h4, fun hz => ?_⟩
  simp only [hw, List.length_cons] at hq ⊢
  refine (congrArg (P _) ?_).mp hq
  omega
theorem vdo_good8 (n kind arg : Int) (r : VR) (h4 : r.cs.length = 4) (he : r.en = 0) (h0 : 0 ≤ r.at_) (h1 : r.at_ < 1000000) (hc : canZ 1000000 8 n = true ∨ True) (hN : True) (P : Int → Int → Prop) (ht : takesZ 8 ≤ (r.st.length : Int))
    (hn : ∀ q ∈ nextZ 8 n r.at_, P q ((r.st.length : Int) - takesZ 8 + putsZ 8)) : vdo 8 n kind arg r ≠ none ∧ ∀ r', vdo 8 n kind arg r = some (some r') → r'.cs.length = 4 ∧ (r'.en = 0 → P r'.at_ (r'.st.length : Int)) := by
  obtain ⟨cs, st, at_, en, rt⟩ := r
  simp only at h4 he h0 h1 ht hn
  rw [show takesZ 8 = 2 from by decide] at ht hn
  rw [show putsZ 8 = 1 from by decide] at hn
  have hw := vm_w at_ h0 h1
  have hq := hn (at_ + 1) (by simp [nextZ])
  unfold vdo
  rw [if_neg (by decide)]
  rw [if_neg (by decide)]
  rw [if_neg (by decide)]
  rw [if_neg (by decide)]
  rw [if_neg (by decide)]
  rw [if_neg (by decide)]
  rw [if_neg (by decide)]
  rw [if_neg (by decide)]
  rw [if_neg (by decide)]
  rw [if_neg (by decide)]
  rw [if_neg (by decide)]
  rw [if_neg (by decide)]
  rw [if_neg (by decide)]
  cases st with
  | nil => simp at ht
  | cons b s =>
    cases s with
    | nil => exact absurd ht (by simp)
    | cons a s =>
      dsimp only
      cases hv : vtwo 8 a b with
      | none => exact ⟨by simp, fun r' h => by simp at h⟩
      | some v =>
        dsimp only
        refine ⟨by simp, fun r' h => ?_⟩
        cases h
        refine ⟨h4, fun hz => ?_⟩
        simp only [hw, List.length_cons] at hq ⊢
        refine (congrArg (P _) ?_).mp hq
        omega
theorem vdo_good9 (n kind arg : Int) (r : VR) (h4 : r.cs.length = 4) (he : r.en = 0) (h0 : 0 ≤ r.at_) (h1 : r.at_ < 1000000) (hc : canZ 1000000 9 n = true ∨ True) (hN : True) (P : Int → Int → Prop) (ht : takesZ 9 ≤ (r.st.length : Int))
    (hn : ∀ q ∈ nextZ 9 n r.at_, P q ((r.st.length : Int) - takesZ 9 + putsZ 9)) : vdo 9 n kind arg r ≠ none ∧ ∀ r', vdo 9 n kind arg r = some (some r') → r'.cs.length = 4 ∧ (r'.en = 0 → P r'.at_ (r'.st.length : Int)) := by
  obtain ⟨cs, st, at_, en, rt⟩ := r
  simp only at h4 he h0 h1 ht hn
  rw [show takesZ 9 = 2 from by decide] at ht hn
  rw [show putsZ 9 = 1 from by decide] at hn
  have hw := vm_w at_ h0 h1
  have hq := hn (at_ + 1) (by simp [nextZ])
  unfold vdo
  rw [if_neg (by decide)]
  rw [if_neg (by decide)]
  rw [if_neg (by decide)]
  rw [if_neg (by decide)]
  rw [if_neg (by decide)]
  rw [if_neg (by decide)]
  rw [if_neg (by decide)]
  rw [if_neg (by decide)]
  rw [if_neg (by decide)]
  rw [if_neg (by decide)]
  rw [if_neg (by decide)]
  rw [if_neg (by decide)]
  rw [if_neg (by decide)]
  cases st with
  | nil => simp at ht
  | cons b s =>
    cases s with
    | nil => exact absurd ht (by simp)
    | cons a s =>
      dsimp only
      cases hv : vtwo 9 a b with
      | none => exact ⟨by simp, fun r' h => by simp at h⟩
      | some v =>
        dsimp only
        refine ⟨by simp, fun r' h => ?_⟩
        cases h
        refine ⟨h4, fun hz => ?_⟩
        simp only [hw, List.length_cons] at hq ⊢
        refine (congrArg (P _) ?_).mp hq
        omega
theorem vdo_good10 (n kind arg : Int) (r : VR) (h4 : r.cs.length = 4) (he : r.en = 0) (h0 : 0 ≤ r.at_) (h1 : r.at_ < 1000000) (hc : canZ 1000000 10 n = true ∨ True) (hN : True) (P : Int → Int → Prop) (ht : takesZ 10 ≤ (r.st.length : Int))
    (hn : ∀ q ∈ nextZ 10 n r.at_, P q ((r.st.length : Int) - takesZ 10 + putsZ 10)) : vdo 10 n kind arg r ≠ none ∧ ∀ r', vdo 10 n kind arg r = some (some r') → r'.cs.length = 4 ∧ (r'.en = 0 → P r'.at_ (r'.st.length : Int)) := by
  obtain ⟨cs, st, at_, en, rt⟩ := r
  simp only at h4 he h0 h1 ht hn
  rw [show takesZ 10 = 2 from by decide] at ht hn
  rw [show putsZ 10 = 1 from by decide] at hn
  have hw := vm_w at_ h0 h1
  have hq := hn (at_ + 1) (by simp [nextZ])
  unfold vdo
  rw [if_neg (by decide)]
  rw [if_neg (by decide)]
  rw [if_neg (by decide)]
  rw [if_neg (by decide)]
  rw [if_neg (by decide)]
  rw [if_neg (by decide)]
  rw [if_neg (by decide)]
  rw [if_neg (by decide)]
  rw [if_neg (by decide)]
  rw [if_neg (by decide)]
  rw [if_neg (by decide)]
  rw [if_neg (by decide)]
  rw [if_neg (by decide)]
  cases st with
  | nil => simp at ht
  | cons b s =>
    cases s with
    | nil => exact absurd ht (by simp)
    | cons a s =>
      dsimp only
      cases hv : vtwo 10 a b with
      | none => exact ⟨by simp, fun r' h => by simp at h⟩
      | some v =>
        dsimp only
        refine ⟨by simp, fun r' h => ?_⟩
        cases h
        refine ⟨h4, fun hz => ?_⟩
        simp only [hw, List.length_cons] at hq ⊢
        refine (congrArg (P _) ?_).mp hq
        omega
theorem vdo_good11 (n kind arg : Int) (r : VR) (h4 : r.cs.length = 4) (he : r.en = 0) (h0 : 0 ≤ r.at_) (h1 : r.at_ < 1000000) (hc : canZ 1000000 11 n = true ∨ True) (hN : True) (P : Int → Int → Prop) (ht : takesZ 11 ≤ (r.st.length : Int))
    (hn : ∀ q ∈ nextZ 11 n r.at_, P q ((r.st.length : Int) - takesZ 11 + putsZ 11)) : vdo 11 n kind arg r ≠ none ∧ ∀ r', vdo 11 n kind arg r = some (some r') → r'.cs.length = 4 ∧ (r'.en = 0 → P r'.at_ (r'.st.length : Int)) := by
  obtain ⟨cs, st, at_, en, rt⟩ := r
  simp only at h4 he h0 h1 ht hn
  rw [show takesZ 11 = 2 from by decide] at ht hn
  rw [show putsZ 11 = 1 from by decide] at hn
  have hw := vm_w at_ h0 h1
  have hq := hn (at_ + 1) (by simp [nextZ])
  unfold vdo
  rw [if_neg (by decide)]
  rw [if_neg (by decide)]
  rw [if_neg (by decide)]
  rw [if_neg (by decide)]
  rw [if_neg (by decide)]
  rw [if_neg (by decide)]
  rw [if_neg (by decide)]
  rw [if_neg (by decide)]
  rw [if_neg (by decide)]
  rw [if_neg (by decide)]
  rw [if_neg (by decide)]
  rw [if_neg (by decide)]
  rw [if_neg (by decide)]
  cases st with
  | nil => simp at ht
  | cons b s =>
    cases s with
    | nil => exact absurd ht (by simp)
    | cons a s =>
      dsimp only
      cases hv : vtwo 11 a b with
      | none => exact ⟨by simp, fun r' h => by simp at h⟩
      | some v =>
        dsimp only
        refine ⟨by simp, fun r' h => ?_⟩
        cases h
        refine ⟨h4, fun hz => ?_⟩
        simp only [hw, List.length_cons] at hq ⊢
        refine (congrArg (P _) ?_).mp hq
        omega
theorem vdo_good12 (n kind arg : Int) (r : VR) (h4 : r.cs.length = 4) (he : r.en = 0) (h0 : 0 ≤ r.at_) (h1 : r.at_ < 1000000) (hc : canZ 1000000 12 n = true ∨ True) (hN : True) (P : Int → Int → Prop) (ht : takesZ 12 ≤ (r.st.length : Int))
    (hn : ∀ q ∈ nextZ 12 n r.at_, P q ((r.st.length : Int) - takesZ 12 + putsZ 12)) : vdo 12 n kind arg r ≠ none ∧ ∀ r', vdo 12 n kind arg r = some (some r') → r'.cs.length = 4 ∧ (r'.en = 0 → P r'.at_ (r'.st.length : Int)) := by
  obtain ⟨cs, st, at_, en, rt⟩ := r
  simp only at h4 he h0 h1 ht hn
  rw [show takesZ 12 = 2 from by decide] at ht hn
  rw [show putsZ 12 = 1 from by decide] at hn
  have hw := vm_w at_ h0 h1
  have hq := hn (at_ + 1) (by simp [nextZ])
  unfold vdo
  rw [if_neg (by decide)]
  rw [if_neg (by decide)]
  rw [if_neg (by decide)]
  rw [if_neg (by decide)]
  rw [if_neg (by decide)]
  rw [if_neg (by decide)]
  rw [if_neg (by decide)]
  rw [if_neg (by decide)]
  rw [if_neg (by decide)]
  rw [if_neg (by decide)]
  rw [if_neg (by decide)]
  rw [if_neg (by decide)]
  rw [if_neg (by decide)]
  cases st with
  | nil => simp at ht
  | cons b s =>
    cases s with
    | nil => exact absurd ht (by simp)
    | cons a s =>
      dsimp only
      cases hv : vtwo 12 a b with
      | none => exact ⟨by simp, fun r' h => by simp at h⟩
      | some v =>
        dsimp only
        refine ⟨by simp, fun r' h => ?_⟩
        cases h
        refine ⟨h4, fun hz => ?_⟩
        simp only [hw, List.length_cons] at hq ⊢
        refine (congrArg (P _) ?_).mp hq
        omega
theorem vdo_good13 (n kind arg : Int) (r : VR) (h4 : r.cs.length = 4) (he : r.en = 0) (h0 : 0 ≤ r.at_) (h1 : r.at_ < 1000000) (hc : canZ 1000000 13 n = true ∨ True) (hN : True) (P : Int → Int → Prop) (ht : takesZ 13 ≤ (r.st.length : Int))
    (hn : ∀ q ∈ nextZ 13 n r.at_, P q ((r.st.length : Int) - takesZ 13 + putsZ 13)) : vdo 13 n kind arg r ≠ none ∧ ∀ r', vdo 13 n kind arg r = some (some r') → r'.cs.length = 4 ∧ (r'.en = 0 → P r'.at_ (r'.st.length : Int)) := by
  obtain ⟨cs, st, at_, en, rt⟩ := r
  simp only at h4 he h0 h1 ht hn
  rw [show takesZ 13 = 2 from by decide] at ht hn
  rw [show putsZ 13 = 1 from by decide] at hn
  have hw := vm_w at_ h0 h1
  have hq := hn (at_ + 1) (by simp [nextZ])
  unfold vdo
  rw [if_neg (by decide)]
  rw [if_neg (by decide)]
  rw [if_neg (by decide)]
  rw [if_neg (by decide)]
  rw [if_neg (by decide)]
  rw [if_neg (by decide)]
  rw [if_neg (by decide)]
  rw [if_neg (by decide)]
  rw [if_neg (by decide)]
  rw [if_neg (by decide)]
  rw [if_neg (by decide)]
  rw [if_neg (by decide)]
  rw [if_neg (by decide)]
  cases st with
  | nil => simp at ht
  | cons b s =>
    cases s with
    | nil => exact absurd ht (by simp)
    | cons a s =>
      dsimp only
      cases hv : vtwo 13 a b with
      | none => exact ⟨by simp, fun r' h => by simp at h⟩
      | some v =>
        dsimp only
        refine ⟨by simp, fun r' h => ?_⟩
        cases h
        refine ⟨h4, fun hz => ?_⟩
        simp only [hw, List.length_cons] at hq ⊢
        refine (congrArg (P _) ?_).mp hq
        omega
theorem vdo_good14 (n kind arg : Int) (r : VR) (h4 : r.cs.length = 4) (he : r.en = 0) (h0 : 0 ≤ r.at_) (h1 : r.at_ < 1000000) (hc : canZ 1000000 14 n = true ∨ True) (hN : True) (P : Int → Int → Prop) (ht : takesZ 14 ≤ (r.st.length : Int))
    (hn : ∀ q ∈ nextZ 14 n r.at_, P q ((r.st.length : Int) - takesZ 14 + putsZ 14)) : vdo 14 n kind arg r ≠ none ∧ ∀ r', vdo 14 n kind arg r = some (some r') → r'.cs.length = 4 ∧ (r'.en = 0 → P r'.at_ (r'.st.length : Int)) := by
  obtain ⟨cs, st, at_, en, rt⟩ := r
  simp only at h4 he h0 h1 ht hn
  rw [show takesZ 14 = 2 from by decide] at ht hn
  rw [show putsZ 14 = 1 from by decide] at hn
  have hw := vm_w at_ h0 h1
  have hq := hn (at_ + 1) (by simp [nextZ])
  unfold vdo
  rw [if_neg (by decide)]
  rw [if_neg (by decide)]
  rw [if_neg (by decide)]
  rw [if_neg (by decide)]
  rw [if_neg (by decide)]
  rw [if_neg (by decide)]
  rw [if_neg (by decide)]
  rw [if_neg (by decide)]
  rw [if_neg (by decide)]
  rw [if_neg (by decide)]
  rw [if_neg (by decide)]
  rw [if_neg (by decide)]
  rw [if_neg (by decide)]
  cases st with
  | nil => simp at ht
  | cons b s =>
    cases s with
    | nil => exact absurd ht (by simp)
    | cons a s =>
      dsimp only
      cases hv : vtwo 14 a b with
      | none => exact ⟨by simp, fun r' h => by simp at h⟩
      | some v =>
        dsimp only
        refine ⟨by simp, fun r' h => ?_⟩
        cases h
        refine ⟨h4, fun hz => ?_⟩
        simp only [hw, List.length_cons] at hq ⊢
        refine (congrArg (P _) ?_).mp hq
        omega
theorem vdo_good15 (n kind arg : Int) (r : VR) (h4 : r.cs.length = 4) (he : r.en = 0) (h0 : 0 ≤ r.at_) (h1 : r.at_ < 1000000) (hc : canZ 1000000 15 n = true ∨ True) (hN : True) (P : Int → Int → Prop) (ht : takesZ 15 ≤ (r.st.length : Int))
    (hn : ∀ q ∈ nextZ 15 n r.at_, P q ((r.st.length : Int) - takesZ 15 + putsZ 15)) : vdo 15 n kind arg r ≠ none ∧ ∀ r', vdo 15 n kind arg r = some (some r') → r'.cs.length = 4 ∧ (r'.en = 0 → P r'.at_ (r'.st.length : Int)) := by
  obtain ⟨cs, st, at_, en, rt⟩ := r
  simp only at h4 he h0 h1 ht hn
  rw [show takesZ 15 = 1 from by decide] at ht hn
  rw [show putsZ 15 = 1 from by decide] at hn
  have hw := vm_w at_ h0 h1
  have hq := hn (at_ + 1) (by simp [nextZ])
  unfold vdo
  rw [if_neg (by decide)]
  rw [if_neg (by decide)]
  rw [if_neg (by decide)]
  rw [if_neg (by decide)]
  rw [if_neg (by decide)]
  rw [if_neg (by decide)]
  rw [if_neg (by decide)]
  rw [if_neg (by decide)]
  rw [if_pos (by decide)]
  cases st with
  | nil => simp at ht
  | cons x s =>
    dsimp only
    refine ⟨by simp, fun r' h => ?_⟩
    cases h
    refine ⟨h4, fun hz => ?_⟩
    simp only [hw, List.length_cons] at hq ⊢
    refine (congrArg (P _) ?_).mp hq
    omega
theorem vdo_good16 (n kind arg : Int) (r : VR) (h4 : r.cs.length = 4) (he : r.en = 0) (h0 : 0 ≤ r.at_) (h1 : r.at_ < 1000000) (hc : canZ 1000000 16 n = true ∨ True) (hN : True) (P : Int → Int → Prop) (ht : takesZ 16 ≤ (r.st.length : Int))
    (hn : ∀ q ∈ nextZ 16 n r.at_, P q ((r.st.length : Int) - takesZ 16 + putsZ 16)) : vdo 16 n kind arg r ≠ none ∧ ∀ r', vdo 16 n kind arg r = some (some r') → r'.cs.length = 4 ∧ (r'.en = 0 → P r'.at_ (r'.st.length : Int)) := by
  obtain ⟨cs, st, at_, en, rt⟩ := r
  simp only at h4 he h0 h1 ht hn
  rw [show takesZ 16 = 0 from by decide] at ht hn
  rw [show putsZ 16 = 0 from by decide] at hn
  have hw := vm_w at_ h0 h1
  have hq := hn n (by simp [nextZ])
  unfold vdo
  rw [if_neg (by decide)]
  rw [if_neg (by decide)]
  rw [if_neg (by decide)]
  rw [if_neg (by decide)]
  rw [if_neg (by decide)]
  rw [if_neg (by decide)]
  rw [if_neg (by decide)]
  rw [if_neg (by decide)]
  rw [if_neg (by decide)]
  rw [if_pos (by decide)]
  refine ⟨by simp, fun r' h => ?_⟩
  cases h
  refine ⟨h4, fun hz => ?_⟩
  simp only [List.length_cons] at hq ⊢
  refine (congrArg (P _) ?_).mp hq
  omega
theorem vdo_good17 (n kind arg : Int) (r : VR) (h4 : r.cs.length = 4) (he : r.en = 0) (h0 : 0 ≤ r.at_) (h1 : r.at_ < 1000000) (hc : canZ 1000000 17 n = true ∨ True) (hN : True) (P : Int → Int → Prop) (ht : takesZ 17 ≤ (r.st.length : Int))
    (hn : ∀ q ∈ nextZ 17 n r.at_, P q ((r.st.length : Int) - takesZ 17 + putsZ 17)) : vdo 17 n kind arg r ≠ none ∧ ∀ r', vdo 17 n kind arg r = some (some r') → r'.cs.length = 4 ∧ (r'.en = 0 → P r'.at_ (r'.st.length : Int)) := by
  obtain ⟨cs, st, at_, en, rt⟩ := r
  simp only at h4 he h0 h1 ht hn
  rw [show takesZ 17 = 1 from by decide] at ht hn
  rw [show putsZ 17 = 0 from by decide] at hn
  have hw := vm_w at_ h0 h1
  have hq := hn (at_ + 1) (by simp [nextZ])
  have hq2 := hn n (by simp [nextZ])
  unfold vdo
  rw [if_neg (by decide)]
  rw [if_neg (by decide)]
  rw [if_neg (by decide)]
  rw [if_neg (by decide)]
  rw [if_neg (by decide)]
  rw [if_neg (by decide)]
  rw [if_neg (by decide)]
  rw [if_neg (by decide)]
  rw [if_neg (by decide)]
  rw [if_neg (by decide)]
  rw [if_pos (by decide)]
  cases st with
  | nil => simp at ht
  | cons x s =>
    dsimp only
    by_cases hx : x = 0
    · rw [if_pos hx]
      refine ⟨by simp, fun r' h => ?_⟩
      cases h
      refine ⟨h4, fun hz => ?_⟩
      simp only [List.length_cons] at hq2 ⊢
      refine (congrArg (P _) ?_).mp hq2
      omega
    · rw [if_neg hx]
      refine ⟨by simp, fun r' h => ?_⟩
      cases h
      refine ⟨h4, fun hz => ?_⟩
      simp only [hw, List.length_cons] at hq ⊢
      refine (congrArg (P _) ?_).mp hq
      omega
theorem vdo_good18 (n kind arg : Int) (r : VR) (h4 : r.cs.length = 4) (he : r.en = 0) (h0 : 0 ≤ r.at_) (h1 : r.at_ < 1000000) (hc : canZ 1000000 18 n = true ∨ True) (hN : True) (P : Int → Int → Prop) (ht : takesZ 18 ≤ (r.st.length : Int))
    (hn : ∀ q ∈ nextZ 18 n r.at_, P q ((r.st.length : Int) - takesZ 18 + putsZ 18)) : vdo 18 n kind arg r ≠ none ∧ ∀ r', vdo 18 n kind arg r = some (some r') → r'.cs.length = 4 ∧ (r'.en = 0 → P r'.at_ (r'.st.length : Int)) := by
  obtain ⟨cs, st, at_, en, rt⟩ := r
  simp only at h4 he h0 h1 ht hn
  rw [show takesZ 18 = 1 from by decide] at ht hn
  rw [show putsZ 18 = 0 from by decide] at hn
  have hw := vm_w at_ h0 h1
  unfold vdo
  rw [if_neg (by decide)]
  rw [if_neg (by decide)]
  rw [if_neg (by decide)]
  rw [if_neg (by decide)]
  rw [if_neg (by decide)]
  rw [if_neg (by decide)]
  rw [if_neg (by decide)]
  rw [if_neg (by decide)]
  rw [if_neg (by decide)]
  rw [if_neg (by decide)]
  rw [if_neg (by decide)]
  rw [if_pos (by decide)]
  cases st with
  | nil => simp at ht
  | cons x s =>
    dsimp only
    refine ⟨by simp, fun r' h => ?_⟩
    cases h
    refine ⟨h4, fun hz => ?_⟩
    simp at hz
theorem vdo_good19 (n kind arg : Int) (r : VR) (h4 : r.cs.length = 4) (he : r.en = 0) (h0 : 0 ≤ r.at_) (h1 : r.at_ < 1000000) (hc : canZ 1000000 19 n = true ∨ True) (hN : True) (P : Int → Int → Prop) (ht : takesZ 19 ≤ (r.st.length : Int))
    (hn : ∀ q ∈ nextZ 19 n r.at_, P q ((r.st.length : Int) - takesZ 19 + putsZ 19)) : vdo 19 n kind arg r ≠ none ∧ ∀ r', vdo 19 n kind arg r = some (some r') → r'.cs.length = 4 ∧ (r'.en = 0 → P r'.at_ (r'.st.length : Int)) := by
  obtain ⟨cs, st, at_, en, rt⟩ := r
  simp only at h4 he h0 h1 ht hn
  rw [show takesZ 19 = 0 from by decide] at ht hn
  rw [show putsZ 19 = 0 from by decide] at hn
  have hw := vm_w at_ h0 h1
  unfold vdo
  rw [if_neg (by decide)]
  rw [if_neg (by decide)]
  rw [if_neg (by decide)]
  rw [if_neg (by decide)]
  rw [if_neg (by decide)]
  rw [if_neg (by decide)]
  rw [if_neg (by decide)]
  rw [if_neg (by decide)]
  rw [if_neg (by decide)]
  rw [if_neg (by decide)]
  rw [if_neg (by decide)]
  rw [if_neg (by decide)]
  rw [if_pos (by decide)]
  refine ⟨by simp, fun r' h => ?_⟩
  cases h
  refine ⟨h4, fun hz => ?_⟩
  simp at hz
theorem vdo_good (op n kind arg : Int) (r : VR) (hop : 0 ≤ op ∧ op ≤ 19) (h4 : r.cs.length = 4) (he : r.en = 0) (h0 : 0 ≤ r.at_) (h1 : r.at_ < 1000000) (hN : op = 4 ∨ op = 5 → 0 ≤ n ∧ n < 4) (P : Int → Int → Prop) (ht : takesZ op ≤ (r.st.length : Int))
    (hn : ∀ q ∈ nextZ op n r.at_, P q ((r.st.length : Int) - takesZ op + putsZ op)) : vdo op n kind arg r ≠ none ∧ ∀ r', vdo op n kind arg r = some (some r') → r'.cs.length = 4 ∧ (r'.en = 0 → P r'.at_ (r'.st.length : Int)) := by
  rcases vm_pick op hop with rfl | rfl | rfl | rfl | rfl | rfl | rfl | rfl | rfl | rfl | rfl | rfl | rfl | rfl | rfl | rfl | rfl | rfl | rfl | rfl
  · exact vdo_good0 n kind arg r h4 he h0 h1 (.inr trivial) trivial P ht hn
  · exact vdo_good1 n kind arg r h4 he h0 h1 (.inr trivial) trivial P ht hn
  · exact vdo_good2 n kind arg r h4 he h0 h1 (.inr trivial) trivial P ht hn
  · exact vdo_good3 n kind arg r h4 he h0 h1 (.inr trivial) trivial P ht hn
  · exact vdo_good4 n kind arg r h4 he h0 h1 (.inr trivial) (hN (by decide)) P ht hn
  · exact vdo_good5 n kind arg r h4 he h0 h1 (.inr trivial) (hN (by decide)) P ht hn
  · exact vdo_good6 n kind arg r h4 he h0 h1 (.inr trivial) trivial P ht hn
  · exact vdo_good7 n kind arg r h4 he h0 h1 (.inr trivial) trivial P ht hn
  · exact vdo_good8 n kind arg r h4 he h0 h1 (.inr trivial) trivial P ht hn
  · exact vdo_good9 n kind arg r h4 he h0 h1 (.inr trivial) trivial P ht hn
  · exact vdo_good10 n kind arg r h4 he h0 h1 (.inr trivial) trivial P ht hn
  · exact vdo_good11 n kind arg r h4 he h0 h1 (.inr trivial) trivial P ht hn
  · exact vdo_good12 n kind arg r h4 he h0 h1 (.inr trivial) trivial P ht hn
  · exact vdo_good13 n kind arg r h4 he h0 h1 (.inr trivial) trivial P ht hn
  · exact vdo_good14 n kind arg r h4 he h0 h1 (.inr trivial) trivial P ht hn
  · exact vdo_good15 n kind arg r h4 he h0 h1 (.inr trivial) trivial P ht hn
  · exact vdo_good16 n kind arg r h4 he h0 h1 (.inr trivial) trivial P ht hn
  · exact vdo_good17 n kind arg r h4 he h0 h1 (.inr trivial) trivial P ht hn
  · exact vdo_good18 n kind arg r h4 he h0 h1 (.inr trivial) trivial P ht hn
  · exact vdo_good19 n kind arg r h4 he h0 h1 (.inr trivial) trivial P ht hn
theorem canZ_cell (m op N : Int) (h : canZ m op N = true) (ho : op = 4 ∨ op = 5) : 0 ≤ N ∧ N < 4 := by
  unfold canZ at h
  rw [if_neg (by omega), if_pos ho] at h
  exact of_decide_eq_true h
/-- Code that fits together runs, whatever the fuel; state and answer. -/
theorem vgo_good (L : List S36) (dep : List Int) (g : Good L dep) (kind arg : Int) (c0 : List Int) (h0 : c0.length = 4) : ∀ (f : Nat) (u : Int) (r : VR), r.cs.length = 4 → (r.en = 0 → 0 ≤ r.at_ ∧ r.at_ < (L.length : Int) ∧ rd dep r.at_ = (r.st.length : Int)) →
    ∃ rk rs rr ru, vgo L kind arg c0 f u r = some (rk, rs, rr, ru) ∧ rs.length = 4 ∧ u ≤ ru ∧ ru ≤ u + f := by
  intro f
  induction f with
  | zero =>
    intro u r h4 hr
    by_cases he : r.en = 0
    · exact ⟨_, _, _, _, vgo_0 he, h0, by omega, by omega⟩
    · by_cases he2 : r.en = 2
      · exact ⟨_, _, _, _, vgo_2 he2, h0, by omega, by omega⟩
      · exact ⟨_, _, _, _, vgo_1 he he2, h4, by omega, by omega⟩
  | succ f ih =>
    intro u r h4 hr
    by_cases he : r.en = 0
    · obtain ⟨p0, p1, p2⟩ := hr he
      obtain ⟨a, ha⟩ := Int.eq_ofNat_of_zero_le p0
      rw [ha] at p1 p2
      have hal : a < L.length := by omega
      have lo := g.lo a hal
      have cl := g.closed a hal (by omega)
      have cn := g.cans a hal
      have hop := canZ_op _ _ _ cn
      have hmo := g.most
      obtain ⟨_, c1, c2, c3⟩ := cl
      rw [p2] at c1 c2 c3
      have key := vdo_good (rd_T36 L a).f0 (rd_T36 L a).f1 kind arg r hop h4 he p0 (by omega) (canZ_cell _ _ _ cn) (fun q d => 0 ≤ q ∧ q < (L.length : Int) ∧ rd dep q = d) c1 (by rw [ha]; exact c3)
      unfold vgo
      rw [if_pos he]
      dsimp only
      rw [ha, if_pos ⟨by omega, by omega, by omega, hop.1, hop.2⟩]
      obtain ⟨k1, k2⟩ := key
      cases hv : vdo (rd_T36 L a).f0 (rd_T36 L a).f1 kind arg r with
      | none => exact absurd hv k1
      | some o =>
        cases o with
        | none => exact ⟨_, _, _, _, rfl, h0, by omega, by omega⟩
        | some r' =>
          obtain ⟨m4, m5⟩ := k2 r' hv
          obtain ⟨rk, rs, rr, ru, e1, e2, e3, e4⟩ := ih (u + 1) r' m4 m5
          exact ⟨rk, rs, rr, ru, e1, e2, by omega, by omega⟩
    · by_cases he2 : r.en = 2
      · exact ⟨_, _, _, _, vgo_2 he2, h0, by omega, by omega⟩
      · exact ⟨_, _, _, _, vgo_1 he he2, h4, by omega, by omega⟩
theorem vstep_good (L : List S36) (h : (thru L).2.2 = 0) (c0 : List Int) (h0 : c0.length = 4) (kind arg fuel : Int) : ∃ rk rs rr ru, vstep L c0 kind arg fuel = some (rk, rs, rr, ru) ∧ rs.length = 4 ∧ 0 ≤ ru ∧ ru ≤ (fuel.toNat : Int) := by
  have g := thru_good L h
  obtain ⟨rk, rs, rr, ru, e1, e2, e3, e4⟩ := vgo_good L _ g kind arg c0 h0 fuel.toNat 0 ⟨c0, [], 0, 0, 0⟩ h0 (fun _ => ⟨by simp, by have := g.pos; simp; omega, by have := g.zero; simpa using this⟩)
  exact ⟨rk, rs, rr, ru, e1, e2, e3, by omega⟩
end Go.Proofs.Ytddkoimaghcbeaa.PVmSteps
