/- A part of what the law LinWhole stands on, only as far as it is needed (the words and walks were printed or written in this seat; this text was cut by a program of this session, wip/bin/trim.py). No condition beyond what each theorem says. -/
import Derived.Test.YtddkoimaghcbeaaZLWPVmStepsx0
import Derived.Test.YtddkoimaghcbeaaZLWPVmStepsx2
import Derived.Test.YtddkoimaghcbeaaZLWPVmStepsx3
import Derived.Test.YtddkoimaghcbeaaZLWPVmStepsx4
import Derived.Test.YtddkoimaghcbeaaZLWPVmStepsx5
import Derived.Test.YtddkoimaghcbeaaZLWTmplje
import Derived.Test.YtddkoimaghcbeaaZLWTmpljt
namespace Go.Proofs.Ytddkoimaghcbeaa.PVmSteps
open Go.RowKit Go.Proofs.YtddkoimaghcbeaaW.PrintWords Go.Proofs.YtddkoimaghcbeaaW.PrintLast Go.Proofs.YtddkoimaghcbeaaW.PrintMore
set_option linter.unusedVariables false
set_option linter.unusedSimpArgs false
def DstZ (n : Nat) (o : List Int) : Prop := (∀ x ∈ o, 0 ≤ x ∧ x < (n : Int)) ∧ o.Pairwise (· ≠ ·)
theorem filt_len (a : Int) : ∀ o : List Int, o.Pairwise (· ≠ ·) → o.length ≤ (o.filter (fun x => x != a)).length + 1
  | [], _ => by simp
  | x :: o, h => by
    rw [List.pairwise_cons] at h
    have ih := filt_len a o h.2
    by_cases c : x = a
    · subst c
      have e : o.filter (fun y => y != x) = o := List.filter_eq_self.mpr (fun y hy => by simpa using (h.1 y hy).symm)
      rw [List.filter_cons_of_neg (by simp), e]
      simp
    · rw [List.filter_cons_of_pos (by simpa using c)]
      simp only [List.length_cons]
      omega
theorem pig : ∀ (n : Nat) (o : List Int), DstZ n o → o.length ≤ n
  | 0, o, h => by
    cases o with
    | nil => simp
    | cons x o => have := h.1 x (by simp); omega
  | n + 1, o, h => by
    have h1 := filt_len (n : Int) o h.2
    have h2 := pig n (o.filter (fun x => x != (n : Int))) ⟨fun x hx => by
      have y := List.mem_filter.mp hx
      have y1 := h.1 x y.1
      have y2 : x ≠ (n : Int) := by simpa using y.2
      omega, h.2.sublist (List.filter_sublist)⟩
    omega
theorem DstZ.snoc {n : Nat} {o : List Int} (h : DstZ n o) {x : Int} (h0 : 0 ≤ x) (h1 : x < (n : Int)) (h2 : x ∉ o) : DstZ n (o ++ [x]) := by
  refine ⟨fun y hy => ?_, ?_⟩
  · rcases List.mem_append.mp hy with hy | hy
    · exact h.1 y hy
    · simp at hy; subst hy; exact ⟨h0, h1⟩
  · rw [List.pairwise_append]
    exact ⟨h.2, by simp, fun a ha b hb => by simp at hb; subst hb; intro e; exact h2 (e ▸ ha)⟩
def anyB (g : Nat → Bool) : Nat → Nat → Bool
  | 0, _ => false
  | k + 1, i => g i || anyB g k (i + 1)
theorem anyB_iff (g : Nat → Bool) : ∀ k i, anyB g k i = true ↔ ∃ j, i ≤ j ∧ j < i + k ∧ g j = true
  | 0, i => by simp only [anyB]; constructor
               · intro h; cases h
               · rintro ⟨j, h1, h2, _⟩; omega
  | k + 1, i => by
    rw [anyB, Bool.or_eq_true, anyB_iff g k (i + 1)]
    constructor
    · rintro (h | ⟨j, h1, h2, h3⟩)
      · exact ⟨i, Nat.le_refl _, by omega, h⟩
      · exact ⟨j, by omega, by omega, h3⟩
    · rintro ⟨j, h1, h2, h3⟩
      by_cases e : j = i
      · subst e; exact .inl h3
      · exact .inr ⟨j, by omega, by omega, h3⟩
def ordB (C : List Int → Bool) (n : Nat) : Nat → List Int → Bool
  | 0, o => C o
  | d + 1, o => C o || anyB (fun i => !(o.contains (i : Int)) && ordB C n d (o ++ [(i : Int)])) n 0
theorem ordB_iff (C : List Int → Bool) (n : Nat) : ∀ (d : Nat) (o : List Int), DstZ n o → (ordB C n d o = true ↔ ∃ z : List Int, z.length ≤ d ∧ DstZ n (o ++ z) ∧ C (o ++ z) = true)
  | 0, o, h => by
    rw [ordB]
    constructor
    · intro e; exact ⟨[], by simp, by simpa using h, by simpa using e⟩
    · rintro ⟨z, h1, _, h3⟩
      have : z = [] := List.length_eq_zero_iff.mp (by omega)
      subst this
      simpa using h3
  | d + 1, o, h => by
    rw [ordB, Bool.or_eq_true, anyB_iff]
    constructor
    · rintro (e | ⟨j, _, h2, h3⟩)
      · exact ⟨[], by simp, by simpa using h, by simpa using e⟩
      · rw [Bool.and_eq_true] at h3
        have hn : (j : Int) ∉ o := by simpa using h3.1
        have hd := h.snoc (x := (j : Int)) (by omega) (by omega) hn
        obtain ⟨z, z1, z2, z3⟩ := (ordB_iff C n d _ hd).mp h3.2
        exact ⟨(j : Int) :: z, by simp; omega, by simpa using z2, by simpa using z3⟩
    · rintro ⟨z, h1, h2, h3⟩
      cases z with
      | nil => exact .inl (by simpa using h3)
      | cons x z =>
        have hx := h2.1 x (by simp)
        have hxo : x ∉ o := fun hm => by
          have y := (List.pairwise_append.mp h2.2).2.2 x hm x (by simp)
          exact y rfl
        refine .inr ⟨x.toNat, Nat.zero_le _, by omega, ?_⟩
        have e : ((x.toNat : Nat) : Int) = x := by omega
        rw [e, Bool.and_eq_true]
        refine ⟨by simpa using hxo, (ordB_iff C n d _ (h.snoc hx.1 hx.2 hxo)).mpr ⟨z, by simp at h1; omega, ?_, ?_⟩⟩
        · rw [List.append_assoc]; exact h2
        · rw [List.append_assoc]; exact h3
/-- The last places of a round: what is left to be looked at. -/
theorem ordB_any {C : List Int → Bool} {n d : Nat} {o : List Int} (h : DstZ n o) (hd : o.length + d = n) (hc : C o = false) : ordB C n d o = anyB (fun i => !(o.contains (i : Int)) && ordB C n (d - 1) (o ++ [(i : Int)])) n 0 := by
  cases d with
  | succ d => rw [ordB, hc, Bool.false_or]; rfl
  | zero =>
    rw [ordB, hc]
    symm
    rw [Bool.eq_false_iff]
    intro e
    obtain ⟨j, _, h2, h3⟩ := (anyB_iff _ _ _).mp e
    rw [Bool.and_eq_true] at h3
    have hn : (j : Int) ∉ o := by simpa using h3.1
    have y := pig n _ (h.snoc (x := (j : Int)) (by omega) (by omega) hn)
    simp at y
    omega
theorem ordB_t {C : List Int → Bool} {n d : Nat} {o : List Int} (hc : C o = true) : ordB C n d o = true := by
  cases d <;> simp [ordB, hc]
theorem take_has (o : List Int) (k : Nat) (hk : k < o.length) (x : Int) : (o.take (k + 1)).contains x = ((o.take k).contains x || (rd o (k : Int) == x)) := by
  rw [List.take_add_one, List.getElem?_eq_getElem hk]
  simp only [Option.toList_some, List.contains_append]
  congr 1
  rw [show rd o (k : Int) = o[k] from by simp [rd, List.getElem?_eq_getElem hk]]
  simp only [List.contains_cons, List.contains_nil, Bool.or_false]
  exact Bool.beq_comm
end Go.Proofs.Ytddkoimaghcbeaa.PVmSteps
