/- A part of what the law LinTells stands on, only as far as it is needed (the words and walks were printed or written in this seat; this text was cut by a program of this session, wip/bin/trim.py). No condition beyond what each theorem says. -/
import Derived.Test.YtddkoimaghcbeaaZLTPVmStepsx0
import Derived.Test.YtddkoimaghcbeaaZLTPVmStepsx2
import Derived.Test.YtddkoimaghcbeaaZLTPVmStepsx3
import Derived.Test.YtddkoimaghcbeaaZLTPVmStepsx4
import Derived.Test.YtddkoimaghcbeaaZLTPVmStepsx5
import Derived.Test.YtddkoimaghcbeaaZLTPVmStepsx6
import Derived.Test.YtddkoimaghcbeaaZLTTmplja
section
namespace Go.Proofs.Ytddkoimaghcbeaa.PVmSteps
open Go.RowKit Go.Proofs.YtddkoimaghcbeaaW.PrintWords Go.Proofs.YtddkoimaghcbeaaW.PrintLast Go.Proofs.YtddkoimaghcbeaaW.PrintMore
set_option linter.unusedVariables false
set_option linter.unusedSimpArgs false
/-- A search that is gone through at once. -/
def fullZ (q : LinQ) : LinS := goZ q 2147483648 (newZ q)
theorem fullZ_over {L : List S36} {fuel budget : Int} {ops : List S65} (h : newE L fuel budget ops = 0) : (fullZ ⟨L, fuel, budget, ops⟩).over = true := goZ_fin (newE_0 h).1 (newE_W h) (by have := (newE_0 h).2.1; show budget < _; omega)
theorem fullZ_W {L : List S36} {fuel budget : Int} {ops : List S65} (h : newE L fuel budget ops = 0) : LinW ⟨L, fuel, budget, ops⟩ (fullZ ⟨L, fuel, budget, ops⟩) := LinW.go (newE_0 h).1 _ (newE_W h)
end Go.Proofs.Ytddkoimaghcbeaa.PVmSteps
end
section
namespace Go.Proofs.Ytddkoimaghcbeaa.PVmSteps
open Go.RowKit Go.Proofs.YtddkoimaghcbeaaW.PrintWords Go.Proofs.YtddkoimaghcbeaaW.PrintLast Go.Proofs.YtddkoimaghcbeaaW.PrintMore
set_option linter.unusedVariables false
set_option linter.unusedSimpArgs false
abbrev r0Z : Ps := (0, [0, 0, 0, 0])
/-- All that are done are in the set. -/
def FullP (ops : List S65) (s : Nat) : Prop := s &&& mustZ ops = mustZ ops
theorem full_iff {ops : List S65} {s : Nat} : FullP ops s ↔ ∀ j : Nat, j < ops.length → (rd_T65 ops (j : Int)).f3 = true → s.testBit j = true := by
  unfold FullP
  constructor
  · intro h j hj hf
    have e := congrArg (fun z => z.testBit j) h
    simp only [Nat.testBit_and, mustZ, mask_bit, hj, decide_true, hf, Bool.and_true] at e
    exact e
  · intro h
    refine Nat.eq_of_testBit_eq (fun j => ?_)
    rw [Nat.testBit_and, mustZ, mask_bit]
    by_cases hj : j < ops.length
    · cases hf : (rd_T65 ops (j : Int)).f3 with
      | false => simp
      | true => simp [hj, h j hj hf]
    · simp [hj]
theorem free_iff {ops : List S65} {s j : Nat} : freeZ ops s j = true ↔ s.testBit j = false ∧ ∀ k : Nat, k < ops.length → befZ (rd_T65 ops (k : Int)) (rd_T65 ops (j : Int)) = true → s.testBit k = true := by
  unfold freeZ
  rw [Bool.and_eq_true, Bool.not_eq_true', decide_eq_true_iff, lack_0]
  constructor
  · rintro ⟨h1, h2⟩
    exact ⟨h1, fun k hk hb => h2 k (by rw [aheadZ, mask_bit]; simp [hk, hb])⟩
  · rintro ⟨h1, h2⟩
    refine ⟨h1, fun k hk => ?_⟩
    rw [aheadZ, mask_bit] at hk
    simp only [Bool.and_eq_true, decide_eq_true_iff] at hk
    exact h2 k hk.1 hk.2
end Go.Proofs.Ytddkoimaghcbeaa.PVmSteps
end
section
namespace Go.Proofs.Ytddkoimaghcbeaa.PVmSteps
open Go.RowKit Go.Proofs.YtddkoimaghcbeaaW.PrintWords Go.Proofs.YtddkoimaghcbeaaW.PrintLast Go.Proofs.YtddkoimaghcbeaaW.PrintMore
set_option linter.unusedVariables false
set_option linter.unusedSimpArgs false
/-- How many places from i on are not in the set; d: how many there are. -/
def cntD (s : Nat) : Nat → Nat → Nat
  | 0, _ => 0
  | d + 1, i => (if s.testBit i = true then 0 else 1) + cntD s d (i + 1)
def remZ (n s i : Nat) : Nat := cntD s (n - i) i
theorem cnt_step (n s i : Nat) (h : i < n) : remZ n s i = (if s.testBit i = true then 0 else 1) + remZ n s (i + 1) := by
  unfold remZ
  rw [show n - i = (n - (i + 1)) + 1 by omega, cntD]
theorem cnt_or (n s j : Nat) (hb : s.testBit j = false) (hj : j < n) : ∀ (d i : Nat), n - i = d → remZ n (s ||| 2 ^ j) i + (if i ≤ j then 1 else 0) = remZ n s i
  | 0, i, hd => by
    unfold remZ
    rw [show n - i = 0 by omega, if_neg (by omega)]
    rfl
  | d + 1, i, hd => by
    have ih := cnt_or n s j hb hj d (i + 1) (by omega)
    rw [cnt_step n _ i (by omega), cnt_step n s i (by omega), Nat.testBit_or, Nat.testBit_two_pow]
    by_cases e : j = i
    · subst e
      rw [if_neg (by omega)] at ih
      rw [hb]
      simp
      omega
    · by_cases c : i ≤ j
      · rw [if_pos (by omega)] at ih
        rw [if_pos c]
        simp [e]
        omega
      · rw [if_neg (by omega)] at ih
        rw [if_neg c]
        simp [e]
        omega
theorem cnt_full (n : Nat) : remZ n 0 0 = n := by
  have : ∀ d i : Nat, cntD 0 d i = d := by
    intro d
    induction d with
    | zero => intro i; rfl
    | succ d ih => intro i; rw [cntD, ih]; simp; omega
  unfold remZ
  rw [this]; rfl
end Go.Proofs.Ytddkoimaghcbeaa.PVmSteps
end
section
namespace Go.Proofs.Ytddkoimaghcbeaa.PVmSteps
open Go.RowKit Go.Proofs.YtddkoimaghcbeaaW.PrintWords Go.Proofs.YtddkoimaghcbeaaW.PrintLast Go.Proofs.YtddkoimaghcbeaaW.PrintMore
set_option linter.unusedVariables false
set_option linter.unusedSimpArgs false
theorem readyZ_idem (q : LinQ) (st : LinS) : readyZ q (readyZ q st).1 = readyZ q st := by
  by_cases c : st.over = true
  · have e : readyZ q st = (finZ st, false) := by unfold readyZ; rw [if_pos c]
    rw [e]
    unfold readyZ
    rw [if_pos (show (finZ st).over = true from c)]
    rfl
  · have hd : ∀ (l : List Fr) (o : List Int), (dueZ q.ops l o).1 = true → dueZ q.ops (dueZ q.ops l o).2.1 (dueZ q.ops l o).2.2 = dueZ q.ops l o := by
      intro l
      induction l with
      | nil => intro o h; simp [dueZ] at h
      | cons f r ih =>
        intro o h
        obtain ⟨p, i⟩ := f
        rw [dueZ] at h ⊢
        by_cases c2 : nexZ q.ops p.1 i < q.ops.length
        · simp only [if_pos c2]
          have hi : i ≤ q.ops.length := by
            by_cases c3 : i ≤ q.ops.length
            · exact c3
            · rw [nexZ_end _ _ _ (by omega)] at c2; omega
          have hf := (nextD_facts q.ops p.1 (q.ops.length - i) i).2.2.1 (by unfold nexZ at c2; omega)
          have hn : nexZ q.ops p.1 (nexZ q.ops p.1 i) = nexZ q.ops p.1 i := nexZ_here _ _ _ c2 hf
          rw [dueZ, hn, if_pos c2]
        · simp only [if_neg c2] at h ⊢
          exact ih _ h
    have hd := hd st.l st.order
    generalize hg : dueZ q.ops st.l st.order = d at hd
    obtain ⟨b, l, o⟩ := d
    cases b with
    | false =>
      have e : readyZ q st = (finZ { st with l := l, order := o, over := true, kind := 2 }, false) := by unfold readyZ; rw [if_neg c, hg]
      rw [e]
      unfold readyZ
      rw [if_pos (show (finZ _).over = true from rfl)]
      rfl
    | true =>
      have hd := hd rfl
      by_cases c2 : (st.tries : Int) = q.budget
      · have e : readyZ q st = (finZ { st with l := l, order := o, over := true, kind := 4 }, false) := by unfold readyZ; rw [if_neg c, hg]; dsimp only; rw [if_pos c2]
        rw [e]
        unfold readyZ
        rw [if_pos (show (finZ _).over = true from rfl)]
        rfl
      · have e : readyZ q st = ({ st with l := l, order := o }, true) := by unfold readyZ; rw [if_neg c, hg]; dsimp only; rw [if_neg c2]
        rw [e]
        unfold readyZ
        dsimp only at hd ⊢
        rw [if_neg c, hd]
        dsimp only
        rw [if_neg c2]
theorem goZ_ready (q : LinQ) : ∀ (m : Nat) (st : LinS), goZ q m (readyZ q st).1 = goZ q m st
  | 0, st => by rw [goZ, goZ, readyZ_idem]
  | m + 1, st => by rw [goZ, goZ, readyZ_idem]
theorem goZ_add (q : LinQ) : ∀ (n m : Nat) (st : LinS), goZ q m (goZ q n st) = goZ q (n + m) st
  | 0, m, st => by rw [Nat.zero_add, goZ, goZ_ready]
  | n + 1, m, st => by
    rw [show n + 1 + m = (n + m) + 1 by omega, goZ, goZ]
    by_cases c : (readyZ q st).2 = true
    · rw [if_pos c, if_pos c, goZ_add q n m]
    · rw [if_neg c, if_neg c, goZ_ready]
      cases m with
      | zero => rw [goZ]
      | succ m => rw [goZ, if_neg c]
theorem fullZ_beg (q : LinQ) : fullZ q = goZ q 2147483648 (begZ q) := by
  unfold fullZ newZ
  rw [goZ_add, Nat.zero_add]
end Go.Proofs.Ytddkoimaghcbeaa.PVmSteps
end
