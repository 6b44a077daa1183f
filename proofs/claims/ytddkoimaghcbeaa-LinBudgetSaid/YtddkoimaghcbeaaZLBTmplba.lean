/- A part of what the law LinBudget stands on, only as far as it is needed (the words and walks were printed or written in this seat; this text was cut by a program of this session, wip/bin/trim.py). No condition beyond what each theorem says. -/
import Derived.Test.YtddkoimaghcbeaaZLBPVmStepsx0
import Derived.Test.YtddkoimaghcbeaaZLBPVmStepsx2
import Derived.Test.YtddkoimaghcbeaaZLBPVmStepsx3
import Derived.Test.YtddkoimaghcbeaaZLBPVmStepsx4
import Derived.Test.YtddkoimaghcbeaaZLBPVmStepsx5
import Derived.Test.YtddkoimaghcbeaaZLBTmpljt
namespace Go.Proofs.Ytddkoimaghcbeaa.PVmSteps
open Go.RowKit Go.Proofs.YtddkoimaghcbeaaW.PrintWords Go.Proofs.YtddkoimaghcbeaaW.PrintLast Go.Proofs.YtddkoimaghcbeaaW.PrintMore
set_option linter.unusedVariables false
set_option linter.unusedSimpArgs false
theorem readyZ_idem (q : LinQ) (st : LinS) : readyZ q (readyZ q st).1 = readyZ q st := by
  by_cases c : st.over = true
  · have e : readyZ q st = (finZ st, false) := by unfold readyZ; rw [if_pos c]
    rw [e]
    unfold readyZ
    rw [if_pos (show (finZ st).over = true from c)]
    rfl
  · have hd : ∀ (l : List Fr) (o : List Int), (dueZ q.ops l o).1 = true → dueZ q.ops (dueZ q.ops l o).2.1 (dueZ q.ops l o).2.2 = dueZ q.ops l o := by
      intro l
      induction l with
      | nil => intro o h; simp [dueZ] at h
      | cons f r ih =>
        intro o h
        obtain ⟨p, i⟩ := f
        rw [dueZ] at h ⊢
        by_cases c2 : nexZ q.ops p.1 i < q.ops.length
        · simp only [if_pos c2]
          have hi : i ≤ q.ops.length := by
            by_cases c3 : i ≤ q.ops.length
            · exact c3
            · rw [nexZ_end _ _ _ (by omega)] at c2; omega
          have hf := (nextD_facts q.ops p.1 (q.ops.length - i) i).2.2.1 (by unfold nexZ at c2; omega)
          have hn : nexZ q.ops p.1 (nexZ q.ops p.1 i) = nexZ q.ops p.1 i := nexZ_here _ _ _ c2 hf
          rw [dueZ, hn, if_pos c2]
        · simp only [if_neg c2] at h ⊢
          exact ih _ h
    have hd := hd st.l st.order
    generalize hg : dueZ q.ops st.l st.order = d at hd
    obtain ⟨b, l, o⟩ := d
    cases b with
    | false =>
      have e : readyZ q st = (finZ { st with l := l, order := o, over := true, kind := 2 }, false) := by unfold readyZ; rw [if_neg c, hg]
      rw [e]
      unfold readyZ
      rw [if_pos (show (finZ _).over = true from rfl)]
      rfl
    | true =>
      have hd := hd rfl
      by_cases c2 : (st.tries : Int) = q.budget
      · have e : readyZ q st = (finZ { st with l := l, order := o, over := true, kind := 4 }, false) := by unfold readyZ; rw [if_neg c, hg]; dsimp only; rw [if_pos c2]
        rw [e]
        unfold readyZ
        rw [if_pos (show (finZ _).over = true from rfl)]
        rfl
      · have e : readyZ q st = ({ st with l := l, order := o }, true) := by unfold readyZ; rw [if_neg c, hg]; dsimp only; rw [if_neg c2]
        rw [e]
        unfold readyZ
        dsimp only at hd ⊢
        rw [if_neg c, hd]
        dsimp only
        rw [if_neg c2]
theorem goZ_ready (q : LinQ) : ∀ (m : Nat) (st : LinS), goZ q m (readyZ q st).1 = goZ q m st
  | 0, st => by rw [goZ, goZ, readyZ_idem]
  | m + 1, st => by rw [goZ, goZ, readyZ_idem]
theorem goZ_add (q : LinQ) : ∀ (n m : Nat) (st : LinS), goZ q m (goZ q n st) = goZ q (n + m) st
  | 0, m, st => by rw [Nat.zero_add, goZ, goZ_ready]
  | n + 1, m, st => by
    rw [show n + 1 + m = (n + m) + 1 by omega, goZ, goZ]
    by_cases c : (readyZ q st).2 = true
    · rw [if_pos c, if_pos c, goZ_add q n m]
    · rw [if_neg c, if_neg c, goZ_ready]
      cases m with
      | zero => rw [goZ]
      | succ m => rw [goZ, if_neg c]
theorem fullZ_beg (q : LinQ) : fullZ q = goZ q 2147483648 (begZ q) := by
  unfold fullZ newZ
  rw [goZ_add, Nat.zero_add]
theorem ready_bud (L : List S36) (f bE b : Int) (ops : List S65) (st : LinS) (h1 : (st.tries : Int) ≠ b) (h2 : (st.tries : Int) ≠ bE) : readyZ ⟨L, f, bE, ops⟩ st = readyZ ⟨L, f, b, ops⟩ st := by
  unfold readyZ
  dsimp only
  by_cases c : st.over = true
  · rw [if_pos c, if_pos c]
  rw [if_neg c, if_neg c]
  generalize dueZ ops st.l st.order = d
  obtain ⟨x, l, o⟩ := d
  cases x with
  | false => rfl
  | true => dsimp only; rw [if_neg h1, if_neg h2]
theorem try_bud (L : List S36) (f bE b : Int) (ops : List S65) (st : LinS) : tryZ ⟨L, f, bE, ops⟩ st = tryZ ⟨L, f, b, ops⟩ st := rfl
/-- Ready at the very number of tries: it ends, or it ends as it did. -/
theorem ready_at (L : List S36) (f bE b : Int) (ops : List S65) (st : LinS) (h1 : (st.tries : Int) = b) :
    ((readyZ ⟨L, f, b, ops⟩ st).2 = false) ∧ ((readyZ ⟨L, f, bE, ops⟩ st).2 = false ∧ ((readyZ ⟨L, f, bE, ops⟩ st).1 = (readyZ ⟨L, f, b, ops⟩ st).1 ∨ (readyZ ⟨L, f, bE, ops⟩ st).1.kind = 4) ∨ (readyZ ⟨L, f, bE, ops⟩ st).2 = true ∧ (readyZ ⟨L, f, b, ops⟩ st).1.over = true ∧ (readyZ ⟨L, f, b, ops⟩ st).1.kind = 4 ∧ ((readyZ ⟨L, f, b, ops⟩ st).1.tries : Int) = b) := by
  unfold readyZ
  dsimp only
  by_cases c : st.over = true
  · rw [if_pos c, if_pos c]; exact ⟨rfl, .inl ⟨rfl, .inl rfl⟩⟩
  rw [if_neg c, if_neg c]
  generalize dueZ ops st.l st.order = d
  obtain ⟨x, l, o⟩ := d
  cases x with
  | false => exact ⟨rfl, .inl ⟨rfl, .inl rfl⟩⟩
  | true =>
    dsimp only
    rw [if_pos h1]
    by_cases c2 : (st.tries : Int) = bE
    · rw [if_pos c2]; exact ⟨rfl, .inl ⟨rfl, .inr rfl⟩⟩
    · rw [if_neg c2]; exact ⟨rfl, .inr ⟨rfl, rfl, rfl, h1⟩⟩
theorem ready_stop (L : List S36) (f bE : Int) (ops : List S65) (st : LinS) (h1 : (st.tries : Int) = bE) : (readyZ ⟨L, f, bE, ops⟩ st).2 = false := (ready_at L f bE bE ops st h1).1
theorem go_bud {L : List S36} {f bE b : Int} {ops : List S65} (hc : (thru L).2.2 = 0) (hb0 : 0 ≤ b) (hb1 : b ≤ 1073741824) : ∀ (k : Nat) (st : LinS), LinW ⟨L, f, bE, ops⟩ st → (st.tries : Int) ≤ b → (goZ ⟨L, f, bE, ops⟩ k st).over = true → (goZ ⟨L, f, bE, ops⟩ k st).kind ≠ 4 →
    (((goZ ⟨L, f, bE, ops⟩ k st).tries : Int) ≤ b → goZ ⟨L, f, b, ops⟩ k st = goZ ⟨L, f, bE, ops⟩ k st) ∧
    (b < ((goZ ⟨L, f, bE, ops⟩ k st).tries : Int) → (goZ ⟨L, f, b, ops⟩ k st).over = true ∧ (goZ ⟨L, f, b, ops⟩ k st).kind = 4 ∧ ((goZ ⟨L, f, b, ops⟩ k st).tries : Int) = b) := by
  intro k
  induction k with
  | zero =>
    intro st hW ht ho hk
    have t1 := (readyZ_tries ⟨L, f, bE, ops⟩ st)
    rw [goZ] at ho hk ⊢
    rw [goZ]
    refine ⟨fun _ => ?_, fun h => absurd h (by rw [t1.1]; omega)⟩
    by_cases c : (st.tries : Int) = b
    · rcases (ready_at L f bE b ops st c).2 with ⟨_, h | h⟩ | ⟨h, _⟩
      · exact h.symm
      · exact absurd h hk
      · exact no_ov ho (t1.2.1 h)
    · by_cases c2 : (st.tries : Int) = bE
      · have y := ready_at L f b bE ops st c2
        rcases y.2 with ⟨_, h | h⟩ | ⟨_, _, h, _⟩
        · exact h
        · rcases (show st.over = true ∨ st.over = false by cases st.over <;> simp) with z | z
          · unfold readyZ; rw [if_pos z, if_pos z]
          · exfalso
            unfold readyZ at h hk
            rw [if_neg (by simp [z])] at h hk
            dsimp only at h hk
            generalize dueZ ops st.l st.order = d at h hk
            obtain ⟨x, l, o⟩ := d
            cases x with
            | false => simp [finZ] at h
            | true => dsimp only at hk; rw [if_pos c2] at hk; exact hk rfl
        · exact absurd h hk
      · rw [ready_bud L f bE b ops st c c2]
  | succ k ih =>
    intro st hW ht ho hk
    have t1 := (readyZ_tries ⟨L, f, bE, ops⟩ st)
    have hr := hW.ready
    rw [goZ] at ho hk ⊢
    rw [goZ]
    by_cases e : (readyZ ⟨L, f, bE, ops⟩ st).2 = true
    · rw [if_pos e] at ho hk ⊢
      obtain ⟨h1, p, i, r, h2, h3, _⟩ := hr.2 e
      have hW2 := hr.1.try hc h1 h2 h3
      have htr := tryZ_tries ⟨L, f, bE, ops⟩ (readyZ ⟨L, f, bE, ops⟩ st).1
      rw [h2] at htr
      have htr : (tryZ ⟨L, f, bE, ops⟩ (readyZ ⟨L, f, bE, ops⟩ st).1).tries = (readyZ ⟨L, f, bE, ops⟩ st).1.tries + 1 := by
        rcases htr with h | h
        · exact h
        · cases h
      have hT := (goZ_tries hc k hW2).1
      by_cases c : (st.tries : Int) = b
      · rcases (ready_at L f bE b ops st c).2 with ⟨h, _⟩ | ⟨_, h4, h5, h6⟩
        · exact no_ov e h
        · have e2 := (ready_at L f bE b ops st c).1
          rw [if_neg (by simp [e2])]
          refine ⟨fun h => ?_, fun _ => ⟨h4, h5, h6⟩⟩
          exfalso
          have y1 := t1.1
          omega
      · have c2 : (st.tries : Int) ≠ bE := fun h => no_ov e (ready_stop L f bE ops st h)
        rw [← ready_bud L f bE b ops st c c2, if_pos e, ← try_bud L f bE b ops]
        refine ih _ hW2 ?_ ho hk
        have y1 := t1.1
        omega
    · rw [if_neg e] at ho hk ⊢
      have e' : (readyZ ⟨L, f, bE, ops⟩ st).2 = false := by simpa using e
      refine ⟨fun _ => ?_, fun h => absurd h (by rw [t1.1]; omega)⟩
      have key : readyZ ⟨L, f, b, ops⟩ st = readyZ ⟨L, f, bE, ops⟩ st := by
        rcases (show st.over = true ∨ st.over = false by cases st.over <;> simp) with z | z
        · unfold readyZ; rw [if_pos z, if_pos z]
        · unfold readyZ at e' hk ⊢
          rw [if_neg (by simp [z])] at e' hk ⊢
          rw [if_neg (by simp [z])]
          dsimp only at e' hk ⊢
          generalize dueZ ops st.l st.order = d at e' hk ⊢
          obtain ⟨x, l, o⟩ := d
          cases x with
          | false => rfl
          | true =>
            exfalso
            dsimp only at e' hk
            by_cases c2 : (st.tries : Int) = bE
            · rw [if_pos c2] at hk; exact hk rfl
            · rw [if_neg c2] at e'; cases e'
      rw [key, if_neg e]
theorem begZ_bud (L : List S36) (f bE b : Int) (ops : List S65) : begZ ⟨L, f, bE, ops⟩ = begZ ⟨L, f, b, ops⟩ := rfl
theorem begZ_tries (q : LinQ) : (begZ q).tries = 0 := by unfold begZ; rw [enterZ_tries]
/-- A search with another budget. -/
theorem full_bud {L : List S36} {f bE b : Int} {ops : List S65} (h : newE L f bE ops = 0) (hb0 : 0 ≤ b) (hb1 : b ≤ 1073741824) (hk : (fullZ ⟨L, f, bE, ops⟩).kind ≠ 4) :
    (((fullZ ⟨L, f, bE, ops⟩).tries : Int) ≤ b → fullZ ⟨L, f, b, ops⟩ = fullZ ⟨L, f, bE, ops⟩) ∧
    (b < ((fullZ ⟨L, f, bE, ops⟩).tries : Int) → (fullZ ⟨L, f, b, ops⟩).over = true ∧ (fullZ ⟨L, f, b, ops⟩).kind = 4 ∧ ((fullZ ⟨L, f, b, ops⟩).tries : Int) = b) := by
  have ho := fullZ_over h
  obtain ⟨h1, h2, h3, h4⟩ := newE_0 h
  rw [fullZ_beg] at ho hk ⊢
  rw [fullZ_beg, begZ_bud L f b bE ops]
  exact go_bud h1 hb0 hb1 _ _ (LinW.beg h3 h2.2.2.1 h2.2.2.2) (by rw [begZ_tries]; exact hb0) ho hk
end Go.Proofs.Ytddkoimaghcbeaa.PVmSteps
