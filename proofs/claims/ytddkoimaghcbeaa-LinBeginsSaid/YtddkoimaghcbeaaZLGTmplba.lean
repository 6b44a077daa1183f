/- A part of what the law LinBegins stands on, only as far as it is needed (the words and walks were printed or written in this seat; this text was cut by a program of this session, wip/bin/trim.py). No condition beyond what each theorem says. -/
import Derived.Test.YtddkoimaghcbeaaZLGPVmStepsx0
import Derived.Test.YtddkoimaghcbeaaZLGPVmStepsx2
import Derived.Test.YtddkoimaghcbeaaZLGPVmStepsx3
import Derived.Test.YtddkoimaghcbeaaZLGPVmStepsx4
import Derived.Test.YtddkoimaghcbeaaZLGPVmStepsx5
import Derived.Test.YtddkoimaghcbeaaZLGTmpljt
import Derived.Test.YtddkoimaghcbeaaZLGTmplca
section
namespace Go.Proofs.Ytddkoimaghcbeaa.PVmSteps
open Go.RowKit Go.Proofs.YtddkoimaghcbeaaW.PrintWords Go.Proofs.YtddkoimaghcbeaaW.PrintLast Go.Proofs.YtddkoimaghcbeaaW.PrintMore
set_option linter.unusedVariables false
set_option linter.unusedSimpArgs false
theorem readyZ_idem (q : LinQ) (st : LinS) : readyZ q (readyZ q st).1 = readyZ q st := by
  by_cases c : st.over = true
  · have e : readyZ q st = (finZ st, false) := by unfold readyZ; rw [if_pos c]
    rw [e]
    unfold readyZ
    rw [if_pos (show (finZ st).over = true from c)]
    rfl
  · have hd : ∀ (l : List Fr) (o : List Int), (dueZ q.ops l o).1 = true → dueZ q.ops (dueZ q.ops l o).2.1 (dueZ q.ops l o).2.2 = dueZ q.ops l o := by
      intro l
      induction l with
      | nil => intro o h; simp [dueZ] at h
      | cons f r ih =>
        intro o h
        obtain ⟨p, i⟩ := f
        rw [dueZ] at h ⊢
        by_cases c2 : nexZ q.ops p.1 i < q.ops.length
        · simp only [if_pos c2]
          have hi : i ≤ q.ops.length := by
            by_cases c3 : i ≤ q.ops.length
            · exact c3
            · rw [nexZ_end _ _ _ (by omega)] at c2; omega
          have hf := (nextD_facts q.ops p.1 (q.ops.length - i) i).2.2.1 (by unfold nexZ at c2; omega)
          have hn : nexZ q.ops p.1 (nexZ q.ops p.1 i) = nexZ q.ops p.1 i := nexZ_here _ _ _ c2 hf
          rw [dueZ, hn, if_pos c2]
        · simp only [if_neg c2] at h ⊢
          exact ih _ h
    have hd := hd st.l st.order
    generalize hg : dueZ q.ops st.l st.order = d at hd
    obtain ⟨b, l, o⟩ := d
    cases b with
    | false =>
      have e : readyZ q st = (finZ { st with l := l, order := o, over := true, kind := 2 }, false) := by unfold readyZ; rw [if_neg c, hg]
      rw [e]
      unfold readyZ
      rw [if_pos (show (finZ _).over = true from rfl)]
      rfl
    | true =>
      have hd := hd rfl
      by_cases c2 : (st.tries : Int) = q.budget
      · have e : readyZ q st = (finZ { st with l := l, order := o, over := true, kind := 4 }, false) := by unfold readyZ; rw [if_neg c, hg]; dsimp only; rw [if_pos c2]
        rw [e]
        unfold readyZ
        rw [if_pos (show (finZ _).over = true from rfl)]
        rfl
      · have e : readyZ q st = ({ st with l := l, order := o }, true) := by unfold readyZ; rw [if_neg c, hg]; dsimp only; rw [if_neg c2]
        rw [e]
        unfold readyZ
        dsimp only at hd ⊢
        rw [if_neg c, hd]
        dsimp only
        rw [if_neg c2]
theorem goZ_ready (q : LinQ) : ∀ (m : Nat) (st : LinS), goZ q m (readyZ q st).1 = goZ q m st
  | 0, st => by rw [goZ, goZ, readyZ_idem]
  | m + 1, st => by rw [goZ, goZ, readyZ_idem]
theorem goZ_add (q : LinQ) : ∀ (n m : Nat) (st : LinS), goZ q m (goZ q n st) = goZ q (n + m) st
  | 0, m, st => by rw [Nat.zero_add, goZ, goZ_ready]
  | n + 1, m, st => by
    rw [show n + 1 + m = (n + m) + 1 by omega, goZ, goZ]
    by_cases c : (readyZ q st).2 = true
    · rw [if_pos c, if_pos c, goZ_add q n m]
    · rw [if_neg c, if_neg c, goZ_ready]
      cases m with
      | zero => rw [goZ]
      | succ m => rw [goZ, if_neg c]
theorem fullZ_beg (q : LinQ) : fullZ q = goZ q 2147483648 (begZ q) := by
  unfold fullZ newZ
  rw [goZ_add, Nat.zero_add]
end Go.Proofs.Ytddkoimaghcbeaa.PVmSteps
end
section
namespace Go.Proofs.Ytddkoimaghcbeaa.PVmSteps
open Go.RowKit Go.Proofs.YtddkoimaghcbeaaW.PrintWords Go.Proofs.YtddkoimaghcbeaaW.PrintLast Go.Proofs.YtddkoimaghcbeaaW.PrintMore
set_option linter.unusedVariables false
set_option linter.unusedSimpArgs false
structure BegF (ops first : List S65) (n : Int) : Prop where
  le : first.length ≤ ops.length
  tr : ∀ j : Nat, j < first.length → rd_T65 first (j : Int) = trimO n (rd_T65 ops (j : Int))
  nx : ∀ j : Nat, first.length ≤ j → j < ops.length → n ≤ (rd_T65 ops (j : Int)).f5
theorem bef_parts {a b : S65} (h : befZ a b = true) : a.f3 = true ∧ a.f6 < b.f5 := by
  unfold befZ at h
  split at h
  · rename_i c; exact ⟨c, by simpa using h⟩
  · cases h
theorem bef_of {a b : S65} (h : a.f3 = true) (h2 : a.f6 < b.f5) : befZ a b = true := by
  unfold befZ; rw [if_pos h]; simpa using h2
theorem trim_done {n : Int} {o : S65} (h : (trimO n o).f3 = true) : trimO n o = o ∧ o.f6 < n := by
  unfold trimO at h ⊢
  by_cases c : n ≤ o.f6
  · rw [if_pos c] at h; cases h
  · rw [if_neg c]; exact ⟨rfl, by omega⟩
theorem trim_same (n : Int) (o : S65) : (trimO n o).f1 = o.f1 ∧ (trimO n o).f2 = o.f2 ∧ (trimO n o).f5 = o.f5 := by
  unfold trimO; split <;> exact ⟨rfl, rfl, rfl⟩
/-- A way that takes in all that are done, cut where all that are done in the beginning are in. -/
theorem beg_pth {L : List S36} {f b b' : Int} {ops first : List S65} {n : Int} (h : BegF ops first n) : ∀ (o : List Int) (p pf : Ps), Pth ⟨L, f, b, ops⟩ p o pf → FullP ops pf.1 → (∀ k, p.1.testBit k = true → k < first.length) → ∃ o' p', Pth ⟨L, f, b', first⟩ p o' p' ∧ FullP first p'.1
  | o, p, pf, hp, hf, hb => by
    by_cases c : FullP first p.1
    · exact ⟨[], p, rfl, c⟩
    have hk : ∃ k : Nat, k < first.length ∧ (rd_T65 first (k : Int)).f3 = true ∧ p.1.testBit k = false := by
      refine Classical.byContradiction fun e => c (full_iff.mpr fun j hj hd => ?_)
      cases z : p.1.testBit j with
      | true => rfl
      | false => exact absurd ⟨j, hj, hd, z⟩ e
    obtain ⟨k, hk1, hk2, hk3⟩ := hk
    have hk4 := hk2
    rw [h.tr k hk1] at hk4
    obtain ⟨hk5, hk6⟩ := trim_done hk4
    rw [hk5] at hk4
    match o, hp with
    | [], hp =>
      have hp' : pf = p := hp
      subst hp'
      have := full_iff.mp hf k (by have := h.le; omega) hk4
      rw [hk3] at this; cases this
    | x :: o, ⟨j, m, e, h1, h2⟩ =>
      obtain ⟨hj, hfr, rr, ru, cs, hv, hr, hm⟩ := h1
      obtain ⟨f1, f2⟩ := free_iff.mp hfr
      have hj2 : j < first.length := by
        refine Classical.byContradiction fun e2 => ?_
        have y := h.nx j (by omega) hj
        have := f2 k (Nat.lt_of_lt_of_le hk1 h.le) (bef_of (a := rd_T65 ops (k : Int)) (b := rd_T65 ops (j : Int)) hk4 (by omega))
        rw [hk3] at this; cases this
      have hmv : Mv ⟨L, f, b', first⟩ p j m := by
        obtain ⟨t1, t2, t5⟩ := trim_same n (rd_T65 ops (j : Int))
        refine ⟨hj2, free_iff.mpr ⟨f1, fun i hi hbi => ?_⟩, rr, ru, cs, ?_, ?_, hm⟩
        · obtain ⟨b1, b2⟩ := bef_parts hbi
          rw [h.tr i hi] at b1
          obtain ⟨b3, b4⟩ := trim_done b1
          rw [h.tr i hi, b3, h.tr j hj2, t5] at b2
          rw [b3] at b1
          exact f2 i (Nat.lt_of_lt_of_le hi h.le) (bef_of b1 b2)
        · show vstep L p.2 (rd_T65 first (j : Int)).f1 (rd_T65 first (j : Int)).f2 f = _
          rw [h.tr j hj2, t1, t2]; exact hv
        · show (rd_T65 first (j : Int)).f3 = false ∨ rr = (rd_T65 first (j : Int)).f4
          cases z : (rd_T65 first (j : Int)).f3 with
          | false => exact .inl rfl
          | true =>
            rw [h.tr j hj2] at z
            obtain ⟨b3, _⟩ := trim_done z
            rw [b3] at z
            rcases hr with hr | hr
            · have hr' : (rd_T65 ops (j : Int)).f3 = false := hr
              rw [z] at hr'; cases hr'
            · exact .inr (by rw [h.tr j hj2, b3]; exact hr)
      obtain ⟨o', p', h3, h4⟩ := beg_pth (b' := b') h o m pf h2 hf (fun i hi => by
        rw [mv_bit hmv] at hi
        rcases Bool.or_eq_true _ _ ▸ hi with hi | hi
        · exact hb i hi
        · have : j = i := by simpa using hi
          omega)
      exact ⟨(j : Int) :: o', p', ⟨j, m, rfl, hmv, h3⟩, h4⟩
/-- The law in plain Lean: where the whole fits, the beginning fits or lacks fuel. -/
theorem beg_kind {L : List S36} {f b : Int} {ops first : List S65} {n : Int} (h : BegF ops first n) (h1 : newE L f b ops = 0) (h2 : newE L f b first = 0) (hb : (eZ first.length : Int) ≤ b ∨ mustZ first = 0) (hk : (fullZ ⟨L, f, b, ops⟩).kind = 1) : (fullZ ⟨L, f, b, first⟩).kind = 1 ∨ (fullZ ⟨L, f, b, first⟩).kind = 3 := by
  have hS := fullZ_SI h1
  have hT := fullZ_SI h2
  obtain ⟨p, a1, a2⟩ := hS.k1 (fullZ_over h1) hk
  obtain ⟨o', p', a3, a4⟩ := beg_pth (b' := b) h _ r0Z p a1 a2 (fun k hk => by simp [r0Z] at hk)
  have hov := fullZ_over h2
  rcases hT.ov hov with e | e | e | e
  · exact .inl e
  · exact absurd a4 (hT.k2 hov e o' p' a3)
  · exact .inr e
  · obtain ⟨k1, k2⟩ := hT.k4 hov e
    rcases hb with hb | hb
    · have k1' : ((fullZ ⟨L, f, b, first⟩).tries : Int) = b := k1
      have k2' : (fullZ ⟨L, f, b, first⟩).tries < eZ first.length := k2
      omega
    · have : (fullZ ⟨L, f, b, first⟩).kind = 1 := by
        have e1 : begZ ⟨L, f, b, first⟩ = { l := [(r0Z, 0)], seen := [r0Z], order := [], tries := 0, over := true, kind := 1 } := by
          unfold begZ enterZ
          rw [if_pos (by show (0 : Nat) &&& mustZ first = mustZ first; rw [hb]; rfl)]
        rw [fullZ_beg, e1]
        have : ∀ k, goZ ⟨L, f, b, first⟩ k { l := [(r0Z, 0)], seen := [r0Z], order := [], tries := 0, over := true, kind := 1 } = finZ { l := [(r0Z, 0)], seen := [r0Z], order := [], tries := 0, over := true, kind := 1 } := by
          intro k
          cases k with
          | zero => rw [goZ, readyZ, if_pos rfl]
          | succ k => rw [goZ, readyZ, if_pos rfl, if_neg (by simp)]
        rw [this]; rfl
      exact .inl this
end Go.Proofs.Ytddkoimaghcbeaa.PVmSteps
end
