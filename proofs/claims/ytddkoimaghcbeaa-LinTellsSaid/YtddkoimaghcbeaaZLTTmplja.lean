/- A part of what the law LinTells stands on, only as far as it is needed (the words and walks were printed or written in this seat; this text was cut by a program of this session, wip/bin/trim.py). No condition beyond what each theorem says. -/
import Derived.Test.YtddkoimaghcbeaaZLTPVmStepsx0
import Derived.Test.YtddkoimaghcbeaaZLTPVmStepsx2
import Derived.Test.YtddkoimaghcbeaaZLTPVmStepsx3
import Derived.Test.YtddkoimaghcbeaaZLTPVmStepsx4
import Derived.Test.YtddkoimaghcbeaaZLTPVmStepsx5
import Derived.Test.YtddkoimaghcbeaaZLTPVmStepsx6
import Derived.Test.YtddkoimaghcbeaaZLTTmpliz
namespace Go.Proofs.Ytddkoimaghcbeaa.PVmSteps
open Go.RowKit Go.Proofs.YtddkoimaghcbeaaW.PrintWords Go.Proofs.YtddkoimaghcbeaaW.PrintLast Go.Proofs.YtddkoimaghcbeaaW.PrintMore
set_option linter.unusedVariables false
set_option linter.unusedSimpArgs false
theorem newE_0 {L : List S36} {fuel budget : Int} {ops : List S65} (h : newE L fuel budget ops = 0) : (thru L).2.2 = 0 ∧ (0 ≤ fuel ∧ fuel ≤ 10000 ∧ 0 ≤ budget ∧ budget ≤ 1073741824) ∧ ops.length ≤ 64 ∧ selfZ ops = false := by
  unfold newE at h
  by_cases h1 : (thru L).2.2 = 0
  · rw [if_neg (by simpa using h1)] at h
    by_cases h2 : fuel < 0 ∨ 10000 < fuel ∨ budget < 0 ∨ 1073741824 < budget
    · rw [if_pos h2] at h; cases h
    · rw [if_neg h2] at h
      by_cases h3 : 64 < ops.length
      · rw [if_pos h3] at h; cases h
      · rw [if_neg h3] at h
        cases h4 : selfZ ops with
        | true => rw [if_pos h4] at h; cases h
        | false => exact ⟨h1, by omega, by omega, rfl⟩
  · rw [if_pos h1] at h; exact absurd h h1
theorem lin_New_n (A0 A3 : Option Addr) (c0 c3 : Nat) (L : List S36) (fuel budget : Int) (ops : List S65) (w : World) (hC0 : Kd.C k36 w A0 L.length L) (hc0 : L.length ≤ c0) (hL : L.length ≤ 300) (hC3 : Kd.C k65 w A3 ops.length ops) (hc3 : ops.length ≤ c3) (h : newE L fuel budget ops ≠ 0) :
    Calls Try.prog 39 #[.slice A0 L.length c0, .int .i64 fuel, .int .i64 budget, .slice A3 ops.length c3] w fun e w' => e = .returned (.tuple #[.pointer none, .int .i64 (newE L fuel budget ops)]) ∧ Below w.heap.size w w' := by
  unfold newE at h ⊢
  by_cases h1 : (thru L).2.2 = 0
  rotate_left
  · rw [if_pos h1]; exact lin_New_code A0 A3 c0 c3 L fuel budget ops w hC0 hc0 hL hC3 hc3 h1
  rw [if_neg (by simpa using h1)] at h ⊢
  by_cases h2 : fuel < 0
  · rw [if_pos (.inl h2)]; exact lin_New_arg0 A0 A3 c0 c3 L fuel budget ops w hC0 hc0 hL hC3 hc3 h1 h2
  by_cases h3 : 10000 < fuel
  · rw [if_pos (.inr (.inl h3))]; exact lin_New_arg1 A0 A3 c0 c3 L fuel budget ops w hC0 hc0 hL hC3 hc3 h1 ⟨by omega, h3⟩
  by_cases h4 : budget < 0
  · rw [if_pos (.inr (.inr (.inl h4)))]; exact lin_New_arg2 A0 A3 c0 c3 L fuel budget ops w hC0 hc0 hL hC3 hc3 h1 ⟨by omega, by omega, h4⟩
  by_cases h5 : 1073741824 < budget
  · rw [if_pos (.inr (.inr (.inr h5)))]; exact lin_New_arg3 A0 A3 c0 c3 L fuel budget ops w hC0 hc0 hL hC3 hc3 h1 ⟨by omega, by omega, h5⟩
  rw [if_neg (by omega)] at h ⊢
  by_cases h6 : 64 < ops.length
  · rw [if_pos h6]; exact lin_New_big A0 A3 c0 c3 L fuel budget ops w hC0 hc0 hL hC3 hc3 h1 ⟨by omega, by omega, by omega, by omega⟩ h6
  rw [if_neg h6] at h ⊢
  cases h7 : selfZ ops with
  | true => rw [if_pos rfl]; exact lin_New_self A0 A3 c0 c3 L fuel budget ops w hC0 hc0 hL hC3 hc3 h1 ⟨by omega, by omega, by omega, by omega⟩ (by omega) h7
  | false => rw [if_neg (by rw [h7]; decide)] at h; exact absurd rfl h
theorem lin_New_y (A0 A3 : Option Addr) (c0 c3 : Nat) (L : List S36) (fuel budget : Int) (ops : List S65) (w : World) (hC0 : Kd.C k36 w A0 L.length L) (hc0 : L.length ≤ c0) (hL : L.length ≤ 300) (hC3 : Kd.C k65 w A3 ops.length ops) (hc3 : ops.length ≤ c3) (h : newE L fuel budget ops = 0) :
    Calls Try.prog 39 #[.slice A0 L.length c0, .int .i64 fuel, .int .i64 budget, .slice A3 ops.length c3] w fun e w' => ∃ g, e = .returned (.tuple #[.pointer (some ⟨g, 0, none⟩), .int .i64 0]) ∧ LinT w w' ⟨L, fuel, budget, ops⟩ g (newZ ⟨L, fuel, budget, ops⟩) := by
  obtain ⟨h1, h2, h3, h4⟩ := newE_0 h
  exact lin_New_ok A0 A3 c0 c3 L fuel budget ops w hC0 hc0 hL hC3 hc3 h1 h2 h3 h4
theorem LinT.below {w0 W : World} {q : LinQ} {g : Nat} {st : LinS} (h : LinT w0 W q g st) : Below w0.heap.size w0 W := by
  obtain ⟨_, _, _, _, _, _, _, h⟩ := h
  exact h.hB
/-- Tries, and the end. -/
theorem readyZ_tries (q : LinQ) (st : LinS) : (readyZ q st).1.tries = st.tries ∧ ((readyZ q st).2 = true → (readyZ q st).1.over = false) ∧ ((readyZ q st).2 = false → (readyZ q st).1.over = true) := by
  cases ho : st.over with
  | true => rw [readyZ_over ho]; exact ⟨rfl, fun e => (by cases e), fun _ => ho⟩
  | false =>
    cases hd : (dueZ q.ops st.l st.order).1 with
    | false => rw [readyZ_none ho hd]; exact ⟨rfl, fun e => (by cases e), fun _ => rfl⟩
    | true =>
      by_cases hb : (st.tries : Int) = q.budget
      · rw [readyZ_out ho hd hb]; exact ⟨rfl, fun e => (by cases e), fun _ => rfl⟩
      · rw [readyZ_go ho hd hb]; exact ⟨rfl, fun _ => ho, fun e => (by cases e)⟩
theorem enterZ_tries (q : LinQ) (st : LinS) (p : Ps) : (enterZ q st p).tries = st.tries := by unfold enterZ; split <;> rfl
theorem tryZ_tries (q : LinQ) (st : LinS) : (tryZ q st).tries = st.tries + 1 ∨ st.l = [] := by
  unfold tryZ
  cases h : st.l with
  | nil => exact .inr rfl
  | cons f r =>
    refine .inl ?_
    obtain ⟨p, i⟩ := f
    dsimp only
    split
    · rfl
    · split
      · rfl
      · split
        · rfl
        · split
          · rfl
          · rw [enterZ_tries]
theorem goZ_tries {q : LinQ} (hc : (thru q.L).2.2 = 0) : ∀ (n : Nat) {st : LinS}, LinW q st → st.tries ≤ (goZ q n st).tries ∧ (goZ q n st).tries ≤ st.tries + n ∧ ((goZ q n st).over = false → (goZ q n st).tries = st.tries + n)
  | 0, st, h => by
    have := (readyZ_tries q st).1
    rw [goZ, this]
    exact ⟨Nat.le_refl _, Nat.le_refl _, fun _ => rfl⟩
  | n + 1, st, h => by
    obtain ⟨h1, h2, h3⟩ := readyZ_tries q st
    rw [goZ]
    cases e : (readyZ q st).2 with
    | true =>
      rw [if_pos rfl]
      obtain ⟨hb, p, i, r, hl, hi, _⟩ := h.ready.2 e
      obtain ⟨a1, a2, a3⟩ := goZ_tries hc n (h.ready.1.try hc hb hl hi)
      have ht := (tryZ_tries q (readyZ q st).1).resolve_right (by rw [hl]; simp)
      rw [ht, h1] at a1 a2 a3
      exact ⟨by omega, by omega, fun q => by have := a3 q; omega⟩
    | false =>
      rw [if_neg (by simp), h1]
      exact ⟨Nat.le_refl _, by omega, fun q => by rw [h3 e] at q; cases q⟩
/-- A search with more tries than the budget is over. -/
theorem goZ_fin {q : LinQ} (hc : (thru q.L).2.2 = 0) {n : Nat} {st : LinS} (h : LinW q st) (hn : q.budget < n) : (goZ q n st).over = true := by
  cases c : (goZ q n st).over with
  | true => rfl
  | false =>
    have h1 := (goZ_tries hc n h).2.2 c
    have h2 := (LinW.go hc n h).tb
    omega
theorem newE_W {L : List S36} {fuel budget : Int} {ops : List S65} (h : newE L fuel budget ops = 0) : LinW ⟨L, fuel, budget, ops⟩ (newZ ⟨L, fuel, budget, ops⟩) := by
  obtain ⟨h1, h2, h3, h4⟩ := newE_0 h
  exact LinW.go h1 0 (LinW.beg h3 h2.2.2.1 h2.2.2.2)
theorem lin_litG (w : World) (a b c d e f_ : Int) (x : Bool) : (Instr.buildSlice 55 1 #[(0, .agg #[.int .i64 a, .int .i64 b, .int .i64 c, .bool x, .int .i64 d, .int .i64 e, .int .i64 f_])]).run Try.prog w = .ok (.slice (some ⟨w.heap.size, 0, none⟩) 1 1) (w.alloc (.cells #[.int .i64 a, .int .i64 b, .int .i64 c, .bool x, .int .i64 d, .int .i64 e, .int .i64 f_] 65)) := by kernel_rfl
theorem lin_litGC (w : World) (p : S65) : Kd.C k65 (w.alloc (.cells #[.int .i64 p.f0, .int .i64 p.f1, .int .i64 p.f2, .bool p.f3, .int .i64 p.f4, .int .i64 p.f5, .int .i64 p.f6] 65)) (some ⟨w.heap.size, 0, none⟩) [p].length [p] := by
  have h : Kd.R k65 65 (w.alloc (.cells [.int .i64 p.f0, .int .i64 p.f1, .int .i64 p.f2, .bool p.f3, .int .i64 p.f4, .int .i64 p.f5, .int .i64 p.f6].toArray 65)) w.heap.size (fun _ => True) (.slice (some ⟨w.heap.size, 0, none⟩) [p].length [p].length) [p] := ⟨fun _ _ => trivial, OwnRow.lit w w.heap.size ((Reps.none _ _).snoc (k65_mkM _ _ _ p) rfl) (Nat.le_refl _) (by simp)⟩
  exact (Kd.R_reads' h).2.2
def getL : List S36 := [⟨4, 0⟩, ⟨18, 0⟩]
def oneO : S65 := ⟨0, 0, 0, true, 1, 0, 1⟩
def livQ : LinQ := ⟨getL, 9, 9, [oneO]⟩
theorem lin_get (w : World) : Calls Try.prog 67 #[] w fun e w' => e = .returned (.slice (some ⟨w.heap.size, 0, none⟩) 2 2) ∧ Kd.C k36 w' (some ⟨w.heap.size, 0, none⟩) getL.length getL ∧ Below w.heap.size w w' := by
  have hlit := fun w => vm_lit2 w 4 0 18 0
  go_enter Try.func67, Try.ntmps67
  go_wp2
  go_ret
  exact ⟨rfl, vm_litC2 w 4 0 18 0, below_alloc (Below.refl _ _) _⟩
theorem lin_New_lit (w : World) (gl : Nat) (hC : Kd.C k36 w (some ⟨gl, 0, none⟩) getL.length getL) (h : newE getL 9 9 [oneO] = 0) :
    Calls Try.prog 39 #[.slice (some ⟨gl, 0, none⟩) 2 2, .int .i64 9, .int .i64 9, .slice (some ⟨w.heap.size, 0, none⟩) 1 1] (w.alloc (.cells #[.int .i64 0, .int .i64 0, .int .i64 0, .bool true, .int .i64 1, .int .i64 0, .int .i64 1] 65)) fun e w' => ∃ g, e = .returned (.tuple #[.pointer (some ⟨g, 0, none⟩), .int .i64 0]) ∧ LinT (w.alloc (.cells #[.int .i64 0, .int .i64 0, .int .i64 0, .bool true, .int .i64 1, .int .i64 0, .int .i64 1] 65)) w' livQ g (newZ livQ) :=
  lin_New_y (some ⟨gl, 0, none⟩) (some ⟨w.heap.size, 0, none⟩) 2 1 getL 9 9 [oneO] _ (Kd.C_alloc hC _) (by decide) (by decide) (lin_litGC w oneO) (by decide) h
set_option maxRecDepth 100000 in
set_option maxHeartbeats 4000000 in
theorem lin_lives (w : World) : Calls Try.prog 41 #[] w fun e w' => e = .returned (.bool true) ∧ Below w.heap.size w w' := by
  have hlit := fun w => lin_litG w 0 0 0 1 0 1 true
  have hE : Aside0 (newE getL 9 9 [oneO] = 0) := ⟨by decide +kernel⟩
  have hov : Aside0 ((newZ livQ).over = false) := ⟨by decide +kernel⟩
  have hgo : Aside0 ((goZ livQ 5 (newZ livQ)).over = true ∧ (goZ livQ 5 (newZ livQ)).kind = 2 ∧ ((goZ livQ 5 (newZ livQ)).tries : Int) = 1 ∧ (goZ livQ 5 (newZ livQ)).order.length ≤ 1073741824) := ⟨by decide +kernel⟩
  have hth : Aside0 ((thru livQ.L).2.2 = 0) := ⟨by decide +kernel⟩
  have hW : Aside0 (LinW livQ (newZ livQ)) := ⟨newE_W hE.out⟩
  have hfu : Aside0 (livQ.fuel ≤ 9223372036854775807) := ⟨by decide⟩
  go_enter Try.func41, Try.ntmps41
  go_wp2_with (first | (go_at_call 67; (with_reducible refine (lin_get _).mono ?_); rintro e W1 ⟨rfl, hG, hB1⟩; replace hG := Aside0.mk hG; replace hB1 := Aside0.mk hB1) | (go_at_call 39; (with_reducible refine (lin_New_lit W1 w.heap.size hG.out hE.out).mono ?_); rintro e W2 ⟨g, rfl, hT⟩; replace hT := Aside0.mk hT; have hT0 := hT) | (go_at_call 44; (with_reducible refine (lin_Over hT.out).mono ?_); rw [hov.out]; rintro e W3 ⟨rfl, hB3⟩; have hT3 := Aside0.mk (hT.out.came hB3); clear hB3) | (go_at_call 42; go_loud ((with_reducible refine (lin_Go hT3.out hW.out hth.out hfu.out 5 (by decide) (by decide)).mono ?_); rw [show (5 : Int).toNat = 5 from rfl, hgo.out.1]; rintro e W4 ⟨rfl, hT4⟩; replace hT4 := Aside0.mk hT4)) | (go_at_call 43; (with_reducible refine (lin_Verdict hT4.out hgo.out.2.2.2).mono ?_); go_loud (rw [hgo.out.1, hgo.out.2.1, hgo.out.2.2.1]; rintro e W7 ⟨v, rfl, hv, hB7⟩; replace hB7 := Aside0.mk hB7; obtain ⟨A8, c8_, rfl⟩ := Kd.R_slice hv; clear hv)))
  go_ret
  exact ⟨rfl, below_alloc (below_step (below_step (below_alloc hB1.out _) hT4.out.below) hB7.out) _⟩
end Go.Proofs.Ytddkoimaghcbeaa.PVmSteps
