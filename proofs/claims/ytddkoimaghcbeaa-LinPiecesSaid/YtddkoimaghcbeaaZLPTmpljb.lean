/- A part of what the law LinPieces stands on, only as far as it is needed (the words and walks were printed or written in this seat; this text was cut by a program of this session, wip/bin/trim.py). No condition beyond what each theorem says. -/
import Derived.Test.YtddkoimaghcbeaaZLPPVmStepsx0
import Derived.Test.YtddkoimaghcbeaaZLPPVmStepsx2
import Derived.Test.YtddkoimaghcbeaaZLPPVmStepsx3
import Derived.Test.YtddkoimaghcbeaaZLPPVmStepsx4
import Derived.Test.YtddkoimaghcbeaaZLPPVmStepsx5
import Derived.Test.YtddkoimaghcbeaaZLPTmplja
section
namespace Go.Proofs.Ytddkoimaghcbeaa.PVmSteps
open Go.RowKit Go.Proofs.YtddkoimaghcbeaaW.PrintWords Go.Proofs.YtddkoimaghcbeaaW.PrintLast Go.Proofs.YtddkoimaghcbeaaW.PrintMore
set_option linter.unusedVariables false
set_option linter.unusedSimpArgs false
/-- A search that is gone through at once. -/
def fullZ (q : LinQ) : LinS := goZ q 2147483648 (newZ q)
theorem fullZ_over {L : List S36} {fuel budget : Int} {ops : List S65} (h : newE L fuel budget ops = 0) : (fullZ ⟨L, fuel, budget, ops⟩).over = true := goZ_fin (newE_0 h).1 (newE_W h) (by have := (newE_0 h).2.1; show budget < _; omega)
theorem fullZ_W {L : List S36} {fuel budget : Int} {ops : List S65} (h : newE L fuel budget ops = 0) : LinW ⟨L, fuel, budget, ops⟩ (fullZ ⟨L, fuel, budget, ops⟩) := LinW.go (newE_0 h).1 _ (newE_W h)
set_option maxRecDepth 100000 in
set_option maxHeartbeats 4000000 in
theorem lin_whole_n (A0 A3 : Option Addr) (c0 c3 : Nat) (L : List S36) (fuel budget : Int) (ops : List S65) (w : World) (hC0 : Kd.C k36 w A0 L.length L) (hc0 : L.length ≤ c0) (hL : L.length ≤ 300) (hC3 : Kd.C k65 w A3 ops.length ops) (hc3 : ops.length ≤ c3) (h : newE L fuel budget ops ≠ 0) :
    Calls Try.prog 48 #[.slice A0 L.length c0, .int .i64 fuel, .int .i64 budget, .slice A3 ops.length c3] w fun e w' => e = .returned (.tuple #[.agg #[.int .i64 0, .slice none 0 0, .int .i64 0], .bool false]) ∧ Below w.heap.size w w' := by
  replace hC0 := Aside0.mk hC0
  replace hC3 := Aside0.mk hC3
  replace hL := Aside0.mk hL
  have hE := Aside0.mk h
  obtain ⟨er, her⟩ : ∃ x, x = newE L fuel budget ops := ⟨_, rfl⟩
  have hne : (er != 0) = true := by rw [her]; simpa using h
  replace her := Aside0.mk her
  clear h
  go_enter Try.func48, Try.ntmps48
  go_wp2_with (first | (go_at_call 39; (with_reducible refine (lin_New_n A0 A3 c0 c3 L fuel budget ops _ (Kd.C_alloc hC0.out _) hc0 hL.out (Kd.C_alloc hC3.out _) hc3 hE.out).mono ?_); rw [← her.out]; rintro e W1 ⟨rfl, hB1⟩; have hbs := blk_below (blk_new w verZ) hB1; have s0 := blk_cell hbs 0; have s1 := blk_cell hbs 1; have s2 := blk_cell hbs 2; have g0 := blk_frozen hbs 0; have g1 := blk_frozen hbs 1; have g2 := blk_frozen hbs 2; simp only [verZ, List.getElem?_toArray, List.getElem?_cons_zero, List.getElem?_cons_succ] at s0 s1 s2; replace hbs := Aside0.mk hbs; replace hB1 := Aside0.mk hB1))
  have h3 : Aside0 ((((W1.setCell ⟨w.heap.size, 0, none⟩ (.int .i64 0)).setCell ⟨w.heap.size, 1, none⟩ (.slice none 0 0)).setCell ⟨w.heap.size, 2, none⟩ (.int .i64 0)).heap[w.heap.size]? = some (Obj.cells #[.int .i64 0, .slice none 0 0, .int .i64 0] 75 (0, 0))) := ⟨by simpa [verZ] using blk_set (blk_set (blk_set hbs.out 0 (.int .i64 0)) 1 (.slice none 0 0)) 2 (.int .i64 0)⟩
  refine bodyPost_ret (results_ct Try.results48 _ _ w.heap.size _ _ _ _ rfl h3.out Try.underlying75 rfl (by kernel_rfl)) rfl ?_
  exact ⟨rfl, below_set (below_set (below_set (below_step (below_alloc (Below.refl _ _) _) hB1.out) (Nat.le_refl _)) (Nat.le_refl _)) (Nat.le_refl _)⟩
set_option maxRecDepth 100000 in
set_option maxHeartbeats 4000000 in
theorem lin_whole_y (A0 A3 : Option Addr) (c0 c3 : Nat) (L : List S36) (fuel budget : Int) (ops : List S65) (w : World) (hC0 : Kd.C k36 w A0 L.length L) (hc0 : L.length ≤ c0) (hL : L.length ≤ 300) (hC3 : Kd.C k65 w A3 ops.length ops) (hc3 : ops.length ≤ c3) (h : newE L fuel budget ops = 0) :
    Calls Try.prog 48 #[.slice A0 L.length c0, .int .i64 fuel, .int .i64 budget, .slice A3 ops.length c3] w fun e w' => ∃ v, e = .returned (.tuple #[.agg #[.int .i64 (fullZ ⟨L, fuel, budget, ops⟩).kind, v, .int .i64 ((fullZ ⟨L, fuel, budget, ops⟩).tries : Int)], .bool true]) ∧ Kd.R (Kd.int .i64) 3 w' w.heap.size (fun _ => True) v (if (fullZ ⟨L, fuel, budget, ops⟩).kind = 1 then (fullZ ⟨L, fuel, budget, ops⟩).order else []) ∧ Below w.heap.size w w' := by
  replace hC0 := Aside0.mk hC0
  replace hC3 := Aside0.mk hC3
  replace hL := Aside0.mk hL
  have hE := Aside0.mk h
  have hov : Aside0 ((goZ ⟨L, fuel, budget, ops⟩ 2147483648 (newZ ⟨L, fuel, budget, ops⟩)).over = true) := ⟨fullZ_over h⟩
  have hW := Aside0.mk (newE_W h)
  have hth : Aside0 ((thru (LinQ.mk L fuel budget ops).L).2.2 = 0) := ⟨(newE_0 h).1⟩
  have hfu : Aside0 ((LinQ.mk L fuel budget ops).fuel ≤ 9223372036854775807) := ⟨by have := (newE_0 h).2.1; show fuel ≤ _; omega⟩
  have hol : Aside0 ((goZ ⟨L, fuel, budget, ops⟩ 2147483648 (newZ ⟨L, fuel, budget, ops⟩)).order.length ≤ 1073741824) := ⟨by
    have y := fullZ_W h
    have y1 := y.ol
    have y2 := y.tb
    have y3 := y.b1
    show (fullZ ⟨L, fuel, budget, ops⟩).order.length ≤ _
    omega⟩
  obtain ⟨S, hSe⟩ : ∃ S, S = fullZ ⟨L, fuel, budget, ops⟩ := ⟨_, rfl⟩
  have hgo : goZ ⟨L, fuel, budget, ops⟩ 2147483648 (newZ ⟨L, fuel, budget, ops⟩) = S := hSe.symm
  rw [hgo] at hov hol
  rw [← hSe]
  obtain ⟨od, hod⟩ : ∃ od, od = (if S.kind = 1 then S.order else []) := ⟨_, rfl⟩
  obtain ⟨kd, hkd⟩ : ∃ k, k = S.kind := ⟨_, rfl⟩
  obtain ⟨td, htd⟩ : ∃ t : Int, t = (S.tries : Int) := ⟨_, rfl⟩
  have hver : Aside0 (∀ (w0 W : World) (g : Nat), LinT w0 W ⟨L, fuel, budget, ops⟩ g S → Calls Try.prog 43 #[.pointer (some ⟨g, 0, none⟩)] W fun e w' => ∃ v, e = .returned (.tuple #[.agg #[.int .i64 kd, v, .int .i64 td], .bool true]) ∧ Kd.R (Kd.int .i64) 3 w' W.heap.size (fun _ => True) v od ∧ Below W.heap.size W w') := ⟨fun w0 W g hT => by
    have y := lin_Verdict hT hol.out
    rw [if_pos hov.out, if_pos hov.out, hov.out] at y
    have e1 : (if true = true ∧ S.kind = 1 then S.order else []) = od := by rw [hod]; simp
    rw [e1, ← hkd, ← htd] at y
    exact y⟩
  rw [← hod, ← hkd, ← htd]
  replace hgo := Aside0.mk hgo
  clear h hSe hod hkd htd
  go_enter Try.func48, Try.ntmps48
  go_wp2_with (first | (go_at_call 39; (with_reducible refine (lin_New_y A0 A3 c0 c3 L fuel budget ops _ (Kd.C_alloc hC0.out _) hc0 hL.out (Kd.C_alloc hC3.out _) hc3 hE.out).mono ?_); rintro e W1 ⟨g, rfl, hT⟩; replace hT := Aside0.mk hT) | (go_at_call 42; (with_reducible refine (lin_Go hT.out hW.out hth.out hfu.out 2147483648 (by decide) (by decide)).mono ?_); rw [show (2147483648 : Int).toNat = 2147483648 from rfl, hgo.out, hov.out]; rintro e W2 ⟨rfl, hT2⟩; replace hT2 := Aside0.mk hT2) | (go_at_call 43; (with_reducible refine (hver.out _ _ _ hT2.out).mono ?_); rintro e W7 ⟨v, rfl, hv, hB7⟩; obtain ⟨A8, c8_, rfl⟩ := Kd.R_slice hv; have hbs := blk_below (blk_below (blk_new w verZ) hT2.out.below) hB7; have s0 := blk_cell hbs 0; have s1 := blk_cell hbs 1; have s2 := blk_cell hbs 2; have g0 := blk_frozen hbs 0; have g1 := blk_frozen hbs 1; have g2 := blk_frozen hbs 2; simp only [verZ, List.getElem?_toArray, List.getElem?_cons_zero, List.getElem?_cons_succ] at s0 s1 s2; replace hbs := Aside0.mk hbs; replace hB7 := Aside0.mk hB7; replace hv := Aside0.mk hv))
  have h3 : Aside0 ((((W7.setCell ⟨w.heap.size, 0, none⟩ (.int .i64 kd)).setCell ⟨w.heap.size, 1, none⟩ (.slice A8 od.length c8_)).setCell ⟨w.heap.size, 2, none⟩ (.int .i64 td)).heap[w.heap.size]? = some (Obj.cells #[.int .i64 kd, .slice A8 od.length c8_, .int .i64 td] 75 (0, 0))) := ⟨by simpa [verZ] using blk_set (blk_set (blk_set hbs.out 0 (.int .i64 kd)) 1 (.slice A8 od.length c8_)) 2 (.int .i64 td)⟩
  refine bodyPost_ret (results_ct Try.results48 _ _ w.heap.size _ _ _ _ rfl h3.out Try.underlying75 rfl (by kernel_rfl)) rfl ?_
  refine ⟨_, rfl, ?_, ?_⟩
  · exact R1_same rfl (Kd.R_lower hv.out (Nat.le_trans (below_alloc (Below.refl _ _) _).size hT2.out.below.size)) (((SameT.set hbs.out (by decide) _ _).trans (.set (blk_set hbs.out _ _) (by decide) _ _)).trans (.set (blk_set (blk_set hbs.out _ _) _ _) (by decide) _ _))
  · exact below_set (below_set (below_set (below_step (below_step (below_alloc (Below.refl _ _) _) hT2.out.below) hB7.out) (Nat.le_refl _)) (Nat.le_refl _)) (Nat.le_refl _)
end Go.Proofs.Ytddkoimaghcbeaa.PVmSteps
end
section
namespace Go.Proofs.Ytddkoimaghcbeaa.PVmSteps
open Go.RowKit Go.Proofs.YtddkoimaghcbeaaW.PrintWords Go.Proofs.YtddkoimaghcbeaaW.PrintLast Go.Proofs.YtddkoimaghcbeaaW.PrintMore
set_option linter.unusedVariables false
set_option linter.unusedSimpArgs false
theorem no_ov {b : Bool} {P : Prop} (h : b = true) (h' : b = false) : P := by rw [h] at h'; cases h'
end Go.Proofs.Ytddkoimaghcbeaa.PVmSteps
end
section
namespace Go.Proofs.Ytddkoimaghcbeaa.PVmSteps
open Go.RowKit Go.Proofs.YtddkoimaghcbeaaW.PrintWords Go.Proofs.YtddkoimaghcbeaaW.PrintLast Go.Proofs.YtddkoimaghcbeaaW.PrintMore
set_option linter.unusedVariables false
set_option linter.unusedSimpArgs false
theorem readyZ_idem (q : LinQ) (st : LinS) : readyZ q (readyZ q st).1 = readyZ q st := by
  by_cases c : st.over = true
  · have e : readyZ q st = (finZ st, false) := by unfold readyZ; rw [if_pos c]
    rw [e]
    unfold readyZ
    rw [if_pos (show (finZ st).over = true from c)]
    rfl
  · have hd : ∀ (l : List Fr) (o : List Int), (dueZ q.ops l o).1 = true → dueZ q.ops (dueZ q.ops l o).2.1 (dueZ q.ops l o).2.2 = dueZ q.ops l o := by
      intro l
      induction l with
      | nil => intro o h; simp [dueZ] at h
      | cons f r ih =>
        intro o h
        obtain ⟨p, i⟩ := f
        rw [dueZ] at h ⊢
        by_cases c2 : nexZ q.ops p.1 i < q.ops.length
        · simp only [if_pos c2]
          have hi : i ≤ q.ops.length := by
            by_cases c3 : i ≤ q.ops.length
            · exact c3
            · rw [nexZ_end _ _ _ (by omega)] at c2; omega
          have hf := (nextD_facts q.ops p.1 (q.ops.length - i) i).2.2.1 (by unfold nexZ at c2; omega)
          have hn : nexZ q.ops p.1 (nexZ q.ops p.1 i) = nexZ q.ops p.1 i := nexZ_here _ _ _ c2 hf
          rw [dueZ, hn, if_pos c2]
        · simp only [if_neg c2] at h ⊢
          exact ih _ h
    have hd := hd st.l st.order
    generalize hg : dueZ q.ops st.l st.order = d at hd
    obtain ⟨b, l, o⟩ := d
    cases b with
    | false =>
      have e : readyZ q st = (finZ { st with l := l, order := o, over := true, kind := 2 }, false) := by unfold readyZ; rw [if_neg c, hg]
      rw [e]
      unfold readyZ
      rw [if_pos (show (finZ _).over = true from rfl)]
      rfl
    | true =>
      have hd := hd rfl
      by_cases c2 : (st.tries : Int) = q.budget
      · have e : readyZ q st = (finZ { st with l := l, order := o, over := true, kind := 4 }, false) := by unfold readyZ; rw [if_neg c, hg]; dsimp only; rw [if_pos c2]
        rw [e]
        unfold readyZ
        rw [if_pos (show (finZ _).over = true from rfl)]
        rfl
      · have e : readyZ q st = ({ st with l := l, order := o }, true) := by unfold readyZ; rw [if_neg c, hg]; dsimp only; rw [if_neg c2]
        rw [e]
        unfold readyZ
        dsimp only at hd ⊢
        rw [if_neg c, hd]
        dsimp only
        rw [if_neg c2]
theorem goZ_ready (q : LinQ) : ∀ (m : Nat) (st : LinS), goZ q m (readyZ q st).1 = goZ q m st
  | 0, st => by rw [goZ, goZ, readyZ_idem]
  | m + 1, st => by rw [goZ, goZ, readyZ_idem]
theorem goZ_add (q : LinQ) : ∀ (n m : Nat) (st : LinS), goZ q m (goZ q n st) = goZ q (n + m) st
  | 0, m, st => by rw [Nat.zero_add, goZ, goZ_ready]
  | n + 1, m, st => by
    rw [show n + 1 + m = (n + m) + 1 by omega, goZ, goZ]
    by_cases c : (readyZ q st).2 = true
    · rw [if_pos c, if_pos c, goZ_add q n m]
    · rw [if_neg c, if_neg c, goZ_ready]
      cases m with
      | zero => rw [goZ]
      | succ m => rw [goZ, if_neg c]
end Go.Proofs.Ytddkoimaghcbeaa.PVmSteps
end
section
namespace Go.Proofs.Ytddkoimaghcbeaa.PVmSteps
open Go.RowKit Go.Proofs.YtddkoimaghcbeaaW.PrintWords Go.Proofs.YtddkoimaghcbeaaW.PrintLast Go.Proofs.YtddkoimaghcbeaaW.PrintMore
set_option linter.unusedVariables false
set_option linter.unusedSimpArgs false
theorem ints_self (l : List Int) (hl : l.length ≤ 4611686018427387904) : ∃ k, inquestref15_Ints.f k l l = some true := by
  have h : ∀ (d i : Nat), i + d = l.length → inquestref15_Ints.l0 (d + 1) l l (i : Int) = some true := by
    intro d
    induction d with
    | zero =>
      intro i hi
      rw [inquestref15_Ints.l0, if_neg (by omega)]
    | succ d ih =>
      intro i hi
      rw [inquestref15_Ints.l0, if_pos (by omega), if_pos (by omega), if_pos (by omega), if_pos rfl, w64 (by omega) (by omega)]
      exact ih (i + 1) (by omega)
  refine ⟨l.length + 1, ?_⟩
  unfold inquestref15_Ints.f
  rw [if_pos rfl]
  exact h l.length 0 (by omega)
set_option maxRecDepth 100000 in
theorem r18_Same_self (kd td : Int) (od : List Int) (A B : Option Addr) (c d : Nat) (w : World) (hA : Kd.C (Kd.int .i64) w A od.length od) (hc : od.length ≤ c) (hB : Kd.C (Kd.int .i64) w B od.length od) (hd : od.length ≤ d) (hl : od.length ≤ 1073741825) :
    Calls Try.prog 45 #[.agg #[.int .i64 kd, .slice A od.length c, .int .i64 td], .agg #[.int .i64 kd, .slice B od.length d, .int .i64 td]] w fun e w' => e = .returned (.bool true) ∧ Below w.heap.size w w' := by
  obtain ⟨k, hk⟩ := ints_self od (by omega)
  replace hk := Aside0.mk hk
  replace hA := Aside0.mk hA
  replace hB := Aside0.mk hB
  replace hl := Aside0.mk hl
  go_enter Try.func45, Try.ntmps45
  go_wp2_with (first | (go_at_call 36; (with_reducible refine (inquestref15_Ints.calls k A c od B d od true _ (Kd.C_alloc (Kd.C_alloc hA.out _) _) hc (Kd.C_alloc (Kd.C_alloc hB.out _) _) hd hk.out).mono ?_); rintro e W1 ⟨rfl, ⟨n1, rfl⟩⟩))
  go_ret
  exact ⟨rfl, by repeat (first | exact Below.refl _ _ | apply pw_below_drewN | apply below_alloc)⟩
end Go.Proofs.Ytddkoimaghcbeaa.PVmSteps
end
