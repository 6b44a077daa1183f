/- A part of what the law LinTells stands on, only as far as it is needed (the words and walks were printed or written in this seat; this text was cut by a program of this session, wip/bin/trim.py). No condition beyond what each theorem says. -/
import Derived.Test.YtddkoimaghcbeaaZLTPVmStepsx0
import Derived.Test.YtddkoimaghcbeaaZLTPVmStepsx2
import Derived.Test.YtddkoimaghcbeaaZLTPVmStepsx3
import Derived.Test.YtddkoimaghcbeaaZLTPVmStepsx4
import Derived.Test.YtddkoimaghcbeaaZLTPVmStepsx5
import Derived.Test.YtddkoimaghcbeaaZLTPVmStepsx6
import Derived.Test.YtddkoimaghcbeaaZLTTmplta
namespace Go.Proofs.Ytddkoimaghcbeaa.PVmSteps
open Go.RowKit Go.Proofs.YtddkoimaghcbeaaW.PrintWords Go.Proofs.YtddkoimaghcbeaaW.PrintLast Go.Proofs.YtddkoimaghcbeaaW.PrintMore
set_option linter.unusedVariables false
set_option linter.unusedSimpArgs false
def bitsZ (n s : Nat) : List Bool := (List.range n).map (fun k => s.testBit k)
theorem bits_len (n s : Nat) : (bitsZ n s).length = n := by simp [bitsZ]
theorem bits_rd {n k : Nat} (s : Nat) (h : k < n) : rdOf false (bitsZ n s) (k : Int) = s.testBit k := by simp [rdOf, bitsZ, List.getD_eq_getElem?_getD, h]
theorem bits_ext {n s t : Nat} (hs : s < 2 ^ n) (ht : t < 2 ^ n) (h : ∀ k, k < n → s.testBit k = t.testBit k) : s = t := by
  refine Nat.eq_of_testBit_eq (fun k => ?_)
  by_cases c : k < n
  · exact h k c
  · rw [Nat.testBit_lt_two_pow (Nat.lt_of_lt_of_le hs (Nat.pow_le_pow_right (by decide) (by omega))), Nat.testBit_lt_two_pow (Nat.lt_of_lt_of_le ht (Nat.pow_le_pow_right (by decide) (by omega)))]
set_option maxRecDepth 100000 in
set_option maxHeartbeats 8000000 in
theorem r18_full (W : World) (g : Nat) (vL vW vR : Value) (fu bu ki tr : Int) (AO AI : Option Addr) (cO cI : Nat) (ops : List S65) (s : Nat) (x0 x1 x2 x3 : Int) (hk : W.heap[g]? = some (Obj.cells #[vL, .int .i64 fu, .int .i64 bu, .slice AO ops.length cO, vW, .int .i64 ki, vR, .int .i64 tr] 121 (0, 0))) (hO : Kd.C k65 W AO ops.length ops) (hI : Kd.bool.C W AI ops.length (bitsZ ops.length s)) (hn : ops.length ≤ 64) :
    Calls Try.prog 83 #[.pointer (some ⟨g, 0, none⟩), .agg #[.slice AI ops.length cI, .int .i64 x0, .int .i64 x1, .int .i64 x2, .int .i64 x3]] W fun e w' => e = .returned (.bool (decide (s &&& mustZ ops = mustZ ops))) ∧ Below W.heap.size W w' := by
  have hfl : ∀ r, (r = true ↔ s &&& mustZ ops = mustZ ops) → r = decide (s &&& mustZ ops = mustZ ops) := fun r h => by
    cases r with
    | true => exact (decide_eq_true (h.mp rfl)).symm
    | false => exact (decide_eq_false (fun e => by cases h.mpr e)).symm
  obtain ⟨R, hR⟩ : ∃ R, R = decide (s &&& mustZ ops = mustZ ops) := ⟨_, rfl⟩
  rw [← hR] at hfl
  rw [← hR]
  replace hfl := Aside0.mk hfl
  replace hk := Aside0.mk hk
  replace hO := Aside0.mk hO
  replace hI := Aside0.mk hI
  replace hn := Aside0.mk hn
  clear hR
  go_enter Try.func83, Try.ntmps83
  go_wp2
  go_loopg [5] ops.length (fun kk v5 W_ => ∃ i : Nat, v5 = .int .i64 i ∧ Aside0 (kk + i = ops.length) ∧ Aside0 (∀ j : Nat, j < i → (rd_T65 ops (j : Int)).f3 = true → s.testBit j = true) ∧ Aside0 (Below (W.alloc (.cells #[.slice AI ops.length cI, .int .i64 x0, .int .i64 x1, .int .i64 x2, .int .i64 x3] 125)).heap.size (W.alloc (.cells #[.slice AI ops.length cI, .int .i64 x0, .int .i64 x1, .int .i64 x2, .int .i64 x3] 125)) W_))
  case atStart => exact ⟨0, rfl, ⟨by omega⟩, ⟨fun j h => by omega⟩, ⟨Below.refl _ _⟩⟩
  case round =>
    obtain ⟨i, rfl, hki, hall, hBW⟩ := hrel
    have hb3 := blk_cell (blk_below (blk_alloc hk.out _) hBW.out) 3
    have hbx := blk_cell (blk_below (blk_new W _) hBW.out) 0
    simp only [List.getElem?_toArray, List.getElem?_cons_zero, List.getElem?_cons_succ] at hb3 hbx
    cases gk with
    | zero =>
      obtain rfl : i = ops.length := by have := hki.out; omega
      have hlt : decide ((ops.length : Int) < (ops.length : Int)) = false := decide_eq_false (by omega)
      have hR1 := hfl.out true ⟨fun _ => full_iff.mpr hall.out, fun _ => rfl⟩
      subst hR1
      go_wp2
      go_ret
      exact ⟨rfl, below_step (below_alloc (Below.refl _ _) _) hBW.out⟩
    | succ j =>
      have hi : Aside0 (i < ops.length) := ⟨by have := hki.out; omega⟩
      have hlt : decide ((i : Int) < (ops.length : Int)) = true := decide_eq_true (by have := hi.out; omega)
      have q1 : i < ops.length := hi.out
      have q2 : 0 ≤ (i : Int) := by omega
      have q3 : (i : Int) < (ops.length : Int) := by have := hi.out; omega
      obtain ⟨ad, e, y0, y1, y2, y3, y4, y5, y6⟩ := at_T65 (Kd.C_below (Kd.C_alloc hO.out _) hBW.out) (i : Int) q2 q3
      cases e
      obtain ⟨ad2, e, z0⟩ := Kd.at_bool (Kd.C_below (Kd.C_alloc hI.out _) hBW.out) (i : Int) q2 q3
      cases e
      rw [bits_rd s hi.out] at z0
      simp only [Int.toNat_natCast] at y3 z0
      clear y0 y1 y2 y4 y5 y6
      obtain ⟨d, hd⟩ : ∃ d, d = (rd_T65 ops (i : Int)).f3 := ⟨_, rfl⟩
      obtain ⟨b, hb⟩ : ∃ b, b = s.testBit i := ⟨_, rfl⟩
      rw [← hd] at y3
      rw [← hb] at z0
      cases d with
      | false =>
        have hnx : Aside0 (∀ j : Nat, j < i + 1 → (rd_T65 ops (j : Int)).f3 = true → s.testBit j = true) := ⟨fun j h h2 => by
          by_cases c : j = i
          · subst c; rw [← hd] at h2; cases h2
          · exact hall.out j (by omega) h2⟩
        clear hd hb
        go_wp2
        go_roundg j
        case measure => omega
        case rel => exact ⟨i + 1, by rw [w64 (by have := hi.out; have := hn.out; omega) (by have := hi.out; have := hn.out; omega)]; simp, ⟨by have := hki.out; omega⟩, hnx, hBW⟩
      | true =>
        cases b with
        | true =>
          have hnx : Aside0 (∀ j : Nat, j < i + 1 → (rd_T65 ops (j : Int)).f3 = true → s.testBit j = true) := ⟨fun j h h2 => by
            by_cases c : j = i
            · subst c; exact hb.symm
            · exact hall.out j (by omega) h2⟩
          clear hd hb
          go_wp2
          go_roundg j
          case measure => omega
          case rel => exact ⟨i + 1, by rw [w64 (by have := hi.out; have := hn.out; omega) (by have := hi.out; have := hn.out; omega)]; simp, ⟨by have := hki.out; omega⟩, hnx, hBW⟩
        | false =>
          have hR1 := hfl.out false ⟨fun e => (by cases e), fun e => (by have := full_iff.mp e i hi.out hd.symm; rw [← hb] at this; cases this)⟩
          subst hR1
          clear hd hb
          go_wp2
          go_ret
          exact ⟨rfl, below_step (below_alloc (Below.refl _ _) _) hBW.out⟩
set_option maxRecDepth 100000 in
set_option maxHeartbeats 8000000 in
theorem r18_free (W : World) (g : Nat) (vL vW vR : Value) (fu bu ki tr : Int) (AO AI : Option Addr) (cO cI : Nat) (ops : List S65) (s : Nat) (x0 x1 x2 x3 : Int) (m : Nat) (hm : m < ops.length) (hk : W.heap[g]? = some (Obj.cells #[vL, .int .i64 fu, .int .i64 bu, .slice AO ops.length cO, vW, .int .i64 ki, vR, .int .i64 tr] 121 (0, 0))) (hO : Kd.C k65 W AO ops.length ops) (hI : Kd.bool.C W AI ops.length (bitsZ ops.length s)) (hn : ops.length ≤ 64) :
    Calls Try.prog 84 #[.pointer (some ⟨g, 0, none⟩), .agg #[.slice AI ops.length cI, .int .i64 x0, .int .i64 x1, .int .i64 x2, .int .i64 x3], .int .i64 m] W fun e w' => e = .returned (.bool (freeZ ops s m)) ∧ Below W.heap.size W w' := by
  have hfl : ∀ r, (r = true ↔ freeZ ops s m = true) → r = freeZ ops s m := fun r h => by
    cases r with
    | true => exact (h.mp rfl).symm
    | false => cases c : freeZ ops s m with
      | false => rfl
      | true => cases h.mpr c
  have hfi := @free_iff ops s m
  obtain ⟨R, hR⟩ : ∃ R, R = freeZ ops s m := ⟨_, rfl⟩
  rw [← hR] at hfl hfi
  rw [← hR]
  replace hfl := Aside0.mk hfl
  replace hfi := Aside0.mk hfi
  have hk0 := blk_alloc hk (.cells #[.slice AI ops.length cI, .int .i64 x0, .int .i64 x1, .int .i64 x2, .int .i64 x3] 125)
  have hx0 := blk_cell (blk_new W (.cells #[.slice AI ops.length cI, .int .i64 x0, .int .i64 x1, .int .i64 x2, .int .i64 x3] 125)) 0
  simp only [List.getElem?_toArray, List.getElem?_cons_zero, List.getElem?_cons_succ] at hx0
  have q0 : 0 ≤ (m : Int) := by omega
  have q1 : (m : Int) < (ops.length : Int) := by omega
  obtain ⟨adm, em, zm⟩ := Kd.at_bool (Kd.C_alloc hI (.cells #[.slice AI ops.length cI, .int .i64 x0, .int .i64 x1, .int .i64 x2, .int .i64 x3] 125)) (m : Int) q0 q1
  rw [bits_rd s hm] at zm
  simp only [Int.toNat_natCast] at zm
  cases em
  replace hk := Aside0.mk hk
  replace hk0 := Aside0.mk hk0
  replace hO := Aside0.mk hO
  replace hI := Aside0.mk hI
  replace hn := Aside0.mk hn
  clear hR
  obtain ⟨b, hb⟩ : ∃ b, b = s.testBit m := ⟨_, rfl⟩
  rw [← hb] at zm
  cases b with
  | true =>
    have hR1 : R = false := by
      cases R with
      | false => rfl
      | true => have := (hfi.out.mp rfl).1; rw [← hb] at this; cases this
    subst hR1
    clear hb
    go_enter Try.func84, Try.ntmps84
    go_wp2
    go_ret
    exact ⟨rfl, below_alloc (Below.refl _ _) _⟩
  | false =>
    replace hb := Aside0.mk hb
    have hm' := Aside0.mk hm
    go_enter Try.func84, Try.ntmps84
    go_wp2
    go_loopg [7] ops.length (fun kk v7 W_ => ∃ i : Nat, v7 = .int .i64 i ∧ Aside0 (kk + i = ops.length) ∧ Aside0 (∀ j : Nat, j < i → befZ (rd_T65 ops (j : Int)) (rd_T65 ops (m : Int)) = true → s.testBit j = true) ∧ Aside0 (Below (W.alloc (.cells #[.slice (some adm) ops.length cI, .int .i64 x0, .int .i64 x1, .int .i64 x2, .int .i64 x3] 125)).heap.size (W.alloc (.cells #[.slice (some adm) ops.length cI, .int .i64 x0, .int .i64 x1, .int .i64 x2, .int .i64 x3] 125)) W_))
    case atStart => exact ⟨0, rfl, ⟨by omega⟩, ⟨fun j h => by omega⟩, ⟨Below.refl _ _⟩⟩
    case round =>
      obtain ⟨i, rfl, hki, hall, hBW⟩ := hrel
      have hbb3 := blk_cell (blk_below hk0.out hBW.out) 3
      simp only [List.getElem?_toArray, List.getElem?_cons_zero, List.getElem?_cons_succ] at hbb3
      cases gk with
      | zero =>
        obtain rfl : i = ops.length := by have := hki.out; omega
        have hlt : decide ((ops.length : Int) < (ops.length : Int)) = false := decide_eq_false (by omega)
        have hR1 : R = true := hfi.out.mpr ⟨hb.out.symm, hall.out⟩
        subst hR1
        go_wp2
        go_ret
        exact ⟨rfl, below_step (below_alloc (Below.refl _ _) _) hBW.out⟩
      | succ j =>
        have hi : Aside0 (i < ops.length) := ⟨by have := hki.out; omega⟩
        have hlt : decide ((i : Int) < (ops.length : Int)) = true := decide_eq_true (by have := hi.out; omega)
        have hltn : i < ops.length := hi.out
        have hb3 : Aside0 (∀ W_ : World, Below wr.heap.size wr W_ → W_.cell? ⟨g, 3, none⟩ = some (.slice AO ops.length cO)) := ⟨fun W_ h => blk_cell (blk_below (blk_below hk0.out hBW.out) h) 3⟩
        have hbx : Aside0 (∀ W_ : World, Below wr.heap.size wr W_ → W_.cell? ⟨W.heap.size, 0, none⟩ = some (.slice (some adm) ops.length cI)) := ⟨fun W_ h => blk_cell (blk_below (blk_below (blk_new W _) hBW.out) h) 0⟩
        have hq : Aside0 (0 ≤ (i : Int) ∧ (i : Int) < (ops.length : Int) ∧ i < ops.length) := ⟨by have := hi.out; omega⟩
        have hqm : Aside0 (0 ≤ (m : Int) ∧ (m : Int) < (ops.length : Int) ∧ m < ops.length) := ⟨by have := hm'.out; omega⟩
        have hz : Aside0 (∀ W_ : World, Below wr.heap.size wr W_ → W_.cell? (adm.add i) = some (.bool (s.testBit i))) := ⟨fun W_ h => by
          obtain ⟨ad2, e, z⟩ := Kd.at_bool (Kd.C_below (Kd.C_below (Kd.C_alloc hI.out _) hBW.out) h) (i : Int) hq.out.1 hq.out.2.1
          cases e
          rw [bits_rd s hi.out] at z
          simpa only [Int.toNat_natCast] using z⟩
        obtain ⟨ado, eo, hok⟩ := op_cells7 (Kd.C_below (Kd.C_alloc hO.out (.cells #[.slice (some adm) ops.length cI, .int .i64 x0, .int .i64 x1, .int .i64 x2, .int .i64 x3] 125)) hBW.out) (i : Int) hq.out.1 hq.out.2.1
        cases eo
        obtain ⟨ado2, eo, hom⟩ := op_cells7 (Kd.C_below (Kd.C_alloc hO.out (.cells #[.slice (some adm) ops.length cI, .int .i64 x0, .int .i64 x1, .int .i64 x2, .int .i64 x3] 125)) hBW.out) (m : Int) hqm.out.1 hqm.out.2.1
        cases eo
        simp only [Int.toNat_natCast] at hok hom
        obtain ⟨pk, hpk⟩ : ∃ p, p = rd_T65 ops (i : Int) := ⟨_, rfl⟩
        obtain ⟨pm, hpm⟩ : ∃ p, p = rd_T65 ops (m : Int) := ⟨_, rfl⟩
        rw [← hpk] at hok
        rw [← hpm] at hom
        replace hok := Aside0.mk hok
        replace hom := Aside0.mk hom
        obtain ⟨bq, hbq⟩ : ∃ bq, bq = befZ pk pm := ⟨_, rfl⟩
        obtain ⟨b, hbi⟩ : ∃ b, b = s.testBit i := ⟨_, rfl⟩
        rw [← hbi] at hz
        cases b with
        | true =>
          have hnx : Aside0 (∀ j : Nat, j < i + 1 → befZ (rd_T65 ops (j : Int)) (rd_T65 ops (m : Int)) = true → s.testBit j = true) := ⟨fun j h h2 => by
            by_cases c : j = i
            · subst c; exact hbi.symm
            · exact hall.out j (by omega) h2⟩
          clear hbi hbq hpk hpm hm q0 q1 zm hx0
          go_wp2
          refine region_by (fun b us W_ => Below wr.heap.size wr W_) (by kernel_rfl) (by kernel_rfl) ⟨fun _ => undef, below_drew (Below.refl _ _)⟩ ?_
          (refine rb_want (fun us => rfl) ?_; apply Exists.intro; apply And.intro; (focus (apply rb_pure; (focus (intro b us w h; exact h)); intro b us W_ hC; go_simp; rfl)); apply Exists.intro; apply And.intro; (focus (intro us; simp only [Act.put, List.setIfInBounds_toArray, List.set_cons_zero, List.set_cons_succ]; rfl)))
          (refine rb_want (fun us => rfl) ?_; apply Exists.intro; apply And.intro; (focus (apply rb_pure; (focus (intro b us w h; exact h)); intro b us W_ hC; have y := hbx.out W_ hC; go_simp; rfl)); apply Exists.intro; apply And.intro; (focus (intro us; simp only [Act.put, List.setIfInBounds_toArray, List.set_cons_zero, List.set_cons_succ]; rfl)))
          (refine rb_want (fun us => rfl) ?_; apply Exists.intro; apply And.intro; (focus (apply rb_pure; (focus (intro b us w h; exact h)); intro b us W_ hC; go_simp; rfl)); apply Exists.intro; apply And.intro; (focus (intro us; simp only [Act.put, List.setIfInBounds_toArray, List.set_cons_zero, List.set_cons_succ]; rfl)))
          (refine rb_want (fun us => rfl) ?_; apply Exists.intro; apply And.intro; (focus (apply rb_pure; (focus (intro b us w h; exact h)); intro b us W_ hC; have qq := hq.out; obtain ⟨qa, qb, qc⟩ := qq; go_simp; rfl)); apply Exists.intro; apply And.intro; (focus (intro us; simp only [Act.put, List.setIfInBounds_toArray, List.set_cons_zero, List.set_cons_succ]; rfl)))
          (refine rb_want (fun us => rfl) ?_; apply Exists.intro; apply And.intro; (focus (apply rb_pure; (focus (intro b us w h; exact h)); intro b us W_ hC; have y := hz.out W_ hC; go_simp; rfl)); apply Exists.intro; apply And.intro; (focus (intro us; simp only [Act.put, List.setIfInBounds_toArray, List.set_cons_zero, List.set_cons_succ]; rfl)))
          iterate 2 (refine rb_want (fun us => rfl) ?_; apply Exists.intro; apply And.intro; (focus (apply rb_pure; (focus (intro b us w h; exact h)); intro b us W_ hC; go_simp; rfl)); apply Exists.intro; apply And.intro; (focus (intro us; simp only [Act.put, List.setIfInBounds_toArray, List.set_cons_zero, List.set_cons_succ]; rfl)))
          iterate 15 (refine rb_skip (fun us => rfl) (fun b us w h => by exact h) ?_; apply Exists.intro; apply And.intro; (focus (intro us; simp only [Act.put, List.setIfInBounds_toArray, List.set_cons_zero, List.set_cons_succ]; rfl)))
          (refine rb_want (fun us => rfl) ?_; apply Exists.intro; apply And.intro; (focus (apply rb_pure; (focus (intro b us w h; exact h)); intro b us W_ hC; go_simp; rfl)); apply Exists.intro; apply And.intro; (focus (intro us; simp only [Act.put, List.setIfInBounds_toArray, List.set_cons_zero, List.set_cons_succ]; rfl)))
          refine rb_done (fun b us W8 hall hC => ?_)
          have hB8 := Aside0.mk hC
          clear hC hall
          try dsimp only
          clear us b

          go_wp2
          go_roundg j
          case measure => omega
          case rel => exact ⟨i + 1, by rw [w64 (by have := hi.out; have := hn.out; omega) (by have := hi.out; have := hn.out; omega)]; simp, ⟨by have := hki.out; omega⟩, hnx, ⟨below_step hBW.out hB8.out⟩⟩
        | false =>
          cases bq with
          | true =>
            have hR1 : R = false := by
              cases R with
              | false => rfl
              | true =>
                have := (hfi.out.mp rfl).2 i hi.out (by rw [← hpk, ← hpm]; exact hbq.symm)
                rw [← hbi] at this; cases this
            subst hR1
            replace hbq := Aside0.mk hbq
            clear hbi hpk hpm hm q0 q1 zm hx0
            go_wp2
            refine region_by (fun b us W_ => Below wr.heap.size wr W_) (by kernel_rfl) (by kernel_rfl) ⟨fun _ => undef, below_drew (Below.refl _ _)⟩ ?_
            (refine rb_want (fun us => rfl) ?_; apply Exists.intro; apply And.intro; (focus (apply rb_pure; (focus (intro b us w h; exact h)); intro b us W_ hC; go_simp; rfl)); apply Exists.intro; apply And.intro; (focus (intro us; simp only [Act.put, List.setIfInBounds_toArray, List.set_cons_zero, List.set_cons_succ]; rfl)))
            (refine rb_want (fun us => rfl) ?_; apply Exists.intro; apply And.intro; (focus (apply rb_pure; (focus (intro b us w h; exact h)); intro b us W_ hC; have y := hbx.out W_ hC; go_simp; rfl)); apply Exists.intro; apply And.intro; (focus (intro us; simp only [Act.put, List.setIfInBounds_toArray, List.set_cons_zero, List.set_cons_succ]; rfl)))
            (refine rb_want (fun us => rfl) ?_; apply Exists.intro; apply And.intro; (focus (apply rb_pure; (focus (intro b us w h; exact h)); intro b us W_ hC; go_simp; rfl)); apply Exists.intro; apply And.intro; (focus (intro us; simp only [Act.put, List.setIfInBounds_toArray, List.set_cons_zero, List.set_cons_succ]; rfl)))
            (refine rb_want (fun us => rfl) ?_; apply Exists.intro; apply And.intro; (focus (apply rb_pure; (focus (intro b us w h; exact h)); intro b us W_ hC; have qq := hq.out; obtain ⟨qa, qb, qc⟩ := qq; go_simp; rfl)); apply Exists.intro; apply And.intro; (focus (intro us; simp only [Act.put, List.setIfInBounds_toArray, List.set_cons_zero, List.set_cons_succ]; rfl)))
            (refine rb_want (fun us => rfl) ?_; apply Exists.intro; apply And.intro; (focus (apply rb_pure; (focus (intro b us w h; exact h)); intro b us W_ hC; have y := hz.out W_ hC; go_simp; rfl)); apply Exists.intro; apply And.intro; (focus (intro us; simp only [Act.put, List.setIfInBounds_toArray, List.set_cons_zero, List.set_cons_succ]; rfl)))
            iterate 5 (refine rb_want (fun us => rfl) ?_; apply Exists.intro; apply And.intro; (focus (apply rb_pure; (focus (intro b us w h; exact h)); intro b us W_ hC; go_simp; rfl)); apply Exists.intro; apply And.intro; (focus (intro us; simp only [Act.put, List.setIfInBounds_toArray, List.set_cons_zero, List.set_cons_succ]; rfl)))
            (refine rb_want (fun us => rfl) ?_; apply Exists.intro; apply And.intro; (focus (apply rb_pure; (focus (intro b us w h; exact h)); intro b us W_ hC; have y := hb3.out W_ hC; go_simp; rfl)); apply Exists.intro; apply And.intro; (focus (intro us; simp only [Act.put, List.setIfInBounds_toArray, List.set_cons_zero, List.set_cons_succ]; rfl)))
            (refine rb_want (fun us => rfl) ?_; apply Exists.intro; apply And.intro; (focus (apply rb_pure; (focus (intro b us w h; exact h)); intro b us W_ hC; go_simp; rfl)); apply Exists.intro; apply And.intro; (focus (intro us; simp only [Act.put, List.setIfInBounds_toArray, List.set_cons_zero, List.set_cons_succ]; rfl)))
            (refine rb_want (fun us => rfl) ?_; apply Exists.intro; apply And.intro; (focus (apply rb_pure; (focus (intro b us w h; exact h)); intro b us W_ hC; have qq := hq.out; obtain ⟨qa, qb, qc⟩ := qq; go_simp; rfl)); apply Exists.intro; apply And.intro; (focus (intro us; simp only [Act.put, List.setIfInBounds_toArray, List.set_cons_zero, List.set_cons_succ]; rfl)))
            (refine rb_want (fun us => rfl) ?_; apply Exists.intro; apply And.intro; (focus (apply rb_pure; (focus (intro b us w h; exact h)); intro b us W_ hC; have y := hok.out W_ hC; obtain ⟨y0, y1, y2, y3, y4, y5, y6⟩ := y; go_simp; rfl)); apply Exists.intro; apply And.intro; (focus (intro us; simp only [Act.put, List.setIfInBounds_toArray, List.set_cons_zero, List.set_cons_succ]; rfl)))
            iterate 3 (refine rb_want (fun us => rfl) ?_; apply Exists.intro; apply And.intro; (focus (apply rb_pure; (focus (intro b us w h; exact h)); intro b us W_ hC; go_simp; rfl)); apply Exists.intro; apply And.intro; (focus (intro us; simp only [Act.put, List.setIfInBounds_toArray, List.set_cons_zero, List.set_cons_succ]; rfl)))
            (refine rb_want (fun us => rfl) ?_; apply Exists.intro; apply And.intro; (focus (apply rb_pure; (focus (intro b us w h; exact h)); intro b us W_ hC; have y := hb3.out W_ hC; go_simp; rfl)); apply Exists.intro; apply And.intro; (focus (intro us; simp only [Act.put, List.setIfInBounds_toArray, List.set_cons_zero, List.set_cons_succ]; rfl)))
            (refine rb_want (fun us => rfl) ?_; apply Exists.intro; apply And.intro; (focus (apply rb_pure; (focus (intro b us w h; exact h)); intro b us W_ hC; go_simp; rfl)); apply Exists.intro; apply And.intro; (focus (intro us; simp only [Act.put, List.setIfInBounds_toArray, List.set_cons_zero, List.set_cons_succ]; rfl)))
            (refine rb_want (fun us => rfl) ?_; apply Exists.intro; apply And.intro; (focus (apply rb_pure; (focus (intro b us w h; exact h)); intro b us W_ hC; have qq := hqm.out; obtain ⟨qa, qb, qc⟩ := qq; go_simp; rfl)); apply Exists.intro; apply And.intro; (focus (intro us; simp only [Act.put, List.setIfInBounds_toArray, List.set_cons_zero, List.set_cons_succ]; rfl)))
            (refine rb_want (fun us => rfl) ?_; apply Exists.intro; apply And.intro; (focus (apply rb_pure; (focus (intro b us w h; exact h)); intro b us W_ hC; have y := hom.out W_ hC; obtain ⟨y0, y1, y2, y3, y4, y5, y6⟩ := y; go_simp; rfl)); apply Exists.intro; apply And.intro; (focus (intro us; simp only [Act.put, List.setIfInBounds_toArray, List.set_cons_zero, List.set_cons_succ]; rfl)))
            (refine rb_want (fun us => rfl) ⟨.bool true, rb_call (f := 62) (args := fun us => #[.agg #[.int .i64 pk.f0, .int .i64 pk.f1, .int .i64 pk.f2, .bool pk.f3, .int .i64 pk.f4, .int .i64 pk.f5, .int .i64 pk.f6], .agg #[.int .i64 pm.f0, .int .i64 pm.f1, .int .i64 pm.f2, .bool pm.f3, .int .i64 pm.f4, .int .i64 pm.f5, .int .i64 pm.f6]]) (fun us W_ => ?_) (fun b us W_ hb hon hC => ?_), ?_⟩; (focus (exact rb_enters Try.func62 (by kernel_rfl) rfl (by rfl) W_)); (focus (rw [hbq.out]; refine (r14_bef pk pm W_).mono ?_; rintro e w1 ⟨rfl, hbw⟩; exact ⟨rfl, below_step hC hbw⟩)); apply Exists.intro; apply And.intro; (focus (intro us; simp only [Act.put, List.setIfInBounds_toArray, List.set_cons_zero, List.set_cons_succ]; rfl)))
            (refine rb_want (fun us => rfl) ?_; apply Exists.intro; apply And.intro; (focus (apply rb_pure; (focus (intro b us w h; exact h)); intro b us W_ hC; go_simp; rfl)); apply Exists.intro; apply And.intro; (focus (intro us; simp only [Act.put, List.setIfInBounds_toArray, List.set_cons_zero, List.set_cons_succ]; rfl)))
            refine rb_done (fun b us W8 hall hC => ?_)
            have hB8 := Aside0.mk hC
            clear hC hall
            try dsimp only
            clear us b

            go_wp2
            go_ret
            exact ⟨rfl, below_step (below_step (below_alloc (Below.refl _ _) _) hBW.out) hB8.out⟩
          | false =>
            have hnx : Aside0 (∀ j : Nat, j < i + 1 → befZ (rd_T65 ops (j : Int)) (rd_T65 ops (m : Int)) = true → s.testBit j = true) := ⟨fun j h h2 => by
              by_cases c : j = i
              · subst c; rw [← hpk, ← hpm, ← hbq] at h2; cases h2
              · exact hall.out j (by omega) h2⟩
            replace hbq := Aside0.mk hbq
            clear hbi hpk hpm hm q0 q1 zm hx0
            go_wp2
            refine region_by (fun b us W_ => Below wr.heap.size wr W_) (by kernel_rfl) (by kernel_rfl) ⟨fun _ => undef, below_drew (Below.refl _ _)⟩ ?_
            (refine rb_want (fun us => rfl) ?_; apply Exists.intro; apply And.intro; (focus (apply rb_pure; (focus (intro b us w h; exact h)); intro b us W_ hC; go_simp; rfl)); apply Exists.intro; apply And.intro; (focus (intro us; simp only [Act.put, List.setIfInBounds_toArray, List.set_cons_zero, List.set_cons_succ]; rfl)))
            (refine rb_want (fun us => rfl) ?_; apply Exists.intro; apply And.intro; (focus (apply rb_pure; (focus (intro b us w h; exact h)); intro b us W_ hC; have y := hbx.out W_ hC; go_simp; rfl)); apply Exists.intro; apply And.intro; (focus (intro us; simp only [Act.put, List.setIfInBounds_toArray, List.set_cons_zero, List.set_cons_succ]; rfl)))
            (refine rb_want (fun us => rfl) ?_; apply Exists.intro; apply And.intro; (focus (apply rb_pure; (focus (intro b us w h; exact h)); intro b us W_ hC; go_simp; rfl)); apply Exists.intro; apply And.intro; (focus (intro us; simp only [Act.put, List.setIfInBounds_toArray, List.set_cons_zero, List.set_cons_succ]; rfl)))
            (refine rb_want (fun us => rfl) ?_; apply Exists.intro; apply And.intro; (focus (apply rb_pure; (focus (intro b us w h; exact h)); intro b us W_ hC; have qq := hq.out; obtain ⟨qa, qb, qc⟩ := qq; go_simp; rfl)); apply Exists.intro; apply And.intro; (focus (intro us; simp only [Act.put, List.setIfInBounds_toArray, List.set_cons_zero, List.set_cons_succ]; rfl)))
            (refine rb_want (fun us => rfl) ?_; apply Exists.intro; apply And.intro; (focus (apply rb_pure; (focus (intro b us w h; exact h)); intro b us W_ hC; have y := hz.out W_ hC; go_simp; rfl)); apply Exists.intro; apply And.intro; (focus (intro us; simp only [Act.put, List.setIfInBounds_toArray, List.set_cons_zero, List.set_cons_succ]; rfl)))
            iterate 5 (refine rb_want (fun us => rfl) ?_; apply Exists.intro; apply And.intro; (focus (apply rb_pure; (focus (intro b us w h; exact h)); intro b us W_ hC; go_simp; rfl)); apply Exists.intro; apply And.intro; (focus (intro us; simp only [Act.put, List.setIfInBounds_toArray, List.set_cons_zero, List.set_cons_succ]; rfl)))
            (refine rb_want (fun us => rfl) ?_; apply Exists.intro; apply And.intro; (focus (apply rb_pure; (focus (intro b us w h; exact h)); intro b us W_ hC; have y := hb3.out W_ hC; go_simp; rfl)); apply Exists.intro; apply And.intro; (focus (intro us; simp only [Act.put, List.setIfInBounds_toArray, List.set_cons_zero, List.set_cons_succ]; rfl)))
            (refine rb_want (fun us => rfl) ?_; apply Exists.intro; apply And.intro; (focus (apply rb_pure; (focus (intro b us w h; exact h)); intro b us W_ hC; go_simp; rfl)); apply Exists.intro; apply And.intro; (focus (intro us; simp only [Act.put, List.setIfInBounds_toArray, List.set_cons_zero, List.set_cons_succ]; rfl)))
            (refine rb_want (fun us => rfl) ?_; apply Exists.intro; apply And.intro; (focus (apply rb_pure; (focus (intro b us w h; exact h)); intro b us W_ hC; have qq := hq.out; obtain ⟨qa, qb, qc⟩ := qq; go_simp; rfl)); apply Exists.intro; apply And.intro; (focus (intro us; simp only [Act.put, List.setIfInBounds_toArray, List.set_cons_zero, List.set_cons_succ]; rfl)))
            (refine rb_want (fun us => rfl) ?_; apply Exists.intro; apply And.intro; (focus (apply rb_pure; (focus (intro b us w h; exact h)); intro b us W_ hC; have y := hok.out W_ hC; obtain ⟨y0, y1, y2, y3, y4, y5, y6⟩ := y; go_simp; rfl)); apply Exists.intro; apply And.intro; (focus (intro us; simp only [Act.put, List.setIfInBounds_toArray, List.set_cons_zero, List.set_cons_succ]; rfl)))
            iterate 3 (refine rb_want (fun us => rfl) ?_; apply Exists.intro; apply And.intro; (focus (apply rb_pure; (focus (intro b us w h; exact h)); intro b us W_ hC; go_simp; rfl)); apply Exists.intro; apply And.intro; (focus (intro us; simp only [Act.put, List.setIfInBounds_toArray, List.set_cons_zero, List.set_cons_succ]; rfl)))
            (refine rb_want (fun us => rfl) ?_; apply Exists.intro; apply And.intro; (focus (apply rb_pure; (focus (intro b us w h; exact h)); intro b us W_ hC; have y := hb3.out W_ hC; go_simp; rfl)); apply Exists.intro; apply And.intro; (focus (intro us; simp only [Act.put, List.setIfInBounds_toArray, List.set_cons_zero, List.set_cons_succ]; rfl)))
            (refine rb_want (fun us => rfl) ?_; apply Exists.intro; apply And.intro; (focus (apply rb_pure; (focus (intro b us w h; exact h)); intro b us W_ hC; go_simp; rfl)); apply Exists.intro; apply And.intro; (focus (intro us; simp only [Act.put, List.setIfInBounds_toArray, List.set_cons_zero, List.set_cons_succ]; rfl)))
            (refine rb_want (fun us => rfl) ?_; apply Exists.intro; apply And.intro; (focus (apply rb_pure; (focus (intro b us w h; exact h)); intro b us W_ hC; have qq := hqm.out; obtain ⟨qa, qb, qc⟩ := qq; go_simp; rfl)); apply Exists.intro; apply And.intro; (focus (intro us; simp only [Act.put, List.setIfInBounds_toArray, List.set_cons_zero, List.set_cons_succ]; rfl)))
            (refine rb_want (fun us => rfl) ?_; apply Exists.intro; apply And.intro; (focus (apply rb_pure; (focus (intro b us w h; exact h)); intro b us W_ hC; have y := hom.out W_ hC; obtain ⟨y0, y1, y2, y3, y4, y5, y6⟩ := y; go_simp; rfl)); apply Exists.intro; apply And.intro; (focus (intro us; simp only [Act.put, List.setIfInBounds_toArray, List.set_cons_zero, List.set_cons_succ]; rfl)))
            (refine rb_want (fun us => rfl) ⟨.bool false, rb_call (f := 62) (args := fun us => #[.agg #[.int .i64 pk.f0, .int .i64 pk.f1, .int .i64 pk.f2, .bool pk.f3, .int .i64 pk.f4, .int .i64 pk.f5, .int .i64 pk.f6], .agg #[.int .i64 pm.f0, .int .i64 pm.f1, .int .i64 pm.f2, .bool pm.f3, .int .i64 pm.f4, .int .i64 pm.f5, .int .i64 pm.f6]]) (fun us W_ => ?_) (fun b us W_ hb hon hC => ?_), ?_⟩; (focus (exact rb_enters Try.func62 (by kernel_rfl) rfl (by rfl) W_)); (focus (rw [hbq.out]; refine (r14_bef pk pm W_).mono ?_; rintro e w1 ⟨rfl, hbw⟩; exact ⟨rfl, below_step hC hbw⟩)); apply Exists.intro; apply And.intro; (focus (intro us; simp only [Act.put, List.setIfInBounds_toArray, List.set_cons_zero, List.set_cons_succ]; rfl)))
            (refine rb_want (fun us => rfl) ?_; apply Exists.intro; apply And.intro; (focus (apply rb_pure; (focus (intro b us w h; exact h)); intro b us W_ hC; go_simp; rfl)); apply Exists.intro; apply And.intro; (focus (intro us; simp only [Act.put, List.setIfInBounds_toArray, List.set_cons_zero, List.set_cons_succ]; rfl)))
            refine rb_done (fun b us W8 hall hC => ?_)
            have hB8 := Aside0.mk hC
            clear hC hall
            try dsimp only
            clear us b

            go_wp2
            go_roundg j
            case measure => omega
            case rel => exact ⟨i + 1, by rw [w64 (by have := hi.out; have := hn.out; omega) (by have := hi.out; have := hn.out; omega)]; simp, ⟨by have := hki.out; omega⟩, hnx, ⟨below_step hBW.out hB8.out⟩⟩
end Go.Proofs.Ytddkoimaghcbeaa.PVmSteps
