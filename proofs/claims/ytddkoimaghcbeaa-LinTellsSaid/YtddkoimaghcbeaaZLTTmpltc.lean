/- A part of what the law LinTells stands on, only as far as it is needed (the words and walks were printed or written in this seat; this text was cut by a program of this session, wip/bin/trim.py). No condition beyond what each theorem says. -/
import Derived.Test.YtddkoimaghcbeaaZLTPVmStepsx0
import Derived.Test.YtddkoimaghcbeaaZLTPVmStepsx2
import Derived.Test.YtddkoimaghcbeaaZLTPVmStepsx3
import Derived.Test.YtddkoimaghcbeaaZLTPVmStepsx4
import Derived.Test.YtddkoimaghcbeaaZLTPVmStepsx5
import Derived.Test.YtddkoimaghcbeaaZLTPVmStepsx6
import Derived.Test.YtddkoimaghcbeaaZLTTmpltb
namespace Go.Proofs.Ytddkoimaghcbeaa.PVmSteps
open Go.RowKit Go.Proofs.YtddkoimaghcbeaaW.PrintWords Go.Proofs.YtddkoimaghcbeaaW.PrintLast Go.Proofs.YtddkoimaghcbeaaW.PrintMore
set_option linter.unusedVariables false
set_option linter.unusedSimpArgs false
set_option maxRecDepth 100000 in
set_option maxHeartbeats 8000000 in
theorem r18_same (W : World) (AI AJ : Option Addr) (cI cJ n s t : Nat) (x0 x1 x2 x3 y0 y1 y2 y3 : Int) (hI : Kd.bool.C W AI n (bitsZ n s)) (hJ : Kd.bool.C W AJ n (bitsZ n t)) (hn : n ≤ 64) (hs : s < 2 ^ n) (ht : t < 2 ^ n) :
    Calls Try.prog 85 #[.agg #[.slice AI n cI, .int .i64 x0, .int .i64 x1, .int .i64 x2, .int .i64 x3], .agg #[.slice AJ n cJ, .int .i64 y0, .int .i64 y1, .int .i64 y2, .int .i64 y3]] W fun e w' => e = .returned (.bool ((x0 == y0 && (x1 == y1 && (x2 == y2 && (x3 == y3)))) && decide (s = t))) ∧ Below W.heap.size W w' := by
  have hq0 := fun w => eqI24_0 w x0 x1 x2 x3 y0 y1 y2 y3
  have hgd := guard24
  obtain ⟨be, hbe⟩ : ∃ b, b = (x0 == y0 && (x1 == y1 && (x2 == y2 && (x3 == y3)))) := ⟨_, rfl⟩
  rw [← hbe] at hq0
  rw [← hbe]
  replace hI := Aside0.mk hI
  replace hJ := Aside0.mk hJ
  replace hn := Aside0.mk hn
  have hst0 : s = t ↔ ∀ k, k < n → s.testBit k = t.testBit k := ⟨fun e k _ => by rw [e], fun h => bits_ext hs ht h⟩
  obtain ⟨R, hR⟩ : ∃ R, R = decide (s = t) := ⟨_, rfl⟩
  have hst : Aside0 (R = true ↔ ∀ k, k < n → s.testBit k = t.testBit k) := ⟨by rw [hR, decide_eq_true_iff]; exact hst0⟩
  rw [← hR]
  have hsz : (W.alloc (.cells #[.slice AI n cI, .int .i64 x0, .int .i64 x1, .int .i64 x2, .int .i64 x3] 125)).heap.size = W.heap.size + 1 := by simp only [World.alloc, Array.size_push]
  clear hbe hs ht hst0 hR
  have ha0 := blk_cell (blk_below (blk_new W (.cells #[.slice AI n cI, .int .i64 x0, .int .i64 x1, .int .i64 x2, .int .i64 x3] 125)) (below_alloc (Below.refl _ _) (.cells #[.slice AJ n cJ, .int .i64 y0, .int .i64 y1, .int .i64 y2, .int .i64 y3] 125)))
  have hb0 := blk_cell (blk_new (W.alloc (.cells #[.slice AI n cI, .int .i64 x0, .int .i64 x1, .int .i64 x2, .int .i64 x3] 125)) (.cells #[.slice AJ n cJ, .int .i64 y0, .int .i64 y1, .int .i64 y2, .int .i64 y3] 125))
  have a1 := ha0 1
  have a2 := ha0 2
  have a3 := ha0 3
  have a4 := ha0 4
  have b1 := hb0 1
  have b2 := hb0 2
  have b3 := hb0 3
  have b4 := hb0 4
  simp only [List.getElem?_toArray, List.getElem?_cons_zero, List.getElem?_cons_succ] at a1 a2 a3 a4 b1 b2 b3 b4
  rw [hsz] at b1 b2 b3 b4
  replace hsz := Aside0.mk hsz
  clear ha0 hb0
  cases be with
  | false =>
    go_enter Try.func85, Try.ntmps85
    go_wp2
    go_ret
    exact ⟨rfl, below_alloc (below_alloc (Below.refl _ _) _) _⟩
  | true =>
    go_enter Try.func85, Try.ntmps85
    go_wp2
    go_loopg [5] n (fun kk v5 W_ => ∃ i : Nat, v5 = .int .i64 i ∧ Aside0 (kk + i = n) ∧ Aside0 (∀ k, k < i → s.testBit k = t.testBit k) ∧ Aside0 (Below ((W.alloc (.cells #[.slice AI n cI, .int .i64 x0, .int .i64 x1, .int .i64 x2, .int .i64 x3] 125)).alloc (.cells #[.slice AJ n cJ, .int .i64 y0, .int .i64 y1, .int .i64 y2, .int .i64 y3] 125)).heap.size ((W.alloc (.cells #[.slice AI n cI, .int .i64 x0, .int .i64 x1, .int .i64 x2, .int .i64 x3] 125)).alloc (.cells #[.slice AJ n cJ, .int .i64 y0, .int .i64 y1, .int .i64 y2, .int .i64 y3] 125)) W_))
    case atStart => exact ⟨0, rfl, ⟨by omega⟩, ⟨fun j h => by omega⟩, ⟨Below.refl _ _⟩⟩
    case round =>
      obtain ⟨i, rfl, hki, hall, hBW⟩ := hrel
      have hba : Aside0 (∀ W_ : World, Below wr.heap.size wr W_ → W_.cell? ⟨W.heap.size, 0, none⟩ = some (.slice AI n cI)) := ⟨fun W_ h => blk_cell (blk_below (blk_below (blk_below (blk_new W _) (below_alloc (Below.refl _ _) _)) hBW.out) h) 0⟩
      have hbb : Aside0 (∀ W_ : World, Below wr.heap.size wr W_ → W_.cell? ⟨W.heap.size + 1, 0, none⟩ = some (.slice AJ n cJ)) := ⟨fun W_ h => by rw [← hsz.out]; exact blk_cell (blk_below (blk_below (blk_new (W.alloc (.cells #[.slice AI n cI, .int .i64 x0, .int .i64 x1, .int .i64 x2, .int .i64 x3] 125)) _) hBW.out) h) 0⟩
      have hba1 := hba.out wr (Below.refl _ _)
      cases gk with
      | zero =>
        obtain rfl : i = n := by have := hki.out; omega
        have hlt : decide ((i : Int) < (i : Int)) = false := decide_eq_false (by omega)
        obtain rfl : R = true := hst.out.mpr hall.out
        go_wp2
        go_ret
        exact ⟨rfl, below_step (below_alloc (below_alloc (Below.refl _ _) _) _) hBW.out⟩
      | succ j =>
        have hi : Aside0 (i < n) := ⟨by have := hki.out; omega⟩
        have hlt : decide ((i : Int) < (n : Int)) = true := decide_eq_true (by have := hi.out; omega)
        have hltn : i < n := hi.out
        have hq : Aside0 (0 ≤ (i : Int) ∧ (i : Int) < (n : Int) ∧ i < n) := ⟨by have := hi.out; omega⟩
        obtain ⟨ad, e, z0⟩ := Kd.at_bool (Kd.C_below (Kd.C_alloc (Kd.C_alloc hI.out (.cells #[.slice AI n cI, .int .i64 x0, .int .i64 x1, .int .i64 x2, .int .i64 x3] 125)) (.cells #[.slice AJ n cJ, .int .i64 y0, .int .i64 y1, .int .i64 y2, .int .i64 y3] 125)) hBW.out) (i : Int) hq.out.1 hq.out.2.1
        cases e
        obtain ⟨ad2, e, z1⟩ := Kd.at_bool (Kd.C_below (Kd.C_alloc (Kd.C_alloc hJ.out (.cells #[.slice (some ad) n cI, .int .i64 x0, .int .i64 x1, .int .i64 x2, .int .i64 x3] 125)) (.cells #[.slice AJ n cJ, .int .i64 y0, .int .i64 y1, .int .i64 y2, .int .i64 y3] 125)) hBW.out) (i : Int) hq.out.1 hq.out.2.1
        cases e
        rw [bits_rd s hi.out] at z0
        rw [bits_rd t hi.out] at z1
        simp only [Int.toNat_natCast] at z0 z1
        have hza : Aside0 (∀ W_ : World, Below wr.heap.size wr W_ → W_.cell? (ad.add i) = some (.bool (s.testBit i))) := ⟨fun W_ h => (h.cell (World.block_lt_of_cell? _ _ z0)).trans z0⟩
        have hzb : Aside0 (∀ W_ : World, Below wr.heap.size wr W_ → W_.cell? (ad2.add i) = some (.bool (t.testBit i))) := ⟨fun W_ h => (h.cell (World.block_lt_of_cell? _ _ z1)).trans z1⟩
        clear z0 z1
        obtain ⟨bs, hbs⟩ : ∃ b, b = s.testBit i := ⟨_, rfl⟩
        obtain ⟨bt, hbt⟩ : ∃ b, b = t.testBit i := ⟨_, rfl⟩
        rw [← hbs] at hza
        rw [← hbt] at hzb
        by_cases c : bs = bt
        · have hnx : Aside0 (∀ k, k < i + 1 → s.testBit k = t.testBit k) := ⟨fun k h => by
            by_cases d : k = i
            · subst d; rw [← hbs, ← hbt]; exact c
            · exact hall.out k (by omega)⟩
          subst c
          clear hbs hbt
          cases bs with
          | true =>
            go_wp2
            refine region_by (fun b us W_ => Below wr.heap.size wr W_) (by kernel_rfl) (by kernel_rfl) ⟨fun _ => undef, below_drew (Below.refl _ _)⟩ ?_
            (refine rb_want (fun us => rfl) ?_; apply Exists.intro; apply And.intro; (focus (apply rb_pure; (focus (intro b us w h; exact h)); intro b us W_ hC; go_simp; rfl)); apply Exists.intro; apply And.intro; (focus (intro us; simp only [Act.put, List.setIfInBounds_toArray, List.set_cons_zero, List.set_cons_succ]; rfl)))
            (refine rb_want (fun us => rfl) ?_; apply Exists.intro; apply And.intro; (focus (apply rb_pure; (focus (intro b us w h; exact h)); intro b us W_ hC; have y := hba.out W_ hC; go_simp; rfl)); apply Exists.intro; apply And.intro; (focus (intro us; simp only [Act.put, List.setIfInBounds_toArray, List.set_cons_zero, List.set_cons_succ]; rfl)))
            (refine rb_want (fun us => rfl) ?_; apply Exists.intro; apply And.intro; (focus (apply rb_pure; (focus (intro b us w h; exact h)); intro b us W_ hC; go_simp; rfl)); apply Exists.intro; apply And.intro; (focus (intro us; simp only [Act.put, List.setIfInBounds_toArray, List.set_cons_zero, List.set_cons_succ]; rfl)))
            (refine rb_want (fun us => rfl) ?_; apply Exists.intro; apply And.intro; (focus (apply rb_pure; (focus (intro b us w h; exact h)); intro b us W_ hC; have qq := hq.out; obtain ⟨qa, qb, qc⟩ := qq; go_simp; rfl)); apply Exists.intro; apply And.intro; (focus (intro us; simp only [Act.put, List.setIfInBounds_toArray, List.set_cons_zero, List.set_cons_succ]; rfl)))
            (refine rb_want (fun us => rfl) ?_; apply Exists.intro; apply And.intro; (focus (apply rb_pure; (focus (intro b us w h; exact h)); intro b us W_ hC; have y := hza.out W_ hC; go_simp; rfl)); apply Exists.intro; apply And.intro; (focus (intro us; simp only [Act.put, List.setIfInBounds_toArray, List.set_cons_zero, List.set_cons_succ]; rfl)))
            (refine rb_want (fun us => rfl) ?_; apply Exists.intro; apply And.intro; (focus (apply rb_pure; (focus (intro b us w h; exact h)); intro b us W_ hC; go_simp; rfl)); apply Exists.intro; apply And.intro; (focus (intro us; simp only [Act.put, List.setIfInBounds_toArray, List.set_cons_zero, List.set_cons_succ]; rfl)))
            (refine rb_want (fun us => rfl) ?_; apply Exists.intro; apply And.intro; (focus (apply rb_pure; (focus (intro b us w h; exact h)); intro b us W_ hC; have y := hbb.out W_ hC; go_simp; rfl)); apply Exists.intro; apply And.intro; (focus (intro us; simp only [Act.put, List.setIfInBounds_toArray, List.set_cons_zero, List.set_cons_succ]; rfl)))
            (refine rb_want (fun us => rfl) ?_; apply Exists.intro; apply And.intro; (focus (apply rb_pure; (focus (intro b us w h; exact h)); intro b us W_ hC; go_simp; rfl)); apply Exists.intro; apply And.intro; (focus (intro us; simp only [Act.put, List.setIfInBounds_toArray, List.set_cons_zero, List.set_cons_succ]; rfl)))
            (refine rb_want (fun us => rfl) ?_; apply Exists.intro; apply And.intro; (focus (apply rb_pure; (focus (intro b us w h; exact h)); intro b us W_ hC; have qq := hq.out; obtain ⟨qa, qb, qc⟩ := qq; go_simp; rfl)); apply Exists.intro; apply And.intro; (focus (intro us; simp only [Act.put, List.setIfInBounds_toArray, List.set_cons_zero, List.set_cons_succ]; rfl)))
            (refine rb_want (fun us => rfl) ?_; apply Exists.intro; apply And.intro; (focus (apply rb_pure; (focus (intro b us w h; exact h)); intro b us W_ hC; have y := hzb.out W_ hC; go_simp; rfl)); apply Exists.intro; apply And.intro; (focus (intro us; simp only [Act.put, List.setIfInBounds_toArray, List.set_cons_zero, List.set_cons_succ]; rfl)))
            (refine rb_want (fun us => rfl) ?_; apply Exists.intro; apply And.intro; (focus (apply rb_pure; (focus (intro b us w h; exact h)); intro b us W_ hC; go_simp; rfl)); apply Exists.intro; apply And.intro; (focus (intro us; simp only [Act.put, List.setIfInBounds_toArray, List.set_cons_zero, List.set_cons_succ]; rfl)))
            refine rb_done (fun b us W8 hall hC => ?_)
            have hB8 := Aside0.mk hC
            clear hC hall
            try dsimp only
            clear us b

            go_wp2
            go_roundg j
            case measure => omega
            case rel => exact ⟨i + 1, by rw [w64 (by have := hi.out; have := hn.out; omega) (by have := hi.out; have := hn.out; omega)]; simp, ⟨by have := hki.out; omega⟩, hnx, ⟨below_step hBW.out hB8.out⟩⟩
          | false =>
            go_wp2
            refine region_by (fun b us W_ => Below wr.heap.size wr W_) (by kernel_rfl) (by kernel_rfl) ⟨fun _ => undef, below_drew (Below.refl _ _)⟩ ?_
            (refine rb_want (fun us => rfl) ?_; apply Exists.intro; apply And.intro; (focus (apply rb_pure; (focus (intro b us w h; exact h)); intro b us W_ hC; go_simp; rfl)); apply Exists.intro; apply And.intro; (focus (intro us; simp only [Act.put, List.setIfInBounds_toArray, List.set_cons_zero, List.set_cons_succ]; rfl)))
            (refine rb_want (fun us => rfl) ?_; apply Exists.intro; apply And.intro; (focus (apply rb_pure; (focus (intro b us w h; exact h)); intro b us W_ hC; have y := hba.out W_ hC; go_simp; rfl)); apply Exists.intro; apply And.intro; (focus (intro us; simp only [Act.put, List.setIfInBounds_toArray, List.set_cons_zero, List.set_cons_succ]; rfl)))
            (refine rb_want (fun us => rfl) ?_; apply Exists.intro; apply And.intro; (focus (apply rb_pure; (focus (intro b us w h; exact h)); intro b us W_ hC; go_simp; rfl)); apply Exists.intro; apply And.intro; (focus (intro us; simp only [Act.put, List.setIfInBounds_toArray, List.set_cons_zero, List.set_cons_succ]; rfl)))
            (refine rb_want (fun us => rfl) ?_; apply Exists.intro; apply And.intro; (focus (apply rb_pure; (focus (intro b us w h; exact h)); intro b us W_ hC; have qq := hq.out; obtain ⟨qa, qb, qc⟩ := qq; go_simp; rfl)); apply Exists.intro; apply And.intro; (focus (intro us; simp only [Act.put, List.setIfInBounds_toArray, List.set_cons_zero, List.set_cons_succ]; rfl)))
            (refine rb_want (fun us => rfl) ?_; apply Exists.intro; apply And.intro; (focus (apply rb_pure; (focus (intro b us w h; exact h)); intro b us W_ hC; have y := hza.out W_ hC; go_simp; rfl)); apply Exists.intro; apply And.intro; (focus (intro us; simp only [Act.put, List.setIfInBounds_toArray, List.set_cons_zero, List.set_cons_succ]; rfl)))
            (refine rb_want (fun us => rfl) ?_; apply Exists.intro; apply And.intro; (focus (apply rb_pure; (focus (intro b us w h; exact h)); intro b us W_ hC; go_simp; rfl)); apply Exists.intro; apply And.intro; (focus (intro us; simp only [Act.put, List.setIfInBounds_toArray, List.set_cons_zero, List.set_cons_succ]; rfl)))
            (refine rb_want (fun us => rfl) ?_; apply Exists.intro; apply And.intro; (focus (apply rb_pure; (focus (intro b us w h; exact h)); intro b us W_ hC; have y := hbb.out W_ hC; go_simp; rfl)); apply Exists.intro; apply And.intro; (focus (intro us; simp only [Act.put, List.setIfInBounds_toArray, List.set_cons_zero, List.set_cons_succ]; rfl)))
            (refine rb_want (fun us => rfl) ?_; apply Exists.intro; apply And.intro; (focus (apply rb_pure; (focus (intro b us w h; exact h)); intro b us W_ hC; go_simp; rfl)); apply Exists.intro; apply And.intro; (focus (intro us; simp only [Act.put, List.setIfInBounds_toArray, List.set_cons_zero, List.set_cons_succ]; rfl)))
            (refine rb_want (fun us => rfl) ?_; apply Exists.intro; apply And.intro; (focus (apply rb_pure; (focus (intro b us w h; exact h)); intro b us W_ hC; have qq := hq.out; obtain ⟨qa, qb, qc⟩ := qq; go_simp; rfl)); apply Exists.intro; apply And.intro; (focus (intro us; simp only [Act.put, List.setIfInBounds_toArray, List.set_cons_zero, List.set_cons_succ]; rfl)))
            (refine rb_want (fun us => rfl) ?_; apply Exists.intro; apply And.intro; (focus (apply rb_pure; (focus (intro b us w h; exact h)); intro b us W_ hC; have y := hzb.out W_ hC; go_simp; rfl)); apply Exists.intro; apply And.intro; (focus (intro us; simp only [Act.put, List.setIfInBounds_toArray, List.set_cons_zero, List.set_cons_succ]; rfl)))
            (refine rb_want (fun us => rfl) ?_; apply Exists.intro; apply And.intro; (focus (apply rb_pure; (focus (intro b us w h; exact h)); intro b us W_ hC; go_simp; rfl)); apply Exists.intro; apply And.intro; (focus (intro us; simp only [Act.put, List.setIfInBounds_toArray, List.set_cons_zero, List.set_cons_succ]; rfl)))
            refine rb_done (fun b us W8 hall hC => ?_)
            have hB8 := Aside0.mk hC
            clear hC hall
            try dsimp only
            clear us b

            go_wp2
            go_roundg j
            case measure => omega
            case rel => exact ⟨i + 1, by rw [w64 (by have := hi.out; have := hn.out; omega) (by have := hi.out; have := hn.out; omega)]; simp, ⟨by have := hki.out; omega⟩, hnx, ⟨below_step hBW.out hB8.out⟩⟩
        · obtain rfl : R = false := by
            cases R with
            | false => rfl
            | true => exact absurd (by rw [hbs, hbt]; exact hst.out.mp rfl i hi.out) c
          clear hbs hbt
          cases bs with
          | true =>
            obtain rfl : bt = false := by cases bt with | false => rfl | true => exact absurd rfl c
            clear c
            go_wp2
            refine region_by (fun b us W_ => Below wr.heap.size wr W_) (by kernel_rfl) (by kernel_rfl) ⟨fun _ => undef, below_drew (Below.refl _ _)⟩ ?_
            (refine rb_want (fun us => rfl) ?_; apply Exists.intro; apply And.intro; (focus (apply rb_pure; (focus (intro b us w h; exact h)); intro b us W_ hC; go_simp; rfl)); apply Exists.intro; apply And.intro; (focus (intro us; simp only [Act.put, List.setIfInBounds_toArray, List.set_cons_zero, List.set_cons_succ]; rfl)))
            (refine rb_want (fun us => rfl) ?_; apply Exists.intro; apply And.intro; (focus (apply rb_pure; (focus (intro b us w h; exact h)); intro b us W_ hC; have y := hba.out W_ hC; go_simp; rfl)); apply Exists.intro; apply And.intro; (focus (intro us; simp only [Act.put, List.setIfInBounds_toArray, List.set_cons_zero, List.set_cons_succ]; rfl)))
            (refine rb_want (fun us => rfl) ?_; apply Exists.intro; apply And.intro; (focus (apply rb_pure; (focus (intro b us w h; exact h)); intro b us W_ hC; go_simp; rfl)); apply Exists.intro; apply And.intro; (focus (intro us; simp only [Act.put, List.setIfInBounds_toArray, List.set_cons_zero, List.set_cons_succ]; rfl)))
            (refine rb_want (fun us => rfl) ?_; apply Exists.intro; apply And.intro; (focus (apply rb_pure; (focus (intro b us w h; exact h)); intro b us W_ hC; have qq := hq.out; obtain ⟨qa, qb, qc⟩ := qq; go_simp; rfl)); apply Exists.intro; apply And.intro; (focus (intro us; simp only [Act.put, List.setIfInBounds_toArray, List.set_cons_zero, List.set_cons_succ]; rfl)))
            (refine rb_want (fun us => rfl) ?_; apply Exists.intro; apply And.intro; (focus (apply rb_pure; (focus (intro b us w h; exact h)); intro b us W_ hC; have y := hza.out W_ hC; go_simp; rfl)); apply Exists.intro; apply And.intro; (focus (intro us; simp only [Act.put, List.setIfInBounds_toArray, List.set_cons_zero, List.set_cons_succ]; rfl)))
            (refine rb_want (fun us => rfl) ?_; apply Exists.intro; apply And.intro; (focus (apply rb_pure; (focus (intro b us w h; exact h)); intro b us W_ hC; go_simp; rfl)); apply Exists.intro; apply And.intro; (focus (intro us; simp only [Act.put, List.setIfInBounds_toArray, List.set_cons_zero, List.set_cons_succ]; rfl)))
            (refine rb_want (fun us => rfl) ?_; apply Exists.intro; apply And.intro; (focus (apply rb_pure; (focus (intro b us w h; exact h)); intro b us W_ hC; have y := hbb.out W_ hC; go_simp; rfl)); apply Exists.intro; apply And.intro; (focus (intro us; simp only [Act.put, List.setIfInBounds_toArray, List.set_cons_zero, List.set_cons_succ]; rfl)))
            (refine rb_want (fun us => rfl) ?_; apply Exists.intro; apply And.intro; (focus (apply rb_pure; (focus (intro b us w h; exact h)); intro b us W_ hC; go_simp; rfl)); apply Exists.intro; apply And.intro; (focus (intro us; simp only [Act.put, List.setIfInBounds_toArray, List.set_cons_zero, List.set_cons_succ]; rfl)))
            (refine rb_want (fun us => rfl) ?_; apply Exists.intro; apply And.intro; (focus (apply rb_pure; (focus (intro b us w h; exact h)); intro b us W_ hC; have qq := hq.out; obtain ⟨qa, qb, qc⟩ := qq; go_simp; rfl)); apply Exists.intro; apply And.intro; (focus (intro us; simp only [Act.put, List.setIfInBounds_toArray, List.set_cons_zero, List.set_cons_succ]; rfl)))
            (refine rb_want (fun us => rfl) ?_; apply Exists.intro; apply And.intro; (focus (apply rb_pure; (focus (intro b us w h; exact h)); intro b us W_ hC; have y := hzb.out W_ hC; go_simp; rfl)); apply Exists.intro; apply And.intro; (focus (intro us; simp only [Act.put, List.setIfInBounds_toArray, List.set_cons_zero, List.set_cons_succ]; rfl)))
            (refine rb_want (fun us => rfl) ?_; apply Exists.intro; apply And.intro; (focus (apply rb_pure; (focus (intro b us w h; exact h)); intro b us W_ hC; go_simp; rfl)); apply Exists.intro; apply And.intro; (focus (intro us; simp only [Act.put, List.setIfInBounds_toArray, List.set_cons_zero, List.set_cons_succ]; rfl)))
            refine rb_done (fun b us W8 hall hC => ?_)
            have hB8 := Aside0.mk hC
            clear hC hall
            try dsimp only
            clear us b

            go_wp2
            go_ret
            exact ⟨rfl, below_step (below_step (below_alloc (below_alloc (Below.refl _ _) _) _) hBW.out) hB8.out⟩
          | false =>
            obtain rfl : bt = true := by cases bt with | true => rfl | false => exact absurd rfl c
            clear c
            go_wp2
            refine region_by (fun b us W_ => Below wr.heap.size wr W_) (by kernel_rfl) (by kernel_rfl) ⟨fun _ => undef, below_drew (Below.refl _ _)⟩ ?_
            (refine rb_want (fun us => rfl) ?_; apply Exists.intro; apply And.intro; (focus (apply rb_pure; (focus (intro b us w h; exact h)); intro b us W_ hC; go_simp; rfl)); apply Exists.intro; apply And.intro; (focus (intro us; simp only [Act.put, List.setIfInBounds_toArray, List.set_cons_zero, List.set_cons_succ]; rfl)))
            (refine rb_want (fun us => rfl) ?_; apply Exists.intro; apply And.intro; (focus (apply rb_pure; (focus (intro b us w h; exact h)); intro b us W_ hC; have y := hba.out W_ hC; go_simp; rfl)); apply Exists.intro; apply And.intro; (focus (intro us; simp only [Act.put, List.setIfInBounds_toArray, List.set_cons_zero, List.set_cons_succ]; rfl)))
            (refine rb_want (fun us => rfl) ?_; apply Exists.intro; apply And.intro; (focus (apply rb_pure; (focus (intro b us w h; exact h)); intro b us W_ hC; go_simp; rfl)); apply Exists.intro; apply And.intro; (focus (intro us; simp only [Act.put, List.setIfInBounds_toArray, List.set_cons_zero, List.set_cons_succ]; rfl)))
            (refine rb_want (fun us => rfl) ?_; apply Exists.intro; apply And.intro; (focus (apply rb_pure; (focus (intro b us w h; exact h)); intro b us W_ hC; have qq := hq.out; obtain ⟨qa, qb, qc⟩ := qq; go_simp; rfl)); apply Exists.intro; apply And.intro; (focus (intro us; simp only [Act.put, List.setIfInBounds_toArray, List.set_cons_zero, List.set_cons_succ]; rfl)))
            (refine rb_want (fun us => rfl) ?_; apply Exists.intro; apply And.intro; (focus (apply rb_pure; (focus (intro b us w h; exact h)); intro b us W_ hC; have y := hza.out W_ hC; go_simp; rfl)); apply Exists.intro; apply And.intro; (focus (intro us; simp only [Act.put, List.setIfInBounds_toArray, List.set_cons_zero, List.set_cons_succ]; rfl)))
            (refine rb_want (fun us => rfl) ?_; apply Exists.intro; apply And.intro; (focus (apply rb_pure; (focus (intro b us w h; exact h)); intro b us W_ hC; go_simp; rfl)); apply Exists.intro; apply And.intro; (focus (intro us; simp only [Act.put, List.setIfInBounds_toArray, List.set_cons_zero, List.set_cons_succ]; rfl)))
            (refine rb_want (fun us => rfl) ?_; apply Exists.intro; apply And.intro; (focus (apply rb_pure; (focus (intro b us w h; exact h)); intro b us W_ hC; have y := hbb.out W_ hC; go_simp; rfl)); apply Exists.intro; apply And.intro; (focus (intro us; simp only [Act.put, List.setIfInBounds_toArray, List.set_cons_zero, List.set_cons_succ]; rfl)))
            (refine rb_want (fun us => rfl) ?_; apply Exists.intro; apply And.intro; (focus (apply rb_pure; (focus (intro b us w h; exact h)); intro b us W_ hC; go_simp; rfl)); apply Exists.intro; apply And.intro; (focus (intro us; simp only [Act.put, List.setIfInBounds_toArray, List.set_cons_zero, List.set_cons_succ]; rfl)))
            (refine rb_want (fun us => rfl) ?_; apply Exists.intro; apply And.intro; (focus (apply rb_pure; (focus (intro b us w h; exact h)); intro b us W_ hC; have qq := hq.out; obtain ⟨qa, qb, qc⟩ := qq; go_simp; rfl)); apply Exists.intro; apply And.intro; (focus (intro us; simp only [Act.put, List.setIfInBounds_toArray, List.set_cons_zero, List.set_cons_succ]; rfl)))
            (refine rb_want (fun us => rfl) ?_; apply Exists.intro; apply And.intro; (focus (apply rb_pure; (focus (intro b us w h; exact h)); intro b us W_ hC; have y := hzb.out W_ hC; go_simp; rfl)); apply Exists.intro; apply And.intro; (focus (intro us; simp only [Act.put, List.setIfInBounds_toArray, List.set_cons_zero, List.set_cons_succ]; rfl)))
            (refine rb_want (fun us => rfl) ?_; apply Exists.intro; apply And.intro; (focus (apply rb_pure; (focus (intro b us w h; exact h)); intro b us W_ hC; go_simp; rfl)); apply Exists.intro; apply And.intro; (focus (intro us; simp only [Act.put, List.setIfInBounds_toArray, List.set_cons_zero, List.set_cons_succ]; rfl)))
            refine rb_done (fun b us W8 hall hC => ?_)
            have hB8 := Aside0.mk hC
            clear hC hall
            try dsimp only
            clear us b

            go_wp2
            go_ret
            exact ⟨rfl, below_step (below_step (below_alloc (below_alloc (Below.refl _ _) _) _) hBW.out) hB8.out⟩
set_option maxRecDepth 100000 in
set_option maxHeartbeats 8000000 in
theorem r18_Check (A0 A3 : Option Addr) (c0 c3 : Nat) (L : List S36) (fuel budget : Int) (ops : List S65) (w : World) (hC0 : Kd.C k36 w A0 L.length L) (hc0 : L.length ≤ c0) (hL : L.length ≤ 300) (hC3 : Kd.C k65 w A3 ops.length ops) :
    Calls Try.prog 40 #[.slice A0 L.length c0, .int .i64 fuel, .int .i64 budget, .slice A3 ops.length c3] w fun e w' => e = .returned (.int .i64 (newE L fuel budget ops)) ∧ Below w.heap.size w w' := by
  have hK : Aside0 (inquestref15_Check.f L = some ((thru L).2.1, (thru L).2.2)) := ⟨r15_Check L hL⟩
  replace hC0 := Aside0.mk hC0
  replace hC3 := Aside0.mk hC3
  replace hL := Aside0.mk hL
  obtain ⟨E, hE⟩ : ∃ E, E = newE L fuel budget ops := ⟨_, rfl⟩
  rw [← hE]
  by_cases ht : (thru L).2.2 = 0
  rotate_left
  · have hb0 : ((thru L).2.2 != 0) = true := by simpa using ht
    have hz := Aside0.mk (show E = (thru L).2.2 by rw [hE]; unfold newE; rw [if_pos ht])
    clear hE ht
    go_enter Try.func40, Try.ntmps40
    go_wp2_with (first | (go_at_call 24; (with_reducible refine (inquestref15_Check.calls A0 c0 L (thru L).2.1 (thru L).2.2 _ hC0.out hc0 hK.out).mono ?_); rintro e W1 ⟨rfl, hB1⟩; replace hB1 := Aside0.mk hB1))
    go_ret
    exact ⟨by rw [hz.out] <;> rfl, hB1.out⟩
  have hb0 : ((thru L).2.2 != 0) = false := by simpa using ht
  by_cases hb1 : fuel < 0
  · have kb1 : decide (fuel < 0) = true := decide_eq_true hb1
    have hz := Aside0.mk (show E = 2 by rw [hE]; unfold newE; rw [if_neg (fun q => q ht), if_pos (by omega)])
    clear hE ht hb1 
    go_enter Try.func40, Try.ntmps40
    go_wp2_with (first | (go_at_call 24; (with_reducible refine (inquestref15_Check.calls A0 c0 L (thru L).2.1 (thru L).2.2 _ hC0.out hc0 hK.out).mono ?_); rintro e W1 ⟨rfl, hB1⟩; replace hB1 := Aside0.mk hB1))
    go_ret
    exact ⟨by rw [hz.out] <;> rfl, hB1.out⟩
  have kb1 : decide (fuel < 0) = false := decide_eq_false hb1
  by_cases hb2 : 10000 < fuel
  · have kb2 : decide (10000 < fuel) = true := decide_eq_true hb2
    have hz := Aside0.mk (show E = 2 by rw [hE]; unfold newE; rw [if_neg (fun q => q ht), if_pos (by omega)])
    clear hE ht hb2 hb1
    go_enter Try.func40, Try.ntmps40
    go_wp2_with (first | (go_at_call 24; (with_reducible refine (inquestref15_Check.calls A0 c0 L (thru L).2.1 (thru L).2.2 _ hC0.out hc0 hK.out).mono ?_); rintro e W1 ⟨rfl, hB1⟩; replace hB1 := Aside0.mk hB1))
    go_ret
    exact ⟨by rw [hz.out] <;> rfl, hB1.out⟩
  have kb2 : decide (10000 < fuel) = false := decide_eq_false hb2
  by_cases hb3 : budget < 0
  · have kb3 : decide (budget < 0) = true := decide_eq_true hb3
    have hz := Aside0.mk (show E = 2 by rw [hE]; unfold newE; rw [if_neg (fun q => q ht), if_pos (by omega)])
    clear hE ht hb3 hb1 hb2
    go_enter Try.func40, Try.ntmps40
    go_wp2_with (first | (go_at_call 24; (with_reducible refine (inquestref15_Check.calls A0 c0 L (thru L).2.1 (thru L).2.2 _ hC0.out hc0 hK.out).mono ?_); rintro e W1 ⟨rfl, hB1⟩; replace hB1 := Aside0.mk hB1))
    go_ret
    exact ⟨by rw [hz.out] <;> rfl, hB1.out⟩
  have kb3 : decide (budget < 0) = false := decide_eq_false hb3
  by_cases hb4 : 1073741824 < budget
  · have kb4 : decide (1073741824 < budget) = true := decide_eq_true hb4
    have hz := Aside0.mk (show E = 2 by rw [hE]; unfold newE; rw [if_neg (fun q => q ht), if_pos (by omega)])
    clear hE ht hb4 hb1 hb2 hb3
    go_enter Try.func40, Try.ntmps40
    go_wp2_with (first | (go_at_call 24; (with_reducible refine (inquestref15_Check.calls A0 c0 L (thru L).2.1 (thru L).2.2 _ hC0.out hc0 hK.out).mono ?_); rintro e W1 ⟨rfl, hB1⟩; replace hB1 := Aside0.mk hB1))
    go_ret
    exact ⟨by rw [hz.out] <;> rfl, hB1.out⟩
  have kb4 : decide (1073741824 < budget) = false := decide_eq_false hb4
  by_cases hn : 64 < ops.length
  · have k5 : decide (64 < (ops.length : Int)) = true := decide_eq_true (by omega)
    have hz := Aside0.mk (show E = 5 by rw [hE]; unfold newE; rw [if_neg (fun q => q ht), if_neg (by omega), if_pos hn])
    clear hE ht hn hb1 hb2 hb3 hb4
    go_enter Try.func40, Try.ntmps40
    go_wp2_with (first | (go_at_call 24; (with_reducible refine (inquestref15_Check.calls A0 c0 L (thru L).2.1 (thru L).2.2 _ hC0.out hc0 hK.out).mono ?_); rintro e W1 ⟨rfl, hB1⟩; replace hB1 := Aside0.mk hB1))
    go_ret
    exact ⟨by rw [hz.out] <;> rfl, hB1.out⟩
  have k5 : decide (64 < (ops.length : Int)) = false := decide_eq_false (by omega)
  have hz0 : E = if selfZ ops = true then 17 else 0 := by rw [hE]; unfold newE; rw [if_neg (fun q => q ht), if_neg (by omega), if_neg hn]
  replace hz0 := Aside0.mk hz0
  have hn64 : Aside0 (ops.length ≤ 64) := ⟨by omega⟩
  clear hE ht hn hb1 hb2 hb3 hb4
  go_enter Try.func40, Try.ntmps40
  go_wp2_with (first | (go_at_call 24; (with_reducible refine (inquestref15_Check.calls A0 c0 L (thru L).2.1 (thru L).2.2 _ hC0.out hc0 hK.out).mono ?_); rintro e W1 ⟨rfl, hB1⟩; replace hB1 := Aside0.mk hB1))
  clear kb1 kb2 kb3 kb4 k5
  go_loopg [11] ops.length (fun kk v11 W_ => ∃ i : Nat, v11 = .int .i64 i ∧ Aside0 (kk + i = ops.length) ∧ Aside0 (∀ j : Nat, j < i → befZ (rd_T65 ops (j : Int)) (rd_T65 ops (j : Int)) = false) ∧ Aside0 (Below W1.heap.size W1 W_))
  case atStart => exact ⟨0, rfl, ⟨by omega⟩, ⟨fun j h => by omega⟩, ⟨Below.refl _ _⟩⟩
  case round =>
    obtain ⟨i, rfl, hki, hall, hBW⟩ := hrel
    cases gk with
    | zero =>
      obtain rfl : i = ops.length := by have := hki.out; omega
      have hlt : decide ((ops.length : Int) < (ops.length : Int)) = false := decide_eq_false (by omega)
      obtain rfl : E = 0 := by
        rw [hz0.out, if_neg]
        intro e
        obtain ⟨j, h1, h2⟩ := List.any_eq_true.mp e
        rw [hall.out j (List.mem_range.mp h1)] at h2; cases h2
      go_wp2
      go_ret
      exact ⟨rfl, below_step hB1.out hBW.out⟩
    | succ j =>
      have hi : Aside0 (i < ops.length) := ⟨by have := hki.out; omega⟩
      have hlt : decide ((i : Int) < (ops.length : Int)) = true := decide_eq_true (by have := hi.out; omega)
      have hltn : i < ops.length := hi.out
      have hq : Aside0 (0 ≤ (i : Int) ∧ (i : Int) < (ops.length : Int) ∧ i < ops.length) := ⟨by have := hi.out; omega⟩
      obtain ⟨ado, eo, hok⟩ := op_cells7 (Kd.C_below (Kd.C_below hC3.out hB1.out) hBW.out) (i : Int) hq.out.1 hq.out.2.1
      cases eo
      simp only [Int.toNat_natCast] at hok
      obtain ⟨pk, hpk⟩ : ∃ p, p = rd_T65 ops (i : Int) := ⟨_, rfl⟩
      rw [← hpk] at hok
      replace hok := Aside0.mk hok
      obtain ⟨bq, hbq⟩ : ∃ bq, bq = befZ pk pk := ⟨_, rfl⟩
      cases bq with
      | true =>
        obtain rfl : E = 17 := by
          rw [hz0.out, if_pos (show selfZ ops = true from List.any_eq_true.mpr ⟨i, List.mem_range.mpr hi.out, by rw [← hpk]; exact hbq.symm⟩)]
        replace hbq := Aside0.mk hbq
        clear hpk
        go_wp2
        refine region_by (fun b us W_ => Below wr.heap.size wr W_) (by kernel_rfl) (by kernel_rfl) ⟨fun _ => undef, below_drew (Below.refl _ _)⟩ ?_
        iterate 2 (refine rb_want (fun us => rfl) ?_; apply Exists.intro; apply And.intro; (focus (apply rb_pure; (focus (intro b us w h; exact h)); intro b us W_ hC; go_simp; rfl)); apply Exists.intro; apply And.intro; (focus (intro us; simp only [Act.put, List.setIfInBounds_toArray, List.set_cons_zero, List.set_cons_succ]; rfl)))
        (refine rb_want (fun us => rfl) ?_; apply Exists.intro; apply And.intro; (focus (apply rb_pure; (focus (intro b us w h; exact h)); intro b us W_ hC; have qq := hq.out; obtain ⟨qa, qb, qc⟩ := qq; go_simp; rfl)); apply Exists.intro; apply And.intro; (focus (intro us; simp only [Act.put, List.setIfInBounds_toArray, List.set_cons_zero, List.set_cons_succ]; rfl)))
        (refine rb_want (fun us => rfl) ?_; apply Exists.intro; apply And.intro; (focus (apply rb_pure; (focus (intro b us w h; exact h)); intro b us W_ hC; have y := hok.out W_ hC; obtain ⟨y0, y1, y2, y3, y4, y5, y6⟩ := y; go_simp; rfl)); apply Exists.intro; apply And.intro; (focus (intro us; simp only [Act.put, List.setIfInBounds_toArray, List.set_cons_zero, List.set_cons_succ]; rfl)))
        iterate 2 (refine rb_want (fun us => rfl) ?_; apply Exists.intro; apply And.intro; (focus (apply rb_pure; (focus (intro b us w h; exact h)); intro b us W_ hC; go_simp; rfl)); apply Exists.intro; apply And.intro; (focus (intro us; simp only [Act.put, List.setIfInBounds_toArray, List.set_cons_zero, List.set_cons_succ]; rfl)))
        (refine rb_want (fun us => rfl) ?_; apply Exists.intro; apply And.intro; (focus (apply rb_pure; (focus (intro b us w h; exact h)); intro b us W_ hC; have qq := hq.out; obtain ⟨qa, qb, qc⟩ := qq; go_simp; rfl)); apply Exists.intro; apply And.intro; (focus (intro us; simp only [Act.put, List.setIfInBounds_toArray, List.set_cons_zero, List.set_cons_succ]; rfl)))
        (refine rb_want (fun us => rfl) ?_; apply Exists.intro; apply And.intro; (focus (apply rb_pure; (focus (intro b us w h; exact h)); intro b us W_ hC; have y := hok.out W_ hC; obtain ⟨y0, y1, y2, y3, y4, y5, y6⟩ := y; go_simp; rfl)); apply Exists.intro; apply And.intro; (focus (intro us; simp only [Act.put, List.setIfInBounds_toArray, List.set_cons_zero, List.set_cons_succ]; rfl)))
        (refine rb_want (fun us => rfl) ⟨.bool true, rb_call (f := 62) (args := fun us => #[.agg #[.int .i64 pk.f0, .int .i64 pk.f1, .int .i64 pk.f2, .bool pk.f3, .int .i64 pk.f4, .int .i64 pk.f5, .int .i64 pk.f6], .agg #[.int .i64 pk.f0, .int .i64 pk.f1, .int .i64 pk.f2, .bool pk.f3, .int .i64 pk.f4, .int .i64 pk.f5, .int .i64 pk.f6]]) (fun us W_ => ?_) (fun b us W_ hb hon hC => ?_), ?_⟩; (focus (exact rb_enters Try.func62 (by kernel_rfl) rfl (by rfl) W_)); (focus (rw [hbq.out]; refine (r14_bef pk pk W_).mono ?_; rintro e w1 ⟨rfl, hbw⟩; exact ⟨rfl, below_step hC hbw⟩)); apply Exists.intro; apply And.intro; (focus (intro us; simp only [Act.put, List.setIfInBounds_toArray, List.set_cons_zero, List.set_cons_succ]; rfl)))
        refine rb_done (fun b us W8 hall hC => ?_)
        have hB8 := Aside0.mk hC
        clear hC hall
        try dsimp only
        clear us b

        go_wp2
        go_ret
        exact ⟨rfl, below_step (below_step hB1.out hBW.out) hB8.out⟩
      | false =>
        have hnx : Aside0 (∀ j : Nat, j < i + 1 → befZ (rd_T65 ops (j : Int)) (rd_T65 ops (j : Int)) = false) := ⟨fun j h => by
          by_cases d : j = i
          · subst d; rw [← hpk]; exact hbq.symm
          · exact hall.out j (by omega)⟩
        replace hbq := Aside0.mk hbq
        clear hpk
        go_wp2
        refine region_by (fun b us W_ => Below wr.heap.size wr W_) (by kernel_rfl) (by kernel_rfl) ⟨fun _ => undef, below_drew (Below.refl _ _)⟩ ?_
        iterate 2 (refine rb_want (fun us => rfl) ?_; apply Exists.intro; apply And.intro; (focus (apply rb_pure; (focus (intro b us w h; exact h)); intro b us W_ hC; go_simp; rfl)); apply Exists.intro; apply And.intro; (focus (intro us; simp only [Act.put, List.setIfInBounds_toArray, List.set_cons_zero, List.set_cons_succ]; rfl)))
        (refine rb_want (fun us => rfl) ?_; apply Exists.intro; apply And.intro; (focus (apply rb_pure; (focus (intro b us w h; exact h)); intro b us W_ hC; have qq := hq.out; obtain ⟨qa, qb, qc⟩ := qq; go_simp; rfl)); apply Exists.intro; apply And.intro; (focus (intro us; simp only [Act.put, List.setIfInBounds_toArray, List.set_cons_zero, List.set_cons_succ]; rfl)))
        (refine rb_want (fun us => rfl) ?_; apply Exists.intro; apply And.intro; (focus (apply rb_pure; (focus (intro b us w h; exact h)); intro b us W_ hC; have y := hok.out W_ hC; obtain ⟨y0, y1, y2, y3, y4, y5, y6⟩ := y; go_simp; rfl)); apply Exists.intro; apply And.intro; (focus (intro us; simp only [Act.put, List.setIfInBounds_toArray, List.set_cons_zero, List.set_cons_succ]; rfl)))
        iterate 2 (refine rb_want (fun us => rfl) ?_; apply Exists.intro; apply And.intro; (focus (apply rb_pure; (focus (intro b us w h; exact h)); intro b us W_ hC; go_simp; rfl)); apply Exists.intro; apply And.intro; (focus (intro us; simp only [Act.put, List.setIfInBounds_toArray, List.set_cons_zero, List.set_cons_succ]; rfl)))
        (refine rb_want (fun us => rfl) ?_; apply Exists.intro; apply And.intro; (focus (apply rb_pure; (focus (intro b us w h; exact h)); intro b us W_ hC; have qq := hq.out; obtain ⟨qa, qb, qc⟩ := qq; go_simp; rfl)); apply Exists.intro; apply And.intro; (focus (intro us; simp only [Act.put, List.setIfInBounds_toArray, List.set_cons_zero, List.set_cons_succ]; rfl)))
        (refine rb_want (fun us => rfl) ?_; apply Exists.intro; apply And.intro; (focus (apply rb_pure; (focus (intro b us w h; exact h)); intro b us W_ hC; have y := hok.out W_ hC; obtain ⟨y0, y1, y2, y3, y4, y5, y6⟩ := y; go_simp; rfl)); apply Exists.intro; apply And.intro; (focus (intro us; simp only [Act.put, List.setIfInBounds_toArray, List.set_cons_zero, List.set_cons_succ]; rfl)))
        (refine rb_want (fun us => rfl) ⟨.bool false, rb_call (f := 62) (args := fun us => #[.agg #[.int .i64 pk.f0, .int .i64 pk.f1, .int .i64 pk.f2, .bool pk.f3, .int .i64 pk.f4, .int .i64 pk.f5, .int .i64 pk.f6], .agg #[.int .i64 pk.f0, .int .i64 pk.f1, .int .i64 pk.f2, .bool pk.f3, .int .i64 pk.f4, .int .i64 pk.f5, .int .i64 pk.f6]]) (fun us W_ => ?_) (fun b us W_ hb hon hC => ?_), ?_⟩; (focus (exact rb_enters Try.func62 (by kernel_rfl) rfl (by rfl) W_)); (focus (rw [hbq.out]; refine (r14_bef pk pk W_).mono ?_; rintro e w1 ⟨rfl, hbw⟩; exact ⟨rfl, below_step hC hbw⟩)); apply Exists.intro; apply And.intro; (focus (intro us; simp only [Act.put, List.setIfInBounds_toArray, List.set_cons_zero, List.set_cons_succ]; rfl)))
        refine rb_done (fun b us W8 hall hC => ?_)
        have hB8 := Aside0.mk hC
        clear hC hall
        try dsimp only
        clear us b

        go_wp2
        go_roundg j
        case measure => omega
        case rel => exact ⟨i + 1, by rw [w64 (by have := hi.out; have := hn64.out; omega) (by have := hi.out; have := hn64.out; omega)]; simp, ⟨by have := hki.out; omega⟩, hnx, ⟨below_step hBW.out hB8.out⟩⟩
end Go.Proofs.Ytddkoimaghcbeaa.PVmSteps
