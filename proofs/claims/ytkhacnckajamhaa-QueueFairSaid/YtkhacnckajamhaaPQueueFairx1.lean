-- Written by a program of this session (wip/bin/patch_print.py): a turned copy of the kit's printer. Not trusted: Lean checks it.
import Derived.Test.YtkhacnckajamhaaPQueueFairx0
namespace Go.Proofs.Ytkhacnckajamhaa.PQueueFair
open Go.RowKit Go.Proofs.YtkhacnckajamhaaW.PrintWords Go.Proofs.YtkhacnckajamhaaW.PrintLast Go.Proofs.YtkhacnckajamhaaW.PrintMore
attribute [local go_sem] max2_int min2_int max_two min_two max_three min_three max_four min_four   -- for this text's walks alone
set_option linter.unusedVariables false
set_option linter.unusedSimpArgs false

/-! ### queue_Turn: function 8 -/
mutual
def queue_Turn.j0 : Nat → List Bool → Int → Int → Bool → Option (Int × Bool)
  | 0, _, _, _, _ => none
  | k + 1, x0, x1, x6, x17 => if x17 = true then (queue_Turn.j1 k x0 (wrap64 (x6 - 1)) x6) else (queue_Turn.j1 k x0 x1 x6)
def queue_Turn.j1 : Nat → List Bool → Int → Int → Option (Int × Bool)
  | 0, _, _, _ => none
  | k + 1, x0, x1, x6 => queue_Turn.l0 k x0 x1 x6 1
def queue_Turn.l0 : Nat → List Bool → Int → Int → Int → Option (Int × Bool)
  | 0, _, _, _, _ => none
  | k + 1, x0, x1, x6, x7 => if x7 ≤ x6 then (if x6 = 0 then (none) else (if 0 ≤ (Int.tmod (wrap64 (x1 + x7)) x6) then (if (Int.tmod (wrap64 (x1 + x7)) x6) < (x0.length : Int) then (if rdOf false x0 (Int.tmod (wrap64 (x1 + x7)) x6) = true then (some (Int.tmod (wrap64 (x1 + x7)) x6, true)) else (queue_Turn.l0 k x0 x1 x6 (wrap64 (x7 + 1)))) else (none)) else (none))) else (some (0, false))
end
def queue_Turn.f (k : Nat) (l0 : List Bool) (a1 : Int) : Option (Int × Bool) := if a1 < 0 then (queue_Turn.j0 k l0 a1 (l0.length : Int) true) else (queue_Turn.j0 k l0 a1 (l0.length : Int) (decide (a1 ≥ (l0.length : Int))))
theorem queue_Turn.mono_l : ∀ k, (∀ y0 y1 y2 y3, LeO (queue_Turn.j0 k y0 y1 y2 y3) (queue_Turn.j0 (k + 1) y0 y1 y2 y3)) ∧ (∀ y0 y1 y2, LeO (queue_Turn.j1 k y0 y1 y2) (queue_Turn.j1 (k + 1) y0 y1 y2)) ∧ (∀ y0 y1 y2 y3, LeO (queue_Turn.l0 k y0 y1 y2 y3) (queue_Turn.l0 (k + 1) y0 y1 y2 y3))
  | 0 => ⟨fun _ _ _ _ r h => by simp [queue_Turn.j0] at h, fun _ _ _ r h => by simp [queue_Turn.j1] at h, fun _ _ _ _ r h => by simp [queue_Turn.l0] at h⟩
  | k + 1 => by
    obtain ⟨ih0, ih1, ih2⟩ := queue_Turn.mono_l k
    refine ⟨?_, ?_, ?_⟩
    · intro y0 y1 y2 y3
      unfold queue_Turn.j0
      repeat' first
      | (with_reducible exact ih0 _ _ _ _)
      | (with_reducible exact ih1 _ _ _)
      | (with_reducible exact ih2 _ _ _ _)
      | (with_reducible exact LeO.refl _)
      | (with_reducible exact LeO.none _)
      | (with_reducible refine LeO.ite ?_ ?_)
      | (with_reducible refine LeO.bind ?_ (fun _ => ?_))
      | exact ih0 _ _ _ _
      | exact ih1 _ _ _
      | exact ih2 _ _ _ _
      | exact LeO.none _
      | refine LeO.ite ?_ ?_
      | refine LeO.bind ?_ (fun _ => ?_)
    · intro y0 y1 y2
      unfold queue_Turn.j1
      repeat' first
      | (with_reducible exact ih0 _ _ _ _)
      | (with_reducible exact ih1 _ _ _)
      | (with_reducible exact ih2 _ _ _ _)
      | (with_reducible exact LeO.refl _)
      | (with_reducible exact LeO.none _)
      | (with_reducible refine LeO.ite ?_ ?_)
      | (with_reducible refine LeO.bind ?_ (fun _ => ?_))
      | exact ih0 _ _ _ _
      | exact ih1 _ _ _
      | exact ih2 _ _ _ _
      | exact LeO.none _
      | refine LeO.ite ?_ ?_
      | refine LeO.bind ?_ (fun _ => ?_)
    · intro y0 y1 y2 y3
      unfold queue_Turn.l0
      repeat' first
      | (with_reducible exact ih0 _ _ _ _)
      | (with_reducible exact ih1 _ _ _)
      | (with_reducible exact ih2 _ _ _ _)
      | (with_reducible exact LeO.refl _)
      | (with_reducible exact LeO.none _)
      | (with_reducible refine LeO.ite ?_ ?_)
      | (with_reducible refine LeO.bind ?_ (fun _ => ?_))
      | exact ih0 _ _ _ _
      | exact ih1 _ _ _
      | exact ih2 _ _ _ _
      | exact LeO.none _
      | refine LeO.ite ?_ ?_
      | refine LeO.bind ?_ (fun _ => ?_)
theorem queue_Turn.mono : ∀ a0 a1 k, LeO (queue_Turn.f k a0 a1) (queue_Turn.f (k + 1) a0 a1) := by
  intro a0 a1 k
  obtain ⟨ih0, ih1, ih2⟩ := queue_Turn.mono_l k
  unfold queue_Turn.f
  repeat' first
      | (with_reducible exact ih0 _ _ _ _)
      | (with_reducible exact ih1 _ _ _)
      | (with_reducible exact ih2 _ _ _ _)
      | (with_reducible exact LeO.refl _)
      | (with_reducible exact LeO.none _)
      | (with_reducible refine LeO.ite ?_ ?_)
      | (with_reducible refine LeO.bind ?_ (fun _ => ?_))
      | exact ih0 _ _ _ _
      | exact ih1 _ _ _
      | exact ih2 _ _ _ _
      | exact LeO.none _
      | refine LeO.ite ?_ ?_
      | refine LeO.bind ?_ (fun _ => ?_)
set_option maxHeartbeats 8000000 in
set_option maxRecDepth 100000 in
theorem queue_Turn.calls (k : Nat) (A0 : Option Addr) (c0 : Nat) (l0 : List Bool) (a1 : Int) (r1 : Int) (r2 : Bool) (w : World) (hr0 : Kd.C Kd.bool w A0 l0.length l0) (hc0 : l0.length ≤ c0) (h : queue_Turn.f k l0 a1 = some (r1, r2)) :
    Calls Try.prog 8 #[.slice A0 l0.length c0, .int .i64 a1] w fun e w' => e = .returned (.tuple #[.int .i64 r1, .bool r2]) ∧ Drawn0 w w' := by
  have HR0 := Aside0.mk hr0
  have HC0 := Aside0.mk hc0
  clear hr0 hc0
  have H : (if a1 < 0 then (queue_Turn.j0 k l0 a1 (l0.length : Int) true) else (queue_Turn.j0 k l0 a1 (l0.length : Int) (decide (a1 ≥ (l0.length : Int))))) = some (r1, r2) := h
  clear h
  have HC3 := Aside0.mk H
  clear H
  go_enter Try.func8, Try.ntmps8
  go_upto_region 2 with (fail)
  go_cut [17] (fun v17 wc => ∃ (kq : Nat) (x17_2 : Bool), v17 = .bool x17_2 ∧ Aside0 (queue_Turn.j0 kq l0 a1 (l0.length : Int) x17_2 = some (r1, r2)) ∧ Aside0 (kq ≤ k) ∧ Drawn0 w wc)
  case first =>
    have H := HC3.out
    clear HC3
    by_cases c4 : a1 < 0
    · rw [if_pos c4] at H
      have c4b0 : decide (a1 < 0) = true := decide_eq_true c4
      clear c4
      (first | rw [c4b0] | (simp only [i64_w, i32_w]; rw [c4b0]) | skip)
      have H' := Aside0.mk H
      clear H
      go_wp2
      go_meet
      case rel => exact ⟨_, (true), (by first | rfl | (simp; done) | (simp [*]; done)), H', ⟨by first | omega | exact Nat.le_refl _⟩, by repeat (first | exact Drawn0.refl _ | apply Drawn0.step)⟩
    · rw [if_neg c4] at H
      have c4b0 : decide (a1 < 0) = false := decide_eq_false c4
      clear c4
      (first | rw [c4b0] | (simp only [i64_w, i32_w]; rw [c4b0]) | skip)
      have H' := Aside0.mk H
      clear H
      go_wp2
      go_meet
      case rel => exact ⟨_, (decide (a1 ≥ (l0.length : Int))), (by first | rfl | (simp; done) | (simp [*]; done)), H', ⟨by first | omega | exact Nat.le_refl _⟩, by repeat (first | exact Drawn0.refl _ | apply Drawn0.step)⟩
  case rest =>
    clear HC3
    try clear p2
    try clear c4
    try clear c4b0
    obtain ⟨kq, x17_2, rfl, HA, HJ2, ⟨mc2, rfl⟩⟩ := hcut
    cases kq with
    | zero => exact absurd HA.out (by simp [queue_Turn.j0])
    | succ kj2 =>
      have H := HA.out
      clear HA
      simp only [queue_Turn.j0] at H
      have HC5 := Aside0.mk H
      clear H
      go_upto_if 17 with (fail)
      go_cut [1] (fun v1 wc => ∃ (kq : Nat) (x1_4 : Int), v1 = .int .i64 x1_4 ∧ Aside0 (queue_Turn.j1 kq l0 x1_4 (l0.length : Int) = some (r1, r2)) ∧ Aside0 (kq ≤ kj2) ∧ Drawn0 w wc)
      case first =>
        have H := HC5.out
        clear HC5
        by_cases c6 : x17_2 = true
        · subst c6
          have H1 : (queue_Turn.j1 kj2 l0 (wrap64 ((l0.length : Int) - 1)) (l0.length : Int)) = some (r1, r2) := by rw [if_pos rfl] at H; exact H
          clear H
          have H := H1
          clear H1
          have H' := Aside0.mk H
          clear H
          go_wp2
          go_meet
          case rel => exact ⟨_, (wrap64 ((l0.length : Int) - 1)), (by first | rfl | (simp; done) | (simp [*]; done)), H', ⟨by have := HJ2.out; first | omega | exact Nat.le_refl _⟩, by repeat (first | exact Drawn0.refl _ | apply Drawn0.step)⟩
        · replace c6 := Bool.eq_false_iff.mpr c6
          subst c6
          have H1 : (queue_Turn.j1 kj2 l0 a1 (l0.length : Int)) = some (r1, r2) := by rw [if_neg (show ¬ (false = true) by decide)] at H; exact H
          clear H
          have H := H1
          clear H1
          have H' := Aside0.mk H
          clear H
          go_wp2
          go_meet
          case rel => exact ⟨_, (a1), (by first | rfl | (simp; done) | (simp [*]; done)), H', ⟨by have := HJ2.out; first | omega | exact Nat.le_refl _⟩, by repeat (first | exact Drawn0.refl _ | apply Drawn0.step)⟩
      case rest =>
        clear HC5
        try clear c2
        try clear p2
        try clear c4
        try clear c4b0
        try clear c6
        try clear p6
        try clear p2
        obtain ⟨kq, x1_4, rfl, HA, HJ4, ⟨mc4, rfl⟩⟩ := hcut
        cases kq with
        | zero => exact absurd HA.out (by simp [queue_Turn.j1])
        | succ kj4 =>
          have H := HA.out
          clear HA
          simp only [queue_Turn.j1] at H
          have H' := Aside0.mk H
          clear H
          go_wp2
          go_loopg [7] kj4 (fun kq v7 w' => ∃ (x7_3 : Int), v7 = .int .i64 x7_3 ∧ Aside0 (queue_Turn.l0 kq l0 x1_4 (l0.length : Int) x7_3 = some (r1, r2)) ∧ Aside0 (kq ≤ kj4) ∧ Drawn0 w w')
          case atStart => exact ⟨(1), (by first | rfl | (simp; done) | (simp [*]; done)), H', ⟨Nat.le_refl _⟩, by repeat (first | exact Drawn0.refl _ | apply Drawn0.step)⟩
          case round =>
            clear H'
            try clear c2
            try clear p2
            try clear c4
            try clear c4b0
            try clear c6
            try clear p6
            try clear p2
            try clear p6
            obtain ⟨x7_3, rfl, HA, HK3, ⟨m3, rfl⟩⟩ := hrel
            cases gk with
            | zero => exact absurd HA.out (by simp [queue_Turn.l0])
            | succ k3 =>
              have H := HA.out
              clear HA
              simp only [queue_Turn.l0] at H
              by_cases c7 : x7_3 ≤ (l0.length : Int)
              · rw [if_pos c7] at H
                have c7b0 : decide (x7_3 ≤ (l0.length : Int)) = true := decide_eq_true c7
                clear c7
                by_cases c8 : (l0.length : Int) = 0
                · rw [if_pos c8] at H
                  exact absurd H (by simp)
                · rw [if_neg c8] at H
                  have c8b0 : ((l0.length : Int) == 0) = false := beq_eq_false_iff_ne.mpr c8
                  have c8b1 : ((l0.length : Int) != 0) = true := bne_iff_ne.mpr c8
                  have c8b2 : ¬ (l0 = []) := fun h_ => c8 (by rw [h_]; rfl)
                  obtain ⟨ji9, hji9⟩ : ∃ j_ : Int, (Int.tmod (wrap64 (x1_4 + x7_3)) (l0.length : Int)) = j_ := ⟨_, rfl⟩
                  replace H : (if 0 ≤ (ji9) then (if (ji9) < (l0.length : Int) then (if rdOf false l0 (ji9) = true then (some (ji9, true)) else (queue_Turn.l0 k3 l0 x1_4 (l0.length : Int) (wrap64 (x7_3 + 1)))) else (none)) else (none)) = some (r1, r2) := by first | (rw [hji9] at H; exact H) | (simp only [hji9] at H ⊢; exact H)
                  by_cases c10 : 0 ≤ (ji9)
                  · rw [if_pos c10] at H
                    have c10b0 : decide (0 ≤ (ji9)) = true := decide_eq_true c10
                    clear c10
                    by_cases c11 : (ji9) < (l0.length : Int)
                    · rw [if_pos c11] at H
                      have c11b0 : decide ((ji9) < (l0.length : Int)) = true := decide_eq_true c11
                      clear c11
                      obtain ⟨bq12, hbq12⟩ : ∃ b_ : Bool, b_ = (rdOf false l0 (ji9)) := ⟨_, rfl⟩
                      replace H : (if bq12 = true then (some (ji9, true)) else (queue_Turn.l0 k3 l0 x1_4 (l0.length : Int) (wrap64 (x7_3 + 1)))) = some (r1, r2) := by rw [← hbq12] at H; exact H
                      have Nbq12 := Aside0.mk hbq12
                      clear hbq12
                      by_cases c13 : bq12 = true
                      · subst c13
                        have H1 : (some (ji9, true)) = some (r1, r2) := by rw [if_pos rfl] at H; exact H
                        clear H
                        have H := H1
                        clear H1
                        simp only [Option.some.injEq, Prod.mk.injEq] at H
                        obtain ⟨rfl, rfl⟩ := H
                        have p101 : 0 ≤ ((ji9) : Int) := of_decide_eq_true (by first | (with_reducible assumption) | assumption)
                        have q101 : (ji9) < (l0.length : Int) := of_decide_eq_true (by first | (with_reducible assumption) | assumption)
                        obtain ⟨ad101, e101, hx101_0⟩ := Kd.at_bool HR0.out (ji9) p101 q101
                        (try rw [← Nbq12.out] at hx101_0)
                        cases e101
                        replace p101 := eq_true p101
                        replace q101 := eq_true q101
                        go_wp2
                        go_ret2
                        exact ⟨by first | rfl | (simp; done) | (simp only [← hji9] <;> (first | rfl | simp)) | (simp [*]; done), by repeat (first | exact Drawn0.refl _ | apply Drawn0.step)⟩
                      · replace c13 := Bool.eq_false_iff.mpr c13
                        subst c13
                        have H1 : (queue_Turn.l0 k3 l0 x1_4 (l0.length : Int) (wrap64 (x7_3 + 1))) = some (r1, r2) := by rw [if_neg (show ¬ (false = true) by decide)] at H; exact H
                        clear H
                        have H := H1
                        clear H1
                        have H' := Aside0.mk H
                        clear H
                        have p101 : 0 ≤ ((ji9) : Int) := of_decide_eq_true (by first | (with_reducible assumption) | assumption)
                        have q101 : (ji9) < (l0.length : Int) := of_decide_eq_true (by first | (with_reducible assumption) | assumption)
                        obtain ⟨ad101, e101, hx101_0⟩ := Kd.at_bool HR0.out (ji9) p101 q101
                        (try rw [← Nbq12.out] at hx101_0)
                        cases e101
                        replace p101 := eq_true p101
                        replace q101 := eq_true q101
                        go_wp2
                        go_roundg k3
                        case measure => have := HJ2.out; have := HJ4.out; have := HK3.out; omega
                        case rel => exact ⟨(wrap64 (x7_3 + 1)), (by first | rfl | (simp; done) | (simp [*]; done)), H', ⟨by have := HJ2.out; have := HJ4.out; have := HK3.out; omega⟩, by repeat (first | exact Drawn0.refl _ | apply Drawn0.step)⟩
                    · rw [if_neg c11] at H
                      exact absurd H (by simp)
                  · rw [if_neg c10] at H
                    exact absurd H (by simp)
              · rw [if_neg c7] at H
                have c7b0 : decide (x7_3 ≤ (l0.length : Int)) = false := decide_eq_false c7
                clear c7
                simp only [Option.some.injEq, Prod.mk.injEq] at H
                obtain ⟨rfl, rfl⟩ := H
                go_wp2
                go_ret2
                exact ⟨by first | rfl | (simp; done) | (simp [*]; done), by repeat (first | exact Drawn0.refl _ | apply Drawn0.step)⟩

-- NOT PRINTED: function 12 (queue_New)

/-! ### slices_Index_int_int: function 24 -/
def slices_Index_int_int.l0 : Nat → List Int → Int → Int → Int → Option (Int)
  | 0, _, _, _, _ => none
  | k + 1, x0, x1, x7, x8 => if x8 < x7 then (if 0 ≤ x8 then (if x8 < (x0.length : Int) then (if x1 = (rd x0 x8) then (some x8) else (slices_Index_int_int.l0 k x0 x1 x7 (wrap64 (x8 + 1)))) else (none)) else (none)) else (some (-1))
def slices_Index_int_int.f (k : Nat) (l0 : List Int) (a1 : Int) : Option (Int) := slices_Index_int_int.l0 k l0 a1 (l0.length : Int) 0
theorem slices_Index_int_int.mono_l : ∀ k, (∀ y0 y1 y2 y3, LeO (slices_Index_int_int.l0 k y0 y1 y2 y3) (slices_Index_int_int.l0 (k + 1) y0 y1 y2 y3))
  | 0 => fun _ _ _ _ r h => by simp [slices_Index_int_int.l0] at h
  | k + 1 => by
    have ih0 := slices_Index_int_int.mono_l k
    · intro y0 y1 y2 y3
      unfold slices_Index_int_int.l0
      repeat' first
      | (with_reducible exact ih0 _ _ _ _)
      | (with_reducible exact LeO.refl _)
      | (with_reducible exact LeO.none _)
      | (with_reducible refine LeO.ite ?_ ?_)
      | (with_reducible refine LeO.bind ?_ (fun _ => ?_))
      | exact ih0 _ _ _ _
      | exact LeO.none _
      | refine LeO.ite ?_ ?_
      | refine LeO.bind ?_ (fun _ => ?_)
theorem slices_Index_int_int.mono : ∀ a0 a1 k, LeO (slices_Index_int_int.f k a0 a1) (slices_Index_int_int.f (k + 1) a0 a1) := by
  intro a0 a1 k
  have ih0 := slices_Index_int_int.mono_l k
  unfold slices_Index_int_int.f
  repeat' first
      | (with_reducible exact ih0 _ _ _ _)
      | (with_reducible exact LeO.refl _)
      | (with_reducible exact LeO.none _)
      | (with_reducible refine LeO.ite ?_ ?_)
      | (with_reducible refine LeO.bind ?_ (fun _ => ?_))
      | exact ih0 _ _ _ _
      | exact LeO.none _
      | refine LeO.ite ?_ ?_
      | refine LeO.bind ?_ (fun _ => ?_)
set_option maxHeartbeats 8000000 in
set_option maxRecDepth 100000 in
theorem slices_Index_int_int.calls (k : Nat) (A0 : Option Addr) (c0 : Nat) (l0 : List Int) (a1 : Int) (r : Int) (w : World) (hr0 : Kd.C (Kd.int .i64) w A0 l0.length l0) (hc0 : l0.length ≤ c0) (h : slices_Index_int_int.f k l0 a1 = some r) :
    Calls Try.prog 24 #[.slice A0 l0.length c0, .int .i64 a1] w fun e w' => e = .returned (.int .i64 r) ∧ Drawn0 w w' := by
  have HR0 := Aside0.mk hr0
  have HC0 := Aside0.mk hc0
  clear hr0 hc0
  have H : (slices_Index_int_int.l0 k l0 a1 (l0.length : Int) 0) = some r := h
  clear h
  have H' := Aside0.mk H
  clear H
  go_enter Try.func24, Try.ntmps24
  go_wp2
  go_loopg [8] k (fun kq v8 w' => ∃ (x8_1 : Int), v8 = .int .i64 x8_1 ∧ Aside0 (slices_Index_int_int.l0 kq l0 a1 (l0.length : Int) x8_1 = some r) ∧ Aside0 (kq ≤ k) ∧ Drawn0 w w')
  case atStart => exact ⟨(0), (by first | rfl | (simp; done) | (simp [*]; done)), H', ⟨Nat.le_refl _⟩, by repeat (first | exact Drawn0.refl _ | apply Drawn0.step)⟩
  case round =>
    clear H'
    try clear c2
    try clear p2
    obtain ⟨x8_1, rfl, HA, HK1, ⟨m1, rfl⟩⟩ := hrel
    cases gk with
    | zero => exact absurd HA.out (by simp [slices_Index_int_int.l0])
    | succ k1 =>
      have H := HA.out
      clear HA
      simp only [slices_Index_int_int.l0] at H
      by_cases c3 : x8_1 < (l0.length : Int)
      · rw [if_pos c3] at H
        have c3b0 : decide (x8_1 < (l0.length : Int)) = true := decide_eq_true c3
        clear c3
        by_cases c4 : 0 ≤ x8_1
        · rw [if_pos c4] at H
          have c4b0 : decide (0 ≤ x8_1) = true := decide_eq_true c4
          clear c4
          by_cases c5 : x8_1 < (l0.length : Int)
          · rw [if_pos c5] at H
            have c5b0 : decide (x8_1 < (l0.length : Int)) = true := decide_eq_true c5
            clear c5
            by_cases c6 : a1 = (rd l0 x8_1)
            · rw [if_pos c6] at H
              have c6b0 : (a1 == (rd l0 x8_1)) = true := beq_iff_eq.mpr c6
              have c6b1 : (a1 != (rd l0 x8_1)) = false := bne_eq_false_iff_eq.mpr c6
              clear c6
              obtain rfl := Option.some.inj H
              have p102 : 0 ≤ (x8_1 : Int) := of_decide_eq_true (by first | (with_reducible assumption) | assumption)
              have q102 : x8_1 < (l0.length : Int) := of_decide_eq_true (by first | (with_reducible assumption) | assumption)
              obtain ⟨ad102, e102, hx102_0⟩ := Kd.at_int HR0.out x8_1 p102 q102
              cases e102
              replace p102 := eq_true p102
              replace q102 := eq_true q102
              go_wp2
              go_ret
              exact ⟨by first | rfl | (simp; done) | (simp [*]; done), by repeat (first | exact Drawn0.refl _ | apply Drawn0.step)⟩
            · rw [if_neg c6] at H
              have c6b0 : (a1 == (rd l0 x8_1)) = false := beq_eq_false_iff_ne.mpr c6
              have c6b1 : (a1 != (rd l0 x8_1)) = true := bne_iff_ne.mpr c6
              have H' := Aside0.mk H
              clear H
              have p102 : 0 ≤ (x8_1 : Int) := of_decide_eq_true (by first | (with_reducible assumption) | assumption)
              have q102 : x8_1 < (l0.length : Int) := of_decide_eq_true (by first | (with_reducible assumption) | assumption)
              obtain ⟨ad102, e102, hx102_0⟩ := Kd.at_int HR0.out x8_1 p102 q102
              cases e102
              replace p102 := eq_true p102
              replace q102 := eq_true q102
              go_wp2
              go_roundg k1
              case measure => have := HK1.out; omega
              case rel => exact ⟨(wrap64 (x8_1 + 1)), (by first | rfl | (simp; done) | (simp [*]; done)), H', ⟨by have := HK1.out; omega⟩, by repeat (first | exact Drawn0.refl _ | apply Drawn0.step)⟩
          · rw [if_neg c5] at H
            exact absurd H (by simp)
        · rw [if_neg c4] at H
          exact absurd H (by simp)
      · rw [if_neg c3] at H
        have c3b0 : decide (x8_1 < (l0.length : Int)) = false := decide_eq_false c3
        clear c3
        obtain rfl := Option.some.inj H
        go_wp2
        go_ret
        exact ⟨by first | rfl | (simp; done) | (simp [*]; done), by repeat (first | exact Drawn0.refl _ | apply Drawn0.step)⟩

/-! ### slices_Contains_int_int: function 23 -/
def slices_Contains_int_int.f (k : Nat) (l0 : List Int) (a1 : Int) : Option (Bool) := (slices_Index_int_int.f k l0 a1).bind fun t103 => (some (decide (t103 ≥ 0)))
theorem slices_Contains_int_int.mono : ∀ a0 a1 k, LeO (slices_Contains_int_int.f k a0 a1) (slices_Contains_int_int.f (k + 1) a0 a1) := by
  intro a0 a1 k
  unfold slices_Contains_int_int.f
  repeat' first
      | (with_reducible exact slices_Index_int_int.mono _ _ _)
      | (with_reducible exact LeO.refl _)
      | (with_reducible exact LeO.none _)
      | (with_reducible refine LeO.ite ?_ ?_)
      | (with_reducible refine LeO.bind ?_ (fun _ => ?_))
      | exact slices_Index_int_int.mono _ _ _
      | exact LeO.none _
      | refine LeO.ite ?_ ?_
      | refine LeO.bind ?_ (fun _ => ?_)
set_option maxHeartbeats 8000000 in
set_option maxRecDepth 100000 in
theorem slices_Contains_int_int.calls (k : Nat) (A0 : Option Addr) (c0 : Nat) (l0 : List Int) (a1 : Int) (r : Bool) (w : World) (hr0 : Kd.C (Kd.int .i64) w A0 l0.length l0) (hc0 : l0.length ≤ c0) (h : slices_Contains_int_int.f k l0 a1 = some r) :
    Calls Try.prog 23 #[.slice A0 l0.length c0, .int .i64 a1] w fun e w' => e = .returned (.bool r) ∧ Drawn0 w w' := by
  have HR0 := Aside0.mk hr0
  have HC0 := Aside0.mk hc0
  clear hr0 hc0
  have H : ((slices_Index_int_int.f k l0 a1).bind fun t103 => (some (decide (t103 ≥ 0)))) = some r := h
  clear h
  replace H := Option.bind_eq_some_iff.mp H
  obtain ⟨t103, A30, H⟩ := H
  replace H : (some (decide (t103 ≥ 0))) = some r := H
  have A3 := Aside0.mk A30
  clear A30
  obtain rfl := Option.some.inj H
  go_enter Try.func23, Try.ntmps23
  go_wp2_with (first | ((with_reducible refine gate_callee (f := 24) rfl ?_); refine goesL_ (some 7) rfl rfl Try.func24 (by kernel_rfl) rfl #[.slice A0 l0.length c0, .int .i64 a1] rfl (by (try simp only [List.map_toArray, List.map_cons, List.map_nil]); first | done | rfl | (simp only [List.length_drop, List.length_take]; rfl)) ?_; (with_reducible refine (slices_Index_int_int.calls k _ _ l0 a1 t103 _ ?side1 ?side2 A3.out).mono ?_); (case side1 => repeat (first | exact HR0.out | (with_reducible refine Kd.C_alloc ?_ _) | (with_reducible refine Kd.C_drewN ?_ _) | (with_reducible refine Kd.C_drew ?_))); (case side2 => exact HC0.out); rintro e w' ⟨rfl, ⟨nd, rfl⟩⟩; refine ⟨_, rfl, ?_⟩))
  go_ret
  exact ⟨by first | rfl | (simp; done) | (simp [*]; done), by repeat (first | exact Drawn0.refl _ | apply Drawn0.step)⟩

-- NOT PRINTED: function 13 (queue_Queue_Put)

-- NOT PRINTED: function 14 (queue_Queue_Len)

/-! ### inquestlaw19_lives: function 10 -/
theorem ret_i64 {a b : Int} (h : a = b) : Ending.returned (.int .i64 a) = .returned (.int .i64 b) := by rw [h]
theorem ret_bool {a b : Bool} (h : a = b) : Ending.returned (.bool a) = .returned (.bool b) := by rw [h]
theorem q_info3 : (Try.prog.info? 3).map (fun i => (i.zero, i.size, i.bytes)) = some (some (.int .i64 0), 1, 8) := by kernel_rfl
/-- But for block g, and the row's own block, nothing that was there has turned. -/
structure Upd (W W' : World) (g : Nat) (row : Option Nat) : Prop where
  os : W'.os = W.os
  tape : W'.tape = W.tape
  output : W'.output = W.output
  size : W.heap.size ≤ W'.heap.size
  block : ∀ k, k < W.heap.size → k ≠ g → some k ≠ row → W'.heap[k]? = W.heap[k]?
theorem Upd.of_below {W W' : World} (h : Below W.heap.size W W') (g : Nat) (row : Option Nat) : Upd W W' g row := ⟨h.os, h.tape, h.output, h.size, fun k hk _ _ => h.block k hk⟩
theorem Upd.of_grown {W W' : World} {row : Option Nat} (h : W.grownBy W' row) (g : Nat) : Upd W W' g row := ⟨h.os, h.tape, h.output, h.size, fun k hk _ hr => h.block k hk hr⟩
theorem Upd.set {W W' : World} {g : Nat} {row : Option Nat} (h : Upd W W' g row) (j : Nat) (u : Value) : Upd W (W'.setCell ⟨g, j, none⟩ u) g row :=
  ⟨h.os, h.tape, h.output, by have := h.size; simpa [World.setCell] using this, fun k hk hg hr => (Below.heap_setCell _ _ _ _ hg).trans (h.block k hk hg hr)⟩
theorem Upd.below {w W W' : World} {B g : Nat} {row : Option Nat} (h : Upd W W' g row) (hB : Below B w W) (hs : B ≤ W.heap.size) (hg : B ≤ g) (hr : ∀ k, row = some k → B ≤ k) : Below B w W' :=
  ⟨h.os.trans hB.os, h.tape.trans hB.tape, h.output.trans hB.output, Nat.le_trans hB.size h.size, fun k hk => (h.block k (by omega) (by omega) (fun e => by have := hr k e.symm; omega)).trans (hB.block k hk)⟩
/-- Where the row lies behind a call: where it lay, or in a new block. -/
def Lies (W : World) (v v' : Value) : Prop := v'.ownBlock = v.ownBlock ∨ ∃ b, v'.ownBlock = some b ∧ W.heap.size ≤ b
/-- A queue in memory: block g, its row v. -/
structure QS (T : Nat) (base : Nat) (W : World) (g : Nat) (most : Int) (v : Value) (xs : List Int) : Prop where
  blk : W.heap[g]? = some (.cells #[.int .i64 most, v] T (0, 0))
  row : (Kd.int .i64).R 3 W base (fun _ => True) v xs
  hg : base ≤ g
theorem q_idx_step {k : Nat} {xs : List Int} (h : k < xs.length) : xs.drop k = rd xs k :: xs.drop (k + 1) := by
  rw [List.drop_eq_getElem_cons h]; congr 1; simp [rd, h]
/-- Where a number stands; -1: nowhere. -/
def qidx (v : Int) : List Int → Int → Int
  | [], _ => -1
  | x :: xs, i => if v = x then i else qidx v xs (i + 1)
set_option maxHeartbeats 400000 in
theorem q_Index (A : Option Addr) (c : Nat) (xs : List Int) (v : Int) (w : World) (hC : (Kd.int .i64).C w A xs.length xs) :
    Calls Try.prog 24 #[.slice A xs.length c, .int .i64 v] w fun e w' => e = .returned (.int .i64 (qidx v xs 0)) ∧ w = w' := by
  have hm := Kd.C_max hC
  go_enter Try.func24, Try.ntmps24
  go_wp2
  go_loop [5, 8] (fun _ t => ∃ k : Nat, k ≤ xs.length ∧ t = .int .i64 k ∧ Aside0 (qidx v (xs.drop k) k = qidx v xs 0)) (fun _ t => xs.length - (intOf t).toNat)
  case atStart => exact ⟨0, Nat.zero_le _, rfl, ⟨rfl⟩⟩
  case round =>
    obtain ⟨k, hk, rfl, hq⟩ := hrel
    by_cases hlt : k < xs.length
    · obtain ⟨ad, rfl, hx⟩ := Kd.at_int hC (k : Int) (Int.natCast_nonneg k) (by omega)
      simp only [Int.toNat_natCast] at hx
      have hq2 := hq.out
      rw [q_idx_step hlt] at hq2
      simp only [qidx] at hq2
      have p0 : (0 : Int) ≤ (k : Int) := Int.natCast_nonneg k
      have p1 : (k : Int) < (xs.length : Int) := by omega
      clear hq
      by_cases hv : v = rd xs (k : Int)
      · rw [if_pos hv] at hq2
        have hb : (v == rd xs (k : Int)) = true := beq_iff_eq.mpr hv
        clear hv
        replace hq2 := Aside0.mk hq2
        go_wp2
        go_ret
        exact ⟨ret_i64 hq2.out, rfl⟩
      · rw [if_neg hv] at hq2
        have hb : (v == rd xs (k : Int)) = false := beq_eq_false_iff_ne.mpr hv
        clear hv
        replace hq2 := Aside0.mk hq2
        go_wp2
        go_round
        case rel => exact ⟨k + 1, by omega, by go_num, hq2⟩
        case measure => simp [intOf]; omega
    · obtain rfl : k = xs.length := by omega
      have hq2 := hq.out
      rw [List.drop_of_length_le (Nat.le_refl _)] at hq2
      simp only [qidx] at hq2
      replace hq2 := Aside0.mk hq2
      clear hq
      go_wp2
      go_ret
      exact ⟨ret_i64 hq2.out, rfl⟩
theorem qidx_neg (v : Int) : ∀ (xs : List Int) (i : Int), 0 ≤ i → (0 ≤ qidx v xs i ↔ v ∈ xs)
  | [], i, hi => by simp [qidx]
  | x :: xs, i, hi => by
    unfold qidx
    by_cases h : v = x
    · rw [if_pos h]; subst h; simp [hi]
    · rw [if_neg h, qidx_neg v xs (i + 1) (by omega)]; simp [h]
set_option maxHeartbeats 400000 in
theorem q_Contains (A : Option Addr) (c : Nat) (xs : List Int) (v : Int) (b : Bool) (w : World) (hC : (Kd.int .i64).C w A xs.length xs) (hb : decide (v ∈ xs) = b) :
    Calls Try.prog 23 #[.slice A xs.length c, .int .i64 v] w fun e w' => e = .returned (.bool b) ∧ w = w' := by
  have hq : decide (0 ≤ qidx v xs 0) = b := by rw [← hb]; exact decide_eq_decide.mpr (qidx_neg v xs 0 (by omega))
  clear hb
  go_enter Try.func23, Try.ntmps23
  go_wp2_with (go_at_call 24; (with_reducible refine (q_Index A c xs v _ hC).mono ?_); rintro e w' ⟨rfl, rfl⟩)
  go_ret
  exact ⟨rfl, rfl⟩
theorem q_New_ok (most : Int) (w : World) (h1 : 1 ≤ most) (h2 : most ≤ 8) :
    Calls Try.prog 12 #[.int .i64 most] w fun e w' => e = .returned (.tuple #[.pointer (some ⟨w.heap.size, 0, none⟩), .int .i64 0]) ∧ w' = w.alloc (.cells #[.int .i64 most, .slice none 0 0] 53) := by
  have hu := Try.underlying53
  go_enter Try.func12, Try.ntmps12
  go_wp2
  go_ret2
  exact ⟨rfl, rfl⟩
theorem q_New_err (most : Int) (w : World) (h : most < 1 ∨ 8 < most) :
    Calls Try.prog 12 #[.int .i64 most] w fun e w' => e = .returned (.tuple #[.pointer none, .int .i64 2]) ∧ w = w' := by
  rcases h with h | h
  · go_enter Try.func12, Try.ntmps12
    go_wp2
    go_ret2
    exact ⟨rfl, rfl⟩
  · have h' : ¬ most < 1 := by omega
    go_enter Try.func12, Try.ntmps12
    go_wp2
    go_ret2
    exact ⟨rfl, rfl⟩
theorem qs_new (w : World) (most : Int) (T : Nat) : QS T w.heap.size (w.alloc (.cells #[.int .i64 most, .slice none 0 0] T)) w.heap.size most (.slice none 0 0) [] :=
  ⟨blk_new w _, Kd.R_nil _ _ _ _ _, Nat.le_refl _⟩
/-- What Put answers, and what waits behind it. -/
def putE (most : Int) (xs : List Int) (job : Int) : Int := if job < 0 then 2 else if job ∈ xs then 10 else if most ≤ (xs.length : Int) then 11 else 0
def putL (most : Int) (xs : List Int) (job : Int) : List Int := if putE most xs job = 0 then xs ++ [job] else xs
theorem q_gen {P : World → Prop} (w : World) (F : World → Prop) (hF : F w) (h : ∀ W, F W → P W) : P w := h w hF
theorem upd_trans {W W1 W2 : World} {g : Nat} {row : Option Nat} (h : Below W.heap.size W W1) (k : Upd W1 W2 g row) : Upd W W2 g row :=
  ⟨k.os.trans h.os, k.tape.trans h.tape, k.output.trans h.output, Nat.le_trans h.size k.size, fun i hi hg hr => (k.block i (Nat.lt_of_lt_of_le hi h.size) hg hr).trans (h.block i hi)⟩
theorem lies_below {W W1 : World} {v v' : Value} (h : Below W.heap.size W W1) (k : Lies W1 v v') : Lies W v v' := k.imp id (fun ⟨b, hb, hl⟩ => ⟨b, hb, Nat.le_trans h.size hl⟩)
/-- What a call on a queue comes to. -/
def QPost (T base g : Nat) (most : Int) (v : Value) (xs : List Int) (W : World) (r : Value) (ys : List Int) (e : Ending) (W' : World) : Prop :=
  ∃ v', e = .returned r ∧ QS T base W' g most v' ys ∧ Upd W W' g v.ownBlock ∧ Lies W v v'
set_option maxHeartbeats 1000000 in
theorem q_Put {base g : Nat} {most : Int} {v : Value} {xs : List Int} {W : World} (job : Int) (h : QS 53 base W g most v xs) (hl : xs.length ≤ 1000000) (hm : most ≠ 0) :
    Calls Try.prog 13 #[.pointer (some ⟨g, 0, none⟩), .int .i64 job] W (QPost 53 base g most v xs W (.int .i64 (putE most xs job)) (putL most xs job)) := by
  have hu := Try.underlying53
  obtain ⟨A, c, rfl⟩ := Kd.R_slice h.row
  obtain ⟨_, hcc, hC⟩ := Kd.R_reads' h.row
  have hne := Kd.R_ne h.row h.blk (by decide)
  have c0 := blk_cell h.blk 0
  have c1 := blk_cell h.blk 1
  have f1 := blk_frozen h.blk 1
  simp only [List.getElem?_toArray, List.getElem?_cons_zero, List.getElem?_cons_succ] at c0 c1
  have hmb : (most == 0) = false := beq_eq_false_iff_ne.mpr hm
  have hR := Aside0.mk h.row
  have hB := Aside0.mk h.blk
  have hg := Aside0.mk h.hg
  have hml := Kd.C_max hC
  unfold putL
  by_cases hj : job < 0
  · have hE : putE most xs job = 2 := if_pos hj
    rw [hE, if_neg (by decide)]
    have hjb : decide (job < 0) = true := decide_eq_true hj
    clear hj hm hE h
    go_enter Try.func13, Try.ntmps13
    go_wp2
    go_ret
    exact ⟨_, rfl, ⟨hB.out, hR.out, hg.out⟩, Upd.of_below (Below.refl _ _) _ _, .inl rfl⟩
  · have hjb : decide (job < 0) = false := decide_eq_false hj
    by_cases hi : job ∈ xs
    · have hE : putE most xs job = 10 := by unfold putE; rw [if_neg hj, if_pos hi]
      rw [hE, if_neg (by decide)]
      have hib := Aside0.mk (decide_eq_true hi)
      clear hj hm hE h hi
      go_enter Try.func13, Try.ntmps13
      go_wp2_with (go_at_call 23; (with_reducible refine (q_Contains A c xs job true _ hC hib.out).mono ?_); rintro e w' ⟨rfl, rfl⟩)
      go_ret
      exact ⟨_, rfl, ⟨hB.out, hR.out, hg.out⟩, Upd.of_below (Below.refl _ _) _ _, .inl rfl⟩
    · have hib := Aside0.mk (decide_eq_false hi)
      by_cases hf : most ≤ (xs.length : Int)
      · have hE : putE most xs job = 11 := by unfold putE; rw [if_neg hj, if_neg hi, if_pos hf]
        rw [hE, if_neg (by decide)]
        have hfb : decide (most ≤ (xs.length : Int)) = true := decide_eq_true hf
        clear hj hm hE h hi hf
        go_enter Try.func13, Try.ntmps13
        go_wp2_with (go_at_call 23; (with_reducible refine (q_Contains A c xs job false _ hC hib.out).mono ?_); rintro e w' ⟨rfl, rfl⟩)
        go_quiet (fail)
        go_wp2
        go_ret
        exact ⟨_, rfl, ⟨blk_drewN hB.out _, Kd.R_drewN hR.out _, hg.out⟩, Upd.of_below (pw_below_drewN (Below.refl _ _) _) _ _, .inl rfl⟩
      · have hE : putE most xs job = 0 := by unfold putE; rw [if_neg hj, if_neg hi, if_neg hf]
        rw [hE, if_pos rfl]
        have hfb : decide (most ≤ (xs.length : Int)) = false := decide_eq_false hf
        clear hj hm hE h hi hf
        go_enter Try.func13, Try.ntmps13
        go_wp2_with (go_at_call 23; (with_reducible refine (q_Contains A c xs job false _ hC hib.out).mono ?_); rintro e w' ⟨rfl, rfl⟩)
        go_quiet (fail)
        refine q_gen _ (fun W0 => W0.heap[g]? = some (.cells #[.int .i64 most, .slice A xs.length c] 53 (0, 0)) ∧ (Kd.int .i64).R 3 W0 base (fun _ => True) (.slice A xs.length c) xs ∧ Below W.heap.size W W0) ⟨blk_drewN hB.out _, Kd.R_drewN hR.out _, pw_below_drewN (Below.refl _ _) _⟩ ?_
        clear c0 c1 f1 hR hB
        rintro W1 ⟨hB1, hR1, hb1⟩
        have c0 := blk_cell hB1 0
        have c1 := blk_cell hB1 1
        have f1 := blk_frozen hB1 1
        simp only [List.getElem?_toArray, List.getElem?_cons_zero, List.getElem?_cons_succ] at c0 c1
        replace hB1 := Aside0.mk hB1
        replace hR1 := Aside0.mk hR1
        replace hb1 := Aside0.mk hb1
        replace hne := Aside0.mk hne
        have hbs : Aside0 (base ≤ W1.heap.size) := ⟨by have := blk_lt hB1.out; have := hg.out; omega⟩
        go_wp2_with (at_builtin; refine Kd.R_append (Kd.int .i64) (w0 := W1) base rfl (.tmp 40) (.tmp 42) 30 3 (.int .i64 0) 8 rfl Try.underlying30 q_info3 rfl (by decide) (by omega) (.slice A xs.length c) xs job [.int .i64 job] (fun _ => True) (fun _ => False) rfl rfl rfl (fun _ hk => hk.elim) (fun _ _ => trivial) hR1.out (Below.refl base W1) hbs.out (by omega) ?_; intro v1 w1 hR2 hb2 hg2 hat2; obtain ⟨A1, e0, rfl⟩ := Kd.R_slice hR2; rw [show (xs ++ [job]).length = xs.length + 1 from List.length_append] at hR2 hat2; have hk := blk_grown hB1.out hg2 hne.out; have d1 : w1.cell? ⟨g, 1, none⟩ = some (.slice A xs.length c) := (blk_cell hk 1).trans rfl; have e1 := blk_frozen hk 1; replace hk := Aside0.mk hk; replace hR2 := Aside0.mk hR2; replace hg2 := Aside0.mk hg2; replace hat2 := Aside0.mk hat2; clear hb2)
        go_ret
        exact ⟨_, rfl, ⟨blk_put hk.out 1 _ rfl, Kd.R_set hR2.out hk.out (by decide) 1 _, hg.out⟩, upd_trans hb1.out (Upd.set (Upd.of_grown hg2.out g) 1 _), lies_below hb1.out hat2.out⟩
/-- Len. -/
theorem q_Len {base g : Nat} {most : Int} {v : Value} {xs : List Int} {W : World} (h : QS 53 base W g most v xs) :
    Calls Try.prog 14 #[.pointer (some ⟨g, 0, none⟩)] W fun e W' => e = .returned (.int .i64 xs.length) ∧ W = W' := by
  have hu := Try.underlying53
  obtain ⟨A, c, rfl⟩ := Kd.R_slice h.row
  have c1 := blk_cell h.blk 1
  simp only [List.getElem?_toArray, List.getElem?_cons_zero, List.getElem?_cons_succ] at c1
  clear h
  go_enter Try.func14, Try.ntmps14
  go_wp2
  go_ret
  exact ⟨rfl, rfl⟩
def inquestlaw19_lives.f : Option (Bool) := some true
set_option maxHeartbeats 1000000 in
theorem inquestlaw19_lives.calls (r : Bool) (w : World) (h : inquestlaw19_lives.f = some r) : Calls Try.prog 10 #[] w fun e w' => e = .returned (.bool r) ∧ Below w.heap.size w w' := by
  obtain rfl : true = r := Option.some.inj h
  clear h
  have hq := Aside0.mk (qs_new w 2 53)
  have hb := Aside0.mk (below_alloc (Below.refl w.heap.size w) (.cells #[.int .i64 2, .slice none 0 0] 53))
  go_enter Try.func10, Try.ntmps10
  go_wp2_with (first | (go_at_call 12; (with_reducible refine (q_New_ok 2 _ (by decide) (by decide)).mono ?_); rintro e w' ⟨rfl, rfl⟩) | (go_at_call 13; (with_reducible refine (q_Put 7 hq.out (by decide) (by decide)).mono ?_); rintro e w' ⟨v', rfl, hq2, hu2, hl2⟩; replace hq2 := Aside0.mk hq2; replace hb := Aside0.mk (hu2.below hb.out (by simp) (Nat.le_refl _) (fun _ e => by cases e)); clear hu2 hl2) | (go_at_call 14; (with_reducible refine (q_Len hq2.out).mono ?_); rintro e w' ⟨rfl, rfl⟩))
  go_ret
  exact ⟨rfl, hb.out⟩

/-! ### inquestref01_Least: function 11 -/
def inquestref01_Least.f (a0 : Int) (a1 : Int) (a2 : Int) : Option (Int) := if a0 < a1 then (some a1) else (if a0 > a2 then (some a2) else (some a0))
set_option maxHeartbeats 8000000 in
set_option maxRecDepth 100000 in
theorem inquestref01_Least.calls (a0 : Int) (a1 : Int) (a2 : Int) (r : Int) (w : World) (h : inquestref01_Least.f a0 a1 a2 = some r) :
    Calls Try.prog 11 #[.int .i64 a0, .int .i64 a1, .int .i64 a2] w fun e w' => e = .returned (.int .i64 r) ∧ Drawn0 w w' := by
  have H : (if a0 < a1 then (some a1) else (if a0 > a2 then (some a2) else (some a0))) = some r := h
  clear h
  by_cases c4 : a0 < a1
  · rw [if_pos c4] at H
    have c4b0 : decide (a0 < a1) = true := decide_eq_true c4
    clear c4
    obtain rfl := Option.some.inj H
    go_enter Try.func11, Try.ntmps11
    go_wp2
    go_ret
    exact ⟨by first | rfl | (simp; done) | (simp [*]; done), by repeat (first | exact Drawn0.refl _ | apply Drawn0.step)⟩
  · rw [if_neg c4] at H
    have c4b0 : decide (a0 < a1) = false := decide_eq_false c4
    clear c4
    by_cases c5 : a0 > a2
    · rw [if_pos c5] at H
      have c5b0 : decide (a2 < a0) = true := decide_eq_true c5
      clear c5
      obtain rfl := Option.some.inj H
      go_enter Try.func11, Try.ntmps11
      go_wp2
      go_ret
      exact ⟨by first | rfl | (simp; done) | (simp [*]; done), by repeat (first | exact Drawn0.refl _ | apply Drawn0.step)⟩
    · rw [if_neg c5] at H
      have c5b0 : decide (a2 < a0) = false := decide_eq_false c5
      clear c5
      obtain rfl := Option.some.inj H
      go_enter Try.func11, Try.ntmps11
      go_wp2
      go_ret
      exact ⟨by first | rfl | (simp; done) | (simp [*]; done), by repeat (first | exact Drawn0.refl _ | apply Drawn0.step)⟩

end Go.Proofs.Ytkhacnckajamhaa.PQueueFair
