/- A part of what the law LinEnough stands on, only as far as it is needed (the words and walks were printed or written in this seat; this text was cut by a program of this session, wip/bin/trim.py). No condition beyond what each theorem says. -/
import Derived.Test.YtddkoimaghcbeaaZLEPVmStepsx0
namespace Go.Proofs.Ytddkoimaghcbeaa.PVmSteps
open Go.RowKit Go.Proofs.YtddkoimaghcbeaaW.PrintWords Go.Proofs.YtddkoimaghcbeaaW.PrintLast Go.Proofs.YtddkoimaghcbeaaW.PrintMore
attribute [local go_sem] max2_int min2_int max_two min_two max_three min_three max_four min_four
set_option linter.unusedVariables false
set_option linter.unusedSimpArgs false
def lin_Enough.l0 : Nat → Int → Int → Int → Option (Int)
  | 0, _, _, _ => none
  | k + 1, x0, x3, x4 => if x0 > 0 then (if x0 = 0 then (none) else (if x4 > (wrap64 (Int.tdiv (4611686018427387904 : Int) x0)) then (some 4611686018427387904) else (if x3 > (wrap64 (4611686018427387904 - (wrap64 (x4 * x0)))) then (some 4611686018427387904) else (lin_Enough.l0 k (wrap64 (x0 - 1)) (wrap64 (x3 + (wrap64 (x4 * x0)))) (wrap64 (x4 * x0)))))) else (some x3)
def lin_Enough.f (k : Nat) (a0 : Int) : Option (Int) := lin_Enough.l0 k a0 0 1
set_option maxHeartbeats 8000000 in
set_option maxRecDepth 100000 in
theorem lin_Enough.calls (k : Nat) (a0 : Int) (r : Int) (w : World) (h : lin_Enough.f k a0 = some r) :
    Calls Try.prog 49 #[.int .i64 a0] w fun e w' => e = .returned (.int .i64 r) ∧ Drawn0 w w' := by
  have H : (lin_Enough.l0 k a0 0 1) = some r := h
  clear h
  have H' := Aside0.mk H
  clear H
  go_enter Try.func49, Try.ntmps49
  go_wp2
  go_loopg [0, 3, 4] k (fun kq v0 v3 v4 w' => ∃ (x0_1 : Int) (x3_1 : Int) (x4_1 : Int), v0 = .int .i64 x0_1 ∧ v3 = .int .i64 x3_1 ∧ v4 = .int .i64 x4_1 ∧ Aside0 (lin_Enough.l0 kq x0_1 x3_1 x4_1 = some r) ∧ Aside0 (kq ≤ k) ∧ Drawn0 w w')
  case atStart => exact ⟨(a0), (0), (1), (by first | rfl | (simp; done) | (simp [*]; done)), (by first | rfl | (simp; done) | (simp [*]; done)), (by first | rfl | (simp; done) | (simp [*]; done)), H', ⟨Nat.le_refl _⟩, by repeat (first | exact Drawn0.refl _ | apply Drawn0.step)⟩
  case round =>
    clear H'
    obtain ⟨x0_1, x3_1, x4_1, rfl, rfl, rfl, HA, HK1, ⟨m1, rfl⟩⟩ := hrel
    cases gk with
    | zero => exact absurd HA.out (by simp [lin_Enough.l0])
    | succ k1 =>
      have H := HA.out
      clear HA
      simp only [lin_Enough.l0] at H
      by_cases c2 : x0_1 > 0
      · rw [if_pos c2] at H
        have c2b0 : decide (0 < x0_1) = true := decide_eq_true c2
        clear c2
        by_cases c3 : x0_1 = 0
        · rw [if_pos c3] at H
          exact absurd H (by simp)
        · rw [if_neg c3] at H
          have c3b0 : (x0_1 == 0) = false := beq_eq_false_iff_ne.mpr c3
          have c3b1 : (x0_1 != 0) = true := bne_iff_ne.mpr c3
          by_cases c4 : x4_1 > (wrap64 (Int.tdiv (4611686018427387904 : Int) x0_1))
          · rw [if_pos c4] at H
            have c4b0 : decide ((wrap64 (Int.tdiv (4611686018427387904 : Int) x0_1)) < x4_1) = true := decide_eq_true c4
            clear c4
            obtain rfl := Option.some.inj H
            go_wp2
            go_ret
            exact ⟨by first | rfl | (simp; done) | (simp [*]; done), by repeat (first | exact Drawn0.refl _ | apply Drawn0.step)⟩
          · rw [if_neg c4] at H
            have c4b0 : decide ((wrap64 (Int.tdiv (4611686018427387904 : Int) x0_1)) < x4_1) = false := decide_eq_false c4
            clear c4
            by_cases c5 : x3_1 > (wrap64 (4611686018427387904 - (wrap64 (x4_1 * x0_1))))
            · rw [if_pos c5] at H
              have c5b0 : decide ((wrap64 (4611686018427387904 - (wrap64 (x4_1 * x0_1)))) < x3_1) = true := decide_eq_true c5
              clear c5
              obtain rfl := Option.some.inj H
              go_wp2
              go_ret
              exact ⟨by first | rfl | (simp; done) | (simp [*]; done), by repeat (first | exact Drawn0.refl _ | apply Drawn0.step)⟩
            · rw [if_neg c5] at H
              have c5b0 : decide ((wrap64 (4611686018427387904 - (wrap64 (x4_1 * x0_1)))) < x3_1) = false := decide_eq_false c5
              clear c5
              have H' := Aside0.mk H
              clear H
              go_wp2
              go_roundg k1
              case measure => have := HK1.out; omega
              case rel => exact ⟨(wrap64 (x0_1 - 1)), (wrap64 (x3_1 + (wrap64 (x4_1 * x0_1)))), (wrap64 (x4_1 * x0_1)), (by first | rfl | (simp; done) | (simp [*]; done)), (by first | rfl | (simp; done) | (simp [*]; done)), (by first | rfl | (simp; done) | (simp [*]; done)), H', ⟨by have := HK1.out; omega⟩, by repeat (first | exact Drawn0.refl _ | apply Drawn0.step)⟩
      · rw [if_neg c2] at H
        have c2b0 : decide (0 < x0_1) = false := decide_eq_false c2
        clear c2
        obtain rfl := Option.some.inj H
        go_wp2
        go_ret
        exact ⟨by first | rfl | (simp; done) | (simp [*]; done), by repeat (first | exact Drawn0.refl _ | apply Drawn0.step)⟩
mutual
def inquestref18_Enough.l0 : Nat → Int → Int → Int → Option (Int)
  | 0, _, _, _ => none
  | k + 1, x0, x3, x4 => if x4 ≤ x0 then (inquestref18_Enough.l1 k x0 x3 x4 1 0) else (some x3)
def inquestref18_Enough.l1 : Nat → Int → Int → Int → Int → Int → Option (Int)
  | 0, _, _, _, _, _ => none
  | k + 1, x0, x3, x4, x5, x6 => if x6 < x4 then (if (wrap64 (x0 - x6)) = 0 then (none) else (if x5 > (wrap64 (Int.tdiv (4611686018427387904 : Int) (wrap64 (x0 - x6)))) then (some 4611686018427387904) else (inquestref18_Enough.l1 k x0 x3 x4 (wrap64 (x5 * (wrap64 (x0 - x6)))) (wrap64 (x6 + 1))))) else (if (wrap64 (x3 + x5)) > 4611686018427387904 then (some 4611686018427387904) else (if (wrap64 (x3 + x5)) < 0 then (some 4611686018427387904) else (inquestref18_Enough.l0 k x0 (wrap64 (x3 + x5)) (wrap64 (x4 + 1)))))
end
def inquestref18_Enough.f (k : Nat) (a0 : Int) : Option (Int) := if a0 > 25 then (some 4611686018427387904) else (inquestref18_Enough.l0 k a0 0 1)
set_option maxHeartbeats 8000000 in
set_option maxRecDepth 100000 in
theorem inquestref18_Enough.calls (k : Nat) (a0 : Int) (r : Int) (w : World) (h : inquestref18_Enough.f k a0 = some r) :
    Calls Try.prog 50 #[.int .i64 a0] w fun e w' => e = .returned (.int .i64 r) ∧ Drawn0 w w' := by
  have H : (if a0 > 25 then (some 4611686018427387904) else (inquestref18_Enough.l0 k a0 0 1)) = some r := h
  clear h
  by_cases c2 : a0 > 25
  · rw [if_pos c2] at H
    have c2b0 : decide (25 < a0) = true := decide_eq_true c2
    clear c2
    obtain rfl := Option.some.inj H
    go_enter Try.func50, Try.ntmps50
    go_wp2
    go_ret
    exact ⟨by first | rfl | (simp; done) | (simp [*]; done), by repeat (first | exact Drawn0.refl _ | apply Drawn0.step)⟩
  · rw [if_neg c2] at H
    have c2b0 : decide (25 < a0) = false := decide_eq_false c2
    clear c2
    have H' := Aside0.mk H
    clear H
    go_enter Try.func50, Try.ntmps50
    go_wp2
    go_loopg [3, 4] k (fun kq v3 v4 w' => ∃ (x3_1 : Int) (x4_1 : Int), v3 = .int .i64 x3_1 ∧ v4 = .int .i64 x4_1 ∧ Aside0 (inquestref18_Enough.l0 kq a0 x3_1 x4_1 = some r) ∧ Aside0 (kq ≤ k) ∧ Drawn0 w w')
    case atStart => exact ⟨(0), (1), (by first | rfl | (simp; done) | (simp [*]; done)), (by first | rfl | (simp; done) | (simp [*]; done)), H', ⟨Nat.le_refl _⟩, by repeat (first | exact Drawn0.refl _ | apply Drawn0.step)⟩
    case round =>
      clear H'
      try clear c2
      try clear c2b0
      try clear p2
      obtain ⟨x3_1, x4_1, rfl, rfl, HA, HK1, ⟨m1, rfl⟩⟩ := hrel
      cases gk with
      | zero => exact absurd HA.out (by simp [inquestref18_Enough.l0])
      | succ k1 =>
        have H := HA.out
        clear HA
        simp only [inquestref18_Enough.l0] at H
        by_cases c3 : x4_1 ≤ a0
        · rw [if_pos c3] at H
          have c3b0 : decide (x4_1 ≤ a0) = true := decide_eq_true c3
          clear c3
          have H' := Aside0.mk H
          clear H
          go_wp2
          go_loopg [5, 6] k1 (fun kq v5 v6 w' => ∃ (x5_2 : Int) (x6_2 : Int), v5 = .int .i64 x5_2 ∧ v6 = .int .i64 x6_2 ∧ Aside0 (inquestref18_Enough.l1 kq a0 x3_1 x4_1 x5_2 x6_2 = some r) ∧ Aside0 (kq ≤ k1) ∧ Drawn0 w w')
          case atStart => exact ⟨(1), (0), (by first | rfl | (simp; done) | (simp [*]; done)), (by first | rfl | (simp; done) | (simp [*]; done)), H', ⟨Nat.le_refl _⟩, by repeat (first | exact Drawn0.refl _ | apply Drawn0.step)⟩
          case round =>
            clear H'
            try clear c2
            try clear c2b0
            try clear p2
            try clear c3
            try clear c3b0
            try clear p2
            obtain ⟨x5_2, x6_2, rfl, rfl, HA, HK2, ⟨m2, rfl⟩⟩ := hrel
            cases gk with
            | zero => exact absurd HA.out (by simp [inquestref18_Enough.l1])
            | succ k2 =>
              have H := HA.out
              clear HA
              simp only [inquestref18_Enough.l1] at H
              by_cases c4 : x6_2 < x4_1
              · rw [if_pos c4] at H
                have c4b0 : decide (x6_2 < x4_1) = true := decide_eq_true c4
                clear c4
                by_cases c5 : (wrap64 (a0 - x6_2)) = 0
                · rw [if_pos c5] at H
                  exact absurd H (by simp)
                · rw [if_neg c5] at H
                  have c5b0 : ((wrap64 (a0 - x6_2)) == 0) = false := beq_eq_false_iff_ne.mpr c5
                  have c5b1 : ((wrap64 (a0 - x6_2)) != 0) = true := bne_iff_ne.mpr c5
                  by_cases c6 : x5_2 > (wrap64 (Int.tdiv (4611686018427387904 : Int) (wrap64 (a0 - x6_2))))
                  · rw [if_pos c6] at H
                    have c6b0 : decide ((wrap64 (Int.tdiv (4611686018427387904 : Int) (wrap64 (a0 - x6_2)))) < x5_2) = true := decide_eq_true c6
                    clear c6
                    obtain rfl := Option.some.inj H
                    go_wp2
                    go_ret
                    exact ⟨by first | rfl | (simp; done) | (simp [*]; done), by repeat (first | exact Drawn0.refl _ | apply Drawn0.step)⟩
                  · rw [if_neg c6] at H
                    have c6b0 : decide ((wrap64 (Int.tdiv (4611686018427387904 : Int) (wrap64 (a0 - x6_2)))) < x5_2) = false := decide_eq_false c6
                    clear c6
                    have H' := Aside0.mk H
                    clear H
                    go_wp2
                    go_roundg k2
                    case measure => have := HK1.out; have := HK2.out; omega
                    case rel => exact ⟨(wrap64 (x5_2 * (wrap64 (a0 - x6_2)))), (wrap64 (x6_2 + 1)), (by first | rfl | (simp; done) | (simp [*]; done)), (by first | rfl | (simp; done) | (simp [*]; done)), H', ⟨by have := HK1.out; have := HK2.out; omega⟩, by repeat (first | exact Drawn0.refl _ | apply Drawn0.step)⟩
              · rw [if_neg c4] at H
                have c4b0 : decide (x6_2 < x4_1) = false := decide_eq_false c4
                clear c4
                by_cases c7 : (wrap64 (x3_1 + x5_2)) > 4611686018427387904
                · rw [if_pos c7] at H
                  have c7b0 : decide (4611686018427387904 < (wrap64 (x3_1 + x5_2))) = true := decide_eq_true c7
                  clear c7
                  obtain rfl := Option.some.inj H
                  go_wp2
                  go_ret
                  exact ⟨by first | rfl | (simp; done) | (simp [*]; done), by repeat (first | exact Drawn0.refl _ | apply Drawn0.step)⟩
                · rw [if_neg c7] at H
                  have c7b0 : decide (4611686018427387904 < (wrap64 (x3_1 + x5_2))) = false := decide_eq_false c7
                  clear c7
                  by_cases c8 : (wrap64 (x3_1 + x5_2)) < 0
                  · rw [if_pos c8] at H
                    have c8b0 : decide ((wrap64 (x3_1 + x5_2)) < 0) = true := decide_eq_true c8
                    clear c8
                    obtain rfl := Option.some.inj H
                    go_wp2
                    go_ret
                    exact ⟨by first | rfl | (simp; done) | (simp [*]; done), by repeat (first | exact Drawn0.refl _ | apply Drawn0.step)⟩
                  · rw [if_neg c8] at H
                    have c8b0 : decide ((wrap64 (x3_1 + x5_2)) < 0) = false := decide_eq_false c8
                    clear c8
                    have H' := Aside0.mk H
                    clear H
                    go_wp2
                    go_roundg k2
                    case measure => have := HK1.out; have := HK2.out; omega
                    case rel => exact ⟨(wrap64 (x3_1 + x5_2)), (wrap64 (x4_1 + 1)), (by first | rfl | (simp; done) | (simp [*]; done)), (by first | rfl | (simp; done) | (simp [*]; done)), H', ⟨by have := HK1.out; have := HK2.out; omega⟩, by repeat (first | exact Drawn0.refl _ | apply Drawn0.step)⟩
        · rw [if_neg c3] at H
          have c3b0 : decide (x4_1 ≤ a0) = false := decide_eq_false c3
          clear c3
          obtain rfl := Option.some.inj H
          go_wp2
          go_ret
          exact ⟨by first | rfl | (simp; done) | (simp [*]; done), by repeat (first | exact Drawn0.refl _ | apply Drawn0.step)⟩
-- NOT PRINTED: function 18 (inquestlaw18_LinEnough)
end Go.Proofs.Ytddkoimaghcbeaa.PVmSteps
