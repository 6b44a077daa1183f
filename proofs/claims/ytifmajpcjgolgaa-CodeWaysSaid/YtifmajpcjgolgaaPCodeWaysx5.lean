-- Written by a program of this session (wip/bin/patch_print.py): a turned copy of the kit's printer. Not trusted: Lean checks it.
import Derived.Test.YtifmajpcjgolgaaPCodeWaysx0
import Derived.Test.YtifmajpcjgolgaaPCodeWaysx1
import Derived.Test.YtifmajpcjgolgaaPCodeWaysx4
namespace Go.Proofs.Ytifmajpcjgolgaa.PCodeWays
open Go.RowKit Go.Proofs.YtifmajpcjgolgaaW.PrintWords Go.Proofs.YtifmajpcjgolgaaW.PrintLast Go.Proofs.YtifmajpcjgolgaaW.PrintMore
attribute [local go_sem] max2_int min2_int max_two min_two max_three min_three max_four min_four   -- for this text's walks alone
set_option linter.unusedVariables false
set_option linter.unusedSimpArgs false

/-! ### inquestlaw15_CodeWays: function 5 -/
mutual
def inquestlaw15_CodeWays.l0 : Nat → List (S39) → List Bool → List Int → Int → Int → Int → Option (Bool)
  | 0, _, _, _, _, _, _ => none
  | k + 1, x0, x1, x7, x8, x9, x10 => if x10 < 500 then (if x8 < 0 then (inquestlaw15_CodeWays.j1 k x0 x1 x7 x8 x9 x10 true) else (if x8 ≥ (x0.length : Int) then (inquestlaw15_CodeWays.j1 k x0 x1 x7 x8 x9 x10 true) else (if 0 ≤ x8 then (if x8 < (x7.length : Int) then (inquestlaw15_CodeWays.j1 k x0 x1 x7 x8 x9 x10 ((rd x7 x8) != x9)) else (none)) else (none)))) else ((inquestlaw15_lives.f k).bind fun t184 => (some t184))
def inquestlaw15_CodeWays.j1 : Nat → List (S39) → List Bool → List Int → Int → Int → Int → Bool → Option (Bool)
  | 0, _, _, _, _, _, _, _ => none
  | k + 1, x0, x1, x7, x8, x9, x10, x54 => if x54 = true then (some false) else (if 0 ≤ x8 then (if x8 < (x0.length : Int) then ((code_Takes.f k ((rd_T39 x0 x8).f0)).bind fun t188 => (if (wrap64 (x9 - t188)) < 0 then (some false) else ((code_Puts.f k ((rd_T39 x0 x8).f0)).bind fun t189 => (if (wrap64 ((wrap64 (x9 - t188)) + t189)) > 8 then (some false) else (if ((rd_T39 x0 x8).f0) = 18 then (inquestlaw15_CodeWays.j2 k x0 x1 x7 x8 (wrap64 ((wrap64 (x9 - t188)) + t189)) x10 true ((rd_T39 x0 x8).f0) ((rd_T39 x0 x8).f1)) else (inquestlaw15_CodeWays.j2 k x0 x1 x7 x8 (wrap64 ((wrap64 (x9 - t188)) + t189)) x10 (((rd_T39 x0 x8).f0) == 19) ((rd_T39 x0 x8).f0) ((rd_T39 x0 x8).f1))))))) else (none)) else (none))
def inquestlaw15_CodeWays.j2 : Nat → List (S39) → List Bool → List Int → Int → Int → Int → Bool → Int → Int → Option (Bool)
  | 0, _, _, _, _, _, _, _, _, _ => none
  | k + 1, x0, x1, x7, x8, x9, x10, x80, x188000, x188001 => if x80 = true then ((inquestlaw15_lives.f k).bind fun t190 => (some t190)) else (if x188000 = 16 then (inquestlaw15_CodeWays.l0 k x0 x1 x7 x188001 x9 (wrap64 (x10 + 1))) else (if x188000 = 17 then (if (x1.length : Int) > 0 then (if (x1.length : Int) = 0 then (none) else (if 0 ≤ (Int.tmod x10 (x1.length : Int)) then (if (Int.tmod x10 (x1.length : Int)) < (x1.length : Int) then (if rdOf false x1 (Int.tmod x10 (x1.length : Int)) = true then (inquestlaw15_CodeWays.l0 k x0 x1 x7 x188001 x9 (wrap64 (x10 + 1))) else (inquestlaw15_CodeWays.l0 k x0 x1 x7 (wrap64 (x8 + 1)) x9 (wrap64 (x10 + 1)))) else (none)) else (none))) else (inquestlaw15_CodeWays.l0 k x0 x1 x7 (wrap64 (x8 + 1)) x9 (wrap64 (x10 + 1)))) else (inquestlaw15_CodeWays.l0 k x0 x1 x7 (wrap64 (x8 + 1)) x9 (wrap64 (x10 + 1)))))
end
def inquestlaw15_CodeWays.f (k : Nat) (l0 : List (S39)) (l1 : List Bool) : Option (Bool) := (inquestref15_Few.f l0).bind fun t172 => ((code_Check.f k t172).bind fun bt175 => (if bt175.2 = 0 then ((code_Depths.f k t172).bind fun t181 => (if (t181.length : Int) = (t172.length : Int) then (inquestlaw15_CodeWays.l0 k t172 l1 t181 0 0 0) else (some false))) else ((code_Depths.f k t172).bind fun t177 => (if (t177.length : Int) = 0 then ((inquestlaw15_lives.f k).bind fun t180 => (some t180)) else (some false)))))
theorem inquestlaw15_CodeWays.mono_l : ∀ k, (∀ y0 y1 y2 y3 y4 y5, LeO (inquestlaw15_CodeWays.l0 k y0 y1 y2 y3 y4 y5) (inquestlaw15_CodeWays.l0 (k + 1) y0 y1 y2 y3 y4 y5)) ∧ (∀ y0 y1 y2 y3 y4 y5 y6, LeO (inquestlaw15_CodeWays.j1 k y0 y1 y2 y3 y4 y5 y6) (inquestlaw15_CodeWays.j1 (k + 1) y0 y1 y2 y3 y4 y5 y6)) ∧ (∀ y0 y1 y2 y3 y4 y5 y6 y7 y8, LeO (inquestlaw15_CodeWays.j2 k y0 y1 y2 y3 y4 y5 y6 y7 y8) (inquestlaw15_CodeWays.j2 (k + 1) y0 y1 y2 y3 y4 y5 y6 y7 y8))
  | 0 => ⟨fun _ _ _ _ _ _ r h => by simp [inquestlaw15_CodeWays.l0] at h, fun _ _ _ _ _ _ _ r h => by simp [inquestlaw15_CodeWays.j1] at h, fun _ _ _ _ _ _ _ _ _ r h => by simp [inquestlaw15_CodeWays.j2] at h⟩
  | k + 1 => by
    obtain ⟨ih0, ih1, ih2⟩ := inquestlaw15_CodeWays.mono_l k
    refine ⟨?_, ?_, ?_⟩
    · intro y0 y1 y2 y3 y4 y5
      unfold inquestlaw15_CodeWays.l0
      repeat' first
      | (with_reducible exact ih0 _ _ _ _ _ _)
      | (with_reducible exact ih1 _ _ _ _ _ _ _)
      | (with_reducible exact ih2 _ _ _ _ _ _ _ _ _)
      | (with_reducible exact code_Check.mono _ _)
      | (with_reducible exact code_Depths.mono _ _)
      | (with_reducible exact code_Puts.mono _ _)
      | (with_reducible exact code_Takes.mono _ _)
      | (with_reducible exact inquestlaw15_lives.mono _)
      | (with_reducible exact LeO.refl _)
      | (with_reducible exact LeO.none _)
      | (with_reducible refine LeO.ite ?_ ?_)
      | (with_reducible refine LeO.bind ?_ (fun _ => ?_))
      | exact ih0 _ _ _ _ _ _
      | exact ih1 _ _ _ _ _ _ _
      | exact ih2 _ _ _ _ _ _ _ _ _
      | exact code_Check.mono _ _
      | exact code_Depths.mono _ _
      | exact code_Puts.mono _ _
      | exact code_Takes.mono _ _
      | exact inquestlaw15_lives.mono _
      | exact LeO.none _
      | refine LeO.ite ?_ ?_
      | refine LeO.bind ?_ (fun _ => ?_)
    · intro y0 y1 y2 y3 y4 y5 y6
      unfold inquestlaw15_CodeWays.j1
      repeat' first
      | (with_reducible exact ih0 _ _ _ _ _ _)
      | (with_reducible exact ih1 _ _ _ _ _ _ _)
      | (with_reducible exact ih2 _ _ _ _ _ _ _ _ _)
      | (with_reducible exact code_Check.mono _ _)
      | (with_reducible exact code_Depths.mono _ _)
      | (with_reducible exact code_Puts.mono _ _)
      | (with_reducible exact code_Takes.mono _ _)
      | (with_reducible exact inquestlaw15_lives.mono _)
      | (with_reducible exact LeO.refl _)
      | (with_reducible exact LeO.none _)
      | (with_reducible refine LeO.ite ?_ ?_)
      | (with_reducible refine LeO.bind ?_ (fun _ => ?_))
      | exact ih0 _ _ _ _ _ _
      | exact ih1 _ _ _ _ _ _ _
      | exact ih2 _ _ _ _ _ _ _ _ _
      | exact code_Check.mono _ _
      | exact code_Depths.mono _ _
      | exact code_Puts.mono _ _
      | exact code_Takes.mono _ _
      | exact inquestlaw15_lives.mono _
      | exact LeO.none _
      | refine LeO.ite ?_ ?_
      | refine LeO.bind ?_ (fun _ => ?_)
    · intro y0 y1 y2 y3 y4 y5 y6 y7 y8
      unfold inquestlaw15_CodeWays.j2
      repeat' first
      | (with_reducible exact ih0 _ _ _ _ _ _)
      | (with_reducible exact ih1 _ _ _ _ _ _ _)
      | (with_reducible exact ih2 _ _ _ _ _ _ _ _ _)
      | (with_reducible exact code_Check.mono _ _)
      | (with_reducible exact code_Depths.mono _ _)
      | (with_reducible exact code_Puts.mono _ _)
      | (with_reducible exact code_Takes.mono _ _)
      | (with_reducible exact inquestlaw15_lives.mono _)
      | (with_reducible exact LeO.refl _)
      | (with_reducible exact LeO.none _)
      | (with_reducible refine LeO.ite ?_ ?_)
      | (with_reducible refine LeO.bind ?_ (fun _ => ?_))
      | exact ih0 _ _ _ _ _ _
      | exact ih1 _ _ _ _ _ _ _
      | exact ih2 _ _ _ _ _ _ _ _ _
      | exact code_Check.mono _ _
      | exact code_Depths.mono _ _
      | exact code_Puts.mono _ _
      | exact code_Takes.mono _ _
      | exact inquestlaw15_lives.mono _
      | exact LeO.none _
      | refine LeO.ite ?_ ?_
      | refine LeO.bind ?_ (fun _ => ?_)
theorem inquestlaw15_CodeWays.mono : ∀ a0 a1 k, LeO (inquestlaw15_CodeWays.f k a0 a1) (inquestlaw15_CodeWays.f (k + 1) a0 a1) := by
  intro a0 a1 k
  obtain ⟨ih0, ih1, ih2⟩ := inquestlaw15_CodeWays.mono_l k
  unfold inquestlaw15_CodeWays.f
  repeat' first
      | (with_reducible exact ih0 _ _ _ _ _ _)
      | (with_reducible exact ih1 _ _ _ _ _ _ _)
      | (with_reducible exact ih2 _ _ _ _ _ _ _ _ _)
      | (with_reducible exact code_Check.mono _ _)
      | (with_reducible exact code_Depths.mono _ _)
      | (with_reducible exact code_Puts.mono _ _)
      | (with_reducible exact code_Takes.mono _ _)
      | (with_reducible exact inquestlaw15_lives.mono _)
      | (with_reducible exact LeO.refl _)
      | (with_reducible exact LeO.none _)
      | (with_reducible refine LeO.ite ?_ ?_)
      | (with_reducible refine LeO.bind ?_ (fun _ => ?_))
      | exact ih0 _ _ _ _ _ _
      | exact ih1 _ _ _ _ _ _ _
      | exact ih2 _ _ _ _ _ _ _ _ _
      | exact code_Check.mono _ _
      | exact code_Depths.mono _ _
      | exact code_Puts.mono _ _
      | exact code_Takes.mono _ _
      | exact inquestlaw15_lives.mono _
      | exact LeO.none _
      | refine LeO.ite ?_ ?_
      | refine LeO.bind ?_ (fun _ => ?_)
set_option maxHeartbeats 8000000 in
set_option maxRecDepth 100000 in
theorem inquestlaw15_CodeWays.calls (k : Nat) (A0 : Option Addr) (c0 : Nat) (l0 : List (S39)) (A1 : Option Addr) (c1 : Nat) (l1 : List Bool) (r : Bool) (w : World) (hr0 : Kd.C k39 w A0 l0.length l0) (hc0 : l0.length ≤ c0) (hr1 : Kd.C Kd.bool w A1 l1.length l1) (hc1 : l1.length ≤ c1) (h : inquestlaw15_CodeWays.f k l0 l1 = some r) :
    Calls Try.prog 5 #[.slice A0 l0.length c0, .slice A1 l1.length c1] w fun e w' => e = .returned (.bool r) ∧ Below w.heap.size w w' := by
  have hu39 := Try.underlying39
  have HR0 := Aside0.mk hr0
  have HC0 := Aside0.mk hc0
  clear hr0 hc0
  have HR1 := Aside0.mk hr1
  have HC1 := Aside0.mk hc1
  clear hr1 hc1
  have HB := Aside0.mk (Below.refl w.heap.size w)
  have H : ((inquestref15_Few.f l0).bind fun t172 => ((code_Check.f k t172).bind fun bt175 => (if bt175.2 = 0 then ((code_Depths.f k t172).bind fun t181 => (if (t181.length : Int) = (t172.length : Int) then (inquestlaw15_CodeWays.l0 k t172 l1 t181 0 0 0) else (some false))) else ((code_Depths.f k t172).bind fun t177 => (if (t177.length : Int) = 0 then ((inquestlaw15_lives.f k).bind fun t180 => (some t180)) else (some false)))))) = some r := h
  clear h
  replace H := Option.bind_eq_some_iff.mp H
  obtain ⟨t172, A30, H⟩ := H
  replace H : ((code_Check.f k t172).bind fun bt175 => (if bt175.2 = 0 then ((code_Depths.f k t172).bind fun t181 => (if (t181.length : Int) = (t172.length : Int) then (inquestlaw15_CodeWays.l0 k t172 l1 t181 0 0 0) else (some false))) else ((code_Depths.f k t172).bind fun t177 => (if (t177.length : Int) = 0 then ((inquestlaw15_lives.f k).bind fun t180 => (some t180)) else (some false))))) = some r := H
  have A3 := Aside0.mk A30
  clear A30
  replace H := Option.bind_eq_some_iff.mp H
  obtain ⟨⟨t175, t176⟩, A40, H⟩ := H
  replace H : (if t176 = 0 then ((code_Depths.f k t172).bind fun t181 => (if (t181.length : Int) = (t172.length : Int) then (inquestlaw15_CodeWays.l0 k t172 l1 t181 0 0 0) else (some false))) else ((code_Depths.f k t172).bind fun t177 => (if (t177.length : Int) = 0 then ((inquestlaw15_lives.f k).bind fun t180 => (some t180)) else (some false)))) = some r := H
  have A4 := Aside0.mk A40
  clear A40
  by_cases c5 : t176 = 0
  · rw [if_pos c5] at H
    have c5b0 : (t176 == 0) = true := beq_iff_eq.mpr c5
    have c5b1 : (t176 != 0) = false := bne_eq_false_iff_eq.mpr c5
    clear c5
    replace H := Option.bind_eq_some_iff.mp H
    obtain ⟨t181, A60, H⟩ := H
    replace H : (if (t181.length : Int) = (t172.length : Int) then (inquestlaw15_CodeWays.l0 k t172 l1 t181 0 0 0) else (some false)) = some r := H
    have A6 := Aside0.mk A60
    clear A60
    by_cases c7 : (t181.length : Int) = (t172.length : Int)
    · rw [if_pos c7] at H
      have c7b0 : ((t181.length : Int) == (t172.length : Int)) = true := beq_iff_eq.mpr c7
      have c7b1 : ((t181.length : Int) != (t172.length : Int)) = false := bne_eq_false_iff_eq.mpr c7
      have c7b2 : (t181.length == t172.length) = true := by first | simpa using c7 | (simp at c7 ⊢; omega)
      clear c7
      have H' := Aside0.mk H
      clear H
      go_enter Try.func5, Try.ntmps5
      go_wp2_with (first | ((with_reducible refine gate_callee (f := 14) rfl ?_); refine goesL_ (some 13) rfl rfl Try.func14 (by kernel_rfl) rfl #[.slice A0 l0.length c0] rfl (by (try simp only [List.map_toArray, List.map_cons, List.map_nil]); first | done | rfl | (simp only [List.length_drop, List.length_take]; rfl)) ?_; (with_reducible refine (inquestref15_Few.calls _ _ l0 t172 _ ?side1 ?side2 A3.out).mono ?_); (case side1 => repeat (first | exact HR0.out | (with_reducible refine Kd.C_alloc ?_ _) | (with_reducible refine Kd.C_drewN ?_ _) | (with_reducible refine Kd.C_drew ?_))); (case side2 => exact HC0.out); rintro e w8 ⟨v173, rfl, ho0, hb⟩; refine ⟨_, rfl, ?_⟩; have n0_ := Aside0.mk (Kd.R_lower ho0 (below_size (by repeat (first | (with_reducible first | exact HB.out | apply below_alloc | apply pw_below_drewN | apply below_drew1) | exact HB.out)))); have n1_ := Aside0.mk (below_step (by repeat (first | (with_reducible first | exact HB.out | apply below_alloc | apply pw_below_drewN | apply below_drew1) | exact HB.out)) hb); clear HB; have HO174 := n0_; have HB := n1_; clear n0_ n1_; (try clear hb); (try clear hb2); (try clear hk); (try clear hi); (try clear ho0); obtain ⟨Ao9, co9, eo9⟩ := Kd.R_slice HO174.out; subst eo9) | ((with_reducible refine gate_callee (f := 15) rfl ?_); refine goesL_ (some 16) rfl rfl Try.func15 (by kernel_rfl) rfl #[.slice Ao9 t172.length co9] rfl (by (try simp only [List.map_toArray, List.map_cons, List.map_nil]); first | done | rfl | (simp only [List.length_drop, List.length_take]; rfl)) ?_; (with_reducible refine (code_Check.calls k _ _ t172 t175 t176 _ ?side1 ?side2 A4.out).mono ?_); (case side1 => repeat (first | exact (Kd.R_reads' HO174.out).2.2 | (with_reducible refine Kd.C_alloc ?_ _) | (with_reducible refine Kd.C_drewN ?_ _) | (with_reducible refine Kd.C_drew ?_))); (case side2 => exact (Kd.R_reads' HO174.out).2.1); rintro e w10 ⟨rfl, hb⟩; refine ⟨_, rfl, ?_⟩; have n0_ := Aside0.mk (Kd.R_below (by (with_reducible repeat (first | apply Kd.R_alloc | apply Kd.R_drewN | apply Kd.R_drew)); exact HO174.out) hb); have n1_ := Aside0.mk (below_step (by repeat (first | (with_reducible first | exact HB.out | apply below_alloc | apply pw_below_drewN | apply below_drew1) | exact HB.out)) hb); clear HO174; clear HB; have HO174 := n0_; have HB := n1_; clear n0_ n1_; (try clear hb); (try clear hb2); (try clear hk); (try clear hi)) | ((with_reducible refine gate_callee (f := 18) rfl ?_); refine goesL_ (some 29) rfl rfl Try.func18 (by kernel_rfl) rfl #[.slice Ao9 t172.length co9] rfl (by (try simp only [List.map_toArray, List.map_cons, List.map_nil]); first | done | rfl | (simp only [List.length_drop, List.length_take]; rfl)) ?_; (with_reducible refine (code_Depths.calls k _ _ t172 t181 _ ?side1 ?side2 A6.out).mono ?_); (case side1 => repeat (first | exact (Kd.R_reads' HO174.out).2.2 | (with_reducible refine Kd.C_alloc ?_ _) | (with_reducible refine Kd.C_drewN ?_ _) | (with_reducible refine Kd.C_drew ?_))); (case side2 => exact (Kd.R_reads' HO174.out).2.1); rintro e w11 ⟨v182, rfl, ho0, hb⟩; refine ⟨_, rfl, ?_⟩; have n0_ := Aside0.mk (Kd.R_below (by (with_reducible repeat (first | apply Kd.R_alloc | apply Kd.R_drewN | apply Kd.R_drew)); exact HO174.out) hb); have n1_ := Aside0.mk (Kd.R_lower ho0 (below_size (by repeat (first | (with_reducible first | exact HB.out | apply below_alloc | apply pw_below_drewN | apply below_drew1) | exact HB.out)))); have n2_ := Aside0.mk (below_step (by repeat (first | (with_reducible first | exact HB.out | apply below_alloc | apply pw_below_drewN | apply below_drew1) | exact HB.out)) hb); clear HO174; clear HB; have HO174 := n0_; have HO183 := n1_; have HB := n2_; clear n0_ n1_ n2_; (try clear hb); (try clear hb2); (try clear hk); (try clear hi); (try clear ho0); obtain ⟨Ao12, co12, eo12⟩ := Kd.R_slice HO183.out; subst eo12))
      go_loopg [8, 9, 10] k (fun kq v8 v9 v10 w' => ∃ (x8_1 : Int) (x9_1 : Int) (x10_1 : Int), v8 = .int .i64 x8_1 ∧ v9 = .int .i64 x9_1 ∧ v10 = .int .i64 x10_1 ∧ Aside0 (inquestlaw15_CodeWays.l0 kq t172 l1 t181 x8_1 x9_1 x10_1 = some r) ∧ Aside0 (kq ≤ k) ∧ Aside0 (Kd.R k39 39 w' w.heap.size (fun _ => True) (.slice Ao9 t172.length co9) t172) ∧ Aside0 (Kd.R (Kd.int .i64) 3 w' w.heap.size (fun _ => True) (.slice Ao12 t181.length co12) t181) ∧ Aside0 (Below w.heap.size w w'))
      case atStart => exact ⟨(0), (0), (0), (by first | rfl | (simp; done) | (simp [*]; done)), (by first | rfl | (simp; done) | (simp [*]; done)), (by first | rfl | (simp; done) | (simp [*]; done)), H', ⟨Nat.le_refl _⟩, ⟨by (with_reducible repeat (first | apply Kd.R_alloc | apply Kd.R_drewN | apply Kd.R_drew)); exact HO174.out⟩, ⟨by (with_reducible repeat (first | apply Kd.R_alloc | apply Kd.R_drewN | apply Kd.R_drew)); exact HO183.out⟩, ⟨by repeat (first | (with_reducible first | exact HB.out | apply below_alloc | apply pw_below_drewN | apply below_drew1) | exact HB.out)⟩⟩
      case round =>
        clear H'
        try clear c1
        try clear p2
        try clear c5
        try clear c5b0
        try clear c5b1
        try clear c7
        try clear c7b0
        try clear c7b1
        try clear c7b2
        obtain ⟨x8_1, x9_1, x10_1, rfl, rfl, rfl, HA, HK1, HO_0, HO_7, HB⟩ := hrel
        cases gk with
        | zero => exact absurd HA.out (by simp [inquestlaw15_CodeWays.l0])
        | succ k1 =>
          have H := HA.out
          clear HA
          simp only [inquestlaw15_CodeWays.l0] at H
          by_cases c13 : x10_1 < 500
          · rw [if_pos c13] at H
            have c13b0 : decide (x10_1 < 500) = true := decide_eq_true c13
            clear c13
            have HC14 := Aside0.mk H
            clear H
            go_upto_region 12 with (fail)
            go_cut [54] (fun v54 wc => ∃ (kq : Nat) (x54_13 : Bool), v54 = .bool x54_13 ∧ Aside0 (inquestlaw15_CodeWays.j1 kq t172 l1 t181 x8_1 x9_1 x10_1 x54_13 = some r) ∧ Aside0 (kq ≤ k1) ∧ Aside0 (Kd.R k39 39 wc w.heap.size (fun _ => True) (.slice Ao9 t172.length co9) t172) ∧ Aside0 (Kd.R (Kd.int .i64) 3 wc w.heap.size (fun _ => True) (.slice Ao12 t181.length co12) t181) ∧ Aside0 (Below w.heap.size w wc))
            case first =>
              have H := HC14.out
              clear HC14
              by_cases c15 : x8_1 < 0
              · rw [if_pos c15] at H
                have c15b0 : decide (x8_1 < 0) = true := decide_eq_true c15
                clear c15
                (first | rw [c15b0] | (simp only [i64_w, i32_w]; rw [c15b0]) | skip)
                have H' := Aside0.mk H
                clear H
                go_wp2
                go_meet
                case rel => exact ⟨_, (true), (by first | rfl | (simp; done) | (simp [*]; done)), H', ⟨by have := HK1.out; first | omega | exact Nat.le_refl _⟩, ⟨by (with_reducible repeat (first | apply Kd.R_alloc | apply Kd.R_drewN | apply Kd.R_drew)); exact HO_0.out⟩, ⟨by (with_reducible repeat (first | apply Kd.R_alloc | apply Kd.R_drewN | apply Kd.R_drew)); exact HO_7.out⟩, ⟨by repeat (first | (with_reducible first | exact HB.out | apply below_alloc | apply pw_below_drewN | apply below_drew1) | exact HB.out)⟩⟩
              · rw [if_neg c15] at H
                have c15b0 : decide (x8_1 < 0) = false := decide_eq_false c15
                clear c15
                (first | rw [c15b0] | (simp only [i64_w, i32_w]; rw [c15b0]) | skip)
                by_cases c16 : x8_1 ≥ (t172.length : Int)
                · rw [if_pos c16] at H
                  have c16b0 : decide ((t172.length : Int) ≤ x8_1) = true := decide_eq_true c16
                  clear c16
                  have H' := Aside0.mk H
                  clear H
                  go_wp2
                  go_meet
                  case rel => exact ⟨_, (true), (by first | rfl | (simp; done) | (simp [*]; done)), H', ⟨by have := HK1.out; first | omega | exact Nat.le_refl _⟩, ⟨by (with_reducible repeat (first | apply Kd.R_alloc | apply Kd.R_drewN | apply Kd.R_drew)); exact HO_0.out⟩, ⟨by (with_reducible repeat (first | apply Kd.R_alloc | apply Kd.R_drewN | apply Kd.R_drew)); exact HO_7.out⟩, ⟨by repeat (first | (with_reducible first | exact HB.out | apply below_alloc | apply pw_below_drewN | apply below_drew1) | exact HB.out)⟩⟩
                · rw [if_neg c16] at H
                  have c16b0 : decide ((t172.length : Int) ≤ x8_1) = false := decide_eq_false c16
                  clear c16
                  by_cases c17 : 0 ≤ x8_1
                  · rw [if_pos c17] at H
                    have c17b0 : decide (0 ≤ x8_1) = true := decide_eq_true c17
                    clear c17
                    by_cases c18 : x8_1 < (t181.length : Int)
                    · rw [if_pos c18] at H
                      have c18b0 : decide (x8_1 < (t181.length : Int)) = true := decide_eq_true c18
                      clear c18
                      have H' := Aside0.mk H
                      clear H
                      have p185 : 0 ≤ (x8_1 : Int) := of_decide_eq_true (by first | (with_reducible assumption) | assumption)
                      have q185 : x8_1 < (t181.length : Int) := of_decide_eq_true (by first | (with_reducible assumption) | assumption)
                      obtain ⟨ad185, e185, hx185_0⟩ := Kd.at_int (Kd.R_reads' HO_7.out).2.2 x8_1 p185 q185
                      cases e185
                      replace p185 := eq_true p185
                      replace q185 := eq_true q185
                      go_wp2
                      go_meet
                      case rel => exact ⟨_, (((rd t181 x8_1) != x9_1)), (by first | rfl | (simp; done) | (simp [*]; done)), H', ⟨by have := HK1.out; first | omega | exact Nat.le_refl _⟩, ⟨by (with_reducible repeat (first | apply Kd.R_alloc | apply Kd.R_drewN | apply Kd.R_drew)); exact HO_0.out⟩, ⟨by (with_reducible repeat (first | apply Kd.R_alloc | apply Kd.R_drewN | apply Kd.R_drew)); exact HO_7.out⟩, ⟨by repeat (first | (with_reducible first | exact HB.out | apply below_alloc | apply pw_below_drewN | apply below_drew1) | exact HB.out)⟩⟩
                    · rw [if_neg c18] at H
                      exact absurd H (by simp)
                  · rw [if_neg c17] at H
                    exact absurd H (by simp)
            case rest =>
              clear HC14
              try clear c1
              try clear p1
              try clear q1
              try clear hx1
              try clear p2
              try clear c5
              try clear c5b0
              try clear c5b1
              try clear c7
              try clear c7b0
              try clear c7b1
              try clear c7b2
              try clear c13
              try clear c13b0
              try clear c14
              try clear c15
              try clear c15b0
              try clear c16
              try clear c16b0
              try clear c17
              try clear c17b0
              try clear c18
              try clear c18b0
              try clear p18
              try clear q18
              try clear hx18
              try clear hx185_0
              try clear p185
              try clear p2
              try clear q185
              obtain ⟨kq, x54_13, rfl, HA, HJ13, HO_0, HO_7, HB⟩ := hcut
              cases kq with
              | zero => exact absurd HA.out (by simp [inquestlaw15_CodeWays.j1])
              | succ kj13 =>
                have H := HA.out
                clear HA
                simp only [inquestlaw15_CodeWays.j1] at H
                by_cases c19 : x54_13 = true
                · subst c19
                  have H1 : (some false) = some r := by rw [if_pos rfl] at H; exact H
                  clear H
                  have H := H1
                  clear H1
                  obtain rfl := Option.some.inj H
                  go_wp2
                  go_ret
                  exact ⟨by first | rfl | (simp [errW_none, errW_some] <;> rfl) | (simp [*, errW_none, errW_some] <;> rfl), by repeat (first | (with_reducible first | exact HB.out | apply below_alloc | apply pw_below_drewN | apply below_drew1) | exact HB.out)⟩
                · replace c19 := Bool.eq_false_iff.mpr c19
                  subst c19
                  have H1 : (if 0 ≤ x8_1 then (if x8_1 < (t172.length : Int) then ((code_Takes.f kj13 ((rd_T39 t172 x8_1).f0)).bind fun t188 => (if (wrap64 (x9_1 - t188)) < 0 then (some false) else ((code_Puts.f kj13 ((rd_T39 t172 x8_1).f0)).bind fun t189 => (if (wrap64 ((wrap64 (x9_1 - t188)) + t189)) > 8 then (some false) else (if ((rd_T39 t172 x8_1).f0) = 18 then (inquestlaw15_CodeWays.j2 kj13 t172 l1 t181 x8_1 (wrap64 ((wrap64 (x9_1 - t188)) + t189)) x10_1 true ((rd_T39 t172 x8_1).f0) ((rd_T39 t172 x8_1).f1)) else (inquestlaw15_CodeWays.j2 kj13 t172 l1 t181 x8_1 (wrap64 ((wrap64 (x9_1 - t188)) + t189)) x10_1 (((rd_T39 t172 x8_1).f0) == 19) ((rd_T39 t172 x8_1).f0) ((rd_T39 t172 x8_1).f1))))))) else (none)) else (none)) = some r := by rw [if_neg (show ¬ (false = true) by decide)] at H; exact H
                  clear H
                  have H := H1
                  clear H1
                  by_cases c20 : 0 ≤ x8_1
                  · rw [if_pos c20] at H
                    have c20b0 : decide (0 ≤ x8_1) = true := decide_eq_true c20
                    clear c20
                    by_cases c21 : x8_1 < (t172.length : Int)
                    · rw [if_pos c21] at H
                      have c21b0 : decide (x8_1 < (t172.length : Int)) = true := decide_eq_true c21
                      clear c21
                      replace H := Option.bind_eq_some_iff.mp H
                      obtain ⟨t188, A220, H⟩ := H
                      replace H : (if (wrap64 (x9_1 - t188)) < 0 then (some false) else ((code_Puts.f kj13 ((rd_T39 t172 x8_1).f0)).bind fun t189 => (if (wrap64 ((wrap64 (x9_1 - t188)) + t189)) > 8 then (some false) else (if ((rd_T39 t172 x8_1).f0) = 18 then (inquestlaw15_CodeWays.j2 kj13 t172 l1 t181 x8_1 (wrap64 ((wrap64 (x9_1 - t188)) + t189)) x10_1 true ((rd_T39 t172 x8_1).f0) ((rd_T39 t172 x8_1).f1)) else (inquestlaw15_CodeWays.j2 kj13 t172 l1 t181 x8_1 (wrap64 ((wrap64 (x9_1 - t188)) + t189)) x10_1 (((rd_T39 t172 x8_1).f0) == 19) ((rd_T39 t172 x8_1).f0) ((rd_T39 t172 x8_1).f1)))))) = some r := H
                      have A22 := Aside0.mk A220
                      clear A220
                      by_cases c23 : (wrap64 (x9_1 - t188)) < 0
                      · rw [if_pos c23] at H
                        have c23b0 : decide ((wrap64 (x9_1 - t188)) < 0) = true := decide_eq_true c23
                        clear c23
                        obtain rfl := Option.some.inj H
                        have p186 : 0 ≤ (x8_1 : Int) := of_decide_eq_true (by first | (with_reducible assumption) | assumption)
                        have q186 : x8_1 < (t172.length : Int) := of_decide_eq_true (by first | (with_reducible assumption) | assumption)
                        obtain ⟨ad186, e186, hx186_0, hx186_1⟩ := at_T39 (Kd.R_reads' HO_0.out).2.2 x8_1 p186 q186
                        cases e186
                        replace p186 := eq_true p186
                        replace q186 := eq_true q186
                        go_wp2_with (first | ((with_reducible refine gate_dst (N := 11) rfl ?_); (try (refine gate_guard (by rfl) ?_; dsimp only)); refine box_event ?hg (N := 11) ?hd (cs := #[.int .i64 0, .int .i64 0]) (t := 39) ?hr ?_; (case hd => rfl); (case hg => rfl); (case hr => first | (go_simp; done) | (go_simp; rfl)); intro gb187 hg w24 hbox hb; have n0_ := Aside0.mk (Kd.R_below (Kd.R_elderB (by (with_reducible repeat (first | apply Kd.R_alloc | apply Kd.R_drewN | apply Kd.R_drew)); exact HO_0.out) gb187 (Nat.le_of_eq hg.symm)) hb); have n1_ := Aside0.mk (Kd.R_below (by (with_reducible repeat (first | apply Kd.R_alloc | apply Kd.R_drewN | apply Kd.R_drew)); exact HO_7.out) hb); have n2_ := Aside0.mk (below_step (by repeat (first | (with_reducible first | exact HB.out | apply below_alloc | apply pw_below_drewN | apply below_drew1) | exact HB.out)) hb); have n3_ := Aside0.mk (hbox); have n4_ := Aside0.mk ((by rw [hg]; exact (below_size (by repeat (first | (with_reducible first | exact HB.out | apply below_alloc | apply pw_below_drewN | apply below_drew1) | exact HB.out))) : w.heap.size ≤ gb187)); have n5_ := Aside0.mk ((by rw [hg]; exact (below_size (by repeat (first | (with_reducible first | exact HB.out | apply below_alloc | apply pw_below_drewN | apply below_drew1) | exact HB.out))) : w.heap.size ≤ gb187)); clear HO_0; clear HO_7; clear HB; have HO_0 := n0_; have HO_7 := n1_; have HB := n2_; have BK187 := n3_; have GW187 := n4_; have GE187 := n5_; clear n0_ n1_ n2_ n3_ n4_ n5_; clear hb hbox hg; have hcz25_0 : w24.cell? ⟨gb187, 0, none⟩ = some (.int .i64 0) := (blk_cell BK187.out 0).trans rfl; have hcz25_1 : w24.cell? ⟨gb187, 1, none⟩ = some (.int .i64 0) := (blk_cell BK187.out 1).trans rfl; have hfz25_0 := blk_frozen BK187.out 0; have hfz25_1 := blk_frozen BK187.out 1) | ((with_reducible refine gate_callee (f := 9) rfl ?_); refine goesL_ (some 62) rfl rfl Try.func9 (by kernel_rfl) rfl #[.int .i64 ((rd_T39 t172 x8_1).f0)] rfl (by (try simp only [List.map_toArray, List.map_cons, List.map_nil]); first | done | rfl | (simp only [List.length_drop, List.length_take]; rfl)) ?_; (with_reducible refine (code_Takes.calls kj13 ((rd_T39 t172 x8_1).f0) t188 _ A22.out).mono ?_); rintro e w' ⟨rfl, ⟨nd, rfl⟩⟩; refine ⟨_, rfl, ?_⟩))
                        go_ret
                        exact ⟨by first | rfl | (simp [errW_none, errW_some] <;> rfl) | (simp [*, errW_none, errW_some] <;> rfl), by repeat (first | (with_reducible first | exact HB.out | apply below_alloc | apply pw_below_drewN | apply below_drew1 | refine below_set ?_ GE187.out) | exact HB.out)⟩
                      · rw [if_neg c23] at H
                        have c23b0 : decide ((wrap64 (x9_1 - t188)) < 0) = false := decide_eq_false c23
                        clear c23
                        replace H := Option.bind_eq_some_iff.mp H
                        obtain ⟨t189, A260, H⟩ := H
                        replace H : (if (wrap64 ((wrap64 (x9_1 - t188)) + t189)) > 8 then (some false) else (if ((rd_T39 t172 x8_1).f0) = 18 then (inquestlaw15_CodeWays.j2 kj13 t172 l1 t181 x8_1 (wrap64 ((wrap64 (x9_1 - t188)) + t189)) x10_1 true ((rd_T39 t172 x8_1).f0) ((rd_T39 t172 x8_1).f1)) else (inquestlaw15_CodeWays.j2 kj13 t172 l1 t181 x8_1 (wrap64 ((wrap64 (x9_1 - t188)) + t189)) x10_1 (((rd_T39 t172 x8_1).f0) == 19) ((rd_T39 t172 x8_1).f0) ((rd_T39 t172 x8_1).f1)))) = some r := H
                        have A26 := Aside0.mk A260
                        clear A260
                        by_cases c27 : (wrap64 ((wrap64 (x9_1 - t188)) + t189)) > 8
                        · rw [if_pos c27] at H
                          have c27b0 : decide (8 < (wrap64 ((wrap64 (x9_1 - t188)) + t189))) = true := decide_eq_true c27
                          clear c27
                          obtain rfl := Option.some.inj H
                          have p186 : 0 ≤ (x8_1 : Int) := of_decide_eq_true (by first | (with_reducible assumption) | assumption)
                          have q186 : x8_1 < (t172.length : Int) := of_decide_eq_true (by first | (with_reducible assumption) | assumption)
                          obtain ⟨ad186, e186, hx186_0, hx186_1⟩ := at_T39 (Kd.R_reads' HO_0.out).2.2 x8_1 p186 q186
                          cases e186
                          replace p186 := eq_true p186
                          replace q186 := eq_true q186
                          go_wp2_with (first | ((with_reducible refine gate_dst (N := 11) rfl ?_); (try (refine gate_guard (by rfl) ?_; dsimp only)); refine box_event ?hg (N := 11) ?hd (cs := #[.int .i64 0, .int .i64 0]) (t := 39) ?hr ?_; (case hd => rfl); (case hg => rfl); (case hr => first | (go_simp; done) | (go_simp; rfl)); intro gb187 hg w28 hbox hb; have n0_ := Aside0.mk (Kd.R_below (Kd.R_elderB (by (with_reducible repeat (first | apply Kd.R_alloc | apply Kd.R_drewN | apply Kd.R_drew)); exact HO_0.out) gb187 (Nat.le_of_eq hg.symm)) hb); have n1_ := Aside0.mk (Kd.R_below (by (with_reducible repeat (first | apply Kd.R_alloc | apply Kd.R_drewN | apply Kd.R_drew)); exact HO_7.out) hb); have n2_ := Aside0.mk (below_step (by repeat (first | (with_reducible first | exact HB.out | apply below_alloc | apply pw_below_drewN | apply below_drew1) | exact HB.out)) hb); have n3_ := Aside0.mk (hbox); have n4_ := Aside0.mk ((by rw [hg]; exact (below_size (by repeat (first | (with_reducible first | exact HB.out | apply below_alloc | apply pw_below_drewN | apply below_drew1) | exact HB.out))) : w.heap.size ≤ gb187)); have n5_ := Aside0.mk ((by rw [hg]; exact (below_size (by repeat (first | (with_reducible first | exact HB.out | apply below_alloc | apply pw_below_drewN | apply below_drew1) | exact HB.out))) : w.heap.size ≤ gb187)); clear HO_0; clear HO_7; clear HB; have HO_0 := n0_; have HO_7 := n1_; have HB := n2_; have BK187 := n3_; have GW187 := n4_; have GE187 := n5_; clear n0_ n1_ n2_ n3_ n4_ n5_; clear hb hbox hg; have hcz29_0 : w28.cell? ⟨gb187, 0, none⟩ = some (.int .i64 0) := (blk_cell BK187.out 0).trans rfl; have hcz29_1 : w28.cell? ⟨gb187, 1, none⟩ = some (.int .i64 0) := (blk_cell BK187.out 1).trans rfl; have hfz29_0 := blk_frozen BK187.out 0; have hfz29_1 := blk_frozen BK187.out 1) | ((with_reducible refine gate_callee (f := 9) rfl ?_); refine goesL_ (some 62) rfl rfl Try.func9 (by kernel_rfl) rfl #[.int .i64 ((rd_T39 t172 x8_1).f0)] rfl (by (try simp only [List.map_toArray, List.map_cons, List.map_nil]); first | done | rfl | (simp only [List.length_drop, List.length_take]; rfl)) ?_; (with_reducible refine (code_Takes.calls kj13 ((rd_T39 t172 x8_1).f0) t188 _ A22.out).mono ?_); rintro e w' ⟨rfl, ⟨nd, rfl⟩⟩; refine ⟨_, rfl, ?_⟩) | ((with_reducible refine gate_callee (f := 11) rfl ?_); refine goesL_ (some 69) rfl rfl Try.func11 (by kernel_rfl) rfl #[.int .i64 ((rd_T39 t172 x8_1).f0)] rfl (by (try simp only [List.map_toArray, List.map_cons, List.map_nil]); first | done | rfl | (simp only [List.length_drop, List.length_take]; rfl)) ?_; (with_reducible refine (code_Puts.calls kj13 ((rd_T39 t172 x8_1).f0) t189 _ A26.out).mono ?_); rintro e w' ⟨rfl, ⟨nd, rfl⟩⟩; refine ⟨_, rfl, ?_⟩))
                          go_ret
                          exact ⟨by first | rfl | (simp [errW_none, errW_some] <;> rfl) | (simp [*, errW_none, errW_some] <;> rfl), by repeat (first | (with_reducible first | exact HB.out | apply below_alloc | apply pw_below_drewN | apply below_drew1 | refine below_set ?_ GE187.out) | exact HB.out)⟩
                        · rw [if_neg c27] at H
                          have c27b0 : decide (8 < (wrap64 ((wrap64 (x9_1 - t188)) + t189))) = false := decide_eq_false c27
                          clear c27
                          have HC30 := Aside0.mk H
                          clear H
                          have p186 : 0 ≤ (x8_1 : Int) := of_decide_eq_true (by first | (with_reducible assumption) | assumption)
                          have q186 : x8_1 < (t172.length : Int) := of_decide_eq_true (by first | (with_reducible assumption) | assumption)
                          obtain ⟨ad186, e186, hx186_0, hx186_1⟩ := at_T39 (Kd.R_reads' HO_0.out).2.2 x8_1 p186 q186
                          cases e186
                          replace p186 := eq_true p186
                          replace q186 := eq_true q186
                          go_upto_region 21 with (first | ((with_reducible refine gate_dst (N := 11) rfl ?_); (try (refine gate_guard (by rfl) ?_; dsimp only)); refine box_event ?hg (N := 11) ?hd (cs := #[.int .i64 0, .int .i64 0]) (t := 39) ?hr ?_; (case hd => rfl); (case hg => rfl); (case hr => first | (go_simp; done) | (go_simp; rfl)); intro gb187 hg w31 hbox hb; have n0_ := Aside0.mk (Kd.R_below (Kd.R_elderB (by (with_reducible repeat (first | apply Kd.R_alloc | apply Kd.R_drewN | apply Kd.R_drew)); exact HO_0.out) gb187 (Nat.le_of_eq hg.symm)) hb); have n1_ := Aside0.mk (Kd.R_below (by (with_reducible repeat (first | apply Kd.R_alloc | apply Kd.R_drewN | apply Kd.R_drew)); exact HO_7.out) hb); have n2_ := Aside0.mk (below_step (by repeat (first | (with_reducible first | exact HB.out | apply below_alloc | apply pw_below_drewN | apply below_drew1) | exact HB.out)) hb); have n3_ := Aside0.mk (hbox); have n4_ := Aside0.mk ((by rw [hg]; exact (below_size (by repeat (first | (with_reducible first | exact HB.out | apply below_alloc | apply pw_below_drewN | apply below_drew1) | exact HB.out))) : w.heap.size ≤ gb187)); have n5_ := Aside0.mk ((by rw [hg]; exact (below_size (by repeat (first | (with_reducible first | exact HB.out | apply below_alloc | apply pw_below_drewN | apply below_drew1) | exact HB.out))) : w.heap.size ≤ gb187)); clear HO_0; clear HO_7; clear HB; have HO_0 := n0_; have HO_7 := n1_; have HB := n2_; have BK187 := n3_; have GW187 := n4_; have GE187 := n5_; clear n0_ n1_ n2_ n3_ n4_ n5_; clear hb hbox hg; have hcz32_0 : w31.cell? ⟨gb187, 0, none⟩ = some (.int .i64 0) := (blk_cell BK187.out 0).trans rfl; have hcz32_1 : w31.cell? ⟨gb187, 1, none⟩ = some (.int .i64 0) := (blk_cell BK187.out 1).trans rfl; have hfz32_0 := blk_frozen BK187.out 0; have hfz32_1 := blk_frozen BK187.out 1) | ((with_reducible refine gate_callee (f := 9) rfl ?_); refine goesL_ (some 62) rfl rfl Try.func9 (by kernel_rfl) rfl #[.int .i64 ((rd_T39 t172 x8_1).f0)] rfl (by (try simp only [List.map_toArray, List.map_cons, List.map_nil]); first | done | rfl | (simp only [List.length_drop, List.length_take]; rfl)) ?_; (with_reducible refine (code_Takes.calls kj13 ((rd_T39 t172 x8_1).f0) t188 _ A22.out).mono ?_); rintro e w' ⟨rfl, ⟨nd, rfl⟩⟩; refine ⟨_, rfl, ?_⟩) | ((with_reducible refine gate_callee (f := 11) rfl ?_); refine goesL_ (some 69) rfl rfl Try.func11 (by kernel_rfl) rfl #[.int .i64 ((rd_T39 t172 x8_1).f0)] rfl (by (try simp only [List.map_toArray, List.map_cons, List.map_nil]); first | done | rfl | (simp only [List.length_drop, List.length_take]; rfl)) ?_; (with_reducible refine (code_Puts.calls kj13 ((rd_T39 t172 x8_1).f0) t189 _ A26.out).mono ?_); rintro e w' ⟨rfl, ⟨nd, rfl⟩⟩; refine ⟨_, rfl, ?_⟩))
                          (try simp only [Act.put, List.setIfInBounds_toArray, List.set_cons_zero, List.set_cons_succ])
                          go_cut [80] (fun v80 wc => ∃ (kq : Nat) (x80_29 : Bool), v80 = .bool x80_29 ∧ Aside0 (inquestlaw15_CodeWays.j2 kq t172 l1 t181 x8_1 (wrap64 ((wrap64 (x9_1 - t188)) + t189)) x10_1 x80_29 ((rd_T39 t172 x8_1).f0) ((rd_T39 t172 x8_1).f1) = some r) ∧ Aside0 (kq ≤ kj13) ∧ Aside0 (Kd.R k39 39 wc w.heap.size (fun k_ => k_ ≠ gb187) (.slice (some ad186) t172.length co9) t172) ∧ Aside0 (Kd.R (Kd.int .i64) 3 wc w.heap.size (fun _ => True) (.slice Ao12 t181.length co12) t181) ∧ Aside0 (wc.heap[gb187]? = some (.cells #[.int .i64 ((rd_T39 t172 x8_1).f0), .int .i64 ((rd_T39 t172 x8_1).f1)] 39 (0, 0))) ∧ Aside0 (Below w.heap.size w wc))
                          case first =>
                            have H := HC30.out
                            clear HC30
                            by_cases c33 : ((rd_T39 t172 x8_1).f0) = 18
                            · rw [if_pos c33] at H
                              have c33b0 : (((rd_T39 t172 x8_1).f0) == 18) = true := beq_iff_eq.mpr c33
                              have c33b1 : (((rd_T39 t172 x8_1).f0) != 18) = false := bne_eq_false_iff_eq.mpr c33
                              clear c33
                              (first | rw [c33b0] | (simp only [i64_w, i32_w]; rw [c33b0]) | skip)
                              have H' := Aside0.mk H
                              clear H
                              have hcz34_0 : w31.cell? ⟨gb187, 0, none⟩ = some (.int .i64 0) := (blk_cell BK187.out 0).trans rfl
                              have hcz34_1 : w31.cell? ⟨gb187, 1, none⟩ = some (.int .i64 0) := (blk_cell BK187.out 1).trans rfl
                              have hfz34_0 := blk_frozen BK187.out 0
                              have hfz34_1 := blk_frozen BK187.out 1
                              go_wp2
                              go_meet
                              case rel => exact ⟨_, (true), (by first | rfl | (simp; done) | (simp [*]; done)), H', ⟨by have := HK1.out; have := HJ13.out; first | omega | exact Nat.le_refl _⟩, ⟨by (with_reducible repeat (first | apply Kd.R_alloc | apply Kd.R_drewN | apply Kd.R_drew)); exact Kd.R_mono (Kd.R_far (p := ⟨gb187, 1, none⟩) (Kd.R_far (p := ⟨gb187, 0, none⟩) (Kd.R_mono HO_0.out (fun k_ hk => (⟨hk, hk.2⟩ : _ ∧ k_ ≠ gb187))) (fun _ hk => hk.2) (.int .i64 ((rd_T39 t172 x8_1).f0))) (fun _ hk => hk.2) (.int .i64 ((rd_T39 t172 x8_1).f1))) (fun _ hk => hk.1.2)⟩, ⟨by (with_reducible repeat (first | apply Kd.R_alloc | apply Kd.R_drewN | apply Kd.R_drew)); exact Kd.R_mono (Kd.R_far (p := ⟨gb187, 1, none⟩) (Kd.R_far (p := ⟨gb187, 0, none⟩) (Kd.R_types HO_7.out BK187.out (by decide)) (fun _ hk => hk.2) (.int .i64 ((rd_T39 t172 x8_1).f0))) (fun _ hk => hk.2) (.int .i64 ((rd_T39 t172 x8_1).f1))) (fun _ hk => trivial)⟩, ⟨by (with_reducible repeat (first | refine blk_drewN ?_ _ | refine blk_drew ?_ | refine blk_alloc ?_ _)); refine blk_put (cs := #[.int .i64 ((rd_T39 t172 x8_1).f0), .int .i64 0]) ?_ 1 _ rfl; (with_reducible repeat (first | refine blk_drewN ?_ _ | refine blk_drew ?_ | refine blk_alloc ?_ _)); refine blk_put (cs := #[.int .i64 0, .int .i64 0]) ?_ 0 _ rfl; (with_reducible repeat (first | refine blk_drewN ?_ _ | refine blk_drew ?_ | refine blk_alloc ?_ _)); exact BK187.out⟩, ⟨by repeat (first | (with_reducible first | exact HB.out | apply below_alloc | apply pw_below_drewN | apply below_drew1 | refine below_set ?_ GE187.out) | exact HB.out)⟩⟩
                            · rw [if_neg c33] at H
                              have c33b0 : (((rd_T39 t172 x8_1).f0) == 18) = false := beq_eq_false_iff_ne.mpr c33
                              have c33b1 : (((rd_T39 t172 x8_1).f0) != 18) = true := bne_iff_ne.mpr c33
                              (first | rw [c33b0] | (simp only [i64_w, i32_w]; rw [c33b0]) | skip)
                              have H' := Aside0.mk H
                              clear H
                              have hcz35_0 : w31.cell? ⟨gb187, 0, none⟩ = some (.int .i64 0) := (blk_cell BK187.out 0).trans rfl
                              have hcz35_1 : w31.cell? ⟨gb187, 1, none⟩ = some (.int .i64 0) := (blk_cell BK187.out 1).trans rfl
                              have hfz35_0 := blk_frozen BK187.out 0
                              have hfz35_1 := blk_frozen BK187.out 1
                              go_wp2
                              go_meet
                              case rel => exact ⟨_, ((((rd_T39 t172 x8_1).f0) == 19)), (by first | rfl | (simp; done) | (simp [*]; done)), H', ⟨by have := HK1.out; have := HJ13.out; first | omega | exact Nat.le_refl _⟩, ⟨by (with_reducible repeat (first | apply Kd.R_alloc | apply Kd.R_drewN | apply Kd.R_drew)); exact Kd.R_mono (Kd.R_far (p := ⟨gb187, 1, none⟩) (Kd.R_far (p := ⟨gb187, 0, none⟩) (Kd.R_mono HO_0.out (fun k_ hk => (⟨hk, hk.2⟩ : _ ∧ k_ ≠ gb187))) (fun _ hk => hk.2) (.int .i64 ((rd_T39 t172 x8_1).f0))) (fun _ hk => hk.2) (.int .i64 ((rd_T39 t172 x8_1).f1))) (fun _ hk => hk.1.2)⟩, ⟨by (with_reducible repeat (first | apply Kd.R_alloc | apply Kd.R_drewN | apply Kd.R_drew)); exact Kd.R_mono (Kd.R_far (p := ⟨gb187, 1, none⟩) (Kd.R_far (p := ⟨gb187, 0, none⟩) (Kd.R_types HO_7.out BK187.out (by decide)) (fun _ hk => hk.2) (.int .i64 ((rd_T39 t172 x8_1).f0))) (fun _ hk => hk.2) (.int .i64 ((rd_T39 t172 x8_1).f1))) (fun _ hk => trivial)⟩, ⟨by (with_reducible repeat (first | refine blk_drewN ?_ _ | refine blk_drew ?_ | refine blk_alloc ?_ _)); refine blk_put (cs := #[.int .i64 ((rd_T39 t172 x8_1).f0), .int .i64 0]) ?_ 1 _ rfl; (with_reducible repeat (first | refine blk_drewN ?_ _ | refine blk_drew ?_ | refine blk_alloc ?_ _)); refine blk_put (cs := #[.int .i64 0, .int .i64 0]) ?_ 0 _ rfl; (with_reducible repeat (first | refine blk_drewN ?_ _ | refine blk_drew ?_ | refine blk_alloc ?_ _)); exact BK187.out⟩, ⟨by repeat (first | (with_reducible first | exact HB.out | apply below_alloc | apply pw_below_drewN | apply below_drew1 | refine below_set ?_ GE187.out) | exact HB.out)⟩⟩
                          case rest =>
                            clear HC30
                            try clear c1
                            try clear p1
                            try clear q1
                            try clear hx1
                            try clear c2
                            try clear p2
                            try clear c3
                            try clear c5
                            try clear c5b0
                            try clear c5b1
                            try clear p6
                            try clear c7
                            try clear c7b0
                            try clear c7b1
                            try clear c7b2
                            try clear c9
                            try clear c11
                            try clear c13
                            try clear c13b0
                            try clear c14
                            try clear c15
                            try clear c15b0
                            try clear c16
                            try clear c16b0
                            try clear c17
                            try clear c17b0
                            try clear c18
                            try clear c18b0
                            try clear p18
                            try clear q18
                            try clear hx18
                            try clear c19
                            try clear c20
                            try clear c20b0
                            try clear c21
                            try clear c21b0
                            try clear c23
                            try clear c23b0
                            try clear c27
                            try clear c27b0
                            try clear c33
                            try clear c33b0
                            try clear c33b1
                            try clear hcz25_0
                            try clear hcz25_1
                            try clear hcz29_0
                            try clear hcz29_1
                            try clear hcz32_0
                            try clear hcz32_1
                            try clear hcz34_0
                            try clear hcz34_1
                            try clear hcz35_0
                            try clear hcz35_1
                            try clear hfz25_0
                            try clear hfz25_1
                            try clear hfz29_0
                            try clear hfz29_1
                            try clear hfz32_0
                            try clear hfz32_1
                            try clear hfz34_0
                            try clear hfz34_1
                            try clear hfz35_0
                            try clear hfz35_1
                            try clear hx185_0
                            try clear hx186_0
                            try clear hx186_1
                            try clear p1
                            try clear p18
                            try clear p185
                            try clear p186
                            try clear p2
                            try clear q1
                            try clear q18
                            try clear q185
                            try clear q186
                            obtain ⟨kq, x80_29, rfl, HA, HJ29, HO_0, HO_7, BK187, HB⟩ := hcut
                            cases kq with
                            | zero => exact absurd HA.out (by simp [inquestlaw15_CodeWays.j2])
                            | succ kj29 =>
                              have H := HA.out
                              clear HA
                              simp only [inquestlaw15_CodeWays.j2] at H
                              by_cases c36 : x80_29 = true
                              · subst c36
                                have H1 : ((inquestlaw15_lives.f kj29).bind fun t190 => (some t190)) = some r := by rw [if_pos rfl] at H; exact H
                                clear H
                                have H := H1
                                clear H1
                                replace H := Option.bind_eq_some_iff.mp H
                                obtain ⟨t190, A370, H⟩ := H
                                replace H : (some t190) = some r := H
                                have A37 := Aside0.mk A370
                                clear A370
                                obtain rfl := Option.some.inj H
                                go_wp2_with (first | ((with_reducible refine gate_callee (f := 13) rfl ?_); refine goesL_ (some 81) rfl rfl Try.func13 (by kernel_rfl) rfl #[] rfl (by (try simp only [List.map_toArray, List.map_cons, List.map_nil]); first | done | rfl | (simp only [List.length_drop, List.length_take]; rfl)) ?_; (with_reducible refine (inquestlaw15_lives.calls kj29  t190 _ A37.out).mono ?_); rintro e w38 ⟨rfl, hb⟩; refine ⟨_, rfl, ?_⟩; have n0_ := Aside0.mk (Kd.R_below (by (with_reducible repeat (first | apply Kd.R_alloc | apply Kd.R_drewN | apply Kd.R_drew)); exact HO_0.out) hb); have n1_ := Aside0.mk (Kd.R_below (by (with_reducible repeat (first | apply Kd.R_alloc | apply Kd.R_drewN | apply Kd.R_drew)); exact HO_7.out) hb); have n2_ := Aside0.mk (blk_below (g := gb187) (o := .cells #[.int .i64 ((rd_T39 t172 x8_1).f0), .int .i64 ((rd_T39 t172 x8_1).f1)] 39 (0, 0)) (by (with_reducible repeat (first | refine blk_drewN ?_ _ | refine blk_drew ?_ | refine blk_alloc ?_ _)); exact BK187.out) hb); have n3_ := Aside0.mk (below_step (by repeat (first | (with_reducible first | exact HB.out | apply below_alloc | apply pw_below_drewN | apply below_drew1 | refine below_set ?_ GE187.out) | exact HB.out)) hb); clear HO_0; clear HO_7; clear BK187; clear HB; have HO_0 := n0_; have HO_7 := n1_; have BK187 := n2_; have HB := n3_; clear n0_ n1_ n2_ n3_; (try clear hb); (try clear hb2); (try clear hk); (try clear hi)))
                                go_ret
                                exact ⟨by first | rfl | (simp [errW_none, errW_some] <;> rfl) | (simp [*, errW_none, errW_some] <;> rfl), by repeat (first | (with_reducible first | exact HB.out | apply below_alloc | apply pw_below_drewN | apply below_drew1 | refine below_set ?_ GE187.out) | exact HB.out)⟩
                              · replace c36 := Bool.eq_false_iff.mpr c36
                                subst c36
                                have H1 : (if ((rd_T39 t172 x8_1).f0) = 16 then (inquestlaw15_CodeWays.l0 kj29 t172 l1 t181 ((rd_T39 t172 x8_1).f1) (wrap64 ((wrap64 (x9_1 - t188)) + t189)) (wrap64 (x10_1 + 1))) else (if ((rd_T39 t172 x8_1).f0) = 17 then (if (l1.length : Int) > 0 then (if (l1.length : Int) = 0 then (none) else (if 0 ≤ (Int.tmod x10_1 (l1.length : Int)) then (if (Int.tmod x10_1 (l1.length : Int)) < (l1.length : Int) then (if rdOf false l1 (Int.tmod x10_1 (l1.length : Int)) = true then (inquestlaw15_CodeWays.l0 kj29 t172 l1 t181 ((rd_T39 t172 x8_1).f1) (wrap64 ((wrap64 (x9_1 - t188)) + t189)) (wrap64 (x10_1 + 1))) else (inquestlaw15_CodeWays.l0 kj29 t172 l1 t181 (wrap64 (x8_1 + 1)) (wrap64 ((wrap64 (x9_1 - t188)) + t189)) (wrap64 (x10_1 + 1)))) else (none)) else (none))) else (inquestlaw15_CodeWays.l0 kj29 t172 l1 t181 (wrap64 (x8_1 + 1)) (wrap64 ((wrap64 (x9_1 - t188)) + t189)) (wrap64 (x10_1 + 1)))) else (inquestlaw15_CodeWays.l0 kj29 t172 l1 t181 (wrap64 (x8_1 + 1)) (wrap64 ((wrap64 (x9_1 - t188)) + t189)) (wrap64 (x10_1 + 1))))) = some r := by rw [if_neg (show ¬ (false = true) by decide)] at H; exact H
                                clear H
                                have H := H1
                                clear H1
                                by_cases c39 : ((rd_T39 t172 x8_1).f0) = 16
                                · rw [if_pos c39] at H
                                  have c39b0 : (((rd_T39 t172 x8_1).f0) == 16) = true := beq_iff_eq.mpr c39
                                  have c39b1 : (((rd_T39 t172 x8_1).f0) != 16) = false := bne_eq_false_iff_eq.mpr c39
                                  clear c39
                                  have H' := Aside0.mk H
                                  clear H
                                  have hcz40_0 : wc.cell? ⟨gb187, 0, none⟩ = some (.int .i64 ((rd_T39 t172 x8_1).f0)) := (blk_cell BK187.out 0).trans rfl
                                  have hcz40_1 : wc.cell? ⟨gb187, 1, none⟩ = some (.int .i64 ((rd_T39 t172 x8_1).f1)) := (blk_cell BK187.out 1).trans rfl
                                  have hfz40_0 := blk_frozen BK187.out 0
                                  have hfz40_1 := blk_frozen BK187.out 1
                                  go_wp2
                                  go_roundg kj29
                                  case measure => have := HK1.out; have := HJ13.out; have := HJ29.out; omega
                                  case rel => exact ⟨(((rd_T39 t172 x8_1).f1)), ((wrap64 ((wrap64 (x9_1 - t188)) + t189))), (wrap64 (x10_1 + 1)), (by first | rfl | (simp; done) | (simp [*]; done)), (by first | rfl | (simp; done) | (simp [*]; done)), (by first | rfl | (simp; done) | (simp [*]; done)), H', ⟨by have := HK1.out; have := HJ13.out; have := HJ29.out; omega⟩, ⟨by (with_reducible repeat (first | apply Kd.R_alloc | apply Kd.R_drewN | apply Kd.R_drew)); exact Kd.R_mono HO_0.out (fun _ hk => trivial)⟩, ⟨by (with_reducible repeat (first | apply Kd.R_alloc | apply Kd.R_drewN | apply Kd.R_drew)); exact HO_7.out⟩, ⟨by repeat (first | (with_reducible first | exact HB.out | apply below_alloc | apply pw_below_drewN | apply below_drew1 | refine below_set ?_ GE187.out) | exact HB.out)⟩⟩
                                · rw [if_neg c39] at H
                                  have c39b0 : (((rd_T39 t172 x8_1).f0) == 16) = false := beq_eq_false_iff_ne.mpr c39
                                  have c39b1 : (((rd_T39 t172 x8_1).f0) != 16) = true := bne_iff_ne.mpr c39
                                  by_cases c41 : ((rd_T39 t172 x8_1).f0) = 17
                                  · rw [if_pos c41] at H
                                    have c41b0 : (((rd_T39 t172 x8_1).f0) == 17) = true := beq_iff_eq.mpr c41
                                    have c41b1 : (((rd_T39 t172 x8_1).f0) != 17) = false := bne_eq_false_iff_eq.mpr c41
                                    clear c41
                                    by_cases c42 : (l1.length : Int) > 0
                                    · rw [if_pos c42] at H
                                      have c42b0 : decide (0 < (l1.length : Int)) = true := decide_eq_true c42
                                      have c42b1 : decide (0 < l1.length) = true := decide_eq_true (by omega)
                                      clear c42
                                      by_cases c43 : (l1.length : Int) = 0
                                      · rw [if_pos c43] at H
                                        exact absurd H (by simp)
                                      · rw [if_neg c43] at H
                                        have c43b0 : ((l1.length : Int) == 0) = false := beq_eq_false_iff_ne.mpr c43
                                        have c43b1 : ((l1.length : Int) != 0) = true := bne_iff_ne.mpr c43
                                        have c43b2 : ¬ (l1 = []) := fun h_ => c43 (by rw [h_]; rfl)
                                        obtain ⟨ji44, hji44⟩ : ∃ j_ : Int, (Int.tmod x10_1 (l1.length : Int)) = j_ := ⟨_, rfl⟩
                                        replace H : (if 0 ≤ (ji44) then (if (ji44) < (l1.length : Int) then (if rdOf false l1 (ji44) = true then (inquestlaw15_CodeWays.l0 kj29 t172 l1 t181 ((rd_T39 t172 x8_1).f1) (wrap64 ((wrap64 (x9_1 - t188)) + t189)) (wrap64 (x10_1 + 1))) else (inquestlaw15_CodeWays.l0 kj29 t172 l1 t181 (wrap64 (x8_1 + 1)) (wrap64 ((wrap64 (x9_1 - t188)) + t189)) (wrap64 (x10_1 + 1)))) else (none)) else (none)) = some r := by first | (rw [hji44] at H; exact H) | (simp only [hji44] at H ⊢; exact H)
                                        by_cases c45 : 0 ≤ (ji44)
                                        · rw [if_pos c45] at H
                                          have c45b0 : decide (0 ≤ (ji44)) = true := decide_eq_true c45
                                          clear c45
                                          by_cases c46 : (ji44) < (l1.length : Int)
                                          · rw [if_pos c46] at H
                                            have c46b0 : decide ((ji44) < (l1.length : Int)) = true := decide_eq_true c46
                                            clear c46
                                            obtain ⟨bq47, hbq47⟩ : ∃ b_ : Bool, b_ = (rdOf false l1 (ji44)) := ⟨_, rfl⟩
                                            replace H : (if bq47 = true then (inquestlaw15_CodeWays.l0 kj29 t172 l1 t181 ((rd_T39 t172 x8_1).f1) (wrap64 ((wrap64 (x9_1 - t188)) + t189)) (wrap64 (x10_1 + 1))) else (inquestlaw15_CodeWays.l0 kj29 t172 l1 t181 (wrap64 (x8_1 + 1)) (wrap64 ((wrap64 (x9_1 - t188)) + t189)) (wrap64 (x10_1 + 1)))) = some r := by rw [← hbq47] at H; exact H
                                            have Nbq47 := Aside0.mk hbq47
                                            clear hbq47
                                            by_cases c48 : bq47 = true
                                            · subst c48
                                              have H1 : (inquestlaw15_CodeWays.l0 kj29 t172 l1 t181 ((rd_T39 t172 x8_1).f1) (wrap64 ((wrap64 (x9_1 - t188)) + t189)) (wrap64 (x10_1 + 1))) = some r := by rw [if_pos rfl] at H; exact H
                                              clear H
                                              have H := H1
                                              clear H1
                                              have H' := Aside0.mk H
                                              clear H
                                              have hcz49_0 : wc.cell? ⟨gb187, 0, none⟩ = some (.int .i64 ((rd_T39 t172 x8_1).f0)) := (blk_cell BK187.out 0).trans rfl
                                              have hcz49_1 : wc.cell? ⟨gb187, 1, none⟩ = some (.int .i64 ((rd_T39 t172 x8_1).f1)) := (blk_cell BK187.out 1).trans rfl
                                              have hfz49_0 := blk_frozen BK187.out 0
                                              have hfz49_1 := blk_frozen BK187.out 1
                                              have p191 : 0 ≤ ((ji44) : Int) := of_decide_eq_true (by first | (with_reducible assumption) | assumption)
                                              have q191 : (ji44) < (l1.length : Int) := of_decide_eq_true (by first | (with_reducible assumption) | assumption)
                                              obtain ⟨ad191, e191, hx191_0⟩ := Kd.at_bool HR1.out (ji44) p191 q191
                                              (try rw [← Nbq47.out] at hx191_0)
                                              cases e191
                                              replace hx191_0 := (HB.out.cell (World.block_lt_of_cell? w _ hx191_0)).trans hx191_0
                                              replace p191 := eq_true p191
                                              replace q191 := eq_true q191
                                              go_wp2
                                              go_roundg kj29
                                              case measure => have := HK1.out; have := HJ13.out; have := HJ29.out; omega
                                              case rel => exact ⟨(((rd_T39 t172 x8_1).f1)), ((wrap64 ((wrap64 (x9_1 - t188)) + t189))), (wrap64 (x10_1 + 1)), (by first | rfl | (simp; done) | (simp [*]; done)), (by first | rfl | (simp; done) | (simp [*]; done)), (by first | rfl | (simp; done) | (simp [*]; done)), H', ⟨by have := HK1.out; have := HJ13.out; have := HJ29.out; omega⟩, ⟨by (with_reducible repeat (first | apply Kd.R_alloc | apply Kd.R_drewN | apply Kd.R_drew)); exact Kd.R_mono HO_0.out (fun _ hk => trivial)⟩, ⟨by (with_reducible repeat (first | apply Kd.R_alloc | apply Kd.R_drewN | apply Kd.R_drew)); exact HO_7.out⟩, ⟨by repeat (first | (with_reducible first | exact HB.out | apply below_alloc | apply pw_below_drewN | apply below_drew1 | refine below_set ?_ GE187.out) | exact HB.out)⟩⟩
                                            · replace c48 := Bool.eq_false_iff.mpr c48
                                              subst c48
                                              have H1 : (inquestlaw15_CodeWays.l0 kj29 t172 l1 t181 (wrap64 (x8_1 + 1)) (wrap64 ((wrap64 (x9_1 - t188)) + t189)) (wrap64 (x10_1 + 1))) = some r := by rw [if_neg (show ¬ (false = true) by decide)] at H; exact H
                                              clear H
                                              have H := H1
                                              clear H1
                                              have H' := Aside0.mk H
                                              clear H
                                              have hcz50_0 : wc.cell? ⟨gb187, 0, none⟩ = some (.int .i64 ((rd_T39 t172 x8_1).f0)) := (blk_cell BK187.out 0).trans rfl
                                              have hcz50_1 : wc.cell? ⟨gb187, 1, none⟩ = some (.int .i64 ((rd_T39 t172 x8_1).f1)) := (blk_cell BK187.out 1).trans rfl
                                              have hfz50_0 := blk_frozen BK187.out 0
                                              have hfz50_1 := blk_frozen BK187.out 1
                                              have p191 : 0 ≤ ((ji44) : Int) := of_decide_eq_true (by first | (with_reducible assumption) | assumption)
                                              have q191 : (ji44) < (l1.length : Int) := of_decide_eq_true (by first | (with_reducible assumption) | assumption)
                                              obtain ⟨ad191, e191, hx191_0⟩ := Kd.at_bool HR1.out (ji44) p191 q191
                                              (try rw [← Nbq47.out] at hx191_0)
                                              cases e191
                                              replace hx191_0 := (HB.out.cell (World.block_lt_of_cell? w _ hx191_0)).trans hx191_0
                                              replace p191 := eq_true p191
                                              replace q191 := eq_true q191
                                              go_wp2
                                              go_roundg kj29
                                              case measure => have := HK1.out; have := HJ13.out; have := HJ29.out; omega
                                              case rel => exact ⟨(wrap64 (x8_1 + 1)), ((wrap64 ((wrap64 (x9_1 - t188)) + t189))), (wrap64 (x10_1 + 1)), (by first | rfl | (simp; done) | (simp [*]; done)), (by first | rfl | (simp; done) | (simp [*]; done)), (by first | rfl | (simp; done) | (simp [*]; done)), H', ⟨by have := HK1.out; have := HJ13.out; have := HJ29.out; omega⟩, ⟨by (with_reducible repeat (first | apply Kd.R_alloc | apply Kd.R_drewN | apply Kd.R_drew)); exact Kd.R_mono HO_0.out (fun _ hk => trivial)⟩, ⟨by (with_reducible repeat (first | apply Kd.R_alloc | apply Kd.R_drewN | apply Kd.R_drew)); exact HO_7.out⟩, ⟨by repeat (first | (with_reducible first | exact HB.out | apply below_alloc | apply pw_below_drewN | apply below_drew1 | refine below_set ?_ GE187.out) | exact HB.out)⟩⟩
                                          · rw [if_neg c46] at H
                                            exact absurd H (by simp)
                                        · rw [if_neg c45] at H
                                          exact absurd H (by simp)
                                    · rw [if_neg c42] at H
                                      have c42b0 : decide (0 < (l1.length : Int)) = false := decide_eq_false c42
                                      have c42b1 : decide (0 < l1.length) = false := decide_eq_false (by omega)
                                      clear c42
                                      have H' := Aside0.mk H
                                      clear H
                                      have hcz51_0 : wc.cell? ⟨gb187, 0, none⟩ = some (.int .i64 ((rd_T39 t172 x8_1).f0)) := (blk_cell BK187.out 0).trans rfl
                                      have hcz51_1 : wc.cell? ⟨gb187, 1, none⟩ = some (.int .i64 ((rd_T39 t172 x8_1).f1)) := (blk_cell BK187.out 1).trans rfl
                                      have hfz51_0 := blk_frozen BK187.out 0
                                      have hfz51_1 := blk_frozen BK187.out 1
                                      go_wp2
                                      go_roundg kj29
                                      case measure => have := HK1.out; have := HJ13.out; have := HJ29.out; omega
                                      case rel => exact ⟨(wrap64 (x8_1 + 1)), ((wrap64 ((wrap64 (x9_1 - t188)) + t189))), (wrap64 (x10_1 + 1)), (by first | rfl | (simp; done) | (simp [*]; done)), (by first | rfl | (simp; done) | (simp [*]; done)), (by first | rfl | (simp; done) | (simp [*]; done)), H', ⟨by have := HK1.out; have := HJ13.out; have := HJ29.out; omega⟩, ⟨by (with_reducible repeat (first | apply Kd.R_alloc | apply Kd.R_drewN | apply Kd.R_drew)); exact Kd.R_mono HO_0.out (fun _ hk => trivial)⟩, ⟨by (with_reducible repeat (first | apply Kd.R_alloc | apply Kd.R_drewN | apply Kd.R_drew)); exact HO_7.out⟩, ⟨by repeat (first | (with_reducible first | exact HB.out | apply below_alloc | apply pw_below_drewN | apply below_drew1 | refine below_set ?_ GE187.out) | exact HB.out)⟩⟩
                                  · rw [if_neg c41] at H
                                    have c41b0 : (((rd_T39 t172 x8_1).f0) == 17) = false := beq_eq_false_iff_ne.mpr c41
                                    have c41b1 : (((rd_T39 t172 x8_1).f0) != 17) = true := bne_iff_ne.mpr c41
                                    have H' := Aside0.mk H
                                    clear H
                                    have hcz52_0 : wc.cell? ⟨gb187, 0, none⟩ = some (.int .i64 ((rd_T39 t172 x8_1).f0)) := (blk_cell BK187.out 0).trans rfl
                                    have hcz52_1 : wc.cell? ⟨gb187, 1, none⟩ = some (.int .i64 ((rd_T39 t172 x8_1).f1)) := (blk_cell BK187.out 1).trans rfl
                                    have hfz52_0 := blk_frozen BK187.out 0
                                    have hfz52_1 := blk_frozen BK187.out 1
                                    go_wp2
                                    go_roundg kj29
                                    case measure => have := HK1.out; have := HJ13.out; have := HJ29.out; omega
                                    case rel => exact ⟨(wrap64 (x8_1 + 1)), ((wrap64 ((wrap64 (x9_1 - t188)) + t189))), (wrap64 (x10_1 + 1)), (by first | rfl | (simp; done) | (simp [*]; done)), (by first | rfl | (simp; done) | (simp [*]; done)), (by first | rfl | (simp; done) | (simp [*]; done)), H', ⟨by have := HK1.out; have := HJ13.out; have := HJ29.out; omega⟩, ⟨by (with_reducible repeat (first | apply Kd.R_alloc | apply Kd.R_drewN | apply Kd.R_drew)); exact Kd.R_mono HO_0.out (fun _ hk => trivial)⟩, ⟨by (with_reducible repeat (first | apply Kd.R_alloc | apply Kd.R_drewN | apply Kd.R_drew)); exact HO_7.out⟩, ⟨by repeat (first | (with_reducible first | exact HB.out | apply below_alloc | apply pw_below_drewN | apply below_drew1 | refine below_set ?_ GE187.out) | exact HB.out)⟩⟩
                    · rw [if_neg c21] at H
                      exact absurd H (by simp)
                  · rw [if_neg c20] at H
                    exact absurd H (by simp)
          · rw [if_neg c13] at H
            have c13b0 : decide (x10_1 < 500) = false := decide_eq_false c13
            clear c13
            replace H := Option.bind_eq_some_iff.mp H
            obtain ⟨t184, A530, H⟩ := H
            replace H : (some t184) = some r := H
            have A53 := Aside0.mk A530
            clear A530
            obtain rfl := Option.some.inj H
            go_wp2_with (first | ((with_reducible refine gate_callee (f := 13) rfl ?_); refine goesL_ (some 108) rfl rfl Try.func13 (by kernel_rfl) rfl #[] rfl (by (try simp only [List.map_toArray, List.map_cons, List.map_nil]); first | done | rfl | (simp only [List.length_drop, List.length_take]; rfl)) ?_; (with_reducible refine (inquestlaw15_lives.calls k1  t184 _ A53.out).mono ?_); rintro e w54 ⟨rfl, hb⟩; refine ⟨_, rfl, ?_⟩; have n0_ := Aside0.mk (Kd.R_below (by (with_reducible repeat (first | apply Kd.R_alloc | apply Kd.R_drewN | apply Kd.R_drew)); exact HO_0.out) hb); have n1_ := Aside0.mk (Kd.R_below (by (with_reducible repeat (first | apply Kd.R_alloc | apply Kd.R_drewN | apply Kd.R_drew)); exact HO_7.out) hb); have n2_ := Aside0.mk (below_step (by repeat (first | (with_reducible first | exact HB.out | apply below_alloc | apply pw_below_drewN | apply below_drew1) | exact HB.out)) hb); clear HO_0; clear HO_7; clear HB; have HO_0 := n0_; have HO_7 := n1_; have HB := n2_; clear n0_ n1_ n2_; (try clear hb); (try clear hb2); (try clear hk); (try clear hi)))
            go_ret
            exact ⟨by first | rfl | (simp [errW_none, errW_some] <;> rfl) | (simp [*, errW_none, errW_some] <;> rfl), by repeat (first | (with_reducible first | exact HB.out | apply below_alloc | apply pw_below_drewN | apply below_drew1) | exact HB.out)⟩
    · rw [if_neg c7] at H
      have c7b0 : ((t181.length : Int) == (t172.length : Int)) = false := beq_eq_false_iff_ne.mpr c7
      have c7b1 : ((t181.length : Int) != (t172.length : Int)) = true := bne_iff_ne.mpr c7
      have c7b2 : (t181.length == t172.length) = false := by first | simpa using c7 | (simp at c7 ⊢; omega)
      obtain rfl := Option.some.inj H
      go_enter Try.func5, Try.ntmps5
      go_wp2_with (first | ((with_reducible refine gate_callee (f := 14) rfl ?_); refine goesL_ (some 13) rfl rfl Try.func14 (by kernel_rfl) rfl #[.slice A0 l0.length c0] rfl (by (try simp only [List.map_toArray, List.map_cons, List.map_nil]); first | done | rfl | (simp only [List.length_drop, List.length_take]; rfl)) ?_; (with_reducible refine (inquestref15_Few.calls _ _ l0 t172 _ ?side1 ?side2 A3.out).mono ?_); (case side1 => repeat (first | exact HR0.out | (with_reducible refine Kd.C_alloc ?_ _) | (with_reducible refine Kd.C_drewN ?_ _) | (with_reducible refine Kd.C_drew ?_))); (case side2 => exact HC0.out); rintro e w55 ⟨v173, rfl, ho0, hb⟩; refine ⟨_, rfl, ?_⟩; have n0_ := Aside0.mk (Kd.R_lower ho0 (below_size (by repeat (first | (with_reducible first | exact HB.out | apply below_alloc | apply pw_below_drewN | apply below_drew1) | exact HB.out)))); have n1_ := Aside0.mk (below_step (by repeat (first | (with_reducible first | exact HB.out | apply below_alloc | apply pw_below_drewN | apply below_drew1) | exact HB.out)) hb); clear HB; have HO174 := n0_; have HB := n1_; clear n0_ n1_; (try clear hb); (try clear hb2); (try clear hk); (try clear hi); (try clear ho0); obtain ⟨Ao56, co56, eo56⟩ := Kd.R_slice HO174.out; subst eo56) | ((with_reducible refine gate_callee (f := 15) rfl ?_); refine goesL_ (some 16) rfl rfl Try.func15 (by kernel_rfl) rfl #[.slice Ao56 t172.length co56] rfl (by (try simp only [List.map_toArray, List.map_cons, List.map_nil]); first | done | rfl | (simp only [List.length_drop, List.length_take]; rfl)) ?_; (with_reducible refine (code_Check.calls k _ _ t172 t175 t176 _ ?side1 ?side2 A4.out).mono ?_); (case side1 => repeat (first | exact (Kd.R_reads' HO174.out).2.2 | (with_reducible refine Kd.C_alloc ?_ _) | (with_reducible refine Kd.C_drewN ?_ _) | (with_reducible refine Kd.C_drew ?_))); (case side2 => exact (Kd.R_reads' HO174.out).2.1); rintro e w57 ⟨rfl, hb⟩; refine ⟨_, rfl, ?_⟩; have n0_ := Aside0.mk (Kd.R_below (by (with_reducible repeat (first | apply Kd.R_alloc | apply Kd.R_drewN | apply Kd.R_drew)); exact HO174.out) hb); have n1_ := Aside0.mk (below_step (by repeat (first | (with_reducible first | exact HB.out | apply below_alloc | apply pw_below_drewN | apply below_drew1) | exact HB.out)) hb); clear HO174; clear HB; have HO174 := n0_; have HB := n1_; clear n0_ n1_; (try clear hb); (try clear hb2); (try clear hk); (try clear hi)) | ((with_reducible refine gate_callee (f := 18) rfl ?_); refine goesL_ (some 29) rfl rfl Try.func18 (by kernel_rfl) rfl #[.slice Ao56 t172.length co56] rfl (by (try simp only [List.map_toArray, List.map_cons, List.map_nil]); first | done | rfl | (simp only [List.length_drop, List.length_take]; rfl)) ?_; (with_reducible refine (code_Depths.calls k _ _ t172 t181 _ ?side1 ?side2 A6.out).mono ?_); (case side1 => repeat (first | exact (Kd.R_reads' HO174.out).2.2 | (with_reducible refine Kd.C_alloc ?_ _) | (with_reducible refine Kd.C_drewN ?_ _) | (with_reducible refine Kd.C_drew ?_))); (case side2 => exact (Kd.R_reads' HO174.out).2.1); rintro e w58 ⟨v182, rfl, ho0, hb⟩; refine ⟨_, rfl, ?_⟩; have n0_ := Aside0.mk (Kd.R_below (by (with_reducible repeat (first | apply Kd.R_alloc | apply Kd.R_drewN | apply Kd.R_drew)); exact HO174.out) hb); have n1_ := Aside0.mk (Kd.R_lower ho0 (below_size (by repeat (first | (with_reducible first | exact HB.out | apply below_alloc | apply pw_below_drewN | apply below_drew1) | exact HB.out)))); have n2_ := Aside0.mk (below_step (by repeat (first | (with_reducible first | exact HB.out | apply below_alloc | apply pw_below_drewN | apply below_drew1) | exact HB.out)) hb); clear HO174; clear HB; have HO174 := n0_; have HO183 := n1_; have HB := n2_; clear n0_ n1_ n2_; (try clear hb); (try clear hb2); (try clear hk); (try clear hi); (try clear ho0); obtain ⟨Ao59, co59, eo59⟩ := Kd.R_slice HO183.out; subst eo59))
      go_ret
      exact ⟨by first | rfl | (simp [errW_none, errW_some] <;> rfl) | (simp [*, errW_none, errW_some] <;> rfl), by repeat (first | (with_reducible first | exact HB.out | apply below_alloc | apply pw_below_drewN | apply below_drew1) | exact HB.out)⟩
  · rw [if_neg c5] at H
    have c5b0 : (t176 == 0) = false := beq_eq_false_iff_ne.mpr c5
    have c5b1 : (t176 != 0) = true := bne_iff_ne.mpr c5
    replace H := Option.bind_eq_some_iff.mp H
    obtain ⟨t177, A600, H⟩ := H
    replace H : (if (t177.length : Int) = 0 then ((inquestlaw15_lives.f k).bind fun t180 => (some t180)) else (some false)) = some r := H
    have A60 := Aside0.mk A600
    clear A600
    by_cases c61 : (t177.length : Int) = 0
    · rw [if_pos c61] at H
      have c61b0 : ((t177.length : Int) == 0) = true := beq_iff_eq.mpr c61
      have c61b1 : ((t177.length : Int) != 0) = false := bne_eq_false_iff_eq.mpr c61
      clear c61
      replace H := Option.bind_eq_some_iff.mp H
      obtain ⟨t180, A620, H⟩ := H
      replace H : (some t180) = some r := H
      have A62 := Aside0.mk A620
      clear A620
      obtain rfl := Option.some.inj H
      go_enter Try.func5, Try.ntmps5
      go_wp2_with (first | ((with_reducible refine gate_callee (f := 14) rfl ?_); refine goesL_ (some 13) rfl rfl Try.func14 (by kernel_rfl) rfl #[.slice A0 l0.length c0] rfl (by (try simp only [List.map_toArray, List.map_cons, List.map_nil]); first | done | rfl | (simp only [List.length_drop, List.length_take]; rfl)) ?_; (with_reducible refine (inquestref15_Few.calls _ _ l0 t172 _ ?side1 ?side2 A3.out).mono ?_); (case side1 => repeat (first | exact HR0.out | (with_reducible refine Kd.C_alloc ?_ _) | (with_reducible refine Kd.C_drewN ?_ _) | (with_reducible refine Kd.C_drew ?_))); (case side2 => exact HC0.out); rintro e w63 ⟨v173, rfl, ho0, hb⟩; refine ⟨_, rfl, ?_⟩; have n0_ := Aside0.mk (Kd.R_lower ho0 (below_size (by repeat (first | (with_reducible first | exact HB.out | apply below_alloc | apply pw_below_drewN | apply below_drew1) | exact HB.out)))); have n1_ := Aside0.mk (below_step (by repeat (first | (with_reducible first | exact HB.out | apply below_alloc | apply pw_below_drewN | apply below_drew1) | exact HB.out)) hb); clear HB; have HO174 := n0_; have HB := n1_; clear n0_ n1_; (try clear hb); (try clear hb2); (try clear hk); (try clear hi); (try clear ho0); obtain ⟨Ao64, co64, eo64⟩ := Kd.R_slice HO174.out; subst eo64) | ((with_reducible refine gate_callee (f := 15) rfl ?_); refine goesL_ (some 16) rfl rfl Try.func15 (by kernel_rfl) rfl #[.slice Ao64 t172.length co64] rfl (by (try simp only [List.map_toArray, List.map_cons, List.map_nil]); first | done | rfl | (simp only [List.length_drop, List.length_take]; rfl)) ?_; (with_reducible refine (code_Check.calls k _ _ t172 t175 t176 _ ?side1 ?side2 A4.out).mono ?_); (case side1 => repeat (first | exact (Kd.R_reads' HO174.out).2.2 | (with_reducible refine Kd.C_alloc ?_ _) | (with_reducible refine Kd.C_drewN ?_ _) | (with_reducible refine Kd.C_drew ?_))); (case side2 => exact (Kd.R_reads' HO174.out).2.1); rintro e w65 ⟨rfl, hb⟩; refine ⟨_, rfl, ?_⟩; have n0_ := Aside0.mk (Kd.R_below (by (with_reducible repeat (first | apply Kd.R_alloc | apply Kd.R_drewN | apply Kd.R_drew)); exact HO174.out) hb); have n1_ := Aside0.mk (below_step (by repeat (first | (with_reducible first | exact HB.out | apply below_alloc | apply pw_below_drewN | apply below_drew1) | exact HB.out)) hb); clear HO174; clear HB; have HO174 := n0_; have HB := n1_; clear n0_ n1_; (try clear hb); (try clear hb2); (try clear hk); (try clear hi)) | ((with_reducible refine gate_callee (f := 18) rfl ?_); refine goesL_ (some 22) rfl rfl Try.func18 (by kernel_rfl) rfl #[.slice Ao64 t172.length co64] rfl (by (try simp only [List.map_toArray, List.map_cons, List.map_nil]); first | done | rfl | (simp only [List.length_drop, List.length_take]; rfl)) ?_; (with_reducible refine (code_Depths.calls k _ _ t172 t177 _ ?side1 ?side2 A60.out).mono ?_); (case side1 => repeat (first | exact (Kd.R_reads' HO174.out).2.2 | (with_reducible refine Kd.C_alloc ?_ _) | (with_reducible refine Kd.C_drewN ?_ _) | (with_reducible refine Kd.C_drew ?_))); (case side2 => exact (Kd.R_reads' HO174.out).2.1); rintro e w66 ⟨v178, rfl, ho0, hb⟩; refine ⟨_, rfl, ?_⟩; have n0_ := Aside0.mk (Kd.R_below (by (with_reducible repeat (first | apply Kd.R_alloc | apply Kd.R_drewN | apply Kd.R_drew)); exact HO174.out) hb); have n1_ := Aside0.mk (Kd.R_lower ho0 (below_size (by repeat (first | (with_reducible first | exact HB.out | apply below_alloc | apply pw_below_drewN | apply below_drew1) | exact HB.out)))); have n2_ := Aside0.mk (below_step (by repeat (first | (with_reducible first | exact HB.out | apply below_alloc | apply pw_below_drewN | apply below_drew1) | exact HB.out)) hb); clear HO174; clear HB; have HO174 := n0_; have HO179 := n1_; have HB := n2_; clear n0_ n1_ n2_; (try clear hb); (try clear hb2); (try clear hk); (try clear hi); (try clear ho0); obtain ⟨Ao67, co67, eo67⟩ := Kd.R_slice HO179.out; subst eo67) | (go_at_call 13; (with_reducible refine (inquestlaw15_lives.calls k  t180 _ A62.out).mono ?_); rintro e w68 ⟨rfl, hb⟩; have n0_ := Aside0.mk (Kd.R_below (by (with_reducible repeat (first | apply Kd.R_alloc | apply Kd.R_drewN | apply Kd.R_drew)); exact HO174.out) hb); have n1_ := Aside0.mk (Kd.R_below (by (with_reducible repeat (first | apply Kd.R_alloc | apply Kd.R_drewN | apply Kd.R_drew)); exact HO179.out) hb); have n2_ := Aside0.mk (below_step (by repeat (first | (with_reducible first | exact HB.out | apply below_alloc | apply pw_below_drewN | apply below_drew1) | exact HB.out)) hb); clear HO174; clear HO179; clear HB; have HO174 := n0_; have HO179 := n1_; have HB := n2_; clear n0_ n1_ n2_; (try clear hb); (try clear hb2); (try clear hk); (try clear hi)))
      go_ret
      exact ⟨by first | rfl | (simp [errW_none, errW_some] <;> rfl) | (simp [*, errW_none, errW_some] <;> rfl), by repeat (first | (with_reducible first | exact HB.out | apply below_alloc | apply pw_below_drewN | apply below_drew1) | exact HB.out)⟩
    · rw [if_neg c61] at H
      have c61b0 : ((t177.length : Int) == 0) = false := beq_eq_false_iff_ne.mpr c61
      have c61b1 : ((t177.length : Int) != 0) = true := bne_iff_ne.mpr c61
      have c61b2 : ¬ (t177 = []) := fun h_ => c61 (by rw [h_]; rfl)
      obtain rfl := Option.some.inj H
      go_enter Try.func5, Try.ntmps5
      go_wp2_with (first | ((with_reducible refine gate_callee (f := 14) rfl ?_); refine goesL_ (some 13) rfl rfl Try.func14 (by kernel_rfl) rfl #[.slice A0 l0.length c0] rfl (by (try simp only [List.map_toArray, List.map_cons, List.map_nil]); first | done | rfl | (simp only [List.length_drop, List.length_take]; rfl)) ?_; (with_reducible refine (inquestref15_Few.calls _ _ l0 t172 _ ?side1 ?side2 A3.out).mono ?_); (case side1 => repeat (first | exact HR0.out | (with_reducible refine Kd.C_alloc ?_ _) | (with_reducible refine Kd.C_drewN ?_ _) | (with_reducible refine Kd.C_drew ?_))); (case side2 => exact HC0.out); rintro e w69 ⟨v173, rfl, ho0, hb⟩; refine ⟨_, rfl, ?_⟩; have n0_ := Aside0.mk (Kd.R_lower ho0 (below_size (by repeat (first | (with_reducible first | exact HB.out | apply below_alloc | apply pw_below_drewN | apply below_drew1) | exact HB.out)))); have n1_ := Aside0.mk (below_step (by repeat (first | (with_reducible first | exact HB.out | apply below_alloc | apply pw_below_drewN | apply below_drew1) | exact HB.out)) hb); clear HB; have HO174 := n0_; have HB := n1_; clear n0_ n1_; (try clear hb); (try clear hb2); (try clear hk); (try clear hi); (try clear ho0); obtain ⟨Ao70, co70, eo70⟩ := Kd.R_slice HO174.out; subst eo70) | ((with_reducible refine gate_callee (f := 15) rfl ?_); refine goesL_ (some 16) rfl rfl Try.func15 (by kernel_rfl) rfl #[.slice Ao70 t172.length co70] rfl (by (try simp only [List.map_toArray, List.map_cons, List.map_nil]); first | done | rfl | (simp only [List.length_drop, List.length_take]; rfl)) ?_; (with_reducible refine (code_Check.calls k _ _ t172 t175 t176 _ ?side1 ?side2 A4.out).mono ?_); (case side1 => repeat (first | exact (Kd.R_reads' HO174.out).2.2 | (with_reducible refine Kd.C_alloc ?_ _) | (with_reducible refine Kd.C_drewN ?_ _) | (with_reducible refine Kd.C_drew ?_))); (case side2 => exact (Kd.R_reads' HO174.out).2.1); rintro e w71 ⟨rfl, hb⟩; refine ⟨_, rfl, ?_⟩; have n0_ := Aside0.mk (Kd.R_below (by (with_reducible repeat (first | apply Kd.R_alloc | apply Kd.R_drewN | apply Kd.R_drew)); exact HO174.out) hb); have n1_ := Aside0.mk (below_step (by repeat (first | (with_reducible first | exact HB.out | apply below_alloc | apply pw_below_drewN | apply below_drew1) | exact HB.out)) hb); clear HO174; clear HB; have HO174 := n0_; have HB := n1_; clear n0_ n1_; (try clear hb); (try clear hb2); (try clear hk); (try clear hi)) | ((with_reducible refine gate_callee (f := 18) rfl ?_); refine goesL_ (some 22) rfl rfl Try.func18 (by kernel_rfl) rfl #[.slice Ao70 t172.length co70] rfl (by (try simp only [List.map_toArray, List.map_cons, List.map_nil]); first | done | rfl | (simp only [List.length_drop, List.length_take]; rfl)) ?_; (with_reducible refine (code_Depths.calls k _ _ t172 t177 _ ?side1 ?side2 A60.out).mono ?_); (case side1 => repeat (first | exact (Kd.R_reads' HO174.out).2.2 | (with_reducible refine Kd.C_alloc ?_ _) | (with_reducible refine Kd.C_drewN ?_ _) | (with_reducible refine Kd.C_drew ?_))); (case side2 => exact (Kd.R_reads' HO174.out).2.1); rintro e w72 ⟨v178, rfl, ho0, hb⟩; refine ⟨_, rfl, ?_⟩; have n0_ := Aside0.mk (Kd.R_below (by (with_reducible repeat (first | apply Kd.R_alloc | apply Kd.R_drewN | apply Kd.R_drew)); exact HO174.out) hb); have n1_ := Aside0.mk (Kd.R_lower ho0 (below_size (by repeat (first | (with_reducible first | exact HB.out | apply below_alloc | apply pw_below_drewN | apply below_drew1) | exact HB.out)))); have n2_ := Aside0.mk (below_step (by repeat (first | (with_reducible first | exact HB.out | apply below_alloc | apply pw_below_drewN | apply below_drew1) | exact HB.out)) hb); clear HO174; clear HB; have HO174 := n0_; have HO179 := n1_; have HB := n2_; clear n0_ n1_ n2_; (try clear hb); (try clear hb2); (try clear hk); (try clear hi); (try clear ho0); obtain ⟨Ao73, co73, eo73⟩ := Kd.R_slice HO179.out; subst eo73))
      go_ret
      exact ⟨by first | rfl | (simp [errW_none, errW_some] <;> rfl) | (simp [*, errW_none, errW_some] <;> rfl), by repeat (first | (with_reducible first | exact HB.out | apply below_alloc | apply pw_below_drewN | apply below_drew1) | exact HB.out)⟩

/-- THE ONE PURE STATEMENT of inquestlaw15_CodeWays: yours. -/
def inquestlaw15_CodeWays.Pure : Prop := ∀ (l0 : List (S39)) (l1 : List Bool), l0.length ≤ maxLen → (∀ x ∈ l0, (Lit.int .i64 x.f0).wf = true ∧ (Lit.int .i64 x.f1).wf = true) → l1.length ≤ maxLen → ∃ k, inquestlaw15_CodeWays.f k l0 l1 = some true
theorem inquestlaw15_CodeWays.walk (P : inquestlaw15_CodeWays.Pure) (a0 : Option Addr) (cap0 : Nat) (l0 : List (S39)) (a1 : Option Addr) (cap1 : Nat) (l1 : List Bool) (w : World) (hr0 : Kd.C k39 w a0 l0.length l0) (hc0 : l0.length ≤ cap0) (hm0 : l0.length ≤ maxLen) (hw0 : (∀ x ∈ l0, (Lit.int .i64 x.f0).wf = true ∧ (Lit.int .i64 x.f1).wf = true)) (hr1 : Kd.C Kd.bool w a1 l1.length l1) (hc1 : l1.length ≤ cap1) (hm1 : l1.length ≤ maxLen) :
    Calls Try.prog 5 #[.slice a0 l0.length cap0, .slice a1 l1.length cap1] w fun e w' => e = .returned (.bool true) ∧ Below w.heap.size w w' := by
  obtain ⟨k, h⟩ := P l0 l1 hm0 hw0 hm1
  refine (inquestlaw15_CodeWays.calls k _ _ l0 _ _ l1 true w hr0 hc0 hr1 hc1 h).mono ?_
  rintro e w' ⟨rfl, hd⟩
  exact ⟨rfl, hd⟩

end Go.Proofs.Ytifmajpcjgolgaa.PCodeWays
