/- A part of what the law LinTells stands on, only as far as it is needed (the words and walks were printed or written in this seat; this text was cut by a program of this session, wip/bin/trim.py). No condition beyond what each theorem says. -/
import Derived.Test.YtddkoimaghcbeaaZLTPVmStepsx0
import Derived.Test.YtddkoimaghcbeaaZLTPVmStepsx4
namespace Go.Proofs.Ytddkoimaghcbeaa.PVmSteps
open Go.RowKit Go.Proofs.YtddkoimaghcbeaaW.PrintWords Go.Proofs.YtddkoimaghcbeaaW.PrintLast Go.Proofs.YtddkoimaghcbeaaW.PrintMore
attribute [local go_sem] max2_int min2_int max_two min_two max_three min_three max_four min_four
set_option linter.unusedVariables false
set_option linter.unusedSimpArgs false
attribute [local go_sem high] eqA36
def code_Check.f (k : Nat) (l0 : List (S36)) : Option (Int × Int) := (code_through.f k l0).bind fun bt151 => (some (bt151.2.1, bt151.2.2))
set_option maxHeartbeats 8000000 in
set_option maxRecDepth 100000 in
theorem code_Check.calls (k : Nat) (A0 : Option Addr) (c0 : Nat) (l0 : List (S36)) (r1 : Int) (r2 : Int) (w : World) (hr0 : Kd.C k36 w A0 l0.length l0) (hc0 : l0.length ≤ c0) (h : code_Check.f k l0 = some (r1, r2)) :
    Calls Try.prog 54 #[.slice A0 l0.length c0] w fun e w' => e = .returned (.tuple #[.int .i64 r1, .int .i64 r2]) ∧ Below w.heap.size w w' := by
  have HR0 := Aside0.mk hr0
  have HC0 := Aside0.mk hc0
  clear hr0 hc0
  have HB := Aside0.mk (Below.refl w.heap.size w)
  have H : ((code_through.f k l0).bind fun bt151 => (some (bt151.2.1, bt151.2.2))) = some (r1, r2) := h
  clear h
  replace H := Option.bind_eq_some_iff.mp H
  obtain ⟨⟨t151, t152, t153⟩, A20, H⟩ := H
  replace H : (some (t152, t153)) = some (r1, r2) := H
  have A2 := Aside0.mk A20
  clear A20
  simp only [Option.some.injEq, Prod.mk.injEq] at H
  obtain ⟨rfl, rfl⟩ := H
  go_enter Try.func54, Try.ntmps54
  go_wp2_with (first | ((with_reducible refine gate_callee (f := 74) rfl ?_); refine goesL_ (some 9) rfl rfl Try.func74 (by kernel_rfl) rfl #[.slice A0 l0.length c0] rfl (by (try simp only [List.map_toArray, List.map_cons, List.map_nil]); first | done | rfl | (simp only [List.length_drop, List.length_take]; rfl)) ?_; (with_reducible refine (code_through.calls k _ _ l0 t151 t152 t153 _ ?side1 ?side2 A2.out).mono ?_); (case side1 => repeat (first | exact HR0.out | (with_reducible refine Kd.C_alloc ?_ _) | (with_reducible refine Kd.C_drewN ?_ _) | (with_reducible refine Kd.C_drew ?_))); (case side2 => exact HC0.out); rintro e w3 ⟨v154, rfl, ho0, hb⟩; refine ⟨_, rfl, ?_⟩; have n0_ := Aside0.mk (Kd.R_lower ho0 (below_size (by repeat (first | (with_reducible first | exact HB.out | apply below_alloc | apply pw_below_drewN | apply below_drew1) | exact HB.out)))); have n1_ := Aside0.mk (below_step (by repeat (first | (with_reducible first | exact HB.out | apply below_alloc | apply pw_below_drewN | apply below_drew1) | exact HB.out)) hb); clear HB; have HO155 := n0_; have HB := n1_; clear n0_ n1_; (try clear hb); (try clear hb2); (try clear hk); (try clear hi); (try clear ho0)))
  go_ret2
  exact ⟨by first | rfl | (simp [errW_none, errW_some] <;> rfl) | (simp [*, errW_none, errW_some] <;> rfl), by repeat (first | (with_reducible first | exact HB.out | apply below_alloc | apply pw_below_drewN | apply below_drew1) | exact HB.out)⟩
def inquestref15_Is.f (a0 : Int) : Option (Bool) := if a0 ≥ 0 then (some (decide (a0 ≤ 19))) else (some false)
set_option maxHeartbeats 8000000 in
set_option maxRecDepth 100000 in
theorem inquestref15_Is.calls (a0 : Int) (r : Bool) (w : World) (h : inquestref15_Is.f a0 = some r) :
    Calls Try.prog 75 #[.int .i64 a0] w fun e w' => e = .returned (.bool r) ∧ Drawn0 w w' := by
  have H : (if a0 ≥ 0 then (some (decide (a0 ≤ 19))) else (some false)) = some r := h
  clear h
  by_cases c2 : a0 ≥ 0
  · rw [if_pos c2] at H
    have c2b0 : decide (0 ≤ a0) = true := decide_eq_true c2
    clear c2
    obtain rfl := Option.some.inj H
    go_enter Try.func75, Try.ntmps75
    go_wp2
    go_ret
    exact ⟨by first | rfl | (simp; done) | (simp [*]; done), by repeat (first | exact Drawn0.refl _ | apply Drawn0.step)⟩
  · rw [if_neg c2] at H
    have c2b0 : decide (0 ≤ a0) = false := decide_eq_false c2
    clear c2
    obtain rfl := Option.some.inj H
    go_enter Try.func75, Try.ntmps75
    go_wp2
    go_ret
    exact ⟨by first | rfl | (simp; done) | (simp [*]; done), by repeat (first | exact Drawn0.refl _ | apply Drawn0.step)⟩
def inquestref15_table.f (a0 : Int) : Option (Int × Int × Int × Int) := (some (([(⟨1, 0, 1, 0⟩ : S153), (⟨0, 1, 0, 0⟩ : S153), (⟨0, 1, 2, 0⟩ : S153), (⟨0, 2, 2, 0⟩ : S153), (⟨2, 0, 1, 0⟩ : S153), (⟨2, 1, 0, 0⟩ : S153), (⟨0, 0, 1, 0⟩ : S153), (⟨0, 0, 1, 0⟩ : S153), (⟨0, 2, 1, 0⟩ : S153), (⟨0, 2, 1, 0⟩ : S153), (⟨0, 2, 1, 0⟩ : S153), (⟨0, 2, 1, 0⟩ : S153), (⟨0, 2, 1, 0⟩ : S153), (⟨0, 2, 1, 0⟩ : S153), (⟨0, 2, 1, 0⟩ : S153), (⟨0, 1, 1, 0⟩ : S153), (⟨3, 0, 0, 1⟩ : S153), (⟨3, 1, 0, 2⟩ : S153), (⟨0, 1, 0, 3⟩ : S153), (⟨0, 0, 0, 3⟩ : S153)] : List (S153)) : List (S153))).bind fun y157 => (if 0 ≤ a0 then (if a0 < (y157.length : Int) then (some ((rd_T153 y157 a0).f0, (rd_T153 y157 a0).f1, (rd_T153 y157 a0).f2, (rd_T153 y157 a0).f3)) else (none)) else (none))
set_option maxHeartbeats 8000000 in
set_option maxRecDepth 100000 in
theorem inquestref15_table.calls (a0 : Int) (r1 : Int) (r2 : Int) (r3 : Int) (r4 : Int) (w : World) (h : inquestref15_table.f a0 = some (r1, r2, r3, r4)) :
    Calls Try.prog 88 #[.int .i64 a0] w fun e w' => e = .returned (.agg #[.int .i64 r1, .int .i64 r2, .int .i64 r3, .int .i64 r4]) ∧ Below w.heap.size w w' := by
  have hu153 := Try.underlying153
  have HB := Aside0.mk (Below.refl w.heap.size w)
  have H : ((some (([(⟨1, 0, 1, 0⟩ : S153), (⟨0, 1, 0, 0⟩ : S153), (⟨0, 1, 2, 0⟩ : S153), (⟨0, 2, 2, 0⟩ : S153), (⟨2, 0, 1, 0⟩ : S153), (⟨2, 1, 0, 0⟩ : S153), (⟨0, 0, 1, 0⟩ : S153), (⟨0, 0, 1, 0⟩ : S153), (⟨0, 2, 1, 0⟩ : S153), (⟨0, 2, 1, 0⟩ : S153), (⟨0, 2, 1, 0⟩ : S153), (⟨0, 2, 1, 0⟩ : S153), (⟨0, 2, 1, 0⟩ : S153), (⟨0, 2, 1, 0⟩ : S153), (⟨0, 2, 1, 0⟩ : S153), (⟨0, 1, 1, 0⟩ : S153), (⟨3, 0, 0, 1⟩ : S153), (⟨3, 1, 0, 2⟩ : S153), (⟨0, 1, 0, 3⟩ : S153), (⟨0, 0, 0, 3⟩ : S153)] : List (S153)) : List (S153))).bind fun y157 => (if 0 ≤ a0 then (if a0 < (y157.length : Int) then (some ((rd_T153 y157 a0).f0, (rd_T153 y157 a0).f1, (rd_T153 y157 a0).f2, (rd_T153 y157 a0).f3)) else (none)) else (none))) = some (r1, r2, r3, r4) := h
  clear h
  obtain ⟨y157, hy157⟩ : ∃ y_ : List (S153), y_ = (([(⟨1, 0, 1, 0⟩ : S153), (⟨0, 1, 0, 0⟩ : S153), (⟨0, 1, 2, 0⟩ : S153), (⟨0, 2, 2, 0⟩ : S153), (⟨2, 0, 1, 0⟩ : S153), (⟨2, 1, 0, 0⟩ : S153), (⟨0, 0, 1, 0⟩ : S153), (⟨0, 0, 1, 0⟩ : S153), (⟨0, 2, 1, 0⟩ : S153), (⟨0, 2, 1, 0⟩ : S153), (⟨0, 2, 1, 0⟩ : S153), (⟨0, 2, 1, 0⟩ : S153), (⟨0, 2, 1, 0⟩ : S153), (⟨0, 2, 1, 0⟩ : S153), (⟨0, 2, 1, 0⟩ : S153), (⟨0, 1, 1, 0⟩ : S153), (⟨3, 0, 0, 1⟩ : S153), (⟨3, 1, 0, 2⟩ : S153), (⟨0, 1, 0, 3⟩ : S153), (⟨0, 0, 0, 3⟩ : S153)] : List (S153))) := ⟨_, rfl⟩
  replace H : (if 0 ≤ a0 then (if a0 < (y157.length : Int) then (some ((rd_T153 y157 a0).f0, (rd_T153 y157 a0).f1, (rd_T153 y157 a0).f2, (rd_T153 y157 a0).f3)) else (none)) else (none)) = some (r1, r2, r3, r4) := by first | (rw [hy157]; with_reducible exact H) | (have H2_ := (Option.bind_some _ _).symm.trans H; rw [hy157]; with_reducible exact H2_) | (have H2_ := (Option.bind_some _ _).symm.trans H; with_reducible exact H2_) | with_reducible exact H | (rw [hy157]; exact H) | exact H
  have Ny157 := Aside0.mk hy157
  clear hy157
  by_cases c2 : 0 ≤ a0
  · rw [if_pos c2] at H
    have c2b0 : decide (0 ≤ a0) = true := decide_eq_true c2
    clear c2
    by_cases c3 : a0 < (y157.length : Int)
    · rw [if_pos c3] at H
      have c3b0 : decide (a0 < (y157.length : Int)) = true := decide_eq_true c3
      clear c3
      simp only [Option.some.injEq, Prod.mk.injEq] at H
      obtain ⟨rfl, rfl, rfl, rfl⟩ := H
      go_enter Try.func88, Try.ntmps88
      go_wp2_with (first | ((with_reducible refine gate_dst (N := 2) rfl ?_); refine box_event ?hg (N := 2) ?hd (cs := #[.int .i64 0, .int .i64 0, .int .i64 0, .int .i64 0]) (t := 153) ?hr ?_; (case hd => rfl); (case hg => rfl); (case hr => first | (go_simp; done) | (go_simp; rfl)); intro gb156 hg w4 hbox hb; have n0_ := Aside0.mk (below_step (by repeat (first | (with_reducible first | exact HB.out | apply below_alloc | apply pw_below_drewN | apply below_drew1) | exact HB.out)) hb); have n1_ := Aside0.mk (hbox); have n2_ := Aside0.mk ((by rw [hg]; exact (below_size (by repeat (first | (with_reducible first | exact HB.out | apply below_alloc | apply pw_below_drewN | apply below_drew1) | exact HB.out))) : w.heap.size ≤ gb156)); have n3_ := Aside0.mk ((by rw [hg]; exact (below_size (by repeat (first | (with_reducible first | exact HB.out | apply below_alloc | apply pw_below_drewN | apply below_drew1) | exact HB.out))) : w.heap.size ≤ gb156)); clear HB; have HB := n0_; have BK156 := n1_; have GW156 := n2_; have GE156 := n3_; clear n0_ n1_ n2_ n3_; clear hb hbox hg) | ((with_reducible refine gate_dst (N := 24) rfl ?_); refine Kd.R_lit k153 _ 153 ?hg (N := 24) ?hd (xs := ([(⟨1, 0, 1, 0⟩ : S153), (⟨0, 1, 0, 0⟩ : S153), (⟨0, 1, 2, 0⟩ : S153), (⟨0, 2, 2, 0⟩ : S153), (⟨2, 0, 1, 0⟩ : S153), (⟨2, 1, 0, 0⟩ : S153), (⟨0, 0, 1, 0⟩ : S153), (⟨0, 0, 1, 0⟩ : S153), (⟨0, 2, 1, 0⟩ : S153), (⟨0, 2, 1, 0⟩ : S153), (⟨0, 2, 1, 0⟩ : S153), (⟨0, 2, 1, 0⟩ : S153), (⟨0, 2, 1, 0⟩ : S153), (⟨0, 2, 1, 0⟩ : S153), (⟨0, 2, 1, 0⟩ : S153), (⟨0, 1, 1, 0⟩ : S153), (⟨3, 0, 0, 1⟩ : S153), (⟨3, 1, 0, 2⟩ : S153), (⟨0, 1, 0, 3⟩ : S153), (⟨0, 0, 0, 3⟩ : S153)] : List (S153))) (inner := [.int .i64 1, .int .i64 0, .int .i64 1, .int .i64 0, .int .i64 0, .int .i64 1, .int .i64 0, .int .i64 0, .int .i64 0, .int .i64 1, .int .i64 2, .int .i64 0, .int .i64 0, .int .i64 2, .int .i64 2, .int .i64 0, .int .i64 2, .int .i64 0, .int .i64 1, .int .i64 0, .int .i64 2, .int .i64 1, .int .i64 0, .int .i64 0, .int .i64 0, .int .i64 0, .int .i64 1, .int .i64 0, .int .i64 0, .int .i64 0, .int .i64 1, .int .i64 0, .int .i64 0, .int .i64 2, .int .i64 1, .int .i64 0, .int .i64 0, .int .i64 2, .int .i64 1, .int .i64 0, .int .i64 0, .int .i64 2, .int .i64 1, .int .i64 0, .int .i64 0, .int .i64 2, .int .i64 1, .int .i64 0, .int .i64 0, .int .i64 2, .int .i64 1, .int .i64 0, .int .i64 0, .int .i64 2, .int .i64 1, .int .i64 0, .int .i64 0, .int .i64 2, .int .i64 1, .int .i64 0, .int .i64 0, .int .i64 1, .int .i64 1, .int .i64 0, .int .i64 3, .int .i64 0, .int .i64 0, .int .i64 1, .int .i64 3, .int .i64 1, .int .i64 0, .int .i64 2, .int .i64 0, .int .i64 1, .int .i64 0, .int .i64 3, .int .i64 0, .int .i64 0, .int .i64 0, .int .i64 3]) (ok := fun _ => True) (okp := fun _ => True) ?hr ?hp (fun _ hk => hk) trivial (Below.refl _ _) (Nat.le_refl _) (by simp) ?_; (case hd => rfl); (case hg => rfl); (case hr => first | (go_simp; done) | (go_simp; rfl)); (case hp => exact (Reps.c4 (show Kd.M k153 _ _ _ (⟨1, 0, 1, 0⟩ : S153) [.int .i64 1, .int .i64 0, .int .i64 1, .int .i64 0] from (k153_mkM _ _ _ (⟨1, 0, 1, 0⟩ : S153) )) (Reps.c4 (show Kd.M k153 _ _ _ (⟨0, 1, 0, 0⟩ : S153) [.int .i64 0, .int .i64 1, .int .i64 0, .int .i64 0] from (k153_mkM _ _ _ (⟨0, 1, 0, 0⟩ : S153) )) (Reps.c4 (show Kd.M k153 _ _ _ (⟨0, 1, 2, 0⟩ : S153) [.int .i64 0, .int .i64 1, .int .i64 2, .int .i64 0] from (k153_mkM _ _ _ (⟨0, 1, 2, 0⟩ : S153) )) (Reps.c4 (show Kd.M k153 _ _ _ (⟨0, 2, 2, 0⟩ : S153) [.int .i64 0, .int .i64 2, .int .i64 2, .int .i64 0] from (k153_mkM _ _ _ (⟨0, 2, 2, 0⟩ : S153) )) (Reps.c4 (show Kd.M k153 _ _ _ (⟨2, 0, 1, 0⟩ : S153) [.int .i64 2, .int .i64 0, .int .i64 1, .int .i64 0] from (k153_mkM _ _ _ (⟨2, 0, 1, 0⟩ : S153) )) (Reps.c4 (show Kd.M k153 _ _ _ (⟨2, 1, 0, 0⟩ : S153) [.int .i64 2, .int .i64 1, .int .i64 0, .int .i64 0] from (k153_mkM _ _ _ (⟨2, 1, 0, 0⟩ : S153) )) (Reps.c4 (show Kd.M k153 _ _ _ (⟨0, 0, 1, 0⟩ : S153) [.int .i64 0, .int .i64 0, .int .i64 1, .int .i64 0] from (k153_mkM _ _ _ (⟨0, 0, 1, 0⟩ : S153) )) (Reps.c4 (show Kd.M k153 _ _ _ (⟨0, 0, 1, 0⟩ : S153) [.int .i64 0, .int .i64 0, .int .i64 1, .int .i64 0] from (k153_mkM _ _ _ (⟨0, 0, 1, 0⟩ : S153) )) (Reps.c4 (show Kd.M k153 _ _ _ (⟨0, 2, 1, 0⟩ : S153) [.int .i64 0, .int .i64 2, .int .i64 1, .int .i64 0] from (k153_mkM _ _ _ (⟨0, 2, 1, 0⟩ : S153) )) (Reps.c4 (show Kd.M k153 _ _ _ (⟨0, 2, 1, 0⟩ : S153) [.int .i64 0, .int .i64 2, .int .i64 1, .int .i64 0] from (k153_mkM _ _ _ (⟨0, 2, 1, 0⟩ : S153) )) (Reps.c4 (show Kd.M k153 _ _ _ (⟨0, 2, 1, 0⟩ : S153) [.int .i64 0, .int .i64 2, .int .i64 1, .int .i64 0] from (k153_mkM _ _ _ (⟨0, 2, 1, 0⟩ : S153) )) (Reps.c4 (show Kd.M k153 _ _ _ (⟨0, 2, 1, 0⟩ : S153) [.int .i64 0, .int .i64 2, .int .i64 1, .int .i64 0] from (k153_mkM _ _ _ (⟨0, 2, 1, 0⟩ : S153) )) (Reps.c4 (show Kd.M k153 _ _ _ (⟨0, 2, 1, 0⟩ : S153) [.int .i64 0, .int .i64 2, .int .i64 1, .int .i64 0] from (k153_mkM _ _ _ (⟨0, 2, 1, 0⟩ : S153) )) (Reps.c4 (show Kd.M k153 _ _ _ (⟨0, 2, 1, 0⟩ : S153) [.int .i64 0, .int .i64 2, .int .i64 1, .int .i64 0] from (k153_mkM _ _ _ (⟨0, 2, 1, 0⟩ : S153) )) (Reps.c4 (show Kd.M k153 _ _ _ (⟨0, 2, 1, 0⟩ : S153) [.int .i64 0, .int .i64 2, .int .i64 1, .int .i64 0] from (k153_mkM _ _ _ (⟨0, 2, 1, 0⟩ : S153) )) (Reps.c4 (show Kd.M k153 _ _ _ (⟨0, 1, 1, 0⟩ : S153) [.int .i64 0, .int .i64 1, .int .i64 1, .int .i64 0] from (k153_mkM _ _ _ (⟨0, 1, 1, 0⟩ : S153) )) (Reps.c4 (show Kd.M k153 _ _ _ (⟨3, 0, 0, 1⟩ : S153) [.int .i64 3, .int .i64 0, .int .i64 0, .int .i64 1] from (k153_mkM _ _ _ (⟨3, 0, 0, 1⟩ : S153) )) (Reps.c4 (show Kd.M k153 _ _ _ (⟨3, 1, 0, 2⟩ : S153) [.int .i64 3, .int .i64 1, .int .i64 0, .int .i64 2] from (k153_mkM _ _ _ (⟨3, 1, 0, 2⟩ : S153) )) (Reps.c4 (show Kd.M k153 _ _ _ (⟨0, 1, 0, 3⟩ : S153) [.int .i64 0, .int .i64 1, .int .i64 0, .int .i64 3] from (k153_mkM _ _ _ (⟨0, 1, 0, 3⟩ : S153) )) (Reps.c4 (show Kd.M k153 _ _ _ (⟨0, 0, 0, 3⟩ : S153) [.int .i64 0, .int .i64 0, .int .i64 0, .int .i64 3] from (k153_mkM _ _ _ (⟨0, 0, 0, 3⟩ : S153) )) (Reps.none _ _)))))))))))))))))))))); intro v158 w5 ho6 hb hg_ hnew_; clear hg_ hnew_; (first | rw [← Ny157.out] at ho6 | (simp only [Int.reduceToNat] at ho6; rw [← Ny157.out] at ho6)); have n0_ := Aside0.mk (Kd.R_lower (Kd.R_newB ho6 (g := gb156) (o := .cells #[.int .i64 0, .int .i64 0, .int .i64 0, .int .i64 0] 153 (0, 0)) (by (with_reducible repeat (first | refine blk_drewN ?_ _ | refine blk_drew ?_ | refine blk_alloc ?_ _)); exact BK156.out)) (below_size (by repeat (first | (with_reducible first | exact HB.out | apply below_alloc | apply pw_below_drewN | apply below_drew1 | refine below_set ?_ GE156.out) | exact HB.out)))); have n1_ := Aside0.mk (blk_below (g := gb156) (o := .cells #[.int .i64 0, .int .i64 0, .int .i64 0, .int .i64 0] 153 (0, 0)) (by (with_reducible repeat (first | refine blk_drewN ?_ _ | refine blk_drew ?_ | refine blk_alloc ?_ _)); exact BK156.out) hb); have n2_ := Aside0.mk (below_step (by repeat (first | (with_reducible first | exact HB.out | apply below_alloc | apply pw_below_drewN | apply below_drew1 | refine below_set ?_ GE156.out) | exact HB.out)) hb); clear BK156; clear HB; have HO159 := n0_; have BK156 := n1_; have HB := n2_; clear n0_ n1_ n2_; clear hb ho6; obtain ⟨Ao7, co7, eo7⟩ := Kd.R_slice HO159.out; subst eo7; have p160 : 0 ≤ (a0 : Int) := of_decide_eq_true (by first | (with_reducible assumption) | assumption); have q160 : a0 < (y157.length : Int) := of_decide_eq_true (by first | (with_reducible assumption) | assumption); obtain ⟨ad160, e160, hx160_0, hx160_1, hx160_2, hx160_3⟩ := at_T153 (Kd.R_reads' HO159.out).2.2 a0 p160 q160; cases e160; replace p160 := eq_true p160; replace q160 := eq_true q160; have hcz8_0 : w5.cell? ⟨gb156, 0, none⟩ = some (.int .i64 0) := (blk_cell BK156.out 0).trans rfl; have hcz8_1 : w5.cell? ⟨gb156, 1, none⟩ = some (.int .i64 0) := (blk_cell BK156.out 1).trans rfl; have hcz8_2 : w5.cell? ⟨gb156, 2, none⟩ = some (.int .i64 0) := (blk_cell BK156.out 2).trans rfl; have hcz8_3 : w5.cell? ⟨gb156, 3, none⟩ = some (.int .i64 0) := (blk_cell BK156.out 3).trans rfl; have hfz8_0 := blk_frozen BK156.out 0; have hfz8_1 := blk_frozen BK156.out 1; have hfz8_2 := blk_frozen BK156.out 2; have hfz8_3 := blk_frozen BK156.out 3))
      refine bodyPost_ret (results_cell_row rfl _ _ gb156 153 #[.int .i64 ((rd_T153 y157 a0).f0), .int .i64 ((rd_T153 y157 a0).f1), .int .i64 ((rd_T153 y157 a0).f2), .int .i64 ((rd_T153 y157 a0).f3)] (0, 0) _ rfl (by (with_reducible repeat (first | refine blk_drewN ?_ _ | refine blk_drew ?_ | refine blk_alloc ?_ _)); refine blk_put (cs := #[.int .i64 ((rd_T153 y157 a0).f0), .int .i64 ((rd_T153 y157 a0).f1), .int .i64 ((rd_T153 y157 a0).f2), .int .i64 0]) ?_ 3 _ rfl; (with_reducible repeat (first | refine blk_drewN ?_ _ | refine blk_drew ?_ | refine blk_alloc ?_ _)); refine blk_put (cs := #[.int .i64 ((rd_T153 y157 a0).f0), .int .i64 ((rd_T153 y157 a0).f1), .int .i64 0, .int .i64 0]) ?_ 2 _ rfl; (with_reducible repeat (first | refine blk_drewN ?_ _ | refine blk_drew ?_ | refine blk_alloc ?_ _)); refine blk_put (cs := #[.int .i64 ((rd_T153 y157 a0).f0), .int .i64 0, .int .i64 0, .int .i64 0]) ?_ 1 _ rfl; (with_reducible repeat (first | refine blk_drewN ?_ _ | refine blk_drew ?_ | refine blk_alloc ?_ _)); refine blk_put (cs := #[.int .i64 0, .int .i64 0, .int .i64 0, .int .i64 0]) ?_ 0 _ rfl; (with_reducible repeat (first | refine blk_drewN ?_ _ | refine blk_drew ?_ | refine blk_alloc ?_ _)); exact BK156.out) Try.underlying153 rfl (by kernel_rfl)) rfl ?_
      exact ⟨by first | rfl | (simp [errW_none, errW_some] <;> rfl) | (simp [*, errW_none, errW_some] <;> rfl), by repeat (first | (with_reducible first | exact HB.out | apply below_alloc | apply pw_below_drewN | apply below_drew1 | refine below_set ?_ GE156.out) | exact HB.out)⟩
    · rw [if_neg c3] at H
      exact absurd H (by simp)
  · rw [if_neg c2] at H
    exact absurd H (by simp)
def inquestref15_number.f (a0_0 : Int) (a0_1 : Int) (a1 : Int) : Option (Bool) := (inquestref15_table.f a0_0).bind fun bt162 => (if bt162.1 = 1 then (some true) else (if bt162.1 = 2 then (if a0_1 ≥ 0 then (some (decide (a0_1 ≤ 3))) else (some false)) else (if bt162.1 = 3 then (if a0_1 ≥ 0 then (some (decide (a0_1 < a1))) else (some false)) else (some (a0_1 == 0)))))
set_option maxHeartbeats 8000000 in
set_option maxRecDepth 100000 in
theorem inquestref15_number.calls (a0_0 : Int) (a0_1 : Int) (a1 : Int) (r : Bool) (w : World) (h : inquestref15_number.f a0_0 a0_1 a1 = some r) :
    Calls Try.prog 76 #[.agg #[.int .i64 a0_0, .int .i64 a0_1], .int .i64 a1] w fun e w' => e = .returned (.bool r) ∧ Below w.heap.size w w' := by
  have hu36 := Try.underlying36
  have hfd153_0 : ∀ (v0_ v1_ v2_ v3_ : Value) (W_ : World), (Instr.field 153 (.agg #[v0_, v1_, v2_, v3_]) 0).run Try.prog W_ = .ok v0_ W_ := fun v0_ v1_ v2_ v3_ W_ => by kernel_rfl
  have HB := Aside0.mk (Below.refl w.heap.size w)
  have H : ((inquestref15_table.f a0_0).bind fun bt162 => (if bt162.1 = 1 then (some true) else (if bt162.1 = 2 then (if a0_1 ≥ 0 then (some (decide (a0_1 ≤ 3))) else (some false)) else (if bt162.1 = 3 then (if a0_1 ≥ 0 then (some (decide (a0_1 < a1))) else (some false)) else (some (a0_1 == 0)))))) = some r := h
  clear h
  replace H := Option.bind_eq_some_iff.mp H
  obtain ⟨⟨t162, t163, t164, t165⟩, A30, H⟩ := H
  replace H : (if t162 = 1 then (some true) else (if t162 = 2 then (if a0_1 ≥ 0 then (some (decide (a0_1 ≤ 3))) else (some false)) else (if t162 = 3 then (if a0_1 ≥ 0 then (some (decide (a0_1 < a1))) else (some false)) else (some (a0_1 == 0))))) = some r := H
  have A3 := Aside0.mk A30
  clear A30
  by_cases c4 : t162 = 1
  · rw [if_pos c4] at H
    have c4b0 : (t162 == 1) = true := beq_iff_eq.mpr c4
    have c4b1 : (t162 != 1) = false := bne_eq_false_iff_eq.mpr c4
    clear c4
    obtain rfl := Option.some.inj H
    go_enter Try.func76, Try.ntmps76
    go_wp2_with (first | ((with_reducible refine gate_dst (N := 2) rfl ?_); refine box_event ?hg (N := 2) ?hd (cs := #[.int .i64 a0_0, .int .i64 a0_1]) (t := 36) ?hr ?_; (case hd => rfl); (case hg => rfl); (case hr => first | (go_simp; done) | (go_simp; rfl)); intro gb161 hg w5 hbox hb; have n0_ := Aside0.mk (below_step (by repeat (first | (with_reducible first | exact HB.out | apply below_alloc | apply pw_below_drewN | apply below_drew1) | exact HB.out)) hb); have n1_ := Aside0.mk (hbox); have n2_ := Aside0.mk ((by rw [hg]; exact (below_size (by repeat (first | (with_reducible first | exact HB.out | apply below_alloc | apply pw_below_drewN | apply below_drew1) | exact HB.out))) : w.heap.size ≤ gb161)); have n3_ := Aside0.mk ((by rw [hg]; exact (below_size (by repeat (first | (with_reducible first | exact HB.out | apply below_alloc | apply pw_below_drewN | apply below_drew1) | exact HB.out))) : w.heap.size ≤ gb161)); clear HB; have HB := n0_; have BK161 := n1_; have GW161 := n2_; have GE161 := n3_; clear n0_ n1_ n2_ n3_; clear hb hbox hg; have hcz6_0 : w5.cell? ⟨gb161, 0, none⟩ = some (.int .i64 a0_0) := (blk_cell BK161.out 0).trans rfl; have hcz6_1 : w5.cell? ⟨gb161, 1, none⟩ = some (.int .i64 a0_1) := (blk_cell BK161.out 1).trans rfl; have hfz6_0 := blk_frozen BK161.out 0; have hfz6_1 := blk_frozen BK161.out 1) | ((with_reducible refine gate_callee (f := 88) rfl ?_); refine goesL_ (some 7) rfl rfl Try.func88 (by kernel_rfl) rfl #[.int .i64 a0_0] rfl (by (try simp only [List.map_toArray, List.map_cons, List.map_nil]); first | done | rfl | (simp only [List.length_drop, List.length_take]; rfl)) ?_; (with_reducible refine (inquestref15_table.calls a0_0 t162 t163 t164 t165 _ A3.out).mono ?_); rintro e w7 ⟨rfl, hb⟩; refine ⟨_, rfl, ?_⟩; have n0_ := Aside0.mk (blk_below (g := gb161) (o := .cells #[.int .i64 a0_0, .int .i64 a0_1] 36 (0, 0)) (by (with_reducible repeat (first | refine blk_drewN ?_ _ | refine blk_drew ?_ | refine blk_alloc ?_ _)); exact BK161.out) hb); have n1_ := Aside0.mk (below_step (by repeat (first | (with_reducible first | exact HB.out | apply below_alloc | apply pw_below_drewN | apply below_drew1 | refine below_set ?_ GE161.out) | exact HB.out)) hb); clear BK161; clear HB; have BK161 := n0_; have HB := n1_; clear n0_ n1_; (try clear hb); (try clear hb2); (try clear hk); (try clear hi)))
    go_ret
    exact ⟨by first | rfl | (simp [errW_none, errW_some] <;> rfl) | (simp [*, errW_none, errW_some] <;> rfl), by repeat (first | (with_reducible first | exact HB.out | apply below_alloc | apply pw_below_drewN | apply below_drew1 | refine below_set ?_ GE161.out) | exact HB.out)⟩
  · rw [if_neg c4] at H
    have c4b0 : (t162 == 1) = false := beq_eq_false_iff_ne.mpr c4
    have c4b1 : (t162 != 1) = true := bne_iff_ne.mpr c4
    by_cases c8 : t162 = 2
    · rw [if_pos c8] at H
      have c8b0 : (t162 == 2) = true := beq_iff_eq.mpr c8
      have c8b1 : (t162 != 2) = false := bne_eq_false_iff_eq.mpr c8
      clear c8
      by_cases c9 : a0_1 ≥ 0
      · rw [if_pos c9] at H
        have c9b0 : decide (0 ≤ a0_1) = true := decide_eq_true c9
        clear c9
        obtain rfl := Option.some.inj H
        go_enter Try.func76, Try.ntmps76
        go_wp2_with (first | ((with_reducible refine gate_dst (N := 2) rfl ?_); refine box_event ?hg (N := 2) ?hd (cs := #[.int .i64 a0_0, .int .i64 a0_1]) (t := 36) ?hr ?_; (case hd => rfl); (case hg => rfl); (case hr => first | (go_simp; done) | (go_simp; rfl)); intro gb161 hg w10 hbox hb; have n0_ := Aside0.mk (below_step (by repeat (first | (with_reducible first | exact HB.out | apply below_alloc | apply pw_below_drewN | apply below_drew1) | exact HB.out)) hb); have n1_ := Aside0.mk (hbox); have n2_ := Aside0.mk ((by rw [hg]; exact (below_size (by repeat (first | (with_reducible first | exact HB.out | apply below_alloc | apply pw_below_drewN | apply below_drew1) | exact HB.out))) : w.heap.size ≤ gb161)); have n3_ := Aside0.mk ((by rw [hg]; exact (below_size (by repeat (first | (with_reducible first | exact HB.out | apply below_alloc | apply pw_below_drewN | apply below_drew1) | exact HB.out))) : w.heap.size ≤ gb161)); clear HB; have HB := n0_; have BK161 := n1_; have GW161 := n2_; have GE161 := n3_; clear n0_ n1_ n2_ n3_; clear hb hbox hg; have hcz11_0 : w10.cell? ⟨gb161, 0, none⟩ = some (.int .i64 a0_0) := (blk_cell BK161.out 0).trans rfl; have hcz11_1 : w10.cell? ⟨gb161, 1, none⟩ = some (.int .i64 a0_1) := (blk_cell BK161.out 1).trans rfl; have hfz11_0 := blk_frozen BK161.out 0; have hfz11_1 := blk_frozen BK161.out 1) | ((with_reducible refine gate_callee (f := 88) rfl ?_); refine goesL_ (some 7) rfl rfl Try.func88 (by kernel_rfl) rfl #[.int .i64 a0_0] rfl (by (try simp only [List.map_toArray, List.map_cons, List.map_nil]); first | done | rfl | (simp only [List.length_drop, List.length_take]; rfl)) ?_; (with_reducible refine (inquestref15_table.calls a0_0 t162 t163 t164 t165 _ A3.out).mono ?_); rintro e w12 ⟨rfl, hb⟩; refine ⟨_, rfl, ?_⟩; have n0_ := Aside0.mk (blk_below (g := gb161) (o := .cells #[.int .i64 a0_0, .int .i64 a0_1] 36 (0, 0)) (by (with_reducible repeat (first | refine blk_drewN ?_ _ | refine blk_drew ?_ | refine blk_alloc ?_ _)); exact BK161.out) hb); have n1_ := Aside0.mk (below_step (by repeat (first | (with_reducible first | exact HB.out | apply below_alloc | apply pw_below_drewN | apply below_drew1 | refine below_set ?_ GE161.out) | exact HB.out)) hb); clear BK161; clear HB; have BK161 := n0_; have HB := n1_; clear n0_ n1_; (try clear hb); (try clear hb2); (try clear hk); (try clear hi); have hcz13_0 : w12.cell? ⟨gb161, 0, none⟩ = some (.int .i64 a0_0) := (blk_cell BK161.out 0).trans rfl; have hcz13_1 : w12.cell? ⟨gb161, 1, none⟩ = some (.int .i64 a0_1) := (blk_cell BK161.out 1).trans rfl; have hfz13_0 := blk_frozen BK161.out 0; have hfz13_1 := blk_frozen BK161.out 1))
        go_ret
        exact ⟨by first | rfl | (simp [errW_none, errW_some] <;> rfl) | (simp [*, errW_none, errW_some] <;> rfl), by repeat (first | (with_reducible first | exact HB.out | apply below_alloc | apply pw_below_drewN | apply below_drew1 | refine below_set ?_ GE161.out) | exact HB.out)⟩
      · rw [if_neg c9] at H
        have c9b0 : decide (0 ≤ a0_1) = false := decide_eq_false c9
        clear c9
        obtain rfl := Option.some.inj H
        go_enter Try.func76, Try.ntmps76
        go_wp2_with (first | ((with_reducible refine gate_dst (N := 2) rfl ?_); refine box_event ?hg (N := 2) ?hd (cs := #[.int .i64 a0_0, .int .i64 a0_1]) (t := 36) ?hr ?_; (case hd => rfl); (case hg => rfl); (case hr => first | (go_simp; done) | (go_simp; rfl)); intro gb161 hg w14 hbox hb; have n0_ := Aside0.mk (below_step (by repeat (first | (with_reducible first | exact HB.out | apply below_alloc | apply pw_below_drewN | apply below_drew1) | exact HB.out)) hb); have n1_ := Aside0.mk (hbox); have n2_ := Aside0.mk ((by rw [hg]; exact (below_size (by repeat (first | (with_reducible first | exact HB.out | apply below_alloc | apply pw_below_drewN | apply below_drew1) | exact HB.out))) : w.heap.size ≤ gb161)); have n3_ := Aside0.mk ((by rw [hg]; exact (below_size (by repeat (first | (with_reducible first | exact HB.out | apply below_alloc | apply pw_below_drewN | apply below_drew1) | exact HB.out))) : w.heap.size ≤ gb161)); clear HB; have HB := n0_; have BK161 := n1_; have GW161 := n2_; have GE161 := n3_; clear n0_ n1_ n2_ n3_; clear hb hbox hg; have hcz15_0 : w14.cell? ⟨gb161, 0, none⟩ = some (.int .i64 a0_0) := (blk_cell BK161.out 0).trans rfl; have hcz15_1 : w14.cell? ⟨gb161, 1, none⟩ = some (.int .i64 a0_1) := (blk_cell BK161.out 1).trans rfl; have hfz15_0 := blk_frozen BK161.out 0; have hfz15_1 := blk_frozen BK161.out 1) | ((with_reducible refine gate_callee (f := 88) rfl ?_); refine goesL_ (some 7) rfl rfl Try.func88 (by kernel_rfl) rfl #[.int .i64 a0_0] rfl (by (try simp only [List.map_toArray, List.map_cons, List.map_nil]); first | done | rfl | (simp only [List.length_drop, List.length_take]; rfl)) ?_; (with_reducible refine (inquestref15_table.calls a0_0 t162 t163 t164 t165 _ A3.out).mono ?_); rintro e w16 ⟨rfl, hb⟩; refine ⟨_, rfl, ?_⟩; have n0_ := Aside0.mk (blk_below (g := gb161) (o := .cells #[.int .i64 a0_0, .int .i64 a0_1] 36 (0, 0)) (by (with_reducible repeat (first | refine blk_drewN ?_ _ | refine blk_drew ?_ | refine blk_alloc ?_ _)); exact BK161.out) hb); have n1_ := Aside0.mk (below_step (by repeat (first | (with_reducible first | exact HB.out | apply below_alloc | apply pw_below_drewN | apply below_drew1 | refine below_set ?_ GE161.out) | exact HB.out)) hb); clear BK161; clear HB; have BK161 := n0_; have HB := n1_; clear n0_ n1_; (try clear hb); (try clear hb2); (try clear hk); (try clear hi); have hcz17_0 : w16.cell? ⟨gb161, 0, none⟩ = some (.int .i64 a0_0) := (blk_cell BK161.out 0).trans rfl; have hcz17_1 : w16.cell? ⟨gb161, 1, none⟩ = some (.int .i64 a0_1) := (blk_cell BK161.out 1).trans rfl; have hfz17_0 := blk_frozen BK161.out 0; have hfz17_1 := blk_frozen BK161.out 1))
        go_ret
        exact ⟨by first | rfl | (simp [errW_none, errW_some] <;> rfl) | (simp [*, errW_none, errW_some] <;> rfl), by repeat (first | (with_reducible first | exact HB.out | apply below_alloc | apply pw_below_drewN | apply below_drew1 | refine below_set ?_ GE161.out) | exact HB.out)⟩
    · rw [if_neg c8] at H
      have c8b0 : (t162 == 2) = false := beq_eq_false_iff_ne.mpr c8
      have c8b1 : (t162 != 2) = true := bne_iff_ne.mpr c8
      by_cases c18 : t162 = 3
      · rw [if_pos c18] at H
        have c18b0 : (t162 == 3) = true := beq_iff_eq.mpr c18
        have c18b1 : (t162 != 3) = false := bne_eq_false_iff_eq.mpr c18
        clear c18
        by_cases c19 : a0_1 ≥ 0
        · rw [if_pos c19] at H
          have c19b0 : decide (0 ≤ a0_1) = true := decide_eq_true c19
          clear c19
          obtain rfl := Option.some.inj H
          go_enter Try.func76, Try.ntmps76
          go_wp2_with (first | ((with_reducible refine gate_dst (N := 2) rfl ?_); refine box_event ?hg (N := 2) ?hd (cs := #[.int .i64 a0_0, .int .i64 a0_1]) (t := 36) ?hr ?_; (case hd => rfl); (case hg => rfl); (case hr => first | (go_simp; done) | (go_simp; rfl)); intro gb161 hg w20 hbox hb; have n0_ := Aside0.mk (below_step (by repeat (first | (with_reducible first | exact HB.out | apply below_alloc | apply pw_below_drewN | apply below_drew1) | exact HB.out)) hb); have n1_ := Aside0.mk (hbox); have n2_ := Aside0.mk ((by rw [hg]; exact (below_size (by repeat (first | (with_reducible first | exact HB.out | apply below_alloc | apply pw_below_drewN | apply below_drew1) | exact HB.out))) : w.heap.size ≤ gb161)); have n3_ := Aside0.mk ((by rw [hg]; exact (below_size (by repeat (first | (with_reducible first | exact HB.out | apply below_alloc | apply pw_below_drewN | apply below_drew1) | exact HB.out))) : w.heap.size ≤ gb161)); clear HB; have HB := n0_; have BK161 := n1_; have GW161 := n2_; have GE161 := n3_; clear n0_ n1_ n2_ n3_; clear hb hbox hg; have hcz21_0 : w20.cell? ⟨gb161, 0, none⟩ = some (.int .i64 a0_0) := (blk_cell BK161.out 0).trans rfl; have hcz21_1 : w20.cell? ⟨gb161, 1, none⟩ = some (.int .i64 a0_1) := (blk_cell BK161.out 1).trans rfl; have hfz21_0 := blk_frozen BK161.out 0; have hfz21_1 := blk_frozen BK161.out 1) | ((with_reducible refine gate_callee (f := 88) rfl ?_); refine goesL_ (some 7) rfl rfl Try.func88 (by kernel_rfl) rfl #[.int .i64 a0_0] rfl (by (try simp only [List.map_toArray, List.map_cons, List.map_nil]); first | done | rfl | (simp only [List.length_drop, List.length_take]; rfl)) ?_; (with_reducible refine (inquestref15_table.calls a0_0 t162 t163 t164 t165 _ A3.out).mono ?_); rintro e w22 ⟨rfl, hb⟩; refine ⟨_, rfl, ?_⟩; have n0_ := Aside0.mk (blk_below (g := gb161) (o := .cells #[.int .i64 a0_0, .int .i64 a0_1] 36 (0, 0)) (by (with_reducible repeat (first | refine blk_drewN ?_ _ | refine blk_drew ?_ | refine blk_alloc ?_ _)); exact BK161.out) hb); have n1_ := Aside0.mk (below_step (by repeat (first | (with_reducible first | exact HB.out | apply below_alloc | apply pw_below_drewN | apply below_drew1 | refine below_set ?_ GE161.out) | exact HB.out)) hb); clear BK161; clear HB; have BK161 := n0_; have HB := n1_; clear n0_ n1_; (try clear hb); (try clear hb2); (try clear hk); (try clear hi); have hcz23_0 : w22.cell? ⟨gb161, 0, none⟩ = some (.int .i64 a0_0) := (blk_cell BK161.out 0).trans rfl; have hcz23_1 : w22.cell? ⟨gb161, 1, none⟩ = some (.int .i64 a0_1) := (blk_cell BK161.out 1).trans rfl; have hfz23_0 := blk_frozen BK161.out 0; have hfz23_1 := blk_frozen BK161.out 1))
          go_ret
          exact ⟨by first | rfl | (simp [errW_none, errW_some] <;> rfl) | (simp [*, errW_none, errW_some] <;> rfl), by repeat (first | (with_reducible first | exact HB.out | apply below_alloc | apply pw_below_drewN | apply below_drew1 | refine below_set ?_ GE161.out) | exact HB.out)⟩
        · rw [if_neg c19] at H
          have c19b0 : decide (0 ≤ a0_1) = false := decide_eq_false c19
          clear c19
          obtain rfl := Option.some.inj H
          go_enter Try.func76, Try.ntmps76
          go_wp2_with (first | ((with_reducible refine gate_dst (N := 2) rfl ?_); refine box_event ?hg (N := 2) ?hd (cs := #[.int .i64 a0_0, .int .i64 a0_1]) (t := 36) ?hr ?_; (case hd => rfl); (case hg => rfl); (case hr => first | (go_simp; done) | (go_simp; rfl)); intro gb161 hg w24 hbox hb; have n0_ := Aside0.mk (below_step (by repeat (first | (with_reducible first | exact HB.out | apply below_alloc | apply pw_below_drewN | apply below_drew1) | exact HB.out)) hb); have n1_ := Aside0.mk (hbox); have n2_ := Aside0.mk ((by rw [hg]; exact (below_size (by repeat (first | (with_reducible first | exact HB.out | apply below_alloc | apply pw_below_drewN | apply below_drew1) | exact HB.out))) : w.heap.size ≤ gb161)); have n3_ := Aside0.mk ((by rw [hg]; exact (below_size (by repeat (first | (with_reducible first | exact HB.out | apply below_alloc | apply pw_below_drewN | apply below_drew1) | exact HB.out))) : w.heap.size ≤ gb161)); clear HB; have HB := n0_; have BK161 := n1_; have GW161 := n2_; have GE161 := n3_; clear n0_ n1_ n2_ n3_; clear hb hbox hg; have hcz25_0 : w24.cell? ⟨gb161, 0, none⟩ = some (.int .i64 a0_0) := (blk_cell BK161.out 0).trans rfl; have hcz25_1 : w24.cell? ⟨gb161, 1, none⟩ = some (.int .i64 a0_1) := (blk_cell BK161.out 1).trans rfl; have hfz25_0 := blk_frozen BK161.out 0; have hfz25_1 := blk_frozen BK161.out 1) | ((with_reducible refine gate_callee (f := 88) rfl ?_); refine goesL_ (some 7) rfl rfl Try.func88 (by kernel_rfl) rfl #[.int .i64 a0_0] rfl (by (try simp only [List.map_toArray, List.map_cons, List.map_nil]); first | done | rfl | (simp only [List.length_drop, List.length_take]; rfl)) ?_; (with_reducible refine (inquestref15_table.calls a0_0 t162 t163 t164 t165 _ A3.out).mono ?_); rintro e w26 ⟨rfl, hb⟩; refine ⟨_, rfl, ?_⟩; have n0_ := Aside0.mk (blk_below (g := gb161) (o := .cells #[.int .i64 a0_0, .int .i64 a0_1] 36 (0, 0)) (by (with_reducible repeat (first | refine blk_drewN ?_ _ | refine blk_drew ?_ | refine blk_alloc ?_ _)); exact BK161.out) hb); have n1_ := Aside0.mk (below_step (by repeat (first | (with_reducible first | exact HB.out | apply below_alloc | apply pw_below_drewN | apply below_drew1 | refine below_set ?_ GE161.out) | exact HB.out)) hb); clear BK161; clear HB; have BK161 := n0_; have HB := n1_; clear n0_ n1_; (try clear hb); (try clear hb2); (try clear hk); (try clear hi); have hcz27_0 : w26.cell? ⟨gb161, 0, none⟩ = some (.int .i64 a0_0) := (blk_cell BK161.out 0).trans rfl; have hcz27_1 : w26.cell? ⟨gb161, 1, none⟩ = some (.int .i64 a0_1) := (blk_cell BK161.out 1).trans rfl; have hfz27_0 := blk_frozen BK161.out 0; have hfz27_1 := blk_frozen BK161.out 1))
          go_ret
          exact ⟨by first | rfl | (simp [errW_none, errW_some] <;> rfl) | (simp [*, errW_none, errW_some] <;> rfl), by repeat (first | (with_reducible first | exact HB.out | apply below_alloc | apply pw_below_drewN | apply below_drew1 | refine below_set ?_ GE161.out) | exact HB.out)⟩
      · rw [if_neg c18] at H
        have c18b0 : (t162 == 3) = false := beq_eq_false_iff_ne.mpr c18
        have c18b1 : (t162 != 3) = true := bne_iff_ne.mpr c18
        obtain rfl := Option.some.inj H
        go_enter Try.func76, Try.ntmps76
        go_wp2_with (first | ((with_reducible refine gate_dst (N := 2) rfl ?_); refine box_event ?hg (N := 2) ?hd (cs := #[.int .i64 a0_0, .int .i64 a0_1]) (t := 36) ?hr ?_; (case hd => rfl); (case hg => rfl); (case hr => first | (go_simp; done) | (go_simp; rfl)); intro gb161 hg w28 hbox hb; have n0_ := Aside0.mk (below_step (by repeat (first | (with_reducible first | exact HB.out | apply below_alloc | apply pw_below_drewN | apply below_drew1) | exact HB.out)) hb); have n1_ := Aside0.mk (hbox); have n2_ := Aside0.mk ((by rw [hg]; exact (below_size (by repeat (first | (with_reducible first | exact HB.out | apply below_alloc | apply pw_below_drewN | apply below_drew1) | exact HB.out))) : w.heap.size ≤ gb161)); have n3_ := Aside0.mk ((by rw [hg]; exact (below_size (by repeat (first | (with_reducible first | exact HB.out | apply below_alloc | apply pw_below_drewN | apply below_drew1) | exact HB.out))) : w.heap.size ≤ gb161)); clear HB; have HB := n0_; have BK161 := n1_; have GW161 := n2_; have GE161 := n3_; clear n0_ n1_ n2_ n3_; clear hb hbox hg; have hcz29_0 : w28.cell? ⟨gb161, 0, none⟩ = some (.int .i64 a0_0) := (blk_cell BK161.out 0).trans rfl; have hcz29_1 : w28.cell? ⟨gb161, 1, none⟩ = some (.int .i64 a0_1) := (blk_cell BK161.out 1).trans rfl; have hfz29_0 := blk_frozen BK161.out 0; have hfz29_1 := blk_frozen BK161.out 1) | ((with_reducible refine gate_callee (f := 88) rfl ?_); refine goesL_ (some 7) rfl rfl Try.func88 (by kernel_rfl) rfl #[.int .i64 a0_0] rfl (by (try simp only [List.map_toArray, List.map_cons, List.map_nil]); first | done | rfl | (simp only [List.length_drop, List.length_take]; rfl)) ?_; (with_reducible refine (inquestref15_table.calls a0_0 t162 t163 t164 t165 _ A3.out).mono ?_); rintro e w30 ⟨rfl, hb⟩; refine ⟨_, rfl, ?_⟩; have n0_ := Aside0.mk (blk_below (g := gb161) (o := .cells #[.int .i64 a0_0, .int .i64 a0_1] 36 (0, 0)) (by (with_reducible repeat (first | refine blk_drewN ?_ _ | refine blk_drew ?_ | refine blk_alloc ?_ _)); exact BK161.out) hb); have n1_ := Aside0.mk (below_step (by repeat (first | (with_reducible first | exact HB.out | apply below_alloc | apply pw_below_drewN | apply below_drew1 | refine below_set ?_ GE161.out) | exact HB.out)) hb); clear BK161; clear HB; have BK161 := n0_; have HB := n1_; clear n0_ n1_; (try clear hb); (try clear hb2); (try clear hk); (try clear hi); have hcz31_0 : w30.cell? ⟨gb161, 0, none⟩ = some (.int .i64 a0_0) := (blk_cell BK161.out 0).trans rfl; have hcz31_1 : w30.cell? ⟨gb161, 1, none⟩ = some (.int .i64 a0_1) := (blk_cell BK161.out 1).trans rfl; have hfz31_0 := blk_frozen BK161.out 0; have hfz31_1 := blk_frozen BK161.out 1))
        go_ret
        exact ⟨by first | rfl | (simp [errW_none, errW_some] <;> rfl) | (simp [*, errW_none, errW_some] <;> rfl), by repeat (first | (with_reducible first | exact HB.out | apply below_alloc | apply pw_below_drewN | apply below_drew1 | refine below_set ?_ GE161.out) | exact HB.out)⟩
/-- The walk's record, its rows, in a world grown out of w0. -/
structure Wk (w0 W : World) (g gD gG : Nat) (A0 : Option Addr) (n c0 cD cG : Nat) (dep : List Int) (gone : List Bool) : Prop where
  hB : Below w0.heap.size w0 W
  f0 : W.cell? ⟨g, 0, none⟩ = some (.slice A0 n c0)
  f1 : W.cell? ⟨g, 1, none⟩ = some (.slice (some ⟨gD, 0, none⟩) n cD)
  f2 : W.cell? ⟨g, 2, none⟩ = some (.slice (some ⟨gG, 0, none⟩) n cG)
  hD : (Kd.int .i64).R 3 W w0.heap.size (fun k => k = gD) (.slice (some ⟨gD, 0, none⟩) n cD) dep
  hG : Kd.bool.R 4 W w0.heap.size (fun k => k = gG) (.slice (some ⟨gG, 0, none⟩) n cG) gone
  bg : w0.heap.size ≤ g
  bD : w0.heap.size ≤ gD
  bG : w0.heap.size ≤ gG
  lg : g < W.heap.size
  lD : gD < W.heap.size
  lG : gG < W.heap.size
  nD : g ≠ gD
  nG : g ≠ gG
  nn : gD ≠ gG
theorem setSize (W : World) (p : Addr) (v : Value) : (W.setCell p v).heap.size = W.heap.size := by simp [World.setCell]
theorem Wk.came {w0 W W' : World} {g gD gG : Nat} {A0 : Option Addr} {n c0 cD cG : Nat} {dep : List Int} {gone : List Bool} (h : Wk w0 W g gD gG A0 n c0 cD cG dep gone) (hb : Below W.heap.size W W') : Wk w0 W' g gD gG A0 n c0 cD cG dep gone :=
  ⟨below_step h.hB hb, pw_cell_below hb h.f0, pw_cell_below hb h.f1, pw_cell_below hb h.f2, Kd.R_below h.hD hb, Kd.R_below h.hG hb, h.bg, h.bD, h.bG, Nat.lt_of_lt_of_le h.lg hb.size, Nat.lt_of_lt_of_le h.lD hb.size, Nat.lt_of_lt_of_le h.lG hb.size, h.nD, h.nG, h.nn⟩
theorem Wk.setD {w0 W : World} {g gD gG : Nat} {A0 : Option Addr} {n c0 cD cG : Nat} {dep : List Int} {gone : List Bool} (h : Wk w0 W g gD gG A0 n c0 cD cG dep gone) (i : Int) (x : Int) : Wk w0 (W.setCell ⟨gD, i.toNat, none⟩ (.int .i64 x)) g gD gG A0 n c0 cD cG (dep.set i.toNat x) gone :=
  ⟨below_set h.hB h.bD, (cell_far h.nD _).trans h.f0, (cell_far h.nD _).trans h.f1, (cell_far h.nD _).trans h.f2, (Kd.R_putg h.hD i x).1, Kd.R_far h.hG (fun k hk => by subst hk; exact fun e => h.nn e.symm) _, h.bg, h.bD, h.bG, by rw [setSize]; exact h.lg, by rw [setSize]; exact h.lD, by rw [setSize]; exact h.lG, h.nD, h.nG, h.nn⟩
theorem Wk.setG {w0 W : World} {g gD gG : Nat} {A0 : Option Addr} {n c0 cD cG : Nat} {dep : List Int} {gone : List Bool} (h : Wk w0 W g gD gG A0 n c0 cD cG dep gone) (i : Int) (x : Bool) : Wk w0 (W.setCell ⟨gG, i.toNat, none⟩ (.bool x)) g gD gG A0 n c0 cD cG dep (gone.set i.toNat x) :=
  ⟨below_set h.hB h.bG, (cell_far h.nG _).trans h.f0, (cell_far h.nG _).trans h.f1, (cell_far h.nG _).trans h.f2, Kd.R_far h.hD (fun k hk => by subst hk; exact h.nn) _, (Kd.R_putg h.hG i x).1, h.bg, h.bD, h.bG, by rw [setSize]; exact h.lg, by rw [setSize]; exact h.lD, by rw [setSize]; exact h.lG, h.nD, h.nG, h.nn⟩
theorem Wk.cellD {w0 W : World} {g gD gG : Nat} {A0 : Option Addr} {n c0 cD cG : Nat} {dep : List Int} {gone : List Bool} (h : Wk w0 W g gD gG A0 n c0 cD cG dep gone) (i : Int) (h0 : 0 ≤ i) (h1 : i < (n : Int)) : W.cell? ⟨gD, i.toNat, none⟩ = some (.int .i64 (rd dep i)) ∧ W.frozen? ⟨gD, i.toNat, none⟩ = false := Kd.R_celln (0 : Int) h.hD i h0 h1
theorem Wk.cellG {w0 W : World} {g gD gG : Nat} {A0 : Option Addr} {n c0 cD cG : Nat} {dep : List Int} {gone : List Bool} (h : Wk w0 W g gD gG A0 n c0 cD cG dep gone) (i : Int) (h0 : 0 ≤ i) (h1 : i < (n : Int)) : W.cell? ⟨gG, i.toNat, none⟩ = some (.bool (rdOf false gone i)) ∧ W.frozen? ⟨gG, i.toNat, none⟩ = false := Kd.R_celln false h.hG i h0 h1
theorem leads_rest (w : World) (g : Nat) (A0 : Option Addr) (n c0 : Nat) (t d : Int) (h0 : w.cell? ⟨g, 0, none⟩ = some (.slice A0 n c0)) (ht : (n : Int) ≤ t) :
    Calls Try.prog 89 #[.pointer (some ⟨g, 0, none⟩), .int .i64 t, .int .i64 d] w fun e w' => e = .returned (.int .i64 6) ∧ w' = w := by
  go_enter Try.func89, Try.ntmps89
  go_wp2
  go_ret
  exact ⟨rfl, rfl⟩
theorem leads_new (w : World) (g gD : Nat) (A0 : Option Addr) (n c0 cD : Nat) (t d : Int) (h0 : w.cell? ⟨g, 0, none⟩ = some (.slice A0 n c0)) (h1 : w.cell? ⟨g, 1, none⟩ = some (.slice (some ⟨gD, 0, none⟩) n cD)) (hfD : w.frozen? ⟨gD, t.toNat, none⟩ = false) (hgg : g ≠ gD) (ht0 : 0 ≤ t) (ht : t < (n : Int)) (hx : w.cell? ⟨gD, t.toNat, none⟩ = some (.int .i64 (-1))) :
    Calls Try.prog 89 #[.pointer (some ⟨g, 0, none⟩), .int .i64 t, .int .i64 d] w fun e w' => e = .returned (.int .i64 0) ∧ w' = w.setCell ⟨gD, t.toNat, none⟩ (.int .i64 d) := by
  go_enter Try.func89, Try.ntmps89
  go_wp2
  go_ret
  exact ⟨rfl, rfl⟩
theorem leads_same (w : World) (g gD : Nat) (A0 : Option Addr) (n c0 cD : Nat) (t d : Int) (h0 : w.cell? ⟨g, 0, none⟩ = some (.slice A0 n c0)) (h1 : w.cell? ⟨g, 1, none⟩ = some (.slice (some ⟨gD, 0, none⟩) n cD)) (ht0 : 0 ≤ t) (ht : t < (n : Int)) (hx : w.cell? ⟨gD, t.toNat, none⟩ = some (.int .i64 d)) (hx1 : d ≠ -1) :
    Calls Try.prog 89 #[.pointer (some ⟨g, 0, none⟩), .int .i64 t, .int .i64 d] w fun e w' => e = .returned (.int .i64 0) ∧ w' = w := by
  have hx2 : (d == -1) = false := by simpa using hx1
  go_enter Try.func89, Try.ntmps89
  go_wp2
  go_ret
  exact ⟨rfl, rfl⟩
theorem leads_flow (w : World) (g gD : Nat) (A0 : Option Addr) (n c0 cD : Nat) (t d x : Int) (h0 : w.cell? ⟨g, 0, none⟩ = some (.slice A0 n c0)) (h1 : w.cell? ⟨g, 1, none⟩ = some (.slice (some ⟨gD, 0, none⟩) n cD)) (ht0 : 0 ≤ t) (ht : t < (n : Int)) (hx : w.cell? ⟨gD, t.toNat, none⟩ = some (.int .i64 x)) (hx1 : x ≠ -1) (hxd : x ≠ d) :
    Calls Try.prog 89 #[.pointer (some ⟨g, 0, none⟩), .int .i64 t, .int .i64 d] w fun e w' => e = .returned (.int .i64 16) ∧ w' = w := by
  have hx2 : (x == -1) = false := by simpa using hx1
  have hx3 : (x != d) = true := by simpa using hxd
  go_enter Try.func89, Try.ntmps89
  go_wp2
  go_ret
  exact ⟨rfl, rfl⟩
def leadsR (n t d : Int) (dep : List Int) : Int × List Int := if n ≤ t then (6, dep) else if rd dep t = -1 then (0, dep.set t.toNat d) else if rd dep t = d then (0, dep) else (16, dep)
theorem leads_calls {w0 W : World} {g gD gG : Nat} {A0 : Option Addr} {n c0 cD cG : Nat} {dep : List Int} {gone : List Bool} (h : Wk w0 W g gD gG A0 n c0 cD cG dep gone) (t d : Int) (ht0 : 0 ≤ t) :
    Calls Try.prog 89 #[.pointer (some ⟨g, 0, none⟩), .int .i64 t, .int .i64 d] W fun e W' => e = .returned (.int .i64 (leadsR n t d dep).1) ∧ Wk w0 W' g gD gG A0 n c0 cD cG (leadsR n t d dep).2 gone ∧ ∀ p : Addr, p.block ≠ gD → W'.cell? p = W.cell? p := by
  unfold leadsR
  by_cases h1 : (n : Int) ≤ t
  · simp only [h1, if_true]
    refine (leads_rest W g A0 n c0 t d h.f0 h1).mono ?_
    rintro e w' ⟨rfl, rfl⟩
    exact ⟨rfl, h, fun _ _ => rfl⟩
  · simp only [h1, if_false]
    have ht : t < (n : Int) := by omega
    obtain ⟨hx, hz⟩ := h.cellD t ht0 ht
    by_cases h2 : rd dep t = -1
    · simp only [h2, if_true]
      rw [h2] at hx
      refine (leads_new W g gD A0 n c0 cD t d h.f0 h.f1 hz h.nD ht0 ht hx).mono ?_
      rintro e w' ⟨rfl, rfl⟩
      exact ⟨rfl, h.setD t d, fun p hp => cell_far (p := ⟨gD, t.toNat, none⟩) hp _⟩
    · simp only [h2, if_false]
      by_cases h3 : rd dep t = d
      · simp only [h3, if_true]
        rw [h3] at hx h2
        refine (leads_same W g gD A0 n c0 cD t d h.f0 h.f1 ht0 ht hx h2).mono ?_
        rintro e w' ⟨rfl, rfl⟩
        exact ⟨rfl, h, fun _ _ => rfl⟩
      · simp only [h3, if_false]
        refine (leads_flow W g gD A0 n c0 cD t d _ h.f0 h.f1 ht0 ht hx h2 h3).mono ?_
        rintro e w' ⟨rfl, rfl⟩
        exact ⟨rfl, h, fun _ _ => rfl⟩
def goesR (n at_ N off on th : Int) (dep : List Int) : Int × List Int :=
  if rd dep at_ < off then (3, dep) else
  if wrap64 (wrap64 (rd dep at_ - off) + on) > 8 then (11, dep) else
  if th = 0 ∨ th = 2 then
    if (leadsR n (wrap64 (at_ + 1)) (wrap64 (wrap64 (rd dep at_ - off) + on)) dep).1 ≠ 0 then leadsR n (wrap64 (at_ + 1)) (wrap64 (wrap64 (rd dep at_ - off) + on)) dep
    else if th = 2 then leadsR n N (wrap64 (wrap64 (rd dep at_ - off) + on)) (leadsR n (wrap64 (at_ + 1)) (wrap64 (wrap64 (rd dep at_ - off) + on)) dep).2 else leadsR n (wrap64 (at_ + 1)) (wrap64 (wrap64 (rd dep at_ - off) + on)) dep
  else if th = 1 then leadsR n N (wrap64 (wrap64 (rd dep at_ - off) + on)) dep else (0, dep)
theorem goesR_a {n a N off on th : Int} {dep : List Int} (h : rd dep a < off) : goesR n a N off on th dep = (3, dep) := by unfold goesR; rw [if_pos h]
theorem goesR_b {n a N off on th : Int} {dep : List Int} (h : off ≤ rd dep a) (h2 : 8 < (wrap64 (wrap64 (rd dep a - off) + on))) : goesR n a N off on th dep = (11, dep) := by unfold goesR; rw [if_neg (by omega), if_pos h2]
theorem goesR_c {n a N off on th : Int} {dep : List Int} (h : off ≤ rd dep a) (h2 : (wrap64 (wrap64 (rd dep a - off) + on)) ≤ 8) (ht : th = 0 ∨ th = 2) (he : (leadsR n (wrap64 (a + 1)) (wrap64 (wrap64 (rd dep a - off) + on)) dep).1 ≠ 0) : goesR n a N off on th dep = (leadsR n (wrap64 (a + 1)) (wrap64 (wrap64 (rd dep a - off) + on)) dep) := by unfold goesR; rw [if_neg (by omega), if_neg (by omega), if_pos ht, if_pos he]
theorem goesR_c0 {n a N off on : Int} {dep : List Int} (h : off ≤ rd dep a) (h2 : (wrap64 (wrap64 (rd dep a - off) + on)) ≤ 8) (he : (leadsR n (wrap64 (a + 1)) (wrap64 (wrap64 (rd dep a - off) + on)) dep).1 = 0) : goesR n a N off on 0 dep = (leadsR n (wrap64 (a + 1)) (wrap64 (wrap64 (rd dep a - off) + on)) dep) := by unfold goesR; rw [if_neg (by omega), if_neg (by omega), if_pos (.inl rfl), if_neg (by simp [he]), if_neg (by decide)]
theorem goesR_c2 {n a N off on : Int} {dep : List Int} (h : off ≤ rd dep a) (h2 : (wrap64 (wrap64 (rd dep a - off) + on)) ≤ 8) (he : (leadsR n (wrap64 (a + 1)) (wrap64 (wrap64 (rd dep a - off) + on)) dep).1 = 0) : goesR n a N off on 2 dep = leadsR n N (wrap64 (wrap64 (rd dep a - off) + on)) (leadsR n (wrap64 (a + 1)) (wrap64 (wrap64 (rd dep a - off) + on)) dep).2 := by unfold goesR; rw [if_neg (by omega), if_neg (by omega), if_pos (.inr rfl), if_neg (by simp [he]), if_pos rfl]
theorem goesR_d {n a N off on : Int} {dep : List Int} (h : off ≤ rd dep a) (h2 : (wrap64 (wrap64 (rd dep a - off) + on)) ≤ 8) : goesR n a N off on 1 dep = leadsR n N (wrap64 (wrap64 (rd dep a - off) + on)) dep := by unfold goesR; rw [if_neg (by omega), if_neg (by omega), if_neg (by decide), if_pos rfl]
theorem goesR_e {n a N off on : Int} {dep : List Int} (h : off ≤ rd dep a) (h2 : (wrap64 (wrap64 (rd dep a - off) + on)) ≤ 8) : goesR n a N off on 3 dep = (0, dep) := by unfold goesR; rw [if_neg (by omega), if_neg (by omega), if_neg (by decide), if_neg (by decide)]
set_option maxRecDepth 100000 in
theorem goes_calls {w0 W : World} {g gD gG : Nat} {A0 : Option Addr} {n c0 cD cG : Nat} {dep : List Int} {gone : List Bool} {l0 : List S36} (at_ r1 off on th : Int) (h : Wk w0 W g gD gG A0 n c0 cD cG dep gone) (hL : Kd.C k36 w0 A0 n l0) (htab : inquestref15_table.f (rd_T36 l0 at_).f0 = some (r1, off, on, th))  (h0 : 0 ≤ at_) (h1 : at_ < (n : Int)) (hp1 : 0 ≤ wrap64 (at_ + 1)) (hth : th = 0 ∨ th = 1 ∨ th = 2 ∨ th = 3) (hN : th = 1 ∨ th = 2 → 0 ≤ (rd_T36 l0 at_).f1) :
    Calls Try.prog 77 #[.pointer (some ⟨g, 0, none⟩), .int .i64 at_] W fun e W' => e = .returned (.int .i64 (goesR n at_ (rd_T36 l0 at_).f1 off on th dep).1) ∧ Wk w0 W' g gD gG A0 n c0 cD cG (goesR n at_ (rd_T36 l0 at_).f1 off on th dep).2 (gone.set at_.toNat true) := by
  obtain ⟨hxG, hzG⟩ := h.cellG at_ h0 h1
  have hf0 := h.f0; have hf1 := h.f1; have hf2 := h.f2
  have hW1 := h.setG at_ true
  have hg0 := hW1.f0; have hg1 := hW1.f1; have hg2 := hW1.f2
  obtain ⟨ad, rfl, hy0, hy1⟩ := at_T36 (Kd.C_below hL hW1.hB) at_ h0 h1
  obtain ⟨hxD, hzD⟩ := hW1.cellD at_ h0 h1
  have hu55 := Try.underlying153
  rcases hth with rfl | rfl | rfl | rfl
  · clear hN
    go_enter Try.func77, Try.ntmps77
    go_wp2_with (first | ((with_reducible refine gate_callee (f := 88) rfl ?_); refine goesL_ (some 22) rfl rfl Try.func88 (by kernel_rfl) rfl #[.int .i64 (rd_T36 l0 at_).f0] rfl (by (try simp only [List.map_toArray, List.map_cons, List.map_nil]); first | done | rfl) ?_; (with_reducible refine (inquestref15_table.calls (rd_T36 l0 at_).f0 r1 off on 0 _ htab).mono ?_); rintro e w2 ⟨rfl, hb⟩; refine ⟨_, rfl, ?_⟩; have hW2 := hW1.came hb; clear hb; have hW3 := hW2.came (below_alloc (Below.refl _ _) (.cells #[.int .i64 r1, .int .i64 off, .int .i64 on, .int .i64 0] 153)); have hk1 := hW3.f1; have hk0 := hW3.f0; obtain ⟨ad3, e3, hz30, hz31⟩ := at_T36 (Kd.C_below hL hW3.hB) at_ h0 h1; cases e3; have hk2 := (hW3.cellD at_ h0 h1).1; have hb1 : (w2.alloc (.cells #[.int .i64 r1, .int .i64 off, .int .i64 on, .int .i64 0] 153)).cell? ⟨w2.heap.size, 1, none⟩ = some (.int .i64 off) := (blk_cell (blk_new w2 _) 1).trans rfl; have hb2 : (w2.alloc (.cells #[.int .i64 r1, .int .i64 off, .int .i64 on, .int .i64 0] 153)).cell? ⟨w2.heap.size, 2, none⟩ = some (.int .i64 on) := (blk_cell (blk_new w2 _) 2).trans rfl; have hb3 : (w2.alloc (.cells #[.int .i64 r1, .int .i64 off, .int .i64 on, .int .i64 0] 153)).cell? ⟨w2.heap.size, 3, none⟩ = some (.int .i64 0) := (blk_cell (blk_new w2 _) 3).trans rfl) | ((with_reducible refine gate_dst (N := 55) rfl ?_); refine goesL_ (some 55) rfl rfl Try.func89 (by kernel_rfl) rfl #[.pointer (some ⟨g, 0, none⟩), .int .i64 (wrap64 (at_ + 1)), .int .i64 (wrap64 (wrap64 (rd dep at_ - off) + on))] rfl (by (try simp only [List.map_toArray, List.map_cons, List.map_nil]); first | done | rfl) ?_; refine (leads_calls hW3 _ _ hp1).mono ?_; rintro e w4 ⟨rfl, hW4, hq⟩; have hc3 := (hq ⟨w2.heap.size, 3, none⟩ (by have := hW2.lD; exact fun e_ => by subst e_; exact absurd this (Nat.lt_irrefl _))).trans hb3; clear hq; have hl0 := hW4.f0; obtain ⟨ad4, e4, hv0, hv1⟩ := at_T36 (Kd.C_below hL hW4.hB) at_ h0 h1; cases e4; refine ⟨_, rfl, ?_⟩) | ((with_reducible refine gate_dst (N := 77) rfl ?_); refine goesL_ (some 77) rfl rfl Try.func89 (by kernel_rfl) rfl #[.pointer (some ⟨g, 0, none⟩), .int .i64 (rd_T36 l0 at_).f1, .int .i64 (wrap64 (wrap64 (rd dep at_ - off) + on))] rfl (by (try simp only [List.map_toArray, List.map_cons, List.map_nil]); first | done | rfl) ?_; (first | refine (leads_calls hW4 _ _ hp2).mono ?_ | refine (leads_calls hW3 _ _ hp2).mono ?_); rintro e w5 ⟨rfl, hW5, hq⟩; clear hq; refine ⟨_, rfl, ?_⟩))
    all_goals (try (rename_i hz; simp only [bne_iff_ne, ne_eq, bne_eq_false_iff_eq] at hz))
    all_goals go_ret
    all_goals (first | (rw [goesR_a (by assumption)]; exact ⟨rfl, by assumption⟩) | (rw [goesR_b (by assumption) (by assumption)]; exact ⟨rfl, by assumption⟩) | (rw [goesR_c (by assumption) (by assumption) (by decide) (by assumption)]; exact ⟨rfl, by assumption⟩) | (rw [goesR_c0 (by assumption) (by assumption) (by assumption)]; exact ⟨by simp [*], by assumption⟩) | (rw [goesR_c2 (by assumption) (by assumption) (bne_eq_false_iff_eq.mp (by assumption))]; exact ⟨rfl, by assumption⟩) | (rw [goesR_d (by assumption) (by assumption)]; exact ⟨rfl, by assumption⟩) | (rw [goesR_e (by assumption) (by assumption)]; exact ⟨rfl, by assumption⟩) | go_show)
  · have hp2 := hN (by decide)
    clear hN
    go_enter Try.func77, Try.ntmps77
    go_wp2_with (first | ((with_reducible refine gate_callee (f := 88) rfl ?_); refine goesL_ (some 22) rfl rfl Try.func88 (by kernel_rfl) rfl #[.int .i64 (rd_T36 l0 at_).f0] rfl (by (try simp only [List.map_toArray, List.map_cons, List.map_nil]); first | done | rfl) ?_; (with_reducible refine (inquestref15_table.calls (rd_T36 l0 at_).f0 r1 off on 1 _ htab).mono ?_); rintro e w2 ⟨rfl, hb⟩; refine ⟨_, rfl, ?_⟩; have hW2 := hW1.came hb; clear hb; have hW3 := hW2.came (below_alloc (Below.refl _ _) (.cells #[.int .i64 r1, .int .i64 off, .int .i64 on, .int .i64 1] 153)); have hk1 := hW3.f1; have hk0 := hW3.f0; obtain ⟨ad3, e3, hz30, hz31⟩ := at_T36 (Kd.C_below hL hW3.hB) at_ h0 h1; cases e3; have hk2 := (hW3.cellD at_ h0 h1).1; have hb1 : (w2.alloc (.cells #[.int .i64 r1, .int .i64 off, .int .i64 on, .int .i64 1] 153)).cell? ⟨w2.heap.size, 1, none⟩ = some (.int .i64 off) := (blk_cell (blk_new w2 _) 1).trans rfl; have hb2 : (w2.alloc (.cells #[.int .i64 r1, .int .i64 off, .int .i64 on, .int .i64 1] 153)).cell? ⟨w2.heap.size, 2, none⟩ = some (.int .i64 on) := (blk_cell (blk_new w2 _) 2).trans rfl; have hb3 : (w2.alloc (.cells #[.int .i64 r1, .int .i64 off, .int .i64 on, .int .i64 1] 153)).cell? ⟨w2.heap.size, 3, none⟩ = some (.int .i64 1) := (blk_cell (blk_new w2 _) 3).trans rfl) | ((with_reducible refine gate_dst (N := 55) rfl ?_); refine goesL_ (some 55) rfl rfl Try.func89 (by kernel_rfl) rfl #[.pointer (some ⟨g, 0, none⟩), .int .i64 (wrap64 (at_ + 1)), .int .i64 (wrap64 (wrap64 (rd dep at_ - off) + on))] rfl (by (try simp only [List.map_toArray, List.map_cons, List.map_nil]); first | done | rfl) ?_; refine (leads_calls hW3 _ _ hp1).mono ?_; rintro e w4 ⟨rfl, hW4, hq⟩; have hc3 := (hq ⟨w2.heap.size, 3, none⟩ (by have := hW2.lD; exact fun e_ => by subst e_; exact absurd this (Nat.lt_irrefl _))).trans hb3; clear hq; have hl0 := hW4.f0; obtain ⟨ad4, e4, hv0, hv1⟩ := at_T36 (Kd.C_below hL hW4.hB) at_ h0 h1; cases e4; refine ⟨_, rfl, ?_⟩) | ((with_reducible refine gate_dst (N := 77) rfl ?_); refine goesL_ (some 77) rfl rfl Try.func89 (by kernel_rfl) rfl #[.pointer (some ⟨g, 0, none⟩), .int .i64 (rd_T36 l0 at_).f1, .int .i64 (wrap64 (wrap64 (rd dep at_ - off) + on))] rfl (by (try simp only [List.map_toArray, List.map_cons, List.map_nil]); first | done | rfl) ?_; (first | refine (leads_calls hW4 _ _ hp2).mono ?_ | refine (leads_calls hW3 _ _ hp2).mono ?_); rintro e w5 ⟨rfl, hW5, hq⟩; clear hq; refine ⟨_, rfl, ?_⟩))
    all_goals (try (rename_i hz; simp only [bne_iff_ne, ne_eq, bne_eq_false_iff_eq] at hz))
    all_goals go_ret
    all_goals (first | (rw [goesR_a (by assumption)]; exact ⟨rfl, by assumption⟩) | (rw [goesR_b (by assumption) (by assumption)]; exact ⟨rfl, by assumption⟩) | (rw [goesR_c (by assumption) (by assumption) (by decide) (by assumption)]; exact ⟨rfl, by assumption⟩) | (rw [goesR_c0 (by assumption) (by assumption) (by assumption)]; exact ⟨by simp [*], by assumption⟩) | (rw [goesR_c2 (by assumption) (by assumption) (bne_eq_false_iff_eq.mp (by assumption))]; exact ⟨rfl, by assumption⟩) | (rw [goesR_d (by assumption) (by assumption)]; exact ⟨rfl, by assumption⟩) | (rw [goesR_e (by assumption) (by assumption)]; exact ⟨rfl, by assumption⟩) | go_show)
  · have hp2 := hN (by decide)
    clear hN
    go_enter Try.func77, Try.ntmps77
    go_wp2_with (first | ((with_reducible refine gate_callee (f := 88) rfl ?_); refine goesL_ (some 22) rfl rfl Try.func88 (by kernel_rfl) rfl #[.int .i64 (rd_T36 l0 at_).f0] rfl (by (try simp only [List.map_toArray, List.map_cons, List.map_nil]); first | done | rfl) ?_; (with_reducible refine (inquestref15_table.calls (rd_T36 l0 at_).f0 r1 off on 2 _ htab).mono ?_); rintro e w2 ⟨rfl, hb⟩; refine ⟨_, rfl, ?_⟩; have hW2 := hW1.came hb; clear hb; have hW3 := hW2.came (below_alloc (Below.refl _ _) (.cells #[.int .i64 r1, .int .i64 off, .int .i64 on, .int .i64 2] 153)); have hk1 := hW3.f1; have hk0 := hW3.f0; obtain ⟨ad3, e3, hz30, hz31⟩ := at_T36 (Kd.C_below hL hW3.hB) at_ h0 h1; cases e3; have hk2 := (hW3.cellD at_ h0 h1).1; have hb1 : (w2.alloc (.cells #[.int .i64 r1, .int .i64 off, .int .i64 on, .int .i64 2] 153)).cell? ⟨w2.heap.size, 1, none⟩ = some (.int .i64 off) := (blk_cell (blk_new w2 _) 1).trans rfl; have hb2 : (w2.alloc (.cells #[.int .i64 r1, .int .i64 off, .int .i64 on, .int .i64 2] 153)).cell? ⟨w2.heap.size, 2, none⟩ = some (.int .i64 on) := (blk_cell (blk_new w2 _) 2).trans rfl; have hb3 : (w2.alloc (.cells #[.int .i64 r1, .int .i64 off, .int .i64 on, .int .i64 2] 153)).cell? ⟨w2.heap.size, 3, none⟩ = some (.int .i64 2) := (blk_cell (blk_new w2 _) 3).trans rfl) | ((with_reducible refine gate_dst (N := 55) rfl ?_); refine goesL_ (some 55) rfl rfl Try.func89 (by kernel_rfl) rfl #[.pointer (some ⟨g, 0, none⟩), .int .i64 (wrap64 (at_ + 1)), .int .i64 (wrap64 (wrap64 (rd dep at_ - off) + on))] rfl (by (try simp only [List.map_toArray, List.map_cons, List.map_nil]); first | done | rfl) ?_; refine (leads_calls hW3 _ _ hp1).mono ?_; rintro e w4 ⟨rfl, hW4, hq⟩; have hc3 := (hq ⟨w2.heap.size, 3, none⟩ (by have := hW2.lD; exact fun e_ => by subst e_; exact absurd this (Nat.lt_irrefl _))).trans hb3; clear hq; have hl0 := hW4.f0; obtain ⟨ad4, e4, hv0, hv1⟩ := at_T36 (Kd.C_below hL hW4.hB) at_ h0 h1; cases e4; refine ⟨_, rfl, ?_⟩) | ((with_reducible refine gate_dst (N := 77) rfl ?_); refine goesL_ (some 77) rfl rfl Try.func89 (by kernel_rfl) rfl #[.pointer (some ⟨g, 0, none⟩), .int .i64 (rd_T36 l0 at_).f1, .int .i64 (wrap64 (wrap64 (rd dep at_ - off) + on))] rfl (by (try simp only [List.map_toArray, List.map_cons, List.map_nil]); first | done | rfl) ?_; (first | refine (leads_calls hW4 _ _ hp2).mono ?_ | refine (leads_calls hW3 _ _ hp2).mono ?_); rintro e w5 ⟨rfl, hW5, hq⟩; clear hq; refine ⟨_, rfl, ?_⟩))
    all_goals (try (rename_i hz; simp only [bne_iff_ne, ne_eq, bne_eq_false_iff_eq] at hz))
    all_goals go_ret
    all_goals (first | (rw [goesR_a (by assumption)]; exact ⟨rfl, by assumption⟩) | (rw [goesR_b (by assumption) (by assumption)]; exact ⟨rfl, by assumption⟩) | (rw [goesR_c (by assumption) (by assumption) (by decide) (by assumption)]; exact ⟨rfl, by assumption⟩) | (rw [goesR_c0 (by assumption) (by assumption) (by assumption)]; exact ⟨by simp [*], by assumption⟩) | (rw [goesR_c2 (by assumption) (by assumption) (bne_eq_false_iff_eq.mp (by assumption))]; exact ⟨rfl, by assumption⟩) | (rw [goesR_d (by assumption) (by assumption)]; exact ⟨rfl, by assumption⟩) | (rw [goesR_e (by assumption) (by assumption)]; exact ⟨rfl, by assumption⟩) | go_show)
  · clear hN
    go_enter Try.func77, Try.ntmps77
    go_wp2_with (first | ((with_reducible refine gate_callee (f := 88) rfl ?_); refine goesL_ (some 22) rfl rfl Try.func88 (by kernel_rfl) rfl #[.int .i64 (rd_T36 l0 at_).f0] rfl (by (try simp only [List.map_toArray, List.map_cons, List.map_nil]); first | done | rfl) ?_; (with_reducible refine (inquestref15_table.calls (rd_T36 l0 at_).f0 r1 off on 3 _ htab).mono ?_); rintro e w2 ⟨rfl, hb⟩; refine ⟨_, rfl, ?_⟩; have hW2 := hW1.came hb; clear hb; have hW3 := hW2.came (below_alloc (Below.refl _ _) (.cells #[.int .i64 r1, .int .i64 off, .int .i64 on, .int .i64 3] 153)); have hk1 := hW3.f1; have hk0 := hW3.f0; obtain ⟨ad3, e3, hz30, hz31⟩ := at_T36 (Kd.C_below hL hW3.hB) at_ h0 h1; cases e3; have hk2 := (hW3.cellD at_ h0 h1).1; have hb1 : (w2.alloc (.cells #[.int .i64 r1, .int .i64 off, .int .i64 on, .int .i64 3] 153)).cell? ⟨w2.heap.size, 1, none⟩ = some (.int .i64 off) := (blk_cell (blk_new w2 _) 1).trans rfl; have hb2 : (w2.alloc (.cells #[.int .i64 r1, .int .i64 off, .int .i64 on, .int .i64 3] 153)).cell? ⟨w2.heap.size, 2, none⟩ = some (.int .i64 on) := (blk_cell (blk_new w2 _) 2).trans rfl; have hb3 : (w2.alloc (.cells #[.int .i64 r1, .int .i64 off, .int .i64 on, .int .i64 3] 153)).cell? ⟨w2.heap.size, 3, none⟩ = some (.int .i64 3) := (blk_cell (blk_new w2 _) 3).trans rfl) | ((with_reducible refine gate_dst (N := 55) rfl ?_); refine goesL_ (some 55) rfl rfl Try.func89 (by kernel_rfl) rfl #[.pointer (some ⟨g, 0, none⟩), .int .i64 (wrap64 (at_ + 1)), .int .i64 (wrap64 (wrap64 (rd dep at_ - off) + on))] rfl (by (try simp only [List.map_toArray, List.map_cons, List.map_nil]); first | done | rfl) ?_; refine (leads_calls hW3 _ _ hp1).mono ?_; rintro e w4 ⟨rfl, hW4, hq⟩; have hc3 := (hq ⟨w2.heap.size, 3, none⟩ (by have := hW2.lD; exact fun e_ => by subst e_; exact absurd this (Nat.lt_irrefl _))).trans hb3; clear hq; have hl0 := hW4.f0; obtain ⟨ad4, e4, hv0, hv1⟩ := at_T36 (Kd.C_below hL hW4.hB) at_ h0 h1; cases e4; refine ⟨_, rfl, ?_⟩) | ((with_reducible refine gate_dst (N := 77) rfl ?_); refine goesL_ (some 77) rfl rfl Try.func89 (by kernel_rfl) rfl #[.pointer (some ⟨g, 0, none⟩), .int .i64 (rd_T36 l0 at_).f1, .int .i64 (wrap64 (wrap64 (rd dep at_ - off) + on))] rfl (by (try simp only [List.map_toArray, List.map_cons, List.map_nil]); first | done | rfl) ?_; (first | refine (leads_calls hW4 _ _ hp2).mono ?_ | refine (leads_calls hW3 _ _ hp2).mono ?_); rintro e w5 ⟨rfl, hW5, hq⟩; clear hq; refine ⟨_, rfl, ?_⟩))
    all_goals (try (rename_i hz; simp only [bne_iff_ne, ne_eq, bne_eq_false_iff_eq] at hz))
    all_goals go_ret
    all_goals (first | (rw [goesR_a (by assumption)]; exact ⟨rfl, by assumption⟩) | (rw [goesR_b (by assumption) (by assumption)]; exact ⟨rfl, by assumption⟩) | (rw [goesR_c (by assumption) (by assumption) (by decide) (by assumption)]; exact ⟨rfl, by assumption⟩) | (rw [goesR_c0 (by assumption) (by assumption) (by assumption)]; exact ⟨by simp [*], by assumption⟩) | (rw [goesR_c2 (by assumption) (by assumption) (bne_eq_false_iff_eq.mp (by assumption))]; exact ⟨rfl, by assumption⟩) | (rw [goesR_d (by assumption) (by assumption)]; exact ⟨rfl, by assumption⟩) | (rw [goesR_e (by assumption) (by assumption)]; exact ⟨rfl, by assumption⟩) | go_show)
theorem thru_big (A0 : Option Addr) (c0 : Nat) (l0 : List S36) (w : World) (h : (l0.length : Int) < 1 ∨ 200 < (l0.length : Int)) :
    Calls Try.prog 56 #[.slice A0 l0.length c0] w fun e w' => e = .returned (.tuple #[.slice none 0 0, .int .i64 0, .int .i64 5]) ∧ Below w.heap.size w w' := by
  have hb : (decide ((l0.length : Int) < 1) || decide ((l0.length : Int) > 200)) = true := by simpa using h
  rcases Nat.lt_or_ge l0.length 1 with h1 | h1
  · have h1' : ((l0.length : Int) < 1) = True := eq_true (by omega)
    go_enter Try.func56, Try.ntmps56
    go_wp2
    go_ret3
    exact ⟨rfl, Below.refl _ _⟩
  · have h1' : ((l0.length : Int) < 1) = False := eq_false (by omega)
    have h2' : (200 < (l0.length : Int)) = True := eq_true (by omega)
    go_enter Try.func56, Try.ntmps56
    go_wp2
    go_ret3
    exact ⟨rfl, Below.refl _ _⟩
structure L2 (w W : World) (g : Nat) (A0 : Option Addr) (n c0 a b : Nat) (oD oG vD vG : Value) : Prop where
  hB : Below w.heap.size w W
  hg : W.heap[g]? = some (.cells #[.slice A0 n c0, oD, oG] 135 (0, 0))
  bg : w.heap.size ≤ g
  hD : (Kd.int .i64).R 3 W w.heap.size (fun k => vD.ownBlock = some k) vD (List.replicate a (-1))
  hG : Kd.bool.R 4 W w.heap.size (fun k => vG.ownBlock = some k) vG (List.replicate b false)
section
variable {w W : World} {g : Nat} {A0 : Option Addr} {n c0 a b : Nat} {oD oG vD vG : Value}
theorem L2.came (h : L2 w W g A0 n c0 a b oD oG vD vG) {W' : World} (hb : Below W.heap.size W W') : L2 w W' g A0 n c0 a b oD oG vD vG :=
  ⟨below_step h.hB hb, blk_below h.hg hb, h.bg, Kd.R_below h.hD hb, Kd.R_below h.hG hb⟩
theorem L2.alloc (h : L2 w W g A0 n c0 a b oD oG vD vG) (o : Obj) : L2 w (W.alloc o) g A0 n c0 a b oD oG vD vG := h.came (below_alloc (Below.refl _ _) o)
theorem L2.drew (h : L2 w W g A0 n c0 a b oD oG vD vG) : L2 w W.drew g A0 n c0 a b oD oG vD vG := h.came (below_drew (Below.refl _ _))
theorem L2.drewN (h : L2 w W g A0 n c0 a b oD oG vD vG) (m : Nat) : L2 w (W.drewN m) g A0 n c0 a b oD oG vD vG := h.came (pw_below_drewN (Below.refl _ _) m)
theorem L2.nDG (h : L2 w W g A0 n c0 a b oD oG vD vG) : ∀ k, vD.ownBlock = some k → vG.ownBlock ≠ some k := by
  intro k hk hk2
  obtain ⟨_, cs, ho, _⟩ := h.hD
  rcases ho.2 with ⟨rfl, _⟩ | ⟨q, cap, cur, rfl, _, hq, _⟩
  · simp [Value.ownBlock] at hk
  · have e : q = k := by simpa [Value.ownBlock] using hk
    subst e
    exact Kd.R_ne h.hG hq (by decide) hk2.symm
theorem L2.setD (h : L2 w W g A0 n c0 a b oD oG vD vG) (v : Value) : L2 w (W.setCell ⟨g, 1, none⟩ v) g A0 n c0 a b v oG vD vG :=
  ⟨below_set h.hB h.bg, blk_put h.hg 1 v rfl, h.bg, Kd.R_far h.hD (fun k hk => fun e => Kd.R_ne h.hD h.hg (by decide) (by rw [hk, e])) v, Kd.R_far h.hG (fun k hk => fun e => Kd.R_ne h.hG h.hg (by decide) (by rw [hk, e])) v⟩
theorem L2.setG (h : L2 w W g A0 n c0 a b oD oG vD vG) (v : Value) : L2 w (W.setCell ⟨g, 2, none⟩ v) g A0 n c0 a b oD v vD vG :=
  ⟨below_set h.hB h.bg, blk_put h.hg 2 v rfl, h.bg, Kd.R_far h.hD (fun k hk => fun e => Kd.R_ne h.hD h.hg (by decide) (by rw [hk, e])) v, Kd.R_far h.hG (fun k hk => fun e => Kd.R_ne h.hG h.hg (by decide) (by rw [hk, e])) v⟩
theorem L2.f0 (h : L2 w W g A0 n c0 a b oD oG vD vG) : W.cell? ⟨g, 0, none⟩ = some (.slice A0 n c0) := blk_cell h.hg 0
theorem L2.f1 (h : L2 w W g A0 n c0 a b oD oG vD vG) : W.cell? ⟨g, 1, none⟩ = some oD := blk_cell h.hg 1
theorem L2.f2 (h : L2 w W g A0 n c0 a b oD oG vD vG) : W.cell? ⟨g, 2, none⟩ = some oG := blk_cell h.hg 2
theorem L2.z (h : L2 w W g A0 n c0 a b oD oG vD vG) (i : Nat) : W.frozen? ⟨g, i, none⟩ = false := blk_frozen h.hg i
end
section
variable {w W : World} {g : Nat} {A0 : Option Addr} {n c0 a b : Nat} {oD oG vD vG : Value} {ops : Array Oper} {o : Oper} {s : Act} {Q : Exit → Act → World → Prop} {Kc : Act → World → Prop} {E : Prop}
theorem L2.stepD (h : L2 w W g A0 n c0 a b oD oG vD vG) (hgd : o.guard = none) (x y : Operand) (ho : o.op = .call { callee := .builtin .append, args := #[x, y], argTypes := #[56, 56] })
    (hs : s.eval x = vD) (q : Nat) (ty : TypeId) (fr : Nat × Nat) (hx : s.eval y = .slice (some ⟨q, 0, none⟩) 1 1) (hbx : W.heap[q]? = some (.cells #[.int .i64 (-1)] ty fr)) (hl : a ≤ 1000)
    (hk : ∀ q2 cap w1, L2 w w1 g A0 n c0 (a + 1) b oD oG (.slice (some ⟨q2, 0, none⟩) ↑(a + 1) ↑cap) vG → (∀ (k : Nat) (cs : Array Value) (fr : Nat × Nat), W.heap[k]? = some (Obj.cells cs 4 fr) → w1.heap[k]? = some (Obj.cells cs 4 fr)) → Kc (s.put o.dst (.slice (some ⟨q2, 0, none⟩) ↑(a + 1) ↑cap)) w1) :
    if Region.wanted o (yielded ops s.tmps) = true then Oper.wp Try.prog o s W Kc Q else E := by
  obtain ⟨i0, hi, hzz⟩ := Option.map_eq_some_iff.1 info3
  simp only [Prod.mk.injEq] at hzz
  obtain ⟨hz0, hz1, hz2⟩ := hzz
  have hown : W.ownsRow w.heap.size 3 1 vD (List.replicate a (-1 : Int)).length _ := Kd.own_of_R h.hD
  refine step_append_lies W hgd x y 56 ho w.heap.size 3 i0 (.int .i64 0) 1 8 Try.underlying56 hi hz0 hz1 hz2 rfl (by decide) vD _ _ hs hown ⟨q, 0, none⟩ 1 1 [.int .i64 (-1)] hx rfl ?_ ?_ (by decide) (by simp [maxLen]; omega) (by simp; omega) h.hB.size _ rfl ?_
  · exact World.news_of_block hbx
  · intro u hu; rw [List.mem_singleton.1 hu]; rfl
  · intro q2 cap w1 hr hg hat hlt
    have hb1 : Below w.heap.size w w1 := h.hB.grown hg h.hB.size (own_base hown)
    rw [List.length_replicate] at hr ⊢
    refine hk q2 cap w1 ⟨hb1, blk_grown h.hg hg (Kd.R_ne h.hD h.hg (by decide)), h.bg, ?_, Kd.R_grown h.hG hg (fun k hk e => h.nDG k e.symm hk)⟩ ?_
    · refine Kd.R_of_own ?_ (fun k hk => hk)
      simpa [encs, List.replicate_succ'] using hr
    · intro k cs fr hk2
      refine blk_grown hk2 hg ?_
      intro e
      rcases hown.2 with ⟨rfl, _⟩ | ⟨q3, cap, cur, rfl, _, hq, _⟩
      · simp [Value.ownBlock] at e
      · have e2 : k = q3 := by simpa [Value.ownBlock] using e
        subst e2
        rw [hq] at hk2
        injection hk2 with hk2
        injection hk2 with _ hk2
        exact absurd hk2 (by decide)
theorem L2.stepG (h : L2 w W g A0 n c0 a b oD oG vD vG) (hgd : o.guard = none) (x y : Operand) (ho : o.op = .call { callee := .builtin .append, args := #[x, y], argTypes := #[123, 123] })
    (hs : s.eval x = vG) (q : Nat) (ty : TypeId) (fr : Nat × Nat) (hx : s.eval y = .slice (some ⟨q, 0, none⟩) 1 1) (hbx : W.heap[q]? = some (.cells #[.bool false] ty fr)) (hl : b ≤ 1000)
    (hk : ∀ q2 cap w1, L2 w w1 g A0 n c0 a (b + 1) oD oG vD (.slice (some ⟨q2, 0, none⟩) ↑(b + 1) ↑cap) → Kc (s.put o.dst (.slice (some ⟨q2, 0, none⟩) ↑(b + 1) ↑cap)) w1) :
    if Region.wanted o (yielded ops s.tmps) = true then Oper.wp Try.prog o s W Kc Q else E := by
  obtain ⟨i0, hi, hzz⟩ := Option.map_eq_some_iff.1 info4
  simp only [Prod.mk.injEq] at hzz
  obtain ⟨hz0, hz1, hz2⟩ := hzz
  have hown : W.ownsRow w.heap.size 4 1 vG (List.replicate b false).length _ := Kd.own_of_R h.hG
  refine step_append_lies W hgd x y 123 ho w.heap.size 4 i0 (.bool false) 1 1 Try.underlying123 hi hz0 hz1 hz2 rfl (by decide) vG _ _ hs hown ⟨q, 0, none⟩ 1 1 [.bool false] hx rfl ?_ ?_ (by decide) (by simp [maxLen]; omega) (by simp; omega) h.hB.size _ rfl ?_
  · exact World.news_of_block hbx
  · intro u hu; rw [List.mem_singleton.1 hu]; rfl
  · intro q2 cap w1 hr hg hat hlt
    have hb1 : Below w.heap.size w w1 := h.hB.grown hg h.hB.size (own_base hown)
    rw [List.length_replicate] at hr ⊢
    refine hk q2 cap w1 ⟨hb1, blk_grown h.hg hg (Kd.R_ne h.hG h.hg (by decide)), h.bg, Kd.R_grown h.hD hg (fun k hk e => h.nDG k hk e.symm), ?_⟩
    refine Kd.R_of_own ?_ (fun k hk => hk)
    simpa [encs, List.replicate_succ'] using hr
end
theorem L2.wk {w W : World} {g : Nat} {A0 : Option Addr} {n c0 : Nat} {vD vG : Value} (h : L2 w W g A0 n c0 n n vD vG vD vG) (hn : 1 ≤ n) :
    ∃ gD gG cD cG : Nat, vD = .slice (some ⟨gD, 0, none⟩) n cD ∧ vG = .slice (some ⟨gG, 0, none⟩) n cG ∧ Wk w W g gD gG A0 n c0 cD cG (List.replicate n (-1)) (List.replicate n false) := by
  have hD : W.ownsRow w.heap.size 3 1 vD (List.replicate n (-1 : Int)).length _ := Kd.own_of_R h.hD
  have hG : W.ownsRow w.heap.size 4 1 vG (List.replicate n false).length _ := Kd.own_of_R h.hG
  rw [List.length_replicate] at hD hG
  rcases hD.2 with ⟨_, h0⟩ | ⟨gD, cD, uD, rfl, bD, qD, _⟩
  · omega
  · rcases hG.2 with ⟨_, h0⟩ | ⟨gG, cG, uG, rfl, bG, qG, _⟩
    · omega
    · refine ⟨gD, gG, cD, cG, rfl, rfl, h.hB, h.f0, h.f1, h.f2, Kd.R_flat (fun h => h) h.hD (fun k h1 _ => ?_), Kd.R_flat (fun h => h) h.hG (fun k h1 _ => ?_), h.bg, bD, bG, blk_lt h.hg, blk_lt qD, blk_lt qG, blk_ne h.hg qD (by decide), blk_ne h.hg qG (by decide), blk_ne qD qG (by decide)⟩
      · simpa [Value.ownBlock] using h1.symm
      · simpa [Value.ownBlock] using h1.symm
theorem blk_new1 (w : World) (a b : Obj) : ((w.alloc a).alloc b).heap[w.heap.size + 1]? = some b := by simpa using blk_new (w.alloc a) b
theorem thr_w64 {i : Int} (h1 : -9223372036854775808 ≤ i) (h2 : i ≤ 9223372036854775807) : wrap64 i = i := by unfold wrap64; omega
def inquestref15_Through.l1 : Nat → List S36 → List Int → List Bool → Int → Option (List Int × Int × Int)
  | 0, _, _, _, _ => none
  | k + 1, l0, dep, gone, at_ =>
    if at_ < (l0.length : Int) then
      (if rdOf false gone at_ = true then inquestref15_Through.l1 k l0 dep gone (at_ + 1)
       else if rd dep at_ = -1 then inquestref15_Through.l1 k l0 dep gone (at_ + 1)
       else (inquestref15_table.f (rd_T36 l0 at_).f0).bind fun t =>
        if t.2.2.2 = 0 ∨ t.2.2.2 = 1 ∨ t.2.2.2 = 2 ∨ t.2.2.2 = 3 then
          (if t.2.2.2 = 1 ∨ t.2.2.2 = 2 → 0 ≤ (rd_T36 l0 at_).f1 then
            (if (goesR l0.length at_ (rd_T36 l0 at_).f1 t.2.1 t.2.2.1 t.2.2.2 dep).1 = 0 then inquestref15_Through.l1 k l0 (goesR l0.length at_ (rd_T36 l0 at_).f1 t.2.1 t.2.2.1 t.2.2.2 dep).2 (gone.set at_.toNat true) 0
             else some ([], at_, (goesR l0.length at_ (rd_T36 l0 at_).f1 t.2.1 t.2.2.1 t.2.2.2 dep).1))
           else none)
        else none)
    else some (dep, 0, 0)
def inquestref15_Through.l0 : Nat → Nat → List S36 → Nat → Option (List Int × Int × Int)
  | _, 0, _, _ => none
  | k, j + 1, l0, i =>
    if i < l0.length then
      (inquestref15_Is.f (rd_T36 l0 i).f0).bind fun b => if b = true then
        ((inquestref15_number.f (rd_T36 l0 i).f0 (rd_T36 l0 i).f1 l0.length).bind fun c => if c = true then inquestref15_Through.l0 k j l0 (i + 1) else some ([], (i : Int), 15))
        else some ([], (i : Int), 15)
    else inquestref15_Through.l1 k l0 ((List.replicate l0.length (-1)).set 0 0) (List.replicate l0.length false) 0
def inquestref15_Through.f (l0 : List S36) : Option (List Int × Int × Int) :=
  if (l0.length : Int) < 1 ∨ 200 < (l0.length : Int) then some ([], 0, 5) else inquestref15_Through.l0 ((l0.length + 1) * (l0.length + 2)) (l0.length + 1) l0 0
set_option maxHeartbeats 40000000 in
theorem thru_main (A0 : Option Addr) (c0 : Nat) (l0 : List S36) (k0 : Nat) (r1 : List Int) (r2 r3 : Int) (w : World) (h1 : 1 ≤ l0.length) (h2 : l0.length ≤ 200) (hL : Kd.C k36 w A0 l0.length l0) (hr : inquestref15_Through.l0 k0 (l0.length + 1) l0 0 = some (r1, r2, r3)) :
    Calls Try.prog 56 #[.slice A0 l0.length c0] w fun e w' => ∃ v0_, e = .returned (.tuple #[v0_, .int .i64 r2, .int .i64 r3]) ∧ (Kd.int .i64).R 3 w' w.heap.size (fun _ => True) v0_ r1 ∧ Below w.heap.size w w' := by
  have h1' : ((l0.length : Int) < 1) = False := eq_false (by omega)
  have h2' : (200 < (l0.length : Int)) = False := eq_false (by omega)
  replace hr := Aside0.mk hr
  go_enter Try.func56, Try.ntmps56
  go_wp2
  go_loopg [6] l0.length (fun k v6 W => ∃ (i : Nat) (vD vG : Value), v6 = .int .i64 i ∧ Aside0 (k + i = l0.length) ∧ Aside0 (inquestref15_Through.l0 k0 (k + 1) l0 i = some (r1, r2, r3)) ∧ L2 w W w.heap.size A0 l0.length c0 i i vD vG vD vG)
  case atStart => exact ⟨0, _, _, rfl, ⟨Nat.add_zero _⟩, hr, below_alloc (Below.refl _ _) _, blk_new w _, Nat.le_refl _, Kd.R_nil _ _ _ _ _, Kd.R_nil _ _ _ _ _⟩
  case round =>
    obtain ⟨i, vD, vG, rfl, hk, hr1, hI⟩ := hrel
    by_cases hil : (i : Int) < (l0.length : Int)
    · have p0 : (0 : Int) ≤ (i : Int) := Int.natCast_nonneg i
      obtain ⟨j, rfl⟩ : ∃ j, gk = j + 1 := ⟨gk - 1, by have := hk.out; omega⟩
      have hwi : wrap64 ((i : Int) + 1) = (i : Int) + 1 := thr_w64 (by omega) (by omega)
      obtain ⟨ad, rfl, hy0, hy1⟩ := at_T36 (Kd.C_below hL hI.hB) (i : Int) p0 hil
      simp only [Int.toNat_natCast] at hy0 hy1
      have hrr := hr1.out
      unfold inquestref15_Through.l0 at hrr
      rw [if_pos (by omega)] at hrr
      obtain ⟨b1, hIs, hrr⟩ := Option.bind_eq_some_iff.1 hrr
      cases b1 with
      | false =>
        rw [if_neg (by decide)] at hrr
        obtain ⟨rfl, rfl, rfl⟩ : [] = r1 ∧ (i : Int) = r2 ∧ (15 : Int) = r3 := by simpa using hrr
        clear hrr hr1 hr
        go_wp2_with (first | ((with_reducible refine gate_dst (N := 31) rfl ?_); refine goesL_ (some 31) rfl rfl Try.func75 (by kernel_rfl) rfl #[.int .i64 (rd_T36 l0 i).f0] rfl (by (try simp only [List.map_toArray, List.map_cons, List.map_nil]); first | done | rfl) ?_; (with_reducible refine (inquestref15_Is.calls (rd_T36 l0 i).f0 false _ hIs).mono ?_); rintro e w2 ⟨rfl, nd, rfl⟩; refine ⟨_, rfl, ?_⟩))
        go_ret3
        exact ⟨_, rfl, Kd.R_nil _ _ _ _ _, pw_below_drewN hI.hB nd⟩
      | true =>
        rw [if_pos rfl] at hrr
        obtain ⟨b2, hNu, hrr⟩ := Option.bind_eq_some_iff.1 hrr
        cases b2 with
        | false =>
          rw [if_neg (by decide)] at hrr
          obtain ⟨rfl, rfl, rfl⟩ : [] = r1 ∧ (i : Int) = r2 ∧ (15 : Int) = r3 := by simpa using hrr
          clear hrr hr1 hr
          go_wp2_with (first | ((with_reducible refine gate_dst (N := 31) rfl ?_); refine goesL_ (some 31) rfl rfl Try.func75 (by kernel_rfl) rfl #[.int .i64 (rd_T36 l0 i).f0] rfl (by (try simp only [List.map_toArray, List.map_cons, List.map_nil]); first | done | rfl) ?_; (with_reducible refine (inquestref15_Is.calls (rd_T36 l0 i).f0 true _ hIs).mono ?_); rintro e w2 ⟨rfl, nd, rfl⟩; refine ⟨_, rfl, ?_⟩) | (go_at_call 76; (with_reducible refine (inquestref15_number.calls (rd_T36 l0 i).f0 (rd_T36 l0 i).f1 l0.length false _ hNu).mono ?_); rintro e w3 ⟨rfl, hb⟩))
          go_ret3
          exact ⟨_, rfl, Kd.R_nil _ _ _ _ _, below_step (pw_below_drewN hI.hB nd) hb⟩
        | true =>
          rw [if_pos rfl] at hrr
          replace hrr := Aside0.mk hrr
          clear hr1 hr
          go_wp2_with (first | ((with_reducible refine gate_dst (N := 31) rfl ?_); refine goesL_ (some 31) rfl rfl Try.func75 (by kernel_rfl) rfl #[.int .i64 (rd_T36 l0 i).f0] rfl (by (try simp only [List.map_toArray, List.map_cons, List.map_nil]); first | done | rfl) ?_; (with_reducible refine (inquestref15_Is.calls (rd_T36 l0 i).f0 true _ hIs).mono ?_); rintro e w2 ⟨rfl, nd, rfl⟩; refine ⟨_, rfl, ?_⟩) | (go_at_call 76; (with_reducible refine (inquestref15_number.calls (rd_T36 l0 i).f0 (rd_T36 l0 i).f1 l0.length true _ hNu).mono ?_); rintro e w3 ⟨rfl, hb⟩))
          have hJ := (hI.drewN nd).came hb
          have k1 := hJ.drew.f1
          have k2 := hJ.drew.f2
          have k3 := fun X => (hJ.alloc X).drew.f1
          have k4 := fun X => (hJ.alloc X).drew.f2
          have k5 := fun X Y => ((hJ.alloc X).alloc Y).drew.f1
          have k6 := fun X Y => ((hJ.alloc X).alloc Y).drew.f2
          clear hy0 hy1 hIs hNu hL
          refine wp_region_noPanic ?_
          go_region_law (first | (refine L2.stepD (w := w) (g := w.heap.size) (A0 := some ad) (n := l0.length) (c0 := c0) (a := i) (b := i) (oD := vD) (oG := vG) (vD := vD) (vG := vG) (by repeat (first | assumption | (with_reducible refine L2.drew ?_) | (with_reducible refine L2.alloc ?_ _))) rfl (.tmp 49) (.tmp 50) rfl rfl _ 3 (0, 0) rfl (by repeat (first | assumption | (with_reducible exact blk_new _ _) | (with_reducible exact blk_new1 _ _ _) | (with_reducible refine blk_drew ?_) | (with_reducible refine blk_alloc ?_ _))) (by omega) ?_; intro q1 e1 w1 hJ1 hkeep; have k7 := hJ1.f1; have k8 := hJ1.f2; have k9 := fun X => (hJ1.alloc X).f1; have k10 := fun X => (hJ1.alloc X).f2) | (refine L2.stepG (w := w) (g := w.heap.size) (A0 := some ad) (n := l0.length) (c0 := c0) (a := i + 1) (b := i) (oD := vD) (oG := vG) (vD := .slice (some ⟨q1, 0, none⟩) ↑(i + 1) ↑e1) (vG := vG) (by repeat (first | assumption | (with_reducible refine L2.drew ?_) | (with_reducible refine L2.alloc ?_ _))) rfl (.tmp 55) (.tmp 56) rfl rfl _ 4 (0, 0) rfl (by repeat (first | assumption | (with_reducible exact blk_new _ _) | (with_reducible exact blk_new1 _ _ _) | (with_reducible refine blk_drew ?_) | (with_reducible refine blk_alloc ?_ _) | (refine hkeep _ _ _ ?_))) (by omega) ?_; intro q2 e2 w2 hJ2; have k11 := hJ2.f1; have k12 := hJ2.f2; have k13 := hJ2.z 1; have k14 := hJ2.z 2; have k15 := fun v => (hJ2.setD v).f2; have k16 := fun v => (hJ2.setD v).z 2))

          all_goals (refine NoPanic.normal ?_)
          all_goals
            (have hN := (hJ2.setD (.slice (some ⟨q1, 0, none⟩) (i + 1) e1)).setG (.slice (some ⟨q2, 0, none⟩) (i + 1) e2)
             go_wp2
             go_roundg j
             case measure => omega
             case rel => exact ⟨i + 1, _, _, rfl, ⟨by have := hk.out; omega⟩, hrr, hN⟩)
    · obtain rfl : i = l0.length := by have := hk.out; omega
      have hrr := hr1.out
      clear hr hr1
      unfold inquestref15_Through.l0 at hrr
      rw [if_neg (by omega)] at hrr
      replace hrr := Aside0.mk hrr
      obtain ⟨gD, gG, cD, cG, rfl, rfl, hW⟩ := hI.wk h1
      clear hI
      have hf0 := hW.f0; have hf1 := hW.f1; have hf2 := hW.f2
      obtain ⟨hx0, hz0⟩ := hW.cellD 0 (Int.le_refl _) (by omega)
      have p1 : (0 : Int) < (l0.length : Int) := by omega
      replace hx0 : wr.cell? ⟨gD, 0, none⟩ = _ := hx0
      replace hz0 : wr.frozen? ⟨gD, 0, none⟩ = false := hz0
      have hV := hW.setD 0 0
      replace hV : Wk w (wr.setCell ⟨gD, 0, none⟩ (.int .i64 0)) _ _ _ _ _ _ _ _ ((List.replicate l0.length (-1)).set 0 0) _ := hV
      clear hW
      go_wp2
      go_loopg [] k0 (fun k W => ∃ (dep : List Int) (gone : List Bool), Aside0 (inquestref15_Through.l1 k l0 dep gone 0 = some (r1, r2, r3)) ∧ Wk w W w.heap.size gD gG A0 l0.length c0 cD cG dep gone)
      case atStart => exact ⟨_, _, hrr, hV⟩
      case round =>
        obtain ⟨dep, gone, hrd, hU⟩ := hrel
        clear hV hrr hf0 hf1 hf2 hx0 hz0
        obtain ⟨m, hm⟩ : ∃ m, Aside0 (gk = m) := ⟨_, ⟨rfl⟩⟩
        go_wp2
        go_loopg [7] m (fun k v7 W => ∃ at_ : Int, v7 = .int .i64 at_ ∧ 0 ≤ at_ ∧ at_ ≤ (l0.length : Int) ∧ Aside0 (k ≤ m) ∧ Aside0 (inquestref15_Through.l1 k l0 dep gone at_ = some (r1, r2, r3)) ∧ Wk w W w.heap.size gD gG A0 l0.length c0 cD cG dep gone)
        case atStart => exact ⟨0, rfl, Int.le_refl _, by omega, ⟨Nat.le_refl _⟩, hm.out ▸ hrd, hU⟩
        case round =>
          obtain ⟨at_, rfl, ha0, ha1, hkm, hrd2, hV⟩ := hrel
          clear hU hrd
          have hf0 := hV.f0; have hf1 := hV.f1; have hf2 := hV.f2
          have hw0 : wrap64 (at_ + 1) = at_ + 1 := thr_w64 (by omega) (by omega)
          have hrr := hrd2.out
          clear hrd2
          cases gk with
          | zero => simp [inquestref15_Through.l1] at hrr
          | succ k' =>
            simp only [inquestref15_Through.l1] at hrr
            by_cases hat : at_ < (l0.length : Int)
            · obtain ⟨hxG, hzG⟩ := hV.cellG at_ ha0 hat
              obtain ⟨hxD, hzD⟩ := hV.cellD at_ ha0 hat
              rw [if_pos hat] at hrr
              cases hgn : rdOf false gone at_ with
              | true =>
                rw [if_pos hgn] at hrr
                replace hrr := Aside0.mk hrr
                rw [hgn] at hxG
                go_wp2
                go_roundg k'
                case measure => omega
                case rel => exact ⟨at_ + 1, rfl, by omega, by omega, ⟨by have := hkm.out; omega⟩, hrr, hV⟩
              | false =>
                rw [if_neg (by simp [hgn])] at hrr
                rw [hgn] at hxG
                by_cases hdp : rd dep at_ = -1
                · rw [if_pos hdp] at hrr
                  replace hrr := Aside0.mk hrr
                  rw [hdp] at hxD
                  go_wp2
                  go_roundg k'
                  case measure => omega
                  case rel => exact ⟨at_ + 1, rfl, by omega, by omega, ⟨by have := hkm.out; omega⟩, hrr, hV⟩
                · rw [if_neg hdp] at hrr
                  have hdp2 : (rd dep at_ == -1) = false := by simpa using hdp
                  obtain ⟨⟨t1, t2, t3, t4⟩, ht, hrr⟩ := Option.bind_eq_some_iff.1 hrr
                  dsimp only at hrr
                  by_cases hth : t4 = 0 ∨ t4 = 1 ∨ t4 = 2 ∨ t4 = 3
                  · rw [if_pos hth] at hrr
                    by_cases hN : t4 = 1 ∨ t4 = 2 → 0 ≤ (rd_T36 l0 at_).f1
                    · rw [if_pos hN] at hrr
                      have hgo := goes_calls at_ t1 t2 t3 t4 hV hL ht ha0 hat (by rw [hw0]; omega) hth hN
                      clear hth hN ht
                      generalize goesR l0.length at_ (rd_T36 l0 at_).f1 t2 t3 t4 dep = gr at hrr hgo
                      obtain ⟨ge, gd⟩ := gr
                      dsimp only at hrr hgo
                      replace hgo := Aside0.mk hgo
                      by_cases hge : ge = 0
                      · subst hge
                        rw [if_pos rfl] at hrr
                        replace hrr := Aside0.mk hrr
                        go_wp2_with (first | (go_at_call 77; (with_reducible refine hgo.out.mono ?_); rintro e w2 ⟨rfl, hW2⟩))
                        go_roundg k'
                        case measure => have e1 := hm.out; have e2 := hkm.out; omega
                        case rel => exact ⟨_, _, hrr, hW2⟩
                      · rw [if_neg hge] at hrr
                        obtain ⟨rfl, rfl, rfl⟩ : [] = r1 ∧ at_ = r2 ∧ ge = r3 := by simpa using hrr
                        have hge2 : (ge != 0) = true := by simpa using hge
                        clear hrr
                        go_wp2_with (first | (go_at_call 77; (with_reducible refine hgo.out.mono ?_); rintro e w2 ⟨rfl, hW2⟩))
                        go_ret3
                        exact ⟨_, rfl, Kd.R_nil _ _ _ _ _, hW2.hB⟩
                    · rw [if_neg hN] at hrr; exact absurd hrr (by simp)
                  · rw [if_neg hth] at hrr; exact absurd hrr (by simp)
            · rw [if_neg hat] at hrr
              obtain ⟨rfl, rfl, rfl⟩ : dep = r1 ∧ (0 : Int) = r2 ∧ (0 : Int) = r3 := by simpa using hrr
              obtain rfl : at_ = (l0.length : Int) := by omega
              clear hrr
              go_wp2
              go_ret3
              exact ⟨_, rfl, Kd.R_mono hV.hD (fun _ _ => trivial), hV.hB⟩
theorem inquestref15_Through.calls (A0 : Option Addr) (c0 : Nat) (l0 : List S36) (r1 : List Int) (r2 r3 : Int) (w : World) (hr0 : Kd.C k36 w A0 l0.length l0) (hc0 : l0.length ≤ c0) (h : inquestref15_Through.f l0 = some (r1, r2, r3)) :
    Calls Try.prog 56 #[.slice A0 l0.length c0] w fun e w' => ∃ v0_, e = .returned (.tuple #[v0_, .int .i64 r2, .int .i64 r3]) ∧ Kd.R (Kd.int .i64) 3 w' w.heap.size (fun _ => True) v0_ r1 ∧ Below w.heap.size w w' := by
  unfold inquestref15_Through.f at h
  by_cases c : (l0.length : Int) < 1 ∨ 200 < (l0.length : Int)
  · rw [if_pos c] at h
    obtain ⟨rfl, rfl, rfl⟩ : [] = r1 ∧ (0 : Int) = r2 ∧ (5 : Int) = r3 := by simpa using h
    refine (thru_big A0 c0 l0 w c).mono ?_
    rintro e w' ⟨rfl, hb⟩
    exact ⟨_, rfl, Kd.R_nil _ _ _ _ _, hb⟩
  · rw [if_neg c] at h
    exact thru_main A0 c0 l0 _ r1 r2 r3 w (by omega) (by omega) hr0 h
def inquestref15_Check.f (l0 : List (S36)) : Option (Int × Int) := (inquestref15_Through.f l0).bind fun bt167 => (some (bt167.2.1, bt167.2.2))
set_option maxHeartbeats 8000000 in
set_option maxRecDepth 100000 in
theorem inquestref15_Check.calls (A0 : Option Addr) (c0 : Nat) (l0 : List (S36)) (r1 : Int) (r2 : Int) (w : World) (hr0 : Kd.C k36 w A0 l0.length l0) (hc0 : l0.length ≤ c0) (h : inquestref15_Check.f l0 = some (r1, r2)) :
    Calls Try.prog 24 #[.slice A0 l0.length c0] w fun e w' => e = .returned (.tuple #[.int .i64 r1, .int .i64 r2]) ∧ Below w.heap.size w w' := by
  have HR0 := Aside0.mk hr0
  have HC0 := Aside0.mk hc0
  clear hr0 hc0
  have HB := Aside0.mk (Below.refl w.heap.size w)
  have H : ((inquestref15_Through.f l0).bind fun bt167 => (some (bt167.2.1, bt167.2.2))) = some (r1, r2) := h
  clear h
  replace H := Option.bind_eq_some_iff.mp H
  obtain ⟨⟨t167, t168, t169⟩, A20, H⟩ := H
  replace H : (some (t168, t169)) = some (r1, r2) := H
  have A2 := Aside0.mk A20
  clear A20
  simp only [Option.some.injEq, Prod.mk.injEq] at H
  obtain ⟨rfl, rfl⟩ := H
  go_enter Try.func24, Try.ntmps24
  go_wp2_with (first | ((with_reducible refine gate_callee (f := 56) rfl ?_); refine goesL_ (some 9) rfl rfl Try.func56 (by kernel_rfl) rfl #[.slice A0 l0.length c0] rfl (by (try simp only [List.map_toArray, List.map_cons, List.map_nil]); first | done | rfl | (simp only [List.length_drop, List.length_take]; rfl)) ?_; (with_reducible refine (inquestref15_Through.calls _ _ l0 t167 t168 t169 _ ?side1 ?side2 A2.out).mono ?_); (case side1 => repeat (first | exact HR0.out | (with_reducible refine Kd.C_alloc ?_ _) | (with_reducible refine Kd.C_drewN ?_ _) | (with_reducible refine Kd.C_drew ?_))); (case side2 => exact HC0.out); rintro e w3 ⟨v170, rfl, ho0, hb⟩; refine ⟨_, rfl, ?_⟩; have n0_ := Aside0.mk (Kd.R_lower ho0 (below_size (by repeat (first | (with_reducible first | exact HB.out | apply below_alloc | apply pw_below_drewN | apply below_drew1) | exact HB.out)))); have n1_ := Aside0.mk (below_step (by repeat (first | (with_reducible first | exact HB.out | apply below_alloc | apply pw_below_drewN | apply below_drew1) | exact HB.out)) hb); clear HB; have HO171 := n0_; have HB := n1_; clear n0_ n1_; (try clear hb); (try clear hb2); (try clear hk); (try clear hi); (try clear ho0)))
  go_ret2
  exact ⟨by first | rfl | (simp [errW_none, errW_some] <;> rfl) | (simp [*, errW_none, errW_some] <;> rfl), by repeat (first | (with_reducible first | exact HB.out | apply below_alloc | apply pw_below_drewN | apply below_drew1) | exact HB.out)⟩
def inquestref15_Same.l0 : Nat → List (S36) → List (S36) → Int → Option (Bool)
  | 0, _, _, _ => none
  | k + 1, x0, x1, x5 => if x5 < (x0.length : Int) then (if 0 ≤ x5 then (if x5 < (x1.length : Int) then (if (!(((rd_T36 x0 x5).f0) == ((rd_T36 x1 x5).f0)) || (!(((rd_T36 x0 x5).f1) == ((rd_T36 x1 x5).f1)))) = true then (some false) else (inquestref15_Same.l0 k x0 x1 (wrap64 (x5 + 1)))) else (none)) else (none)) else (some true)
def inquestref15_Same.f (k : Nat) (l0 : List (S36)) (l1 : List (S36)) : Option (Bool) := if (l0.length : Int) = (l1.length : Int) then (inquestref15_Same.l0 k l0 l1 0) else (some false)
set_option maxHeartbeats 8000000 in
set_option maxRecDepth 100000 in
theorem inquestref15_Same.calls (k : Nat) (A0 : Option Addr) (c0 : Nat) (l0 : List (S36)) (A1 : Option Addr) (c1 : Nat) (l1 : List (S36)) (r : Bool) (w : World) (hr0 : Kd.C k36 w A0 l0.length l0) (hc0 : l0.length ≤ c0) (hr1 : Kd.C k36 w A1 l1.length l1) (hc1 : l1.length ≤ c1) (h : inquestref15_Same.f k l0 l1 = some r) :
    Calls Try.prog 25 #[.slice A0 l0.length c0, .slice A1 l1.length c1] w fun e w' => e = .returned (.bool r) ∧ Drawn0 w w' := by
  have hu36 := Try.underlying36
  have HR0 := Aside0.mk hr0
  have HC0 := Aside0.mk hc0
  clear hr0 hc0
  have HR1 := Aside0.mk hr1
  have HC1 := Aside0.mk hc1
  clear hr1 hc1
  have H : (if (l0.length : Int) = (l1.length : Int) then (inquestref15_Same.l0 k l0 l1 0) else (some false)) = some r := h
  clear h
  by_cases c3 : (l0.length : Int) = (l1.length : Int)
  · rw [if_pos c3] at H
    have c3b0 : ((l0.length : Int) == (l1.length : Int)) = true := beq_iff_eq.mpr c3
    have c3b1 : ((l0.length : Int) != (l1.length : Int)) = false := bne_eq_false_iff_eq.mpr c3
    have c3b2 : (l0.length == l1.length) = true := by first | simpa using c3 | (simp at c3 ⊢; omega)
    clear c3
    have H' := Aside0.mk H
    clear H
    go_enter Try.func25, Try.ntmps25
    go_wp2
    repeat (go_quiet (fail); try go_wp2)
    go_loopg [5] k (fun kq v5 w' => ∃ (x5_1 : Int), v5 = .int .i64 x5_1 ∧ Aside0 (inquestref15_Same.l0 kq l0 l1 x5_1 = some r) ∧ Aside0 (kq ≤ k) ∧ Drawn0 w w')
    case atStart => exact ⟨(0), (by first | rfl | (simp; done) | (simp [*]; done)), H', ⟨Nat.le_refl _⟩, by repeat (first | exact Drawn0.refl _ | apply Drawn0.step)⟩
    case round =>
      clear H'
      try clear c1
      try clear c2
      try clear p2
      try clear c3
      try clear c3b0
      try clear c3b1
      try clear c3b2
      obtain ⟨x5_1, rfl, HA, HK1, ⟨m1, rfl⟩⟩ := hrel
      cases gk with
      | zero => exact absurd HA.out (by simp [inquestref15_Same.l0])
      | succ k1 =>
        have H := HA.out
        clear HA
        simp only [inquestref15_Same.l0] at H
        by_cases c4 : x5_1 < (l0.length : Int)
        · rw [if_pos c4] at H
          have c4b0 : decide (x5_1 < (l0.length : Int)) = true := decide_eq_true c4
          clear c4
          by_cases c5 : 0 ≤ x5_1
          · rw [if_pos c5] at H
            have c5b0 : decide (0 ≤ x5_1) = true := decide_eq_true c5
            clear c5
            by_cases c6 : x5_1 < (l1.length : Int)
            · rw [if_pos c6] at H
              have c6b0 : decide (x5_1 < (l1.length : Int)) = true := decide_eq_true c6
              clear c6
              by_cases c7 : (!(((rd_T36 l0 x5_1).f0) == ((rd_T36 l1 x5_1).f0)) || (!(((rd_T36 l0 x5_1).f1) == ((rd_T36 l1 x5_1).f1)))) = true
              · rw [if_pos c7] at H
                have c7b0 : (!(((rd_T36 l0 x5_1).f0) == ((rd_T36 l1 x5_1).f0)) || (!(((rd_T36 l0 x5_1).f1) == ((rd_T36 l1 x5_1).f1)))) = true := c7
                clear c7
                obtain rfl := Option.some.inj H
                have p172 : 0 ≤ (x5_1 : Int) := of_decide_eq_true (by first | (with_reducible assumption) | assumption)
                have q172 : x5_1 < (l0.length : Int) := of_decide_eq_true (by first | (with_reducible assumption) | assumption)
                obtain ⟨ad172, e172, hx172_0, hx172_1⟩ := at_T36 HR0.out x5_1 p172 q172
                cases e172
                replace p172 := eq_true p172
                replace q172 := eq_true q172
                have p173 : 0 ≤ (x5_1 : Int) := of_decide_eq_true (by first | (with_reducible assumption) | assumption)
                have q173 : x5_1 < (l1.length : Int) := of_decide_eq_true (by first | (with_reducible assumption) | assumption)
                obtain ⟨ad173, e173, hx173_0, hx173_1⟩ := at_T36 HR1.out x5_1 p173 q173
                cases e173
                replace p173 := eq_true p173
                replace q173 := eq_true q173
                go_wp2
                repeat (go_quiet (fail); try go_wp2)
                go_ret
                exact ⟨by first | rfl | (simp; done) | (simp [*]; done), by repeat (first | exact Drawn0.refl _ | apply Drawn0.step)⟩
              · rw [if_neg c7] at H
                have c7b0 : (!(((rd_T36 l0 x5_1).f0) == ((rd_T36 l1 x5_1).f0)) || (!(((rd_T36 l0 x5_1).f1) == ((rd_T36 l1 x5_1).f1)))) = false := by simpa using c7
                clear c7
                have H' := Aside0.mk H
                clear H
                have p172 : 0 ≤ (x5_1 : Int) := of_decide_eq_true (by first | (with_reducible assumption) | assumption)
                have q172 : x5_1 < (l0.length : Int) := of_decide_eq_true (by first | (with_reducible assumption) | assumption)
                obtain ⟨ad172, e172, hx172_0, hx172_1⟩ := at_T36 HR0.out x5_1 p172 q172
                cases e172
                replace p172 := eq_true p172
                replace q172 := eq_true q172
                have p173 : 0 ≤ (x5_1 : Int) := of_decide_eq_true (by first | (with_reducible assumption) | assumption)
                have q173 : x5_1 < (l1.length : Int) := of_decide_eq_true (by first | (with_reducible assumption) | assumption)
                obtain ⟨ad173, e173, hx173_0, hx173_1⟩ := at_T36 HR1.out x5_1 p173 q173
                cases e173
                replace p173 := eq_true p173
                replace q173 := eq_true q173
                go_wp2
                repeat (go_quiet (fail); try go_wp2)
                go_roundg k1
                case measure => have := HK1.out; omega
                case rel => exact ⟨(wrap64 (x5_1 + 1)), (by first | rfl | (simp; done) | (simp [*]; done)), H', ⟨by have := HK1.out; omega⟩, by repeat (first | exact Drawn0.refl _ | apply Drawn0.step)⟩
            · rw [if_neg c6] at H
              exact absurd H (by simp)
          · rw [if_neg c5] at H
            exact absurd H (by simp)
        · rw [if_neg c4] at H
          have c4b0 : decide (x5_1 < (l0.length : Int)) = false := decide_eq_false c4
          clear c4
          obtain rfl := Option.some.inj H
          go_wp2
          repeat (go_quiet (fail); try go_wp2)
          go_ret
          exact ⟨by first | rfl | (simp; done) | (simp [*]; done), by repeat (first | exact Drawn0.refl _ | apply Drawn0.step)⟩
  · rw [if_neg c3] at H
    have c3b0 : ((l0.length : Int) == (l1.length : Int)) = false := beq_eq_false_iff_ne.mpr c3
    have c3b1 : ((l0.length : Int) != (l1.length : Int)) = true := bne_iff_ne.mpr c3
    have c3b2 : (l0.length == l1.length) = false := by first | simpa using c3 | (simp at c3 ⊢; omega)
    obtain rfl := Option.some.inj H
    go_enter Try.func25, Try.ntmps25
    go_wp2
    repeat (go_quiet (fail); try go_wp2)
    go_ret
    exact ⟨by first | rfl | (simp; done) | (simp [*]; done), by repeat (first | exact Drawn0.refl _ | apply Drawn0.step)⟩
def vm_bit.f (a0 : Bool) : Option (Int) := if a0 = true then (some 1) else (some 0)
set_option maxHeartbeats 8000000 in
set_option maxRecDepth 100000 in
theorem vm_bit.calls (a0 : Bool) (r : Int) (w : World) (h : vm_bit.f a0 = some r) :
    Calls Try.prog 92 #[.bool a0] w fun e w' => e = .returned (.int .i64 r) ∧ Drawn0 w w' := by
  have H : (if a0 = true then (some 1) else (some 0)) = some r := h
  clear h
  by_cases c2 : a0 = true
  · subst c2
    have H1 : (some 1) = some r := by rw [if_pos rfl] at H; exact H
    clear H
    have H := H1
    clear H1
    obtain rfl := Option.some.inj H
    go_enter Try.func92, Try.ntmps92
    go_wp2
    go_ret
    exact ⟨by first | rfl | (simp; done) | (simp [*]; done), by repeat (first | exact Drawn0.refl _ | apply Drawn0.step)⟩
  · replace c2 := Bool.eq_false_iff.mpr c2
    subst c2
    have H1 : (some 0) = some r := by rw [if_neg (show ¬ (false = true) by decide)] at H; exact H
    clear H
    have H := H1
    clear H1
    obtain rfl := Option.some.inj H
    go_enter Try.func92, Try.ntmps92
    go_wp2
    go_ret
    exact ⟨by first | rfl | (simp; done) | (simp [*]; done), by repeat (first | exact Drawn0.refl _ | apply Drawn0.step)⟩
-- NOT PRINTED: function 27 (inquestlaw16_Call_fuel)

-- NOT PRINTED: function 80 (inquestref16_Run_one)

end Go.Proofs.Ytddkoimaghcbeaa.PVmSteps
