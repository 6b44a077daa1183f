-- Written by a program of this session (wip/bin/patch_print.py): a turned copy of the kit's printer. Not trusted: Lean checks it.
import Derived.Test.YtofhghpahmeolaaPHistBeforex0
import Derived.Test.YtofhghpahmeolaaPHistBeforex1
import Derived.Test.YtofhghpahmeolaaPHistBeforex3
namespace Go.Proofs.Ytofhghpahmeolaa.PHistBefore
open Go.RowKit Go.Proofs.YtofhghpahmeolaaW.PrintWords Go.Proofs.YtofhghpahmeolaaW.PrintLast Go.Proofs.YtofhghpahmeolaaW.PrintMore
attribute [local go_sem] max2_int min2_int max_two min_two max_three min_three max_four min_four   -- for this text's walks alone
set_option linter.unusedVariables false
set_option linter.unusedSimpArgs false

/-! ### inquestref01_Least: function 18 -/
def inquestref01_Least.f (a0 : Int) (a1 : Int) (a2 : Int) : Option (Int) := if a0 < a1 then (some a1) else (if a0 > a2 then (some a2) else (some a0))
set_option maxHeartbeats 8000000 in
set_option maxRecDepth 100000 in
theorem inquestref01_Least.calls (a0 : Int) (a1 : Int) (a2 : Int) (r : Int) (w : World) (h : inquestref01_Least.f a0 a1 a2 = some r) :
    Calls Try.prog 18 #[.int .i64 a0, .int .i64 a1, .int .i64 a2] w fun e w' => e = .returned (.int .i64 r) ∧ Drawn0 w w' := by
  have H : (if a0 < a1 then (some a1) else (if a0 > a2 then (some a2) else (some a0))) = some r := h
  clear h
  by_cases c4 : a0 < a1
  · rw [if_pos c4] at H
    have c4b0 : decide (a0 < a1) = true := decide_eq_true c4
    clear c4
    obtain rfl := Option.some.inj H
    go_enter Try.func18, Try.ntmps18
    go_wp2
    go_ret
    exact ⟨by first | rfl | (simp; done) | (simp [*]; done), by repeat (first | exact Drawn0.refl _ | apply Drawn0.step)⟩
  · rw [if_neg c4] at H
    have c4b0 : decide (a0 < a1) = false := decide_eq_false c4
    clear c4
    by_cases c5 : a0 > a2
    · rw [if_pos c5] at H
      have c5b0 : decide (a2 < a0) = true := decide_eq_true c5
      clear c5
      obtain rfl := Option.some.inj H
      go_enter Try.func18, Try.ntmps18
      go_wp2
      go_ret
      exact ⟨by first | rfl | (simp; done) | (simp [*]; done), by repeat (first | exact Drawn0.refl _ | apply Drawn0.step)⟩
    · rw [if_neg c5] at H
      have c5b0 : decide (a2 < a0) = false := decide_eq_false c5
      clear c5
      obtain rfl := Option.some.inj H
      go_enter Try.func18, Try.ntmps18
      go_wp2
      go_ret
      exact ⟨by first | rfl | (simp; done) | (simp [*]; done), by repeat (first | exact Drawn0.refl _ | apply Drawn0.step)⟩

/-! ### hist_Before: function 19 -/
def hist_Before.f (a0_0 : Int) (a0_1 : Int) (a0_2 : Int) (a0_3 : Bool) (a0_4 : Int) (a0_5 : Int) (a0_6 : Int) (a1_0 : Int) (a1_1 : Int) (a1_2 : Int) (a1_3 : Bool) (a1_4 : Int) (a1_5 : Int) (a1_6 : Int) : Option (Bool) := if a0_3 = true then (some (decide (a0_6 < a1_5))) else (some false)
set_option maxHeartbeats 8000000 in
set_option maxRecDepth 100000 in
theorem hist_Before.calls (a0_0 : Int) (a0_1 : Int) (a0_2 : Int) (a0_3 : Bool) (a0_4 : Int) (a0_5 : Int) (a0_6 : Int) (a1_0 : Int) (a1_1 : Int) (a1_2 : Int) (a1_3 : Bool) (a1_4 : Int) (a1_5 : Int) (a1_6 : Int) (r : Bool) (w : World) (h : hist_Before.f a0_0 a0_1 a0_2 a0_3 a0_4 a0_5 a0_6 a1_0 a1_1 a1_2 a1_3 a1_4 a1_5 a1_6 = some r) :
    Calls Try.prog 19 #[.agg #[.int .i64 a0_0, .int .i64 a0_1, .int .i64 a0_2, .bool a0_3, .int .i64 a0_4, .int .i64 a0_5, .int .i64 a0_6], .agg #[.int .i64 a1_0, .int .i64 a1_1, .int .i64 a1_2, .bool a1_3, .int .i64 a1_4, .int .i64 a1_5, .int .i64 a1_6]] w fun e w' => e = .returned (.bool r) ∧ Below w.heap.size w w' := by
  have hu40 := Try.underlying40
  have HB := Aside0.mk (Below.refl w.heap.size w)
  have H : (if a0_3 = true then (some (decide (a0_6 < a1_5))) else (some false)) = some r := h
  clear h
  by_cases c3 : a0_3 = true
  · subst c3
    have H1 : (some (decide (a0_6 < a1_5))) = some r := by rw [if_pos rfl] at H; exact H
    clear H
    have H := H1
    clear H1
    obtain rfl := Option.some.inj H
    go_enter Try.func19, Try.ntmps19
    go_wp2_with (first | ((with_reducible refine gate_dst (N := 2) rfl ?_); refine box_event ?hg (N := 2) ?hd (cs := #[.int .i64 a0_0, .int .i64 a0_1, .int .i64 a0_2, .bool true, .int .i64 a0_4, .int .i64 a0_5, .int .i64 a0_6]) (t := 40) ?hr ?_; (case hd => rfl); (case hg => rfl); (case hr => first | (go_simp; done) | (go_simp; rfl)); intro gb136 hg w4 hbox hb; have n0_ := Aside0.mk (below_step (by repeat (first | (with_reducible first | exact HB.out | apply below_alloc | apply pw_below_drewN | apply below_drew1) | exact HB.out)) hb); have n1_ := Aside0.mk (hbox); have n2_ := Aside0.mk ((by rw [hg]; exact (below_size (by repeat (first | (with_reducible first | exact HB.out | apply below_alloc | apply pw_below_drewN | apply below_drew1) | exact HB.out))) : w.heap.size ≤ gb136)); have n3_ := Aside0.mk ((by rw [hg]; exact (below_size (by repeat (first | (with_reducible first | exact HB.out | apply below_alloc | apply pw_below_drewN | apply below_drew1) | exact HB.out))) : w.heap.size ≤ gb136)); clear HB; have HB := n0_; have BK136 := n1_; have GW136 := n2_; have GE136 := n3_; clear n0_ n1_ n2_ n3_; clear hb hbox hg) | ((with_reducible refine gate_dst (N := 3) rfl ?_); refine box_event ?hg (N := 3) ?hd (cs := #[.int .i64 a1_0, .int .i64 a1_1, .int .i64 a1_2, .bool a1_3, .int .i64 a1_4, .int .i64 a1_5, .int .i64 a1_6]) (t := 40) ?hr ?_; (case hd => rfl); (case hg => rfl); (case hr => first | (go_simp; done) | (go_simp; rfl)); intro gb137 hg w5 hbox hb; have n0_ := Aside0.mk (blk_below (g := gb136) (o := .cells #[.int .i64 a0_0, .int .i64 a0_1, .int .i64 a0_2, .bool true, .int .i64 a0_4, .int .i64 a0_5, .int .i64 a0_6] 40 (0, 0)) (by (with_reducible repeat (first | refine blk_drewN ?_ _ | refine blk_drew ?_ | refine blk_alloc ?_ _)); exact BK136.out) hb); have n1_ := Aside0.mk (below_step (by repeat (first | (with_reducible first | exact HB.out | apply below_alloc | apply pw_below_drewN | apply below_drew1 | refine below_set ?_ GE136.out) | exact HB.out)) hb); have n2_ := Aside0.mk (hbox); have n3_ := Aside0.mk ((by rw [hg]; exact (below_size (by repeat (first | (with_reducible first | exact HB.out | apply below_alloc | apply pw_below_drewN | apply below_drew1 | refine below_set ?_ GE136.out) | exact HB.out))) : w.heap.size ≤ gb137)); have n4_ := Aside0.mk ((by rw [hg]; exact (below_size (by repeat (first | (with_reducible first | exact HB.out | apply below_alloc | apply pw_below_drewN | apply below_drew1 | refine below_set ?_ GE136.out) | exact HB.out))) : w.heap.size ≤ gb137)); have n5_ := Aside0.mk ((by rw [hg]; exact Nat.ne_of_lt (blk_lt (g := gb136) (o := .cells #[.int .i64 a0_0, .int .i64 a0_1, .int .i64 a0_2, .bool true, .int .i64 a0_4, .int .i64 a0_5, .int .i64 a0_6] 40 (0, 0)) (by (with_reducible repeat (first | refine blk_drewN ?_ _ | refine blk_drew ?_ | refine blk_alloc ?_ _)); exact BK136.out)) : gb136 ≠ gb137)); have n6_ := Aside0.mk ((by rw [hg]; exact Nat.ne_of_gt (blk_lt (g := gb136) (o := .cells #[.int .i64 a0_0, .int .i64 a0_1, .int .i64 a0_2, .bool true, .int .i64 a0_4, .int .i64 a0_5, .int .i64 a0_6] 40 (0, 0)) (by (with_reducible repeat (first | refine blk_drewN ?_ _ | refine blk_drew ?_ | refine blk_alloc ?_ _)); exact BK136.out)) : gb137 ≠ gb136)); clear BK136; clear HB; have BK136 := n0_; have HB := n1_; have BK137 := n2_; have GW137 := n3_; have GE137 := n4_; have NB136_137 := n5_; have NB137_136 := n6_; clear n0_ n1_ n2_ n3_ n4_ n5_ n6_; clear hb hbox hg; have hnb6 := NB136_137.out; have hnc6 := NB137_136.out; have hcz7_0 : w5.cell? ⟨gb136, 0, none⟩ = some (.int .i64 a0_0) := (blk_cell BK136.out 0).trans rfl; have hcz7_1 : w5.cell? ⟨gb136, 1, none⟩ = some (.int .i64 a0_1) := (blk_cell BK136.out 1).trans rfl; have hcz7_2 : w5.cell? ⟨gb136, 2, none⟩ = some (.int .i64 a0_2) := (blk_cell BK136.out 2).trans rfl; have hcz7_3 : w5.cell? ⟨gb136, 3, none⟩ = some (.bool true) := (blk_cell BK136.out 3).trans rfl; have hcz7_4 : w5.cell? ⟨gb136, 4, none⟩ = some (.int .i64 a0_4) := (blk_cell BK136.out 4).trans rfl; have hcz7_5 : w5.cell? ⟨gb136, 5, none⟩ = some (.int .i64 a0_5) := (blk_cell BK136.out 5).trans rfl; have hcz7_6 : w5.cell? ⟨gb136, 6, none⟩ = some (.int .i64 a0_6) := (blk_cell BK136.out 6).trans rfl; have hfz7_0 := blk_frozen BK136.out 0; have hfz7_1 := blk_frozen BK136.out 1; have hfz7_2 := blk_frozen BK136.out 2; have hfz7_3 := blk_frozen BK136.out 3; have hfz7_4 := blk_frozen BK136.out 4; have hfz7_5 := blk_frozen BK136.out 5; have hfz7_6 := blk_frozen BK136.out 6; have hcz8_0 : w5.cell? ⟨gb137, 0, none⟩ = some (.int .i64 a1_0) := (blk_cell BK137.out 0).trans rfl; have hcz8_1 : w5.cell? ⟨gb137, 1, none⟩ = some (.int .i64 a1_1) := (blk_cell BK137.out 1).trans rfl; have hcz8_2 : w5.cell? ⟨gb137, 2, none⟩ = some (.int .i64 a1_2) := (blk_cell BK137.out 2).trans rfl; have hcz8_3 : w5.cell? ⟨gb137, 3, none⟩ = some (.bool a1_3) := (blk_cell BK137.out 3).trans rfl; have hcz8_4 : w5.cell? ⟨gb137, 4, none⟩ = some (.int .i64 a1_4) := (blk_cell BK137.out 4).trans rfl; have hcz8_5 : w5.cell? ⟨gb137, 5, none⟩ = some (.int .i64 a1_5) := (blk_cell BK137.out 5).trans rfl; have hcz8_6 : w5.cell? ⟨gb137, 6, none⟩ = some (.int .i64 a1_6) := (blk_cell BK137.out 6).trans rfl; have hfz8_0 := blk_frozen BK137.out 0; have hfz8_1 := blk_frozen BK137.out 1; have hfz8_2 := blk_frozen BK137.out 2; have hfz8_3 := blk_frozen BK137.out 3; have hfz8_4 := blk_frozen BK137.out 4; have hfz8_5 := blk_frozen BK137.out 5; have hfz8_6 := blk_frozen BK137.out 6))
    go_ret
    exact ⟨by first | rfl | (simp [errW_none, errW_some] <;> rfl) | (simp [*, errW_none, errW_some] <;> rfl), by repeat (first | (with_reducible first | exact HB.out | apply below_alloc | apply pw_below_drewN | apply below_drew1 | refine below_set ?_ GE136.out | refine below_set ?_ GE137.out) | exact HB.out)⟩
  · replace c3 := Bool.eq_false_iff.mpr c3
    subst c3
    have H1 : (some false) = some r := by rw [if_neg (show ¬ (false = true) by decide)] at H; exact H
    clear H
    have H := H1
    clear H1
    obtain rfl := Option.some.inj H
    go_enter Try.func19, Try.ntmps19
    go_wp2_with (first | ((with_reducible refine gate_dst (N := 2) rfl ?_); refine box_event ?hg (N := 2) ?hd (cs := #[.int .i64 a0_0, .int .i64 a0_1, .int .i64 a0_2, .bool false, .int .i64 a0_4, .int .i64 a0_5, .int .i64 a0_6]) (t := 40) ?hr ?_; (case hd => rfl); (case hg => rfl); (case hr => first | (go_simp; done) | (go_simp; rfl)); intro gb136 hg w9 hbox hb; have n0_ := Aside0.mk (below_step (by repeat (first | (with_reducible first | exact HB.out | apply below_alloc | apply pw_below_drewN | apply below_drew1) | exact HB.out)) hb); have n1_ := Aside0.mk (hbox); have n2_ := Aside0.mk ((by rw [hg]; exact (below_size (by repeat (first | (with_reducible first | exact HB.out | apply below_alloc | apply pw_below_drewN | apply below_drew1) | exact HB.out))) : w.heap.size ≤ gb136)); have n3_ := Aside0.mk ((by rw [hg]; exact (below_size (by repeat (first | (with_reducible first | exact HB.out | apply below_alloc | apply pw_below_drewN | apply below_drew1) | exact HB.out))) : w.heap.size ≤ gb136)); clear HB; have HB := n0_; have BK136 := n1_; have GW136 := n2_; have GE136 := n3_; clear n0_ n1_ n2_ n3_; clear hb hbox hg) | ((with_reducible refine gate_dst (N := 3) rfl ?_); refine box_event ?hg (N := 3) ?hd (cs := #[.int .i64 a1_0, .int .i64 a1_1, .int .i64 a1_2, .bool a1_3, .int .i64 a1_4, .int .i64 a1_5, .int .i64 a1_6]) (t := 40) ?hr ?_; (case hd => rfl); (case hg => rfl); (case hr => first | (go_simp; done) | (go_simp; rfl)); intro gb137 hg w10 hbox hb; have n0_ := Aside0.mk (blk_below (g := gb136) (o := .cells #[.int .i64 a0_0, .int .i64 a0_1, .int .i64 a0_2, .bool false, .int .i64 a0_4, .int .i64 a0_5, .int .i64 a0_6] 40 (0, 0)) (by (with_reducible repeat (first | refine blk_drewN ?_ _ | refine blk_drew ?_ | refine blk_alloc ?_ _)); exact BK136.out) hb); have n1_ := Aside0.mk (below_step (by repeat (first | (with_reducible first | exact HB.out | apply below_alloc | apply pw_below_drewN | apply below_drew1 | refine below_set ?_ GE136.out) | exact HB.out)) hb); have n2_ := Aside0.mk (hbox); have n3_ := Aside0.mk ((by rw [hg]; exact (below_size (by repeat (first | (with_reducible first | exact HB.out | apply below_alloc | apply pw_below_drewN | apply below_drew1 | refine below_set ?_ GE136.out) | exact HB.out))) : w.heap.size ≤ gb137)); have n4_ := Aside0.mk ((by rw [hg]; exact (below_size (by repeat (first | (with_reducible first | exact HB.out | apply below_alloc | apply pw_below_drewN | apply below_drew1 | refine below_set ?_ GE136.out) | exact HB.out))) : w.heap.size ≤ gb137)); have n5_ := Aside0.mk ((by rw [hg]; exact Nat.ne_of_lt (blk_lt (g := gb136) (o := .cells #[.int .i64 a0_0, .int .i64 a0_1, .int .i64 a0_2, .bool false, .int .i64 a0_4, .int .i64 a0_5, .int .i64 a0_6] 40 (0, 0)) (by (with_reducible repeat (first | refine blk_drewN ?_ _ | refine blk_drew ?_ | refine blk_alloc ?_ _)); exact BK136.out)) : gb136 ≠ gb137)); have n6_ := Aside0.mk ((by rw [hg]; exact Nat.ne_of_gt (blk_lt (g := gb136) (o := .cells #[.int .i64 a0_0, .int .i64 a0_1, .int .i64 a0_2, .bool false, .int .i64 a0_4, .int .i64 a0_5, .int .i64 a0_6] 40 (0, 0)) (by (with_reducible repeat (first | refine blk_drewN ?_ _ | refine blk_drew ?_ | refine blk_alloc ?_ _)); exact BK136.out)) : gb137 ≠ gb136)); clear BK136; clear HB; have BK136 := n0_; have HB := n1_; have BK137 := n2_; have GW137 := n3_; have GE137 := n4_; have NB136_137 := n5_; have NB137_136 := n6_; clear n0_ n1_ n2_ n3_ n4_ n5_ n6_; clear hb hbox hg; have hnb11 := NB136_137.out; have hnc11 := NB137_136.out; have hcz12_0 : w10.cell? ⟨gb136, 0, none⟩ = some (.int .i64 a0_0) := (blk_cell BK136.out 0).trans rfl; have hcz12_1 : w10.cell? ⟨gb136, 1, none⟩ = some (.int .i64 a0_1) := (blk_cell BK136.out 1).trans rfl; have hcz12_2 : w10.cell? ⟨gb136, 2, none⟩ = some (.int .i64 a0_2) := (blk_cell BK136.out 2).trans rfl; have hcz12_3 : w10.cell? ⟨gb136, 3, none⟩ = some (.bool false) := (blk_cell BK136.out 3).trans rfl; have hcz12_4 : w10.cell? ⟨gb136, 4, none⟩ = some (.int .i64 a0_4) := (blk_cell BK136.out 4).trans rfl; have hcz12_5 : w10.cell? ⟨gb136, 5, none⟩ = some (.int .i64 a0_5) := (blk_cell BK136.out 5).trans rfl; have hcz12_6 : w10.cell? ⟨gb136, 6, none⟩ = some (.int .i64 a0_6) := (blk_cell BK136.out 6).trans rfl; have hfz12_0 := blk_frozen BK136.out 0; have hfz12_1 := blk_frozen BK136.out 1; have hfz12_2 := blk_frozen BK136.out 2; have hfz12_3 := blk_frozen BK136.out 3; have hfz12_4 := blk_frozen BK136.out 4; have hfz12_5 := blk_frozen BK136.out 5; have hfz12_6 := blk_frozen BK136.out 6))
    go_ret
    exact ⟨by first | rfl | (simp [errW_none, errW_some] <;> rfl) | (simp [*, errW_none, errW_some] <;> rfl), by repeat (first | (with_reducible first | exact HB.out | apply below_alloc | apply pw_below_drewN | apply below_drew1 | refine below_set ?_ GE136.out | refine below_set ?_ GE137.out) | exact HB.out)⟩

/-! ### inquestref14_Before: function 20 -/
def inquestref14_Before.f (a0_0 : Int) (a0_1 : Int) (a0_2 : Int) (a0_3 : Bool) (a0_4 : Int) (a0_5 : Int) (a0_6 : Int) (a1_0 : Int) (a1_1 : Int) (a1_2 : Int) (a1_3 : Bool) (a1_4 : Int) (a1_5 : Int) (a1_6 : Int) : Option (Bool) := if a0_3 = true then (some (decide (a0_6 < a1_5))) else (some false)
set_option maxHeartbeats 8000000 in
set_option maxRecDepth 100000 in
theorem inquestref14_Before.calls (a0_0 : Int) (a0_1 : Int) (a0_2 : Int) (a0_3 : Bool) (a0_4 : Int) (a0_5 : Int) (a0_6 : Int) (a1_0 : Int) (a1_1 : Int) (a1_2 : Int) (a1_3 : Bool) (a1_4 : Int) (a1_5 : Int) (a1_6 : Int) (r : Bool) (w : World) (h : inquestref14_Before.f a0_0 a0_1 a0_2 a0_3 a0_4 a0_5 a0_6 a1_0 a1_1 a1_2 a1_3 a1_4 a1_5 a1_6 = some r) :
    Calls Try.prog 20 #[.agg #[.int .i64 a0_0, .int .i64 a0_1, .int .i64 a0_2, .bool a0_3, .int .i64 a0_4, .int .i64 a0_5, .int .i64 a0_6], .agg #[.int .i64 a1_0, .int .i64 a1_1, .int .i64 a1_2, .bool a1_3, .int .i64 a1_4, .int .i64 a1_5, .int .i64 a1_6]] w fun e w' => e = .returned (.bool r) ∧ Below w.heap.size w w' := by
  have hu40 := Try.underlying40
  have HB := Aside0.mk (Below.refl w.heap.size w)
  have H : (if a0_3 = true then (some (decide (a0_6 < a1_5))) else (some false)) = some r := h
  clear h
  by_cases c3 : a0_3 = true
  · subst c3
    have H1 : (some (decide (a0_6 < a1_5))) = some r := by rw [if_pos rfl] at H; exact H
    clear H
    have H := H1
    clear H1
    obtain rfl := Option.some.inj H
    go_enter Try.func20, Try.ntmps20
    go_wp2_with (first | ((with_reducible refine gate_dst (N := 2) rfl ?_); refine box_event ?hg (N := 2) ?hd (cs := #[.int .i64 a0_0, .int .i64 a0_1, .int .i64 a0_2, .bool true, .int .i64 a0_4, .int .i64 a0_5, .int .i64 a0_6]) (t := 40) ?hr ?_; (case hd => rfl); (case hg => rfl); (case hr => first | (go_simp; done) | (go_simp; rfl)); intro gb138 hg w4 hbox hb; have n0_ := Aside0.mk (below_step (by repeat (first | (with_reducible first | exact HB.out | apply below_alloc | apply pw_below_drewN | apply below_drew1) | exact HB.out)) hb); have n1_ := Aside0.mk (hbox); have n2_ := Aside0.mk ((by rw [hg]; exact (below_size (by repeat (first | (with_reducible first | exact HB.out | apply below_alloc | apply pw_below_drewN | apply below_drew1) | exact HB.out))) : w.heap.size ≤ gb138)); have n3_ := Aside0.mk ((by rw [hg]; exact (below_size (by repeat (first | (with_reducible first | exact HB.out | apply below_alloc | apply pw_below_drewN | apply below_drew1) | exact HB.out))) : w.heap.size ≤ gb138)); clear HB; have HB := n0_; have BK138 := n1_; have GW138 := n2_; have GE138 := n3_; clear n0_ n1_ n2_ n3_; clear hb hbox hg) | ((with_reducible refine gate_dst (N := 3) rfl ?_); refine box_event ?hg (N := 3) ?hd (cs := #[.int .i64 a1_0, .int .i64 a1_1, .int .i64 a1_2, .bool a1_3, .int .i64 a1_4, .int .i64 a1_5, .int .i64 a1_6]) (t := 40) ?hr ?_; (case hd => rfl); (case hg => rfl); (case hr => first | (go_simp; done) | (go_simp; rfl)); intro gb139 hg w5 hbox hb; have n0_ := Aside0.mk (blk_below (g := gb138) (o := .cells #[.int .i64 a0_0, .int .i64 a0_1, .int .i64 a0_2, .bool true, .int .i64 a0_4, .int .i64 a0_5, .int .i64 a0_6] 40 (0, 0)) (by (with_reducible repeat (first | refine blk_drewN ?_ _ | refine blk_drew ?_ | refine blk_alloc ?_ _)); exact BK138.out) hb); have n1_ := Aside0.mk (below_step (by repeat (first | (with_reducible first | exact HB.out | apply below_alloc | apply pw_below_drewN | apply below_drew1 | refine below_set ?_ GE138.out) | exact HB.out)) hb); have n2_ := Aside0.mk (hbox); have n3_ := Aside0.mk ((by rw [hg]; exact (below_size (by repeat (first | (with_reducible first | exact HB.out | apply below_alloc | apply pw_below_drewN | apply below_drew1 | refine below_set ?_ GE138.out) | exact HB.out))) : w.heap.size ≤ gb139)); have n4_ := Aside0.mk ((by rw [hg]; exact (below_size (by repeat (first | (with_reducible first | exact HB.out | apply below_alloc | apply pw_below_drewN | apply below_drew1 | refine below_set ?_ GE138.out) | exact HB.out))) : w.heap.size ≤ gb139)); have n5_ := Aside0.mk ((by rw [hg]; exact Nat.ne_of_lt (blk_lt (g := gb138) (o := .cells #[.int .i64 a0_0, .int .i64 a0_1, .int .i64 a0_2, .bool true, .int .i64 a0_4, .int .i64 a0_5, .int .i64 a0_6] 40 (0, 0)) (by (with_reducible repeat (first | refine blk_drewN ?_ _ | refine blk_drew ?_ | refine blk_alloc ?_ _)); exact BK138.out)) : gb138 ≠ gb139)); have n6_ := Aside0.mk ((by rw [hg]; exact Nat.ne_of_gt (blk_lt (g := gb138) (o := .cells #[.int .i64 a0_0, .int .i64 a0_1, .int .i64 a0_2, .bool true, .int .i64 a0_4, .int .i64 a0_5, .int .i64 a0_6] 40 (0, 0)) (by (with_reducible repeat (first | refine blk_drewN ?_ _ | refine blk_drew ?_ | refine blk_alloc ?_ _)); exact BK138.out)) : gb139 ≠ gb138)); clear BK138; clear HB; have BK138 := n0_; have HB := n1_; have BK139 := n2_; have GW139 := n3_; have GE139 := n4_; have NB138_139 := n5_; have NB139_138 := n6_; clear n0_ n1_ n2_ n3_ n4_ n5_ n6_; clear hb hbox hg; have hnb6 := NB138_139.out; have hnc6 := NB139_138.out; have hcz7_0 : w5.cell? ⟨gb138, 0, none⟩ = some (.int .i64 a0_0) := (blk_cell BK138.out 0).trans rfl; have hcz7_1 : w5.cell? ⟨gb138, 1, none⟩ = some (.int .i64 a0_1) := (blk_cell BK138.out 1).trans rfl; have hcz7_2 : w5.cell? ⟨gb138, 2, none⟩ = some (.int .i64 a0_2) := (blk_cell BK138.out 2).trans rfl; have hcz7_3 : w5.cell? ⟨gb138, 3, none⟩ = some (.bool true) := (blk_cell BK138.out 3).trans rfl; have hcz7_4 : w5.cell? ⟨gb138, 4, none⟩ = some (.int .i64 a0_4) := (blk_cell BK138.out 4).trans rfl; have hcz7_5 : w5.cell? ⟨gb138, 5, none⟩ = some (.int .i64 a0_5) := (blk_cell BK138.out 5).trans rfl; have hcz7_6 : w5.cell? ⟨gb138, 6, none⟩ = some (.int .i64 a0_6) := (blk_cell BK138.out 6).trans rfl; have hfz7_0 := blk_frozen BK138.out 0; have hfz7_1 := blk_frozen BK138.out 1; have hfz7_2 := blk_frozen BK138.out 2; have hfz7_3 := blk_frozen BK138.out 3; have hfz7_4 := blk_frozen BK138.out 4; have hfz7_5 := blk_frozen BK138.out 5; have hfz7_6 := blk_frozen BK138.out 6; have hcz8_0 : w5.cell? ⟨gb139, 0, none⟩ = some (.int .i64 a1_0) := (blk_cell BK139.out 0).trans rfl; have hcz8_1 : w5.cell? ⟨gb139, 1, none⟩ = some (.int .i64 a1_1) := (blk_cell BK139.out 1).trans rfl; have hcz8_2 : w5.cell? ⟨gb139, 2, none⟩ = some (.int .i64 a1_2) := (blk_cell BK139.out 2).trans rfl; have hcz8_3 : w5.cell? ⟨gb139, 3, none⟩ = some (.bool a1_3) := (blk_cell BK139.out 3).trans rfl; have hcz8_4 : w5.cell? ⟨gb139, 4, none⟩ = some (.int .i64 a1_4) := (blk_cell BK139.out 4).trans rfl; have hcz8_5 : w5.cell? ⟨gb139, 5, none⟩ = some (.int .i64 a1_5) := (blk_cell BK139.out 5).trans rfl; have hcz8_6 : w5.cell? ⟨gb139, 6, none⟩ = some (.int .i64 a1_6) := (blk_cell BK139.out 6).trans rfl; have hfz8_0 := blk_frozen BK139.out 0; have hfz8_1 := blk_frozen BK139.out 1; have hfz8_2 := blk_frozen BK139.out 2; have hfz8_3 := blk_frozen BK139.out 3; have hfz8_4 := blk_frozen BK139.out 4; have hfz8_5 := blk_frozen BK139.out 5; have hfz8_6 := blk_frozen BK139.out 6))
    go_ret
    exact ⟨by first | rfl | (simp [errW_none, errW_some] <;> rfl) | (simp [*, errW_none, errW_some] <;> rfl), by repeat (first | (with_reducible first | exact HB.out | apply below_alloc | apply pw_below_drewN | apply below_drew1 | refine below_set ?_ GE138.out | refine below_set ?_ GE139.out) | exact HB.out)⟩
  · replace c3 := Bool.eq_false_iff.mpr c3
    subst c3
    have H1 : (some false) = some r := by rw [if_neg (show ¬ (false = true) by decide)] at H; exact H
    clear H
    have H := H1
    clear H1
    obtain rfl := Option.some.inj H
    go_enter Try.func20, Try.ntmps20
    go_wp2_with (first | ((with_reducible refine gate_dst (N := 2) rfl ?_); refine box_event ?hg (N := 2) ?hd (cs := #[.int .i64 a0_0, .int .i64 a0_1, .int .i64 a0_2, .bool false, .int .i64 a0_4, .int .i64 a0_5, .int .i64 a0_6]) (t := 40) ?hr ?_; (case hd => rfl); (case hg => rfl); (case hr => first | (go_simp; done) | (go_simp; rfl)); intro gb138 hg w9 hbox hb; have n0_ := Aside0.mk (below_step (by repeat (first | (with_reducible first | exact HB.out | apply below_alloc | apply pw_below_drewN | apply below_drew1) | exact HB.out)) hb); have n1_ := Aside0.mk (hbox); have n2_ := Aside0.mk ((by rw [hg]; exact (below_size (by repeat (first | (with_reducible first | exact HB.out | apply below_alloc | apply pw_below_drewN | apply below_drew1) | exact HB.out))) : w.heap.size ≤ gb138)); have n3_ := Aside0.mk ((by rw [hg]; exact (below_size (by repeat (first | (with_reducible first | exact HB.out | apply below_alloc | apply pw_below_drewN | apply below_drew1) | exact HB.out))) : w.heap.size ≤ gb138)); clear HB; have HB := n0_; have BK138 := n1_; have GW138 := n2_; have GE138 := n3_; clear n0_ n1_ n2_ n3_; clear hb hbox hg) | ((with_reducible refine gate_dst (N := 3) rfl ?_); refine box_event ?hg (N := 3) ?hd (cs := #[.int .i64 a1_0, .int .i64 a1_1, .int .i64 a1_2, .bool a1_3, .int .i64 a1_4, .int .i64 a1_5, .int .i64 a1_6]) (t := 40) ?hr ?_; (case hd => rfl); (case hg => rfl); (case hr => first | (go_simp; done) | (go_simp; rfl)); intro gb139 hg w10 hbox hb; have n0_ := Aside0.mk (blk_below (g := gb138) (o := .cells #[.int .i64 a0_0, .int .i64 a0_1, .int .i64 a0_2, .bool false, .int .i64 a0_4, .int .i64 a0_5, .int .i64 a0_6] 40 (0, 0)) (by (with_reducible repeat (first | refine blk_drewN ?_ _ | refine blk_drew ?_ | refine blk_alloc ?_ _)); exact BK138.out) hb); have n1_ := Aside0.mk (below_step (by repeat (first | (with_reducible first | exact HB.out | apply below_alloc | apply pw_below_drewN | apply below_drew1 | refine below_set ?_ GE138.out) | exact HB.out)) hb); have n2_ := Aside0.mk (hbox); have n3_ := Aside0.mk ((by rw [hg]; exact (below_size (by repeat (first | (with_reducible first | exact HB.out | apply below_alloc | apply pw_below_drewN | apply below_drew1 | refine below_set ?_ GE138.out) | exact HB.out))) : w.heap.size ≤ gb139)); have n4_ := Aside0.mk ((by rw [hg]; exact (below_size (by repeat (first | (with_reducible first | exact HB.out | apply below_alloc | apply pw_below_drewN | apply below_drew1 | refine below_set ?_ GE138.out) | exact HB.out))) : w.heap.size ≤ gb139)); have n5_ := Aside0.mk ((by rw [hg]; exact Nat.ne_of_lt (blk_lt (g := gb138) (o := .cells #[.int .i64 a0_0, .int .i64 a0_1, .int .i64 a0_2, .bool false, .int .i64 a0_4, .int .i64 a0_5, .int .i64 a0_6] 40 (0, 0)) (by (with_reducible repeat (first | refine blk_drewN ?_ _ | refine blk_drew ?_ | refine blk_alloc ?_ _)); exact BK138.out)) : gb138 ≠ gb139)); have n6_ := Aside0.mk ((by rw [hg]; exact Nat.ne_of_gt (blk_lt (g := gb138) (o := .cells #[.int .i64 a0_0, .int .i64 a0_1, .int .i64 a0_2, .bool false, .int .i64 a0_4, .int .i64 a0_5, .int .i64 a0_6] 40 (0, 0)) (by (with_reducible repeat (first | refine blk_drewN ?_ _ | refine blk_drew ?_ | refine blk_alloc ?_ _)); exact BK138.out)) : gb139 ≠ gb138)); clear BK138; clear HB; have BK138 := n0_; have HB := n1_; have BK139 := n2_; have GW139 := n3_; have GE139 := n4_; have NB138_139 := n5_; have NB139_138 := n6_; clear n0_ n1_ n2_ n3_ n4_ n5_ n6_; clear hb hbox hg; have hnb11 := NB138_139.out; have hnc11 := NB139_138.out; have hcz12_0 : w10.cell? ⟨gb138, 0, none⟩ = some (.int .i64 a0_0) := (blk_cell BK138.out 0).trans rfl; have hcz12_1 : w10.cell? ⟨gb138, 1, none⟩ = some (.int .i64 a0_1) := (blk_cell BK138.out 1).trans rfl; have hcz12_2 : w10.cell? ⟨gb138, 2, none⟩ = some (.int .i64 a0_2) := (blk_cell BK138.out 2).trans rfl; have hcz12_3 : w10.cell? ⟨gb138, 3, none⟩ = some (.bool false) := (blk_cell BK138.out 3).trans rfl; have hcz12_4 : w10.cell? ⟨gb138, 4, none⟩ = some (.int .i64 a0_4) := (blk_cell BK138.out 4).trans rfl; have hcz12_5 : w10.cell? ⟨gb138, 5, none⟩ = some (.int .i64 a0_5) := (blk_cell BK138.out 5).trans rfl; have hcz12_6 : w10.cell? ⟨gb138, 6, none⟩ = some (.int .i64 a0_6) := (blk_cell BK138.out 6).trans rfl; have hfz12_0 := blk_frozen BK138.out 0; have hfz12_1 := blk_frozen BK138.out 1; have hfz12_2 := blk_frozen BK138.out 2; have hfz12_3 := blk_frozen BK138.out 3; have hfz12_4 := blk_frozen BK138.out 4; have hfz12_5 := blk_frozen BK138.out 5; have hfz12_6 := blk_frozen BK138.out 6))
    go_ret
    exact ⟨by first | rfl | (simp [errW_none, errW_some] <;> rfl) | (simp [*, errW_none, errW_some] <;> rfl), by repeat (first | (with_reducible first | exact HB.out | apply below_alloc | apply pw_below_drewN | apply below_drew1 | refine below_set ?_ GE138.out | refine below_set ?_ GE139.out) | exact HB.out)⟩

/-! ### inquestlaw14_HistBefore: function 7 -/
/-! A region of open order, by one walk of the text's order and one relation over what is listed: the values are told once, the world by the listed calls alone. -/
section RegBy
variable {P : Program}
/-- Who fills a slot. -/
def rbW (l : List Oper) (t : Tmp) : Nat → Option Nat
  | 0 => none
  | k + 1 => if ((l[k]?).bind (·.dst)) = some t then some k else rbW l t k
def rbB (T : List (List Nat × List Nat)) : Nat → List Nat → List Nat
  | 0, B => B
  | k + 1, B => rbB T k (B ++ [upM B B.length (T.getD B.length ([], [])).1])
def rbBits (l : List Oper) : List Nat := rbB (rtab .any l.toArray).2 l.length []
def rbOk (l : List Oper) : Bool :=
  let T := (rtab .any l.toArray).2
  let B := rbBits l
  let O := List.range l.length
  waitsOk T B && baseOk T O && (lof T.length O (fun _ => false) == List.replicate l.length false) && Region.noSelect l.toArray &&
  O.all (fun i => match l[i]? with
    | some o => (o.looksAt l.toArray).all (fun t => match rbW l t l.length with
        | some j => (decide (j < i) && (B.getD i 0).testBit j) || (decide (i < j) && (B.getD j 0).testBit i)
        | none => true) && (match o.dst with | some t => rbW l t l.length == some i | none => true)
    | none => false)
/-- The relation: what is listed, the values that hang on the order (each by its operation's number), the world. -/
abbrev RbC := (Nat → Bool) → (Nat → Value) → World → Prop
def usUp (us : Nat → Value) (i : Nat) (u : Value) : Nat → Value := fun j => if j = i then u else us j
/-- What an operation, carried out, comes to: v: its value; none: one that hangs on the order. -/
def rbUpon (P : Program) (C : RbC) (b : Nat → Bool) (us : Nat → Value) (i : Nat) (v : Option Value) : Result Next → Prop
  | .ok (.value u) w' => match v with
    | some v => u = v ∧ C (up b i) us w'
    | none => C (up b i) (usUp us i u) w'
  | .ok .skip w' => v = some undef ∧ C (up b i) us w'
  | .ok (.enter f args) w' => match v with
    | some v => Calls P f args w' (fun e w'' => e = .returned v ∧ C (up b i) us w'')
    | none => Calls P f args w' (fun e w'' => ∃ u, e = .returned u ∧ C (up b i) (usUp us i u) w'')
  | _ => False
/-- Operation i, in the text's order: what it yields, in every world of the relation in which it is not listed and all that it waits for are. -/
def rbOp (P : Program) (B : List Nat) (C : RbC) (i : Nat) (o : Oper) (A : (Nat → Value) → Act) (v : Option Value) : Prop :=
  ∀ b us w, b i = false → (∀ j, j < i → (B.getD i 0).testBit j = true → b j = true) → C b us w → rbUpon P C b us i v ((execOp (A us).eval o).run P w)
def rbOff (C : RbC) (i : Nat) : Prop := ∀ b us w, C b us w → C (up b i) us w
def rbV (us : Nat → Value) (i : Nat) (v : Option Value) : Value := match v with
  | some v => v
  | none => us i
def rbL (P : Program) (ops : Array Oper) (B : List Nat) (C : RbC) (Q : ((Nat → Value) → Act) → Prop) : Nat → List Oper → ((Nat → Value) → Act) → Prop
  | _, [], A => Q A
  | i, o :: rest, A =>
    ((∀ us, Region.wanted o (yielded ops (A us).tmps) = true) ∧ ∃ v, rbOp P B C i o A v ∧ rbL P ops B C Q (i + 1) rest (fun us => (A us).put o.dst (rbV us i v))) ∨
    ((∀ us, Region.wanted o (yielded ops (A us).tmps) = false) ∧ rbOff C i ∧ rbL P ops B C Q (i + 1) rest (fun us => (A us).put o.dst undef))
/-- The frame behind the first operations. -/
def rbFrame (a : Act) : List Oper → List Value → Act
  | o :: l, v :: vs => rbFrame (a.put o.dst v) l vs
  | _, _ => a
/-- The values, by the operations' numbers from i on. -/
def rbVals (us : Nat → Value) : Nat → List (Option Value) → List Value
  | _, [] => []
  | i, v :: vs => rbV us i v :: rbVals us (i + 1) vs
theorem rbVals_len (us : Nat → Value) : ∀ (vs : List (Option Value)) (i : Nat), (rbVals us i vs).length = vs.length
  | [], i => rfl
  | v :: vs, i => by simp [rbVals, rbVals_len us vs (i + 1)]
theorem rbVals_get (us : Nat → Value) : ∀ (vs : List (Option Value)) (i k : Nat), (rbVals us i vs)[k]? = (vs[k]?).map (rbV us (i + k))
  | [], i, k => by simp [rbVals]
  | v :: vs, i, 0 => by simp [rbVals]
  | v :: vs, i, k + 1 => by
    simp only [rbVals, List.getElem?_cons_succ]
    rw [rbVals_get us vs (i + 1) k, show i + 1 + k = i + (k + 1) from by omega]
theorem rbVals_take (us : Nat → Value) : ∀ (vs : List (Option Value)) (i k : Nat), rbVals us i (vs.take k) = (rbVals us i vs).take k
  | [], i, k => by simp [rbVals]
  | v :: vs, i, 0 => by simp [rbVals]
  | v :: vs, i, k + 1 => by simp [rbVals, rbVals_take us vs (i + 1) k]
theorem rbL_vals {ops : Array Oper} {B : List Nat} {C : RbC} {Q : ((Nat → Value) → Act) → Prop} : ∀ (rest : List Oper) (i : Nat) (A : (Nat → Value) → Act), rbL P ops B C Q i rest A →
    ∃ vs : List (Option Value), vs.length = rest.length ∧ Q (fun us => rbFrame (A us) rest (rbVals us i vs)) ∧ ∀ k o v, rest[k]? = some o → vs[k]? = some v →
      ((∀ us, Region.wanted o (yielded ops (rbFrame (A us) (rest.take k) (rbVals us i (vs.take k))).tmps) = true) ∧ rbOp P B C (i + k) o (fun us => rbFrame (A us) (rest.take k) (rbVals us i (vs.take k))) v) ∨
      ((∀ us, Region.wanted o (yielded ops (rbFrame (A us) (rest.take k) (rbVals us i (vs.take k))).tmps) = false) ∧ v = some undef ∧ rbOff C (i + k))
  | [], i, A, h => ⟨[], rfl, h, fun k o v hk => by simp at hk⟩
  | o :: rest, i, A, h => by
    unfold rbL at h
    rcases h with ⟨hw, v, h1, h2⟩ | ⟨hw, h1, h2⟩
    · obtain ⟨vs, e1, e2, e3⟩ := rbL_vals rest (i + 1) _ h2
      refine ⟨v :: vs, by simp [e1], e2, fun k o' v' hk hv => ?_⟩
      cases k with
      | zero =>
        simp at hk hv
        subst hk hv
        exact .inl ⟨hw, h1⟩
      | succ k =>
        have := e3 k o' v' (by simpa using hk) (by simpa using hv)
        rw [show i + (k + 1) = i + 1 + k from by omega]
        exact this
    · obtain ⟨vs, e1, e2, e3⟩ := rbL_vals rest (i + 1) _ h2
      refine ⟨some undef :: vs, by simp [e1], e2, fun k o' v' hk hv => ?_⟩
      cases k with
      | zero =>
        simp at hk hv
        subst hk hv
        exact .inr ⟨hw, rfl, h1⟩
      | succ k =>
        have := e3 k o' v' (by simpa using hk) (by simpa using hv)
        rw [show i + (k + 1) = i + 1 + k from by omega]
        exact this
/-- A slot, with these listed. -/
def rbSlot (l : List Oper) (vs : List Value) (a : Act) (b : Nat → Bool) (t : Tmp) : Option Value :=
  match rbW l t l.length with
  | some j => if b j = true then (if t < a.tmps.size then vs[j]? else none) else a.tmps[t]?
  | none => a.tmps[t]?
theorem rbW_lt {l : List Oper} {t : Tmp} : ∀ {n j : Nat}, rbW l t n = some j → j < n ∧ (l[j]?).bind (·.dst) = some t
  | 0, j, h => by cases h
  | n + 1, j, h => by
    unfold rbW at h
    by_cases c : ((l[n]?).bind (·.dst)) = some t
    · rw [if_pos c] at h
      obtain rfl := Option.some.inj h
      exact ⟨Nat.lt_succ_self _, c⟩
    · rw [if_neg c] at h
      obtain ⟨h1, h2⟩ := rbW_lt h
      exact ⟨by omega, h2⟩
theorem put_slot (a : Act) (d : Option Tmp) (v : Value) (t : Tmp) : (a.put d v).tmps[t]? = if d = some t then (if t < a.tmps.size then some v else none) else a.tmps[t]? := by
  cases d with
  | none => simp [Act.put]
  | some s =>
    simp only [Act.put, Array.getElem?_setIfInBounds]
    by_cases c : s = t
    · subst c; simp
    · simp [c]
theorem put_size (a : Act) (d : Option Tmp) (v : Value) : (a.put d v).tmps.size = a.tmps.size ∧ (a.put d v).defers = a.defers := by
  cases d with
  | none => exact ⟨rfl, rfl⟩
  | some s => exact ⟨by simp [Act.put], rfl⟩
theorem frame_snoc : ∀ (l : List Oper) (vs : List Value) (a : Act) (k : Nat) (o : Oper) (v : Value), l[k]? = some o → vs[k]? = some v → rbFrame a (l.take (k + 1)) (vs.take (k + 1)) = (rbFrame a (l.take k) (vs.take k)).put o.dst v
  | [], vs, a, k, o, v, h, _ => by simp at h
  | x :: l, [], a, k, o, v, _, h => by simp at h
  | x :: l, y :: vs, a, 0, o, v, h, hv => by
    simp at h hv; subst h hv; simp [rbFrame]
  | x :: l, y :: vs, a, k + 1, o, v, h, hv => by
    have := frame_snoc l vs (a.put x.dst y) k o v (by simpa using h) (by simpa using hv)
    simpa [rbFrame] using this
theorem frame_slot {l : List Oper} {vs : List Value} {a : Act} (hl : vs.length = l.length) (hu : ∀ i o t, l[i]? = some o → o.dst = some t → rbW l t l.length = some i) : ∀ k, k ≤ l.length →
    (rbFrame a (l.take k) (vs.take k)).tmps.size = a.tmps.size ∧ (rbFrame a (l.take k) (vs.take k)).defers = a.defers ∧ ∀ t, (rbFrame a (l.take k) (vs.take k)).tmps[t]? = rbSlot l vs a (fun j => decide (j < k)) t
  | 0, _ => by
    refine ⟨by simp [rbFrame], by simp [rbFrame], fun t => ?_⟩
    unfold rbSlot
    simp only [List.take_zero, rbFrame]
    cases rbW l t l.length <;> simp
  | k + 1, hk => by
    obtain ⟨h1, h2, h3⟩ := frame_slot hl hu k (by omega)
    obtain ⟨o, ho⟩ : ∃ o, l[k]? = some o := ⟨_, List.getElem?_eq_getElem (by omega)⟩
    obtain ⟨v, hv⟩ : ∃ v, vs[k]? = some v := ⟨_, List.getElem?_eq_getElem (by omega)⟩
    rw [frame_snoc l vs a k o v ho hv]
    refine ⟨(put_size _ _ _).1.trans h1, (put_size _ _ _).2.trans h2, fun t => ?_⟩
    rw [put_slot, h3 t, h1]
    unfold rbSlot
    by_cases c : o.dst = some t
    · rw [if_pos c, hu k o t ho c]; simp [hv]
    · rw [if_neg c]
      cases e : rbW l t l.length with
      | none => rfl
      | some j =>
        have hjk : j ≠ k := by
          rintro rfl
          have := (rbW_lt e).2
          rw [ho] at this
          exact c (by simpa using this)
        have : (j < k + 1) ↔ (j < k) := by omega
        simp only [this]
/-- Two frames that rb_agree on what an operation looks at. -/
theorem rb_agree {ops : Array Oper} {o : Oper} {a a' : Act} (hs : ∀ cs b, o.op ≠ .select cs b) (h : ∀ t ∈ o.looksAt ops, a.tmps[t]? = a'.tmps[t]?) :
    execOp a.eval o = execOp a'.eval o ∧ Region.wanted o (yielded ops a.tmps) = Region.wanted o (yielded ops a'.tmps) := by
  constructor
  · refine execOp_congr o hs (fun x hx => ?_)
    cases x with
    | tmp t =>
      have := h t (List.mem_append_left _ (List.mem_filterMap.2 ⟨.tmp t, by simpa using hx, rfl⟩))
      simp only [Act.eval, Array.getD_eq_getD_getElem?, this]
    | _ => rfl
  · unfold Region.wanted
    cases hg : o.guard with
    | none => rfl
    | some gw =>
      obtain ⟨g, want⟩ := gw
      have : yielded ops a.tmps g = yielded ops a'.tmps g := by
        unfold yielded
        cases hd : (ops[g]?).bind (·.dst) with
        | none => rfl
        | some t =>
          have := h t (List.mem_append_right _ (by rw [hg]; simp [hd]))
          simp only [Option.bind_some, this]
      simp only [this]
/-- THE REGION: by one walk of the text's order. -/
theorem region_by {id : Nat} {l : List Oper} {Q : Exit → Act → World → Prop} {a : Act} {w : World} (C : RbC) (hm : P.follows .mixedOrders = true) (hB : rbOk l = true) (hC : ∃ us, C (fun _ => false) us w.drew)
    (h : rbL P l.toArray (rbBits l) C (fun A => ∀ b us w', (∀ i, i < l.length → b i = true) → C b us w' → Q .normal (A us) w') 0 l (fun _ => a)) : (Code.region id l.toArray true).wp P Q a w := by
  obtain ⟨vs, hl, hend, hops⟩ := rbL_vals l 0 (fun _ => a) h
  simp only [rbOk, Bool.and_eq_true, beq_iff_eq, List.all_eq_true, List.mem_range] at hB
  obtain ⟨⟨⟨⟨hw, hk⟩, hlof⟩, hns⟩, hall⟩ := hB
  have hTl : (rtab .any l.toArray).2.length = l.length := by simp [rtab]
  have hlv : ∀ us, (rbVals us 0 vs).length = l.length := fun us => (rbVals_len us vs 0).trans hl
  have hu : ∀ i o t, l[i]? = some o → o.dst = some t → rbW l t l.length = some i := by
    intro i o t ho hd
    have hi := (List.getElem?_eq_some_iff.1 ho).1
    have := hall i hi
    rw [ho] at this
    simp only [hd, Bool.and_eq_true, beq_iff_eq] at this
    exact this.2
  refine start_ (n := l.length) (S := fun _ => True) (ds := []) (List.replicate l.length false).toArray hm (by simp) (by simp) trivial (fun _ => ?_)
  obtain ⟨us0, hC⟩ := hC
  refine inv_ (List.range l.length) (fun b a' w' => ∃ us, C b us w' ∧ a'.defers = a.defers ∧ a'.tmps.size = a.tmps.size ∧ ∀ t, a'.tmps[t]? = rbSlot l (rbVals us 0 vs) a b t) rfl hw hk (by simp [hlof]) ⟨us0, hC, rfl, rfl, fun t => by unfold rbSlot; cases rbW l t l.length <;> rfl⟩ (fun i hi => ?_) (fun b a' w' hall' hI => ?_)
  · have hil : i < l.length := List.mem_range.1 hi
    rintro b a' w' ⟨us, hCb, hde, hsz, hsl⟩ hbi hon hoff
    obtain ⟨o, ho⟩ : ∃ o, l[i]? = some o := ⟨_, List.getElem?_eq_getElem hil⟩
    obtain ⟨v, hv⟩ : ∃ v, vs[i]? = some v := ⟨_, List.getElem?_eq_getElem (by omega)⟩
    have hvu : (rbVals us 0 vs)[i]? = some (rbV us i v) := by rw [rbVals_get, hv, Nat.zero_add]; rfl
    refine ⟨o, by simpa using ho, fun K hK => ?_⟩
    obtain ⟨f1, f2, f3⟩ := frame_slot (hlv us) hu i (by omega) (a := a)
    have hsel : ∀ cs b, o.op ≠ .select cs b := fun cs b => Region.noSelect_spec hns i o cs b (by simpa using ho)
    have hchk := hall i hil
    rw [ho] at hchk
    simp only [Bool.and_eq_true, List.all_eq_true] at hchk
    have hin : ∀ j, j < l.length → (List.range l.length).contains j = true := fun j hj => by simp [hj]
    have hag : ∀ t ∈ o.looksAt l.toArray, a'.tmps[t]? = (rbFrame a (l.take i) ((rbVals us 0 vs).take i)).tmps[t]? := by
      intro t ht
      rw [hsl t, f3 t]
      unfold rbSlot
      have hc := hchk.1 t ht
      cases e : rbW l t l.length with
      | none => rfl
      | some j =>
        rw [e] at hc
        simp only [Bool.or_eq_true, Bool.and_eq_true, decide_eq_true_eq] at hc
        have hjl := (rbW_lt e).1
        rcases hc with ⟨h1, h2⟩ | ⟨h1, h2⟩
        · have hb : b j = true := hon j (by rw [hin j hjl, h2]; rfl)
          simp only [hb, h1, decide_true]
        · have hb : b j = false := hoff j (by rw [hin j hjl, h2]; rfl)
          have h3 : ¬ j < i := by omega
          simp only [hb, h3, decide_false]
    obtain ⟨hex, hwt⟩ := rb_agree (ops := l.toArray) hsel hag
    have hnext : ∀ (us' : Nat → Value) (x : Value) w'', (∀ j, j ≠ i → us' j = us j) → x = rbV us' i v → C (up b i) us' w'' → (∃ us, C (up b i) us w'' ∧ (a'.put o.dst x).defers = a.defers ∧ (a'.put o.dst x).tmps.size = a.tmps.size ∧ ∀ t, (a'.put o.dst x).tmps[t]? = rbSlot l (rbVals us 0 vs) a (up b i) t) := by
      rintro us' x w'' hus rfl hC'
      refine ⟨us', hC', (put_size _ _ _).2.trans hde, (put_size _ _ _).1.trans hsz, fun t => ?_⟩
      rw [put_slot, hsl t, hsz]
      unfold rbSlot
      by_cases c : o.dst = some t
      · rw [if_pos c, hu i o t ho c]; simp [up_self, rbVals_get, hv]
      · rw [if_neg c]
        cases e : rbW l t l.length with
        | none => rfl
        | some j =>
          have hji : j ≠ i := by
            rintro rfl
            have := (rbW_lt e).2
            rw [ho] at this
            exact c (by simpa using this)
          have hvj : (rbVals us 0 vs)[j]? = (rbVals us' 0 vs)[j]? := by
            rw [rbVals_get, rbVals_get]
            congr 1
            funext vv
            cases vv with
            | some v => rfl
            | none => simp only [rbV]; rw [Nat.zero_add, hus j hji]
          simp only [up_ne hji, hvj]
    rcases hops i o v ho hv with ⟨hwn, hop⟩ | ⟨hwn, hvu2, hofC⟩
    · rw [hwt]
      have hwn' := hwn us
      rw [rbVals_take] at hwn'
      rw [if_pos hwn']
      rw [Nat.zero_add] at hop
      have hr := hop b us w' hbi (fun j hj hjb => hon j (by rw [hin j (by omega), hjb]; rfl)) hCb
      dsimp only at hr
      rw [rbVals_take] at hr
      unfold Oper.wp
      rw [hex]
      generalize (execOp (rbFrame a (l.take i) ((rbVals us 0 vs).take i)).eval o).run P w' = r at *
      cases r with
      | ok n w'' =>
        cases n <;> simp only [rbUpon] at hr <;> simp only [Oper.upon]
        case value u =>
          cases v with
          | some v => exact hK _ _ (hnext us _ _ (fun _ _ => rfl) hr.1 hr.2)
          | none => exact hK _ _ (hnext (usUp us i u) _ _ (fun j hj => if_neg hj) (by simp [rbV, usUp]) hr)
        case skip => exact hK _ _ (hnext us _ _ (fun _ _ => rfl) (by rw [hr.1]; rfl) hr.2)
        case enter f args =>
          cases v with
          | some v => exact hr.mono fun e w3 ⟨he, hC3⟩ => by subst he; exact hK _ _ (hnext us _ _ (fun _ _ => rfl) rfl hC3)
          | none => exact hr.mono fun e w3 ⟨u, he, hC3⟩ => by subst he; exact hK _ _ (hnext (usUp us i u) _ _ (fun j hj => if_neg hj) (by simp [rbV, usUp]) hC3)
      | halt x w'' => simp only [rbUpon] at hr
    · rw [hwt]
      have hwn' := hwn us
      rw [rbVals_take] at hwn'
      rw [if_neg (by rw [hwn']; simp)]
      rw [Nat.zero_add] at hofC
      exact hK _ _ (hnext us _ _ (fun _ _ => rfl) (by rw [hvu2]; rfl) (hofC b us w' hCb))
  · obtain ⟨us, hCb, hde, hsz, hsl⟩ := hI
    have hb : ∀ i, i < l.length → b i = true := fun i hi => hall' i (by simp [hi])
    obtain ⟨f1, f2, f3⟩ := frame_slot (hlv us) hu l.length (Nat.le_refl _) (a := a)
    rw [List.take_of_length_le (Nat.le_refl _), List.take_of_length_le (by rw [hlv us]; exact Nat.le_refl _)] at f1 f2 f3
    have : a' = rbFrame a l (rbVals us 0 vs) := by
      have e1 : a'.tmps = (rbFrame a l (rbVals us 0 vs)).tmps := by
        apply Array.ext_getElem?
        intro t
        rw [hsl t, f3 t]
        unfold rbSlot
        cases e : rbW l t l.length with
        | none => rfl
        | some j => simp only [hb j (rbW_lt e).1, (rbW_lt e).1, decide_true]
      have e2 : a'.defers = (rbFrame a l (rbVals us 0 vs)).defers := hde.trans f2.symm
      cases a'; cases hr : rbFrame a l (rbVals us 0 vs); rw [hr] at e1 e2; simp only at e1 e2; rw [e1, e2]
    rw [this]
    exact hend b us w' hb hCb
section
variable {ops : Array Oper} {B : List Nat} {C : RbC} {Q : ((Nat → Value) → Act) → Prop} {i : Nat} {o : Oper} {rest : List Oper} {A : (Nat → Value) → Act} {v : Value}
theorem rb_want (hw : ∀ us, Region.wanted o (yielded ops (A us).tmps) = true) (h : ∃ v, rbOp P B C i o A (some v) ∧ ∃ A', (∀ us, (A us).put o.dst v = A' us) ∧ rbL P ops B C Q (i + 1) rest A') : rbL P ops B C Q i (o :: rest) A := by
  obtain ⟨v, h1, A', hA, h2⟩ := h
  rw [show A' = fun us => (A us).put o.dst (rbV us i (some v)) from (funext hA).symm] at h2
  unfold rbL; exact .inl ⟨hw, some v, h1, h2⟩
theorem rb_open (hw : ∀ us, Region.wanted o (yielded ops (A us).tmps) = true) (h1 : rbOp P B C i o A none) (h : ∃ A', (∀ us, (A us).put o.dst (us i) = A' us) ∧ rbL P ops B C Q (i + 1) rest A') : rbL P ops B C Q i (o :: rest) A := by
  obtain ⟨A', hA, h2⟩ := h
  rw [show A' = fun us => (A us).put o.dst (rbV us i none) from (funext hA).symm] at h2
  unfold rbL; exact .inl ⟨hw, none, h1, h2⟩
theorem rb_skip (hw : ∀ us, Region.wanted o (yielded ops (A us).tmps) = false) (h1 : rbOff C i) (h : ∃ A', (∀ us, (A us).put o.dst undef = A' us) ∧ rbL P ops B C Q (i + 1) rest A') : rbL P ops B C Q i (o :: rest) A := by
  obtain ⟨A', hA, h2⟩ := h
  rw [show A' = fun us => (A us).put o.dst undef from (funext hA).symm] at h2
  unfold rbL; exact .inr ⟨hw, h1, h2⟩
theorem rb_done (h : Q A) : rbL P ops B C Q i [] A := h
theorem rb_pure (hE : rbOff C i) (h : ∀ b us w, C b us w → (execOp (A us).eval o).run P w = .ok (.value v) w) : rbOp P B C i o A (some v) := fun b us w _ _ hC => by
  rw [h b us w hC]; exact ⟨rfl, hE b us w hC⟩
theorem rb_call {f : FuncId} {args : (Nat → Value) → Array Value} (hrun : ∀ us w, (execOp (A us).eval o).run P w = .ok (.enter f (args us)) w)
    (h : ∀ b us w, b i = false → (∀ j, j < i → (B.getD i 0).testBit j = true → b j = true) → C b us w → Calls P f (args us) w fun e w' => e = .returned v ∧ C (up b i) us w') : rbOp P B C i o A (some v) := fun b us w hb hon hC => by
  rw [hrun us w]; exact h b us w hb hon hC
/-- A value that hangs on the order (a new variable). -/
theorem rb_new (h : ∀ b us w, b i = false → (∀ j, j < i → (B.getD i 0).testBit j = true → b j = true) → C b us w → ∃ u w', (execOp (A us).eval o).run P w = .ok (.value u) w' ∧ C (up b i) (usUp us i u) w') : rbOp P B C i o A none := fun b us w hb hon hC => by
  obtain ⟨u, w', e, hC'⟩ := h b us w hb hon hC
  rw [e]; exact hC'
/-- A store. -/
theorem rb_store (h : ∀ b us w, b i = false → (∀ j, j < i → (B.getD i 0).testBit j = true → b j = true) → C b us w → ∃ w', (execOp (A us).eval o).run P w = .ok .skip w' ∧ C (up b i) us w') : rbOp P B C i o A (some undef) := fun b us w hb hon hC => by
  obtain ⟨w', e, hC'⟩ := h b us w hb hon hC
  rw [e]; exact ⟨rfl, hC'⟩
theorem rb_enters {f : FuncId} {fn : Func} (hf : P.funcs[f]? = some fn) (hname : (fn.name == "runtime.NumGoroutine") = false) (hb : fn.body.isSome = true) {a : Act} {dst : Option Tmp} {xs : List Operand} {ats : Array TypeId} {ty : TypeId} {pos : String} {after : Array Edge} {guard : Option (Nat × Bool)} {args : List Value} (ha : xs.map a.eval = args) (w : World) :
    (execOp a.eval { dst, op := .call { callee := .value (.func f), args := xs.toArray, argTypes := ats }, type := ty, pos, after, guard }).run P w = .ok (.enter f args.toArray) w := by
  subst ha
  rw [execOp_call_go]
  have := enters_ hf hname hb (xs.map a.eval).toArray w
  simpa using this
end
end RegBy
theorem hb_gen {P : World → Prop} (w : World) (F : World → Prop) (hF : F w) (h : ∀ W, F W → P W) : P w := h w hF
def hb_bef (a b : S40) : Bool := a.f3 && decide (a.f6 < b.f5)
theorem bef_is (a b : S40) : hist_Before.f a.f0 a.f1 a.f2 a.f3 a.f4 a.f5 a.f6 b.f0 b.f1 b.f2 b.f3 b.f4 b.f5 b.f6 = some (hb_bef a b) := by
  unfold hist_Before.f hb_bef
  cases a.f3 <;> simp
theorem rbef_is (a b : S40) : inquestref14_Before.f a.f0 a.f1 a.f2 a.f3 a.f4 a.f5 a.f6 b.f0 b.f1 b.f2 b.f3 b.f4 b.f5 b.f6 = some (hb_bef a b) := by
  unfold inquestref14_Before.f hb_bef
  cases a.f3 <;> simp
def hb_z7 : Array Value := #[.int .i64 0, .int .i64 0, .int .i64 0, .bool false, .int .i64 0, .int .i64 0, .int .i64 0]
def hb_c7 (o : S40) : Array Value := #[.int .i64 o.f0, .int .i64 o.f1, .int .i64 o.f2, .bool o.f3, .int .i64 o.f4, .int .i64 o.f5, .int .i64 o.f6]
/-- The store of a whole operation. -/
def hb_W7 (W : World) (g : Nat) (o : S40) : World := ((((((W.setCell ⟨g, 0, none⟩ (.int .i64 o.f0)).setCell ⟨g, 1, none⟩ (.int .i64 o.f1)).setCell ⟨g, 2, none⟩ (.int .i64 o.f2)).setCell ⟨g, 3, none⟩ (.bool o.f3)).setCell ⟨g, 4, none⟩ (.int .i64 o.f4)).setCell ⟨g, 5, none⟩ (.int .i64 o.f5)).setCell ⟨g, 6, none⟩ (.int .i64 o.f6)
theorem w7_far {W : World} {g k : Nat} {o : S40} (h : k ≠ g) : (hb_W7 W g o).heap[k]? = W.heap[k]? := by
  unfold hb_W7
  rw [Below.heap_setCell _ _ _ _ h, Below.heap_setCell _ _ _ _ h, Below.heap_setCell _ _ _ _ h, Below.heap_setCell _ _ _ _ h, Below.heap_setCell _ _ _ _ h, Below.heap_setCell _ _ _ _ h, Below.heap_setCell _ _ _ _ h]
theorem w7_at {W : World} {g : Nat} {o : S40} (h : W.heap[g]? = some (.cells hb_z7 40 (0, 0))) : (hb_W7 W g o).heap[g]? = some (.cells (hb_c7 o) 40 (0, 0)) :=
  blk_set (blk_set (blk_set (blk_set (blk_set (blk_set (blk_set h 0 _) 1 _) 2 _) 3 _) 4 _) 5 _) 6 _
theorem w7_below {B : Nat} {w W : World} {g : Nat} {o : S40} (h : Below B w W) (hg : B ≤ g) : Below B w (hb_W7 W g o) :=
  ((((((h.setCell hg _).setCell hg _).setCell hg _).setCell hg _).setCell hg _).setCell hg _).setCell hg _
/-- A variable of the drawn statement: there or not, stored into or not. -/
def hb_V3 (W : World) (base : Nat) (on st : Bool) (u : Value) (o : S40) : Prop := on = true → ∃ g, u = .pointer (some ⟨g, 0, none⟩) ∧ base ≤ g ∧ W.heap[g]? = some (.cells (if st = true then hb_c7 o else hb_z7) 40 (0, 0))
theorem hb_V3.below {W W' : World} {base : Nat} {on st : Bool} {u : Value} {o : S40} (h : hb_V3 W base on st u o) (hb : Below W.heap.size W W') : hb_V3 W' base on st u o := fun hon => by
  obtain ⟨g, e, h1, h2⟩ := h hon
  exact ⟨g, e, h1, (hb.block g (blk_lt h2)).trans h2⟩
theorem hb_V3.far {W : World} {base g' : Nat} {on st : Bool} {u : Value} {o o' : S40} (h : hb_V3 W base on st u o) (hu : on = true → u ≠ .pointer (some ⟨g', 0, none⟩)) : hb_V3 (hb_W7 W g' o') base on st u o := fun hon => by
  obtain ⟨g, e, h1, h2⟩ := h hon
  exact ⟨g, e, h1, (w7_far (fun e2 => hu hon (by rw [e, e2]))).trans h2⟩
/-- What holds inside the drawn statement. -/
structure hb_C5 (w4 : World) (o24 o25 o26 : S40) (b : Nat → Bool) (us : Nat → Value) (W : World) : Prop where
  hB : Below w4.heap.size w4 W
  h24 : hb_V3 W w4.heap.size (b 24) (b 27) (us 24) o24
  h25 : hb_V3 W w4.heap.size (b 25) (b 28) (us 25) o25
  h26 : hb_V3 W w4.heap.size (b 26) (b 29) (us 26) o26
  n1 : b 24 = true → b 25 = true → us 24 ≠ us 25
  n2 : b 24 = true → b 26 = true → us 24 ≠ us 26
  n3 : b 25 = true → b 26 = true → us 25 ≠ us 26
  d1 : b 27 = true → b 24 = true
  d2 : b 28 = true → b 25 = true
  d3 : b 29 = true → b 26 = true
section
variable {w4 W : World} {o24 o25 o26 : S40} {b : Nat → Bool} {us : Nat → Value}
theorem hb_C5.same (h : hb_C5 w4 o24 o25 o26 b us W) {W' : World} (hb : Below W.heap.size W W') : hb_C5 w4 o24 o25 o26 b us W' := ⟨below_step h.hB hb, h.h24.below hb, h.h25.below hb, h.h26.below hb, h.n1, h.n2, h.n3, h.d1, h.d2, h.d3⟩
theorem hb_C5.drawn (h : hb_C5 w4 o24 o25 o26 b us W) (n : Nat) : hb_C5 w4 o24 o25 o26 b us (W.drewN n) := h.same (pw_below_drewN (Below.refl _ _) n)
theorem hb_V3.fresh {base : Nat} {on st : Bool} {u : Value} {o : S40} (h : hb_V3 W base on st u o) (hon : on = true) : u ≠ .pointer (some ⟨W.heap.size, 0, none⟩) := by
  obtain ⟨g, e, _, h2⟩ := h hon
  rw [e]
  intro he
  injection he with he
  injection he with he
  injection he with he
  have := blk_lt h2
  omega
theorem hb_V3.new {base : Nat} {on st : Bool} {o : S40} (hst : st = false) (hb : base ≤ W.heap.size) : hb_V3 (W.alloc (.cells hb_z7 40)) base on st (.pointer (some ⟨W.heap.size, 0, none⟩)) o := fun _ =>
  ⟨_, rfl, hb, by subst hst; exact blk_new W _⟩
theorem hb_C5.new24 (h : hb_C5 w4 o24 o25 o26 b us W) (hb : b 24 = false) : hb_C5 w4 o24 o25 o26 (up b 24) (usUp us 24 (.pointer (some ⟨W.heap.size, 0, none⟩))) (W.alloc (.cells hb_z7 40)) :=
  ⟨below_step h.hB (below_alloc (Below.refl _ _) _), (hb_V3.new (by cases hc : b 27 with | false => exact (up_ne (by decide)).trans hc | true => rw [h.d1 hc] at hb; cases hb) h.hB.size), (h.h25.below (below_alloc (Below.refl _ _) _)), (h.h26.below (below_alloc (Below.refl _ _) _)), (fun _ hq => (h.h25.fresh hq).symm), (fun _ hq => (h.h26.fresh hq).symm), h.n3, (fun _ => rfl), h.d2, h.d3⟩
theorem hb_C5.at24 (h : hb_C5 w4 o24 o25 o26 b us W) (hb : b 27 = false) (hon : b 24 = true) : ∃ g, us 24 = .pointer (some ⟨g, 0, none⟩) ∧ w4.heap.size ≤ g ∧ W.heap[g]? = some (.cells hb_z7 40 (0, 0)) := by
  obtain ⟨g, e, h1, h2⟩ := h.h24 hon
  rw [hb] at h2
  exact ⟨g, e, h1, h2⟩
theorem hb_C5.put24 (h : hb_C5 w4 o24 o25 o26 b us W) (hb : b 27 = false) (hon : b 24 = true) {g : Nat} (eg : us 24 = .pointer (some ⟨g, 0, none⟩)) : hb_C5 w4 o24 o25 o26 (up b 27) us (hb_W7 W g o24) := by
  obtain ⟨g', e, hg, hbk⟩ := h.at24 hb hon
  obtain rfl : g = g' := by rw [eg] at e; injection e with e; injection e with e; injection e
  exact ⟨w7_below h.hB hg, (fun _ => ⟨g, eg, hg, w7_at hbk⟩), (h.h25.far (fun hj => eg ▸ (h.n1 hon hj).symm)), (h.h26.far (fun hj => eg ▸ (h.n2 hon hj).symm)), h.n1, h.n2, h.n3, (fun _ => hon), h.d2, h.d3⟩
theorem hb_C5.new25 (h : hb_C5 w4 o24 o25 o26 b us W) (hb : b 25 = false) : hb_C5 w4 o24 o25 o26 (up b 25) (usUp us 25 (.pointer (some ⟨W.heap.size, 0, none⟩))) (W.alloc (.cells hb_z7 40)) :=
  ⟨below_step h.hB (below_alloc (Below.refl _ _) _), (h.h24.below (below_alloc (Below.refl _ _) _)), (hb_V3.new (by cases hc : b 28 with | false => exact (up_ne (by decide)).trans hc | true => rw [h.d2 hc] at hb; cases hb) h.hB.size), (h.h26.below (below_alloc (Below.refl _ _) _)), (fun hp _ => h.h24.fresh hp), h.n2, (fun _ hq => (h.h26.fresh hq).symm), h.d1, (fun _ => rfl), h.d3⟩
theorem hb_C5.at25 (h : hb_C5 w4 o24 o25 o26 b us W) (hb : b 28 = false) (hon : b 25 = true) : ∃ g, us 25 = .pointer (some ⟨g, 0, none⟩) ∧ w4.heap.size ≤ g ∧ W.heap[g]? = some (.cells hb_z7 40 (0, 0)) := by
  obtain ⟨g, e, h1, h2⟩ := h.h25 hon
  rw [hb] at h2
  exact ⟨g, e, h1, h2⟩
theorem hb_C5.put25 (h : hb_C5 w4 o24 o25 o26 b us W) (hb : b 28 = false) (hon : b 25 = true) {g : Nat} (eg : us 25 = .pointer (some ⟨g, 0, none⟩)) : hb_C5 w4 o24 o25 o26 (up b 28) us (hb_W7 W g o25) := by
  obtain ⟨g', e, hg, hbk⟩ := h.at25 hb hon
  obtain rfl : g = g' := by rw [eg] at e; injection e with e; injection e with e; injection e
  exact ⟨w7_below h.hB hg, (h.h24.far (fun hj => eg ▸ h.n1 hj hon)), (fun _ => ⟨g, eg, hg, w7_at hbk⟩), (h.h26.far (fun hj => eg ▸ (h.n3 hon hj).symm)), h.n1, h.n2, h.n3, h.d1, (fun _ => hon), h.d3⟩
theorem hb_C5.new26 (h : hb_C5 w4 o24 o25 o26 b us W) (hb : b 26 = false) : hb_C5 w4 o24 o25 o26 (up b 26) (usUp us 26 (.pointer (some ⟨W.heap.size, 0, none⟩))) (W.alloc (.cells hb_z7 40)) :=
  ⟨below_step h.hB (below_alloc (Below.refl _ _) _), (h.h24.below (below_alloc (Below.refl _ _) _)), (h.h25.below (below_alloc (Below.refl _ _) _)), (hb_V3.new (by cases hc : b 29 with | false => exact (up_ne (by decide)).trans hc | true => rw [h.d3 hc] at hb; cases hb) h.hB.size), h.n1, (fun hp _ => h.h24.fresh hp), (fun hp _ => h.h25.fresh hp), h.d1, h.d2, (fun _ => rfl)⟩
theorem hb_C5.at26 (h : hb_C5 w4 o24 o25 o26 b us W) (hb : b 29 = false) (hon : b 26 = true) : ∃ g, us 26 = .pointer (some ⟨g, 0, none⟩) ∧ w4.heap.size ≤ g ∧ W.heap[g]? = some (.cells hb_z7 40 (0, 0)) := by
  obtain ⟨g, e, h1, h2⟩ := h.h26 hon
  rw [hb] at h2
  exact ⟨g, e, h1, h2⟩
theorem hb_C5.put26 (h : hb_C5 w4 o24 o25 o26 b us W) (hb : b 29 = false) (hon : b 26 = true) {g : Nat} (eg : us 26 = .pointer (some ⟨g, 0, none⟩)) : hb_C5 w4 o24 o25 o26 (up b 29) us (hb_W7 W g o26) := by
  obtain ⟨g', e, hg, hbk⟩ := h.at26 hb hon
  obtain rfl : g = g' := by rw [eg] at e; injection e with e; injection e with e; injection e
  exact ⟨w7_below h.hB hg, (h.h24.far (fun hj => eg ▸ h.n2 hj hon)), (h.h25.far (fun hj => eg ▸ h.n3 hj hon)), (fun _ => ⟨g, eg, hg, w7_at hbk⟩), h.n1, h.n2, h.n3, h.d1, h.d2, (fun _ => hon)⟩
theorem hb_C5.off {i : Nat} (h : hb_C5 w4 o24 o25 o26 b us W) (hi : i < 24) : hb_C5 w4 o24 o25 o26 (up b i) us W := by
  have e : ∀ j, 24 ≤ j → up b i j = b j := fun j hj => up_ne (by omega)
  exact ⟨h.hB, by rw [e 24 (by omega), e 27 (by omega)]; exact h.h24, by rw [e 25 (by omega), e 28 (by omega)]; exact h.h25, by rw [e 26 (by omega), e 29 (by omega)]; exact h.h26, by rw [e 24 (by omega), e 25 (by omega)]; exact h.n1, by rw [e 24 (by omega), e 26 (by omega)]; exact h.n2, by rw [e 25 (by omega), e 26 (by omega)]; exact h.n3, by rw [e 24 (by omega), e 27 (by omega)]; exact h.d1, by rw [e 25 (by omega), e 28 (by omega)]; exact h.d2, by rw [e 26 (by omega), e 29 (by omega)]; exact h.d3⟩
theorem hb_C5.start : hb_C5 w4 o24 o25 o26 (fun _ => false) us w4.drew := ⟨below_drew1 (Below.refl _ _), fun h => Bool.noConfusion h, fun h => Bool.noConfusion h, fun h => Bool.noConfusion h, fun h => Bool.noConfusion h, fun h => Bool.noConfusion h, fun h => Bool.noConfusion h, fun h => Bool.noConfusion h, fun h => Bool.noConfusion h, fun h => Bool.noConfusion h⟩
end
def Cells7 (W : World) (ad : Addr) (o : S40) : Prop := W.cell? ad = some (.int .i64 o.f0) ∧ W.cell? ⟨ad.block, ad.off + 1, none⟩ = some (.int .i64 o.f1) ∧ W.cell? ⟨ad.block, ad.off + 2, none⟩ = some (.int .i64 o.f2) ∧ W.cell? ⟨ad.block, ad.off + 3, none⟩ = some (.bool o.f3) ∧ W.cell? ⟨ad.block, ad.off + 4, none⟩ = some (.int .i64 o.f4) ∧ W.cell? ⟨ad.block, ad.off + 5, none⟩ = some (.int .i64 o.f5) ∧ W.cell? ⟨ad.block, ad.off + 6, none⟩ = some (.int .i64 o.f6)
theorem at_in {w W : World} {ad : Addr} {o : S40} (hb : Below w.heap.size w W) (h : Cells7 w ad o) : Cells7 W ad o :=
  ⟨pw_cell_below hb h.1, pw_cell_below hb h.2.1, pw_cell_below hb h.2.2.1, pw_cell_below hb h.2.2.2.1, pw_cell_below hb h.2.2.2.2.1, pw_cell_below hb h.2.2.2.2.2.1, pw_cell_below hb h.2.2.2.2.2.2⟩
theorem at_blk {W : World} {g : Nat} {o : S40} (h : W.heap[g]? = some (.cells (hb_c7 o) 40 (0, 0))) : Cells7 W ⟨g, 0, none⟩ o :=
  ⟨(blk_cell h 0).trans rfl, (blk_cell h 1).trans rfl, (blk_cell h 2).trans rfl, (blk_cell h 3).trans rfl, (blk_cell h 4).trans rfl, (blk_cell h 5).trans rfl, (blk_cell h 6).trans rfl⟩
theorem least_in {a m n : Int} (h : inquestref01_Least.f a 0 m = some n) (hm : 0 ≤ m) : 0 ≤ n ∧ n ≤ m := by
  unfold inquestref01_Least.f at h
  split at h
  · cases h; omega
  · split at h
    · cases h; omega
    · cases h; omega
def befB (a b c : S40) : Bool := !hb_bef a a && (!hb_bef a b || !hb_bef b a) && (!hb_bef a b || !hb_bef b c || hb_bef a c)
def inquestlaw14_HistBefore.f (k : Nat) (l0 : List S44) (a1 a2 a3 : Int) : Option Bool :=
  (inquestref14_Few.f l0 128).bind fun L => (inquestref14_Ops.f k L).bind fun p => if p.2 ≠ 0 ∨ p.1.length = 0 then some true else if 1000 < p.1.length then none else
    (inquestref01_Least.f a1 0 ((p.1.length : Int) - 1)).bind fun ia => (inquestref01_Least.f a2 0 ((p.1.length : Int) - 1)).bind fun ib => (inquestref01_Least.f a3 0 ((p.1.length : Int) - 1)).bind fun ic =>
    if befB (rd_T40 p.1 ia) (rd_T40 p.1 ib) (rd_T40 p.1 ic) = true then some true else none
set_option maxHeartbeats 8000000 in
set_option maxRecDepth 100000 in
theorem inquestlaw14_HistBefore.calls (k : Nat) (A0 : Option Addr) (c0 : Nat) (l0 : List S44) (a1 a2 a3 : Int) (r : Bool) (w : World) (hr0 : Kd.C k44 w A0 l0.length l0) (hc0 : l0.length ≤ c0) (h : inquestlaw14_HistBefore.f k l0 a1 a2 a3 = some r) :
    Calls Try.prog 7 #[.slice A0 l0.length c0, .int .i64 a1, .int .i64 a2, .int .i64 a3] w fun e w' => e = .returned (.bool r) ∧ Below w.heap.size w w' := by
  unfold inquestlaw14_HistBefore.f at h
  replace h := Option.bind_eq_some_iff.1 h
  obtain ⟨L, hL, h⟩ := h
  replace h := Option.bind_eq_some_iff.1 h
  obtain ⟨⟨p1, p2⟩, hp, h⟩ := h
  dsimp only at h
  have hL' := Aside0.mk hL
  have hp' := Aside0.mk hp
  have hr' := Aside0.mk hr0
  have hu40 := Try.underlying40
  clear hL hp hr0
  by_cases hz : p2 ≠ 0 ∨ p1.length = 0
  · rw [if_pos hz] at h
    obtain rfl : true = r := Option.some.inj h
    clear h
    have hz2 : (p2 != 0) = true ∨ ((p2 != 0) = false ∧ ((p1.length : Int) == 0) = true) := by
      by_cases c : p2 = 0
      · exact .inr ⟨bne_eq_false_iff_eq.mpr c, by rcases hz with hz | hz; exact absurd c hz; simp [hz]⟩
      · exact .inl (bne_iff_ne.mpr c)
    clear hz
    rcases hz2 with hz | ⟨hz, hz1⟩
    all_goals
      go_enter Try.func7, Try.ntmps7
      go_wp2_with (first | (go_at_call 10; (with_reducible refine (inquestref14_Few.calls A0 c0 l0 128 L _ hr'.out hc0 hL'.out).mono ?_); rintro e w1 ⟨vL, rfl, hRL, hB1⟩; obtain ⟨AL, cL, rfl⟩ := Kd.R_slice hRL; obtain ⟨_, hcL, hCL⟩ := Kd.R_reads' hRL; replace hCL := Aside0.mk hCL; replace hB1 := Aside0.mk hB1; clear hRL) | (go_at_call 16; (with_reducible refine (inquestref14_Ops.calls k AL cL L p1 p2 _ hCL.out hcL hp'.out).mono ?_); rintro e w4 ⟨vP, rfl, hRP, hB4⟩; obtain ⟨AP, cP, rfl⟩ := Kd.R_slice hRP; replace hRP := Aside0.mk hRP; replace hB4 := Aside0.mk hB4) | (go_at_call 14; (with_reducible refine (inquestlaw14_lives.calls true _ (by decide +kernel)).mono ?_); rintro e w9 ⟨rfl, hb9⟩))
      go_ret
      exact ⟨rfl, below_step (below_step hB1.out hB4.out) hb9⟩
  · rw [if_neg hz] at h
    by_cases hbig : 1000 < p1.length
    · rw [if_pos hbig] at h; cases h
    rw [if_neg hbig] at h
    replace h := Option.bind_eq_some_iff.1 h
    obtain ⟨ia, hla, h⟩ := h
    replace h := Option.bind_eq_some_iff.1 h
    obtain ⟨ib, hlb, h⟩ := h
    replace h := Option.bind_eq_some_iff.1 h
    obtain ⟨ic, hlc, h⟩ := h
    have hz0 : (p2 != 0) = false := by cases c : (p2 != 0) with | false => rfl | true => exact absurd (.inl (bne_iff_ne.mp c)) hz
    have hzl : 0 < p1.length := by omega
    have hz1 : ((p1.length : Int) == 0) = false := beq_eq_false_iff_ne.mpr (by omega)
    have hw0 : (0 : Int) < (p1.length : Int) := by omega
    have hw1 : (p1.length : Int) ≤ 1000 := by omega
    have ra := least_in hla (by omega)
    have rb := least_in hlb (by omega)
    have rc := least_in hlc (by omega)
    have hr24 : Aside0 (0 ≤ ia ∧ ia < (p1.length : Int)) := ⟨by omega⟩
    have hr25 : Aside0 (0 ≤ ib ∧ ib < (p1.length : Int)) := ⟨by omega⟩
    have hr26 : Aside0 (0 ≤ ic ∧ ic < (p1.length : Int)) := ⟨by omega⟩
    have hl24 := Aside0.mk hla
    have hl25 := Aside0.mk hlb
    have hl26 := Aside0.mk hlc
    by_cases hcd : befB (rd_T40 p1 ia) (rd_T40 p1 ib) (rd_T40 p1 ic) = true
    rotate_left
    · rw [if_neg hcd] at h; cases h
    rw [if_pos hcd] at h
    obtain rfl : true = r := Option.some.inj h
    replace hcd := Aside0.mk hcd
    clear h hz hbig hla hlb hlc ra rb rc
    go_enter Try.func7, Try.ntmps7
    go_wp2_with (first | (go_at_call 10; (with_reducible refine (inquestref14_Few.calls A0 c0 l0 128 L _ hr'.out hc0 hL'.out).mono ?_); rintro e w1 ⟨vL, rfl, hRL, hB1⟩; obtain ⟨AL, cL, rfl⟩ := Kd.R_slice hRL; obtain ⟨_, hcL, hCL⟩ := Kd.R_reads' hRL; replace hCL := Aside0.mk hCL; replace hB1 := Aside0.mk hB1; clear hRL) | (go_at_call 16; (with_reducible refine (inquestref14_Ops.calls k AL cL L p1 p2 _ hCL.out hcL hp'.out).mono ?_); rintro e w4 ⟨vP, rfl, hRP, hB4⟩; obtain ⟨AP, cP, rfl⟩ := Kd.R_slice hRP; replace hRP := Aside0.mk hRP; replace hB4 := Aside0.mk hB4) | (go_at_call 14; (with_reducible refine (inquestlaw14_lives.calls true _ (by decide +kernel)).mono ?_); rintro e w9 ⟨rfl, hb9⟩))
    have hCP := (Kd.R_reads' hRP.out).2.2
    have hcP := (Kd.R_reads' hRP.out).2.1
    obtain ⟨aP, eP, x0, x1, x2, x3, x4, x5, x6⟩ := at_T40 hCP ia hr24.out.1 hr24.out.2
    obtain ⟨aP2, eP2, y0, y1, y2, y3, y4, y5, y6⟩ := at_T40 hCP ib hr25.out.1 hr25.out.2
    obtain ⟨aP3, eP3, u0, u1, u2, u3, u4, u5, u6⟩ := at_T40 hCP ic hr26.out.1 hr26.out.2
    subst eP
    cases eP2
    cases eP3
    have hx24 : Aside0 (Cells7 w4 (aP.add (ia.toNat * 7)) (rd_T40 p1 ia)) := ⟨⟨x0, x1, x2, x3, x4, x5, x6⟩⟩
    have hx25 : Aside0 (Cells7 w4 (aP.add (ib.toNat * 7)) (rd_T40 p1 ib)) := ⟨⟨y0, y1, y2, y3, y4, y5, y6⟩⟩
    have hx26 : Aside0 (Cells7 w4 (aP.add (ic.toNat * 7)) (rd_T40 p1 ic)) := ⟨⟨u0, u1, u2, u3, u4, u5, u6⟩⟩
    clear x0 x1 x2 x3 x4 x5 x6 y0 y1 y2 y3 y4 y5 y6 u0 u1 u2 u3 u4 u5 u6
    generalize rd_T40 p1 ia = o24 at *
    generalize rd_T40 p1 ib = o25 at *
    generalize rd_T40 p1 ic = o26 at *
    have hwr : IntKind.i64.wrap ((p1.length : Int) - 1) = (p1.length : Int) - 1 := (i64_w _).trans (w64_h (by omega) (by omega))
    refine region_by (fun b us W_ => hb_C5 w4 o24 o25 o26 b us W_) (by kernel_rfl) (by kernel_rfl) ⟨fun _ => undef, hb_C5.start⟩ ?_
    iterate 5 (refine rb_want (fun us => rfl) ?_; apply Exists.intro; apply And.intro; (focus (apply rb_pure; (focus (intro b us w h; exact h.off (by decide))); intro b us W_ hC; go_simp; rfl)); apply Exists.intro; apply And.intro; (focus (intro us; simp only [Act.put, List.setIfInBounds_toArray, List.set_cons_zero, List.set_cons_succ]; rfl)))
    (refine rb_want (fun us => rfl) ⟨.int .i64 ia, rb_call (f := 18) (args := fun us => #[.int .i64 a1, .int .i64 0, .int .i64 ((p1.length : Int) - 1)]) (fun us W_ => ?_) (fun b us W_ hb hon hC => ?_), ?_⟩; (focus (exact rb_enters Try.func18 (by kernel_rfl) rfl (by rfl) W_)); (focus (refine (inquestref01_Least.calls a1 0 ((p1.length : Int) - 1) ia W_ hl24.out).mono ?_; rintro e w1 ⟨rfl, ⟨nd, rfl⟩⟩; exact ⟨rfl, (hC.drawn nd).off (by decide)⟩)); apply Exists.intro; apply And.intro; (focus (intro us; simp only [Act.put, List.setIfInBounds_toArray, List.set_cons_zero, List.set_cons_succ]; rfl)))
    (refine rb_want (fun us => rfl) ?_; apply Exists.intro; apply And.intro; (focus (apply rb_pure; (focus (intro b us w h; exact h.off (by decide))); intro b us W_ hC; have q := hr24.out; obtain ⟨q0, q1⟩ := q; go_simp; rfl)); apply Exists.intro; apply And.intro; (focus (intro us; simp only [Act.put, List.setIfInBounds_toArray, List.set_cons_zero, List.set_cons_succ]; rfl)))
    (refine rb_want (fun us => rfl) ?_; apply Exists.intro; apply And.intro; (focus (apply rb_pure; (focus (intro b us w h; exact h.off (by decide))); intro b us W_ hC; have y := at_in hC.hB hx24.out; obtain ⟨y0, y1, y2, y3, y4, y5, y6⟩ := y; go_simp; rfl)); apply Exists.intro; apply And.intro; (focus (intro us; simp only [Act.put, List.setIfInBounds_toArray, List.set_cons_zero, List.set_cons_succ]; rfl)))
    iterate 5 (refine rb_want (fun us => rfl) ?_; apply Exists.intro; apply And.intro; (focus (apply rb_pure; (focus (intro b us w h; exact h.off (by decide))); intro b us W_ hC; go_simp; rfl)); apply Exists.intro; apply And.intro; (focus (intro us; simp only [Act.put, List.setIfInBounds_toArray, List.set_cons_zero, List.set_cons_succ]; rfl)))
    (refine rb_want (fun us => rfl) ⟨.int .i64 ib, rb_call (f := 18) (args := fun us => #[.int .i64 a2, .int .i64 0, .int .i64 ((p1.length : Int) - 1)]) (fun us W_ => ?_) (fun b us W_ hb hon hC => ?_), ?_⟩; (focus (exact rb_enters Try.func18 (by kernel_rfl) rfl (by rfl) W_)); (focus (refine (inquestref01_Least.calls a2 0 ((p1.length : Int) - 1) ib W_ hl25.out).mono ?_; rintro e w1 ⟨rfl, ⟨nd, rfl⟩⟩; exact ⟨rfl, (hC.drawn nd).off (by decide)⟩)); apply Exists.intro; apply And.intro; (focus (intro us; simp only [Act.put, List.setIfInBounds_toArray, List.set_cons_zero, List.set_cons_succ]; rfl)))
    (refine rb_want (fun us => rfl) ?_; apply Exists.intro; apply And.intro; (focus (apply rb_pure; (focus (intro b us w h; exact h.off (by decide))); intro b us W_ hC; have q := hr25.out; obtain ⟨q0, q1⟩ := q; go_simp; rfl)); apply Exists.intro; apply And.intro; (focus (intro us; simp only [Act.put, List.setIfInBounds_toArray, List.set_cons_zero, List.set_cons_succ]; rfl)))
    (refine rb_want (fun us => rfl) ?_; apply Exists.intro; apply And.intro; (focus (apply rb_pure; (focus (intro b us w h; exact h.off (by decide))); intro b us W_ hC; have y := at_in hC.hB hx25.out; obtain ⟨y0, y1, y2, y3, y4, y5, y6⟩ := y; go_simp; rfl)); apply Exists.intro; apply And.intro; (focus (intro us; simp only [Act.put, List.setIfInBounds_toArray, List.set_cons_zero, List.set_cons_succ]; rfl)))
    iterate 5 (refine rb_want (fun us => rfl) ?_; apply Exists.intro; apply And.intro; (focus (apply rb_pure; (focus (intro b us w h; exact h.off (by decide))); intro b us W_ hC; go_simp; rfl)); apply Exists.intro; apply And.intro; (focus (intro us; simp only [Act.put, List.setIfInBounds_toArray, List.set_cons_zero, List.set_cons_succ]; rfl)))
    (refine rb_want (fun us => rfl) ⟨.int .i64 ic, rb_call (f := 18) (args := fun us => #[.int .i64 a3, .int .i64 0, .int .i64 ((p1.length : Int) - 1)]) (fun us W_ => ?_) (fun b us W_ hb hon hC => ?_), ?_⟩; (focus (exact rb_enters Try.func18 (by kernel_rfl) rfl (by rfl) W_)); (focus (refine (inquestref01_Least.calls a3 0 ((p1.length : Int) - 1) ic W_ hl26.out).mono ?_; rintro e w1 ⟨rfl, ⟨nd, rfl⟩⟩; exact ⟨rfl, (hC.drawn nd).off (by decide)⟩)); apply Exists.intro; apply And.intro; (focus (intro us; simp only [Act.put, List.setIfInBounds_toArray, List.set_cons_zero, List.set_cons_succ]; rfl)))
    (refine rb_want (fun us => rfl) ?_; apply Exists.intro; apply And.intro; (focus (apply rb_pure; (focus (intro b us w h; exact h.off (by decide))); intro b us W_ hC; have q := hr26.out; obtain ⟨q0, q1⟩ := q; go_simp; rfl)); apply Exists.intro; apply And.intro; (focus (intro us; simp only [Act.put, List.setIfInBounds_toArray, List.set_cons_zero, List.set_cons_succ]; rfl)))
    (refine rb_want (fun us => rfl) ?_; apply Exists.intro; apply And.intro; (focus (apply rb_pure; (focus (intro b us w h; exact h.off (by decide))); intro b us W_ hC; have y := at_in hC.hB hx26.out; obtain ⟨y0, y1, y2, y3, y4, y5, y6⟩ := y; go_simp; rfl)); apply Exists.intro; apply And.intro; (focus (intro us; simp only [Act.put, List.setIfInBounds_toArray, List.set_cons_zero, List.set_cons_succ]; rfl)))
    (refine rb_open (fun us => rfl) (rb_new (fun b us W_ hb hon hC => ⟨.pointer (some ⟨W_.heap.size, 0, none⟩), W_.alloc (.cells hb_z7 40), ?_, ?_⟩)) ?_; (focus (go_simp; rfl)); (focus (exact hC.new24 hb)); apply Exists.intro; apply And.intro; (focus (intro us; simp only [Act.put, List.setIfInBounds_toArray, List.set_cons_zero, List.set_cons_succ]; rfl)))
    (refine rb_open (fun us => rfl) (rb_new (fun b us W_ hb hon hC => ⟨.pointer (some ⟨W_.heap.size, 0, none⟩), W_.alloc (.cells hb_z7 40), ?_, ?_⟩)) ?_; (focus (go_simp; rfl)); (focus (exact hC.new25 hb)); apply Exists.intro; apply And.intro; (focus (intro us; simp only [Act.put, List.setIfInBounds_toArray, List.set_cons_zero, List.set_cons_succ]; rfl)))
    (refine rb_open (fun us => rfl) (rb_new (fun b us W_ hb hon hC => ⟨.pointer (some ⟨W_.heap.size, 0, none⟩), W_.alloc (.cells hb_z7 40), ?_, ?_⟩)) ?_; (focus (go_simp; rfl)); (focus (exact hC.new26 hb)); apply Exists.intro; apply And.intro; (focus (intro us; simp only [Act.put, List.setIfInBounds_toArray, List.set_cons_zero, List.set_cons_succ]; rfl)))
    (refine rb_want (fun us => rfl) ⟨undef, rb_store (fun b us W_ hb hon hC => ?_), ?_⟩; (focus (obtain ⟨g, eg, hg, hbk⟩ := hC.at24 hb (hon 24 (by decide) (by decide)); refine ⟨hb_W7 W_ g o24, ?_, hC.put24 hb (hon 24 (by decide) (by decide)) eg⟩; have k0 := blk_cell hbk 0; have k1 := blk_cell hbk 1; have k2 := blk_cell hbk 2; have k3 := blk_cell hbk 3; have k4 := blk_cell hbk 4; have k5 := blk_cell hbk 5; have k6 := blk_cell hbk 6; have v0 := blk_frozen hbk 0; have v1 := blk_frozen hbk 1; have v2 := blk_frozen hbk 2; have v3 := blk_frozen hbk 3; have v4 := blk_frozen hbk 4; have v5 := blk_frozen hbk 5; have v6 := blk_frozen hbk 6; simp only [hb_z7, List.getElem?_toArray, List.getElem?_cons_zero, List.getElem?_cons_succ] at k0 k1 k2 k3 k4 k5 k6; rw [eg]; clear hbk; go_simp; rfl)); apply Exists.intro; apply And.intro; (focus (intro us; simp only [Act.put, List.setIfInBounds_toArray, List.set_cons_zero, List.set_cons_succ]; rfl)))
    (refine rb_want (fun us => rfl) ⟨undef, rb_store (fun b us W_ hb hon hC => ?_), ?_⟩; (focus (obtain ⟨g, eg, hg, hbk⟩ := hC.at25 hb (hon 25 (by decide) (by decide)); refine ⟨hb_W7 W_ g o25, ?_, hC.put25 hb (hon 25 (by decide) (by decide)) eg⟩; have k0 := blk_cell hbk 0; have k1 := blk_cell hbk 1; have k2 := blk_cell hbk 2; have k3 := blk_cell hbk 3; have k4 := blk_cell hbk 4; have k5 := blk_cell hbk 5; have k6 := blk_cell hbk 6; have v0 := blk_frozen hbk 0; have v1 := blk_frozen hbk 1; have v2 := blk_frozen hbk 2; have v3 := blk_frozen hbk 3; have v4 := blk_frozen hbk 4; have v5 := blk_frozen hbk 5; have v6 := blk_frozen hbk 6; simp only [hb_z7, List.getElem?_toArray, List.getElem?_cons_zero, List.getElem?_cons_succ] at k0 k1 k2 k3 k4 k5 k6; rw [eg]; clear hbk; go_simp; rfl)); apply Exists.intro; apply And.intro; (focus (intro us; simp only [Act.put, List.setIfInBounds_toArray, List.set_cons_zero, List.set_cons_succ]; rfl)))
    (refine rb_want (fun us => rfl) ⟨undef, rb_store (fun b us W_ hb hon hC => ?_), ?_⟩; (focus (obtain ⟨g, eg, hg, hbk⟩ := hC.at26 hb (hon 26 (by decide) (by decide)); refine ⟨hb_W7 W_ g o26, ?_, hC.put26 hb (hon 26 (by decide) (by decide)) eg⟩; have k0 := blk_cell hbk 0; have k1 := blk_cell hbk 1; have k2 := blk_cell hbk 2; have k3 := blk_cell hbk 3; have k4 := blk_cell hbk 4; have k5 := blk_cell hbk 5; have k6 := blk_cell hbk 6; have v0 := blk_frozen hbk 0; have v1 := blk_frozen hbk 1; have v2 := blk_frozen hbk 2; have v3 := blk_frozen hbk 3; have v4 := blk_frozen hbk 4; have v5 := blk_frozen hbk 5; have v6 := blk_frozen hbk 6; simp only [hb_z7, List.getElem?_toArray, List.getElem?_cons_zero, List.getElem?_cons_succ] at k0 k1 k2 k3 k4 k5 k6; rw [eg]; clear hbk; go_simp; rfl)); apply Exists.intro; apply And.intro; (focus (intro us; simp only [Act.put, List.setIfInBounds_toArray, List.set_cons_zero, List.set_cons_succ]; rfl)))
    refine rb_done (fun b us W_ hall hC => ?_)
    obtain ⟨g1, e1, hg1, k1⟩ := hC.h24 (hall 24 (by decide))
    obtain ⟨g2, e2, hg2, k2⟩ := hC.h25 (hall 25 (by decide))
    obtain ⟨g3, e3, hg3, k3⟩ := hC.h26 (hall 26 (by decide))
    rw [hall 27 (by decide)] at k1
    rw [hall 28 (by decide)] at k2
    rw [hall 29 (by decide)] at k3
    simp only [if_true] at k1 k2 k3
    have hBW := Aside0.mk hC.hB
    have k1 := Aside0.mk k1
    have k2 := Aside0.mk k2
    have k3 := Aside0.mk k3
    try dsimp only
    rw [e1, e2, e3]
    clear e1 e2 e3 hg1 hg2 hg3 hC hall hwr
    clear us b
    go_wp2
    refine region_by (fun b us W6 => Below W_.heap.size W_ W6) (by kernel_rfl) (by kernel_rfl) ⟨fun _ => undef, below_drew1 (Below.refl _ _)⟩ ?_
    (refine rb_want (fun us => rfl) ?_; apply Exists.intro; apply And.intro; (focus (apply rb_pure; (focus (intro b us w h; exact h)); intro b us W7_ hC; have y := at_in hC (at_blk k1.out); obtain ⟨y0, y1, y2, y3, y4, y5, y6⟩ := y; go_simp; rfl)); apply Exists.intro; apply And.intro; (focus (intro us; simp only [Act.put, List.setIfInBounds_toArray, List.set_cons_zero, List.set_cons_succ]; rfl)))
    (refine rb_want (fun us => rfl) ?_; apply Exists.intro; apply And.intro; (focus (apply rb_pure; (focus (intro b us w h; exact h)); intro b us W7_ hC; have y := at_in hC (at_blk k2.out); obtain ⟨y0, y1, y2, y3, y4, y5, y6⟩ := y; go_simp; rfl)); apply Exists.intro; apply And.intro; (focus (intro us; simp only [Act.put, List.setIfInBounds_toArray, List.set_cons_zero, List.set_cons_succ]; rfl)))
    (refine rb_want (fun us => rfl) ⟨.bool (hb_bef o24 o25), rb_call (f := 19) (args := fun us => #[.agg (hb_c7 o24), .agg (hb_c7 o25)]) (fun us W7_ => ?_) (fun b us W7_ hb hon hC => ?_), ?_⟩; (focus (exact rb_enters Try.func19 (by kernel_rfl) rfl (by rfl) W7_)); (focus (refine (hist_Before.calls o24.f0 o24.f1 o24.f2 o24.f3 o24.f4 o24.f5 o24.f6 o25.f0 o25.f1 o25.f2 o25.f3 o25.f4 o25.f5 o25.f6 _ W7_ (bef_is o24 o25)).mono ?_; rintro e w1 ⟨rfl, hb1⟩; exact ⟨rfl, below_step hC hb1⟩)); apply Exists.intro; apply And.intro; (focus (intro us; simp only [Act.put, List.setIfInBounds_toArray, List.set_cons_zero, List.set_cons_succ]; rfl)))
    (refine rb_want (fun us => rfl) ?_; apply Exists.intro; apply And.intro; (focus (apply rb_pure; (focus (intro b us w h; exact h)); intro b us W7_ hC; have y := at_in hC (at_blk k2.out); obtain ⟨y0, y1, y2, y3, y4, y5, y6⟩ := y; go_simp; rfl)); apply Exists.intro; apply And.intro; (focus (intro us; simp only [Act.put, List.setIfInBounds_toArray, List.set_cons_zero, List.set_cons_succ]; rfl)))
    (refine rb_want (fun us => rfl) ?_; apply Exists.intro; apply And.intro; (focus (apply rb_pure; (focus (intro b us w h; exact h)); intro b us W7_ hC; have y := at_in hC (at_blk k3.out); obtain ⟨y0, y1, y2, y3, y4, y5, y6⟩ := y; go_simp; rfl)); apply Exists.intro; apply And.intro; (focus (intro us; simp only [Act.put, List.setIfInBounds_toArray, List.set_cons_zero, List.set_cons_succ]; rfl)))
    (refine rb_want (fun us => rfl) ⟨.bool (hb_bef o25 o26), rb_call (f := 19) (args := fun us => #[.agg (hb_c7 o25), .agg (hb_c7 o26)]) (fun us W7_ => ?_) (fun b us W7_ hb hon hC => ?_), ?_⟩; (focus (exact rb_enters Try.func19 (by kernel_rfl) rfl (by rfl) W7_)); (focus (refine (hist_Before.calls o25.f0 o25.f1 o25.f2 o25.f3 o25.f4 o25.f5 o25.f6 o26.f0 o26.f1 o26.f2 o26.f3 o26.f4 o26.f5 o26.f6 _ W7_ (bef_is o25 o26)).mono ?_; rintro e w1 ⟨rfl, hb1⟩; exact ⟨rfl, below_step hC hb1⟩)); apply Exists.intro; apply And.intro; (focus (intro us; simp only [Act.put, List.setIfInBounds_toArray, List.set_cons_zero, List.set_cons_succ]; rfl)))
    (refine rb_want (fun us => rfl) ?_; apply Exists.intro; apply And.intro; (focus (apply rb_pure; (focus (intro b us w h; exact h)); intro b us W7_ hC; have y := at_in hC (at_blk k1.out); obtain ⟨y0, y1, y2, y3, y4, y5, y6⟩ := y; go_simp; rfl)); apply Exists.intro; apply And.intro; (focus (intro us; simp only [Act.put, List.setIfInBounds_toArray, List.set_cons_zero, List.set_cons_succ]; rfl)))
    (refine rb_want (fun us => rfl) ?_; apply Exists.intro; apply And.intro; (focus (apply rb_pure; (focus (intro b us w h; exact h)); intro b us W7_ hC; have y := at_in hC (at_blk k3.out); obtain ⟨y0, y1, y2, y3, y4, y5, y6⟩ := y; go_simp; rfl)); apply Exists.intro; apply And.intro; (focus (intro us; simp only [Act.put, List.setIfInBounds_toArray, List.set_cons_zero, List.set_cons_succ]; rfl)))
    (refine rb_want (fun us => rfl) ⟨.bool (hb_bef o24 o26), rb_call (f := 19) (args := fun us => #[.agg (hb_c7 o24), .agg (hb_c7 o26)]) (fun us W7_ => ?_) (fun b us W7_ hb hon hC => ?_), ?_⟩; (focus (exact rb_enters Try.func19 (by kernel_rfl) rfl (by rfl) W7_)); (focus (refine (hist_Before.calls o24.f0 o24.f1 o24.f2 o24.f3 o24.f4 o24.f5 o24.f6 o26.f0 o26.f1 o26.f2 o26.f3 o26.f4 o26.f5 o26.f6 _ W7_ (bef_is o24 o26)).mono ?_; rintro e w1 ⟨rfl, hb1⟩; exact ⟨rfl, below_step hC hb1⟩)); apply Exists.intro; apply And.intro; (focus (intro us; simp only [Act.put, List.setIfInBounds_toArray, List.set_cons_zero, List.set_cons_succ]; rfl)))
    iterate 3 (refine rb_want (fun us => rfl) ?_; apply Exists.intro; apply And.intro; (focus (apply rb_pure; (focus (intro b us w h; exact h)); intro b us W7_ hC; go_simp; rfl)); apply Exists.intro; apply And.intro; (focus (intro us; simp only [Act.put, List.setIfInBounds_toArray, List.set_cons_zero, List.set_cons_succ]; rfl)))
    refine rb_done (fun b us W6 hall hC => ?_)
    try dsimp only
    have hq1 := Aside0.mk (at_in hC (at_blk k1.out))
    have hq2 := Aside0.mk (at_in hC (at_blk k2.out))
    replace hBW := Aside0.mk (below_step hBW.out hC)
    clear hall hC us b
    have hcd2 := hcd.out
    unfold befB at hcd2
    cases hx : hb_bef o24 o25 <;> cases hy : hb_bef o25 o26 <;> cases hz : hb_bef o24 o26 <;> cases haa : hb_bef o24 o24 <;> cases hba : hb_bef o25 o24 <;> simp only [hx, hy, hz, haa, hba, Bool.not_true, Bool.not_false, Bool.and_true, Bool.true_and, Bool.and_false, Bool.false_and, Bool.or_true, Bool.true_or, Bool.or_false, Bool.false_or, Bool.false_eq_true] at hcd2
    all_goals
      clear hcd2
      have hx' := Aside0.mk ((rbef_is o24 o25).trans (congrArg some hx))
      have ha' := Aside0.mk ((bef_is o24 o24).trans (congrArg some haa))
      have hb' := Aside0.mk ((bef_is o25 o24).trans (congrArg some hba))
      clear hx hy hz haa hba
      have tok1 : True := trivial
      have ⟨y0, y1, y2, y3, y4, y5, y6⟩ := hq1.out
      have ⟨z0, z1, z2, z3, z4, z5, z6⟩ := hq2.out
      go_wp2_with (first | (go_at_call 20; (with_reducible refine (inquestref14_Before.calls o24.f0 o24.f1 o24.f2 o24.f3 o24.f4 o24.f5 o24.f6 o25.f0 o25.f1 o25.f2 o25.f3 o25.f4 o25.f5 o25.f6 _ _ hx'.out).mono ?_); rintro e w' ⟨rfl, hbn⟩; replace hq1 := Aside0.mk (at_in hbn hq1.out); replace hq2 := Aside0.mk (at_in hbn hq2.out); replace hBW := Aside0.mk (below_step hBW.out hbn); have ⟨y0, y1, y2, y3, y4, y5, y6⟩ := hq1.out; have ⟨z0, z1, z2, z3, z4, z5, z6⟩ := hq2.out; clear hbn) | (go_at_call 19; first | (have t_ := tok1; clear tok1 t_; (with_reducible refine (hist_Before.calls o24.f0 o24.f1 o24.f2 o24.f3 o24.f4 o24.f5 o24.f6 o24.f0 o24.f1 o24.f2 o24.f3 o24.f4 o24.f5 o24.f6 _ _ ha'.out).mono ?_); rintro e w' ⟨rfl, hbn⟩; replace hq1 := Aside0.mk (at_in hbn hq1.out); replace hq2 := Aside0.mk (at_in hbn hq2.out); replace hBW := Aside0.mk (below_step hBW.out hbn); have ⟨y0, y1, y2, y3, y4, y5, y6⟩ := hq1.out; have ⟨z0, z1, z2, z3, z4, z5, z6⟩ := hq2.out; clear hbn) | ((with_reducible refine (hist_Before.calls o25.f0 o25.f1 o25.f2 o25.f3 o25.f4 o25.f5 o25.f6 o24.f0 o24.f1 o24.f2 o24.f3 o24.f4 o24.f5 o24.f6 _ _ hb'.out).mono ?_); rintro e w' ⟨rfl, hbn⟩; replace hq1 := Aside0.mk (at_in hbn hq1.out); replace hq2 := Aside0.mk (at_in hbn hq2.out); replace hBW := Aside0.mk (below_step hBW.out hbn); have ⟨y0, y1, y2, y3, y4, y5, y6⟩ := hq1.out; have ⟨z0, z1, z2, z3, z4, z5, z6⟩ := hq2.out; clear hbn)) | (go_at_call 14; (with_reducible refine (inquestlaw14_lives.calls true _ (by decide +kernel)).mono ?_); rintro e w9 ⟨rfl, hb9⟩))
      go_ret
      exact ⟨rfl, below_step (below_step (below_step hB1.out hB4.out) hBW.out) hb9⟩

/-- THE ONE PURE STATEMENT of inquestlaw14_HistBefore: yours. -/
def inquestlaw14_HistBefore.Pure : Prop := ∀ (l0 : List (S44)) (a1 : Int) (a2 : Int) (a3 : Int), l0.length ≤ maxLen → (∀ x ∈ l0, (Lit.int .i64 x.f0).wf = true ∧ (Lit.int .i64 x.f2).wf = true ∧ (Lit.int .i64 x.f3).wf = true) → (Lit.int .i64 a1).wf = true → (Lit.int .i64 a2).wf = true → (Lit.int .i64 a3).wf = true → ∃ k, inquestlaw14_HistBefore.f k l0 a1 a2 a3 = some true
theorem inquestlaw14_HistBefore.walk (P : inquestlaw14_HistBefore.Pure) (a0 : Option Addr) (cap0 : Nat) (l0 : List (S44)) (a1 : Int) (a2 : Int) (a3 : Int) (w : World) (hr0 : Kd.C k44 w a0 l0.length l0) (hc0 : l0.length ≤ cap0) (hm0 : l0.length ≤ maxLen) (hw0 : (∀ x ∈ l0, (Lit.int .i64 x.f0).wf = true ∧ (Lit.int .i64 x.f2).wf = true ∧ (Lit.int .i64 x.f3).wf = true)) (w1 : (Lit.int .i64 a1).wf = true) (w2 : (Lit.int .i64 a2).wf = true) (w3 : (Lit.int .i64 a3).wf = true) :
    Calls Try.prog 7 #[.slice a0 l0.length cap0, .int .i64 a1, .int .i64 a2, .int .i64 a3] w fun e w' => e = .returned (.bool true) ∧ Below w.heap.size w w' := by
  obtain ⟨k, h⟩ := P l0 a1 a2 a3 hm0 hw0 w1 w2 w3
  refine (inquestlaw14_HistBefore.calls k _ _ l0 a1 a2 a3 true w hr0 hc0 h).mono ?_
  rintro e w' ⟨rfl, hd⟩
  exact ⟨rfl, hd⟩

end Go.Proofs.Ytofhghpahmeolaa.PHistBefore
