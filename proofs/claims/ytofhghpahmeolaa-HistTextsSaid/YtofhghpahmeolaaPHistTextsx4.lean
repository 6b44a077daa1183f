-- Written by a program of this session (wip/bin/patch_print.py): a turned copy of the kit's printer. Not trusted: Lean checks it.
import Derived.Test.YtofhghpahmeolaaPHistTextsx0
import Derived.Test.YtofhghpahmeolaaPHistTextsx3
namespace Go.Proofs.Ytofhghpahmeolaa.PHistTexts
open Go.RowKit Go.Proofs.YtofhghpahmeolaaW.PrintWords Go.Proofs.YtofhghpahmeolaaW.PrintLast Go.Proofs.YtofhghpahmeolaaW.PrintMore
attribute [local go_sem] max2_int min2_int max_two min_two max_three min_three max_four min_four   -- for this text's walks alone
set_option linter.unusedVariables false
set_option linter.unusedSimpArgs false

/-! ### inquestref14_Text: function 32 -/
def inquestref14_Text.l0 : Nat → List (S44) → List Int → Int → Option (List Int)
  | 0, _, _, _ => none
  | k + 1, x0, x3, x4 => if x4 < (x0.length : Int) then (if 0 ≤ x4 then (if (rd_T44 x0 x4).f1 = true then ((some (([(((wrap64 (2 * ((rd_T44 x0 x4).f0))) % 256) + 1) % 256, ((rd_T44 x0 x4).f2) % 256] : List Int) : List Int)).bind fun y186 => (if x3.length + y186.length < 140737488355328 then ((some (x3 ++ y186 : List Int)).bind fun y189 => ((inquestref01_Zig.f ((rd_T44 x0 x4).f3)).bind fun t192 => ((inquestref01_Var.f k t192).bind fun t193 => (if y189.length + t193.length < 140737488355328 then (inquestref14_Text.l0 k x0 (y189 ++ t193) (wrap64 (x4 + 1))) else (none))))) else (none))) else (if x3.length < 140737488355328 then ((some (x3 ++ [(wrap64 (2 * ((rd_T44 x0 x4).f0))) % 256] : List Int)).bind fun y199 => ((inquestref01_Zig.f ((rd_T44 x0 x4).f3)).bind fun t202 => ((inquestref01_Var.f k t202).bind fun t203 => (if y199.length + t203.length < 140737488355328 then (inquestref14_Text.l0 k x0 (y199 ++ t203) (wrap64 (x4 + 1))) else (none))))) else (none))) else (none)) else (some x3)
def inquestref14_Text.f (k : Nat) (l0 : List (S44)) : Option (List Int) := (inquestref01_Var.f k (IntKind.u64.wrap ((l0.length : Int)))).bind fun t181 => (inquestref14_Text.l0 k l0 t181 0)
theorem inquestref14_Text.mono_l : ∀ k, (∀ y0 y1 y2, LeO (inquestref14_Text.l0 k y0 y1 y2) (inquestref14_Text.l0 (k + 1) y0 y1 y2))
  | 0 => fun _ _ _ r h => by simp [inquestref14_Text.l0] at h
  | k + 1 => by
    have ih0 := inquestref14_Text.mono_l k
    · intro y0 y1 y2
      unfold inquestref14_Text.l0
      repeat' first
      | (with_reducible exact ih0 _ _ _)
      | (with_reducible exact inquestref01_Var.mono _ _)
      | (with_reducible exact LeO.refl _)
      | (with_reducible exact LeO.none _)
      | (with_reducible refine LeO.ite ?_ ?_)
      | (with_reducible refine LeO.bind ?_ (fun _ => ?_))
      | exact ih0 _ _ _
      | exact inquestref01_Var.mono _ _
      | exact LeO.none _
      | refine LeO.ite ?_ ?_
      | refine LeO.bind ?_ (fun _ => ?_)
theorem inquestref14_Text.mono : ∀ a0 k, LeO (inquestref14_Text.f k a0) (inquestref14_Text.f (k + 1) a0) := by
  intro a0 k
  have ih0 := inquestref14_Text.mono_l k
  unfold inquestref14_Text.f
  repeat' first
      | (with_reducible exact ih0 _ _ _)
      | (with_reducible exact inquestref01_Var.mono _ _)
      | (with_reducible exact LeO.refl _)
      | (with_reducible exact LeO.none _)
      | (with_reducible refine LeO.ite ?_ ?_)
      | (with_reducible refine LeO.bind ?_ (fun _ => ?_))
      | exact ih0 _ _ _
      | exact inquestref01_Var.mono _ _
      | exact LeO.none _
      | refine LeO.ite ?_ ?_
      | refine LeO.bind ?_ (fun _ => ?_)
set_option maxHeartbeats 8000000 in
set_option maxRecDepth 100000 in
theorem inquestref14_Text.calls (k : Nat) (A0 : Option Addr) (c0 : Nat) (l0 : List (S44)) (r : List Int) (w : World) (hr0 : Kd.C k44 w A0 l0.length l0) (hc0 : l0.length ≤ c0) (h : inquestref14_Text.f k l0 = some r) :
    Calls Try.prog 32 #[.slice A0 l0.length c0] w fun e w' => ∃ v0_ : Value, e = .returned (v0_) ∧ Kd.R (Kd.int .u8) 5 w' w.heap.size (fun _ => True) v0_ r ∧ Below w.heap.size w w' := by
  have hu44 := Try.underlying44
  have HR0 := Aside0.mk hr0
  have HC0 := Aside0.mk hc0
  clear hr0 hc0
  have HB := Aside0.mk (Below.refl w.heap.size w)
  have H : ((inquestref01_Var.f k (IntKind.u64.wrap ((l0.length : Int)))).bind fun t181 => (inquestref14_Text.l0 k l0 t181 0)) = some r := h
  clear h
  replace H := Option.bind_eq_some_iff.mp H
  obtain ⟨t181, A20, H⟩ := H
  replace H : (inquestref14_Text.l0 k l0 t181 0) = some r := H
  have A2 := Aside0.mk A20
  clear A20
  have H' := Aside0.mk H
  clear H
  go_enter Try.func32, Try.ntmps32
  go_wp2_with (first | ((with_reducible refine gate_callee (f := 37) rfl ?_); refine goesL_ (some 10) rfl rfl Try.func37 (by kernel_rfl) rfl #[.int .u64 (IntKind.u64.wrap ((l0.length : Int)))] rfl (by (try simp only [List.map_toArray, List.map_cons, List.map_nil]); first | done | rfl | (simp only [List.length_drop, List.length_take]; rfl)) ?_; (with_reducible refine (inquestref01_Var.calls k (IntKind.u64.wrap ((l0.length : Int))) t181 _ A2.out).mono ?_); rintro e w3 ⟨v182, rfl, ho0, hb⟩; refine ⟨_, rfl, ?_⟩; have n0_ := Aside0.mk (Kd.R_lower ho0 (below_size (by repeat (first | (with_reducible first | exact HB.out | apply below_alloc | apply pw_below_drewN | apply below_drew1) | exact HB.out)))); have n1_ := Aside0.mk (below_step (by repeat (first | (with_reducible first | exact HB.out | apply below_alloc | apply pw_below_drewN | apply below_drew1) | exact HB.out)) hb); clear HB; have HO183 := n0_; have HB := n1_; clear n0_ n1_; (try clear hb); (try clear hb2); (try clear hk); (try clear hi); (try clear ho0)))
  go_loopg [3, 4] k (fun kq v3 v4 w' => ∃ (x3_1 : List Int) (x4_1 : Int), v4 = .int .i64 x4_1 ∧ Aside0 (inquestref14_Text.l0 kq l0 x3_1 x4_1 = some r) ∧ Aside0 (kq ≤ k) ∧ Aside0 (Kd.R (Kd.int .u8) 5 w' w.heap.size (fun _ => True) v3 x3_1) ∧ Aside0 (Below w.heap.size w w'))
  case atStart => exact ⟨(t181), (0), (by first | rfl | (simp; done) | (simp [*]; done)), H', ⟨Nat.le_refl _⟩, ⟨by (with_reducible repeat (first | apply Kd.R_alloc | apply Kd.R_drewN | apply Kd.R_drew)); exact HO183.out⟩, ⟨by repeat (first | (with_reducible first | exact HB.out | apply below_alloc | apply pw_below_drewN | apply below_drew1) | exact HB.out)⟩⟩
  case round =>
    clear H'
    try clear p2
    try clear c3
    obtain ⟨x3_1, x4_1, rfl, HA, HK1, HO_3, HB⟩ := hrel
    cases gk with
    | zero => exact absurd HA.out (by simp [inquestref14_Text.l0])
    | succ k1 =>
      have H := HA.out
      clear HA
      simp only [inquestref14_Text.l0] at H
      by_cases c4 : x4_1 < (l0.length : Int)
      · rw [if_pos c4] at H
        have c4b0 : decide (x4_1 < (l0.length : Int)) = true := decide_eq_true c4
        clear c4
        by_cases c5 : 0 ≤ x4_1
        · rw [if_pos c5] at H
          have c5b0 : decide (0 ≤ x4_1) = true := decide_eq_true c5
          clear c5
          obtain ⟨bq6, hbq6⟩ : ∃ b_ : Bool, b_ = ((rd_T44 l0 x4_1).f1) := ⟨_, rfl⟩
          replace H : (if bq6 = true then ((some (([(((wrap64 (2 * ((rd_T44 l0 x4_1).f0))) % 256) + 1) % 256, ((rd_T44 l0 x4_1).f2) % 256] : List Int) : List Int)).bind fun y186 => (if x3_1.length + y186.length < 140737488355328 then ((some (x3_1 ++ y186 : List Int)).bind fun y189 => ((inquestref01_Zig.f ((rd_T44 l0 x4_1).f3)).bind fun t192 => ((inquestref01_Var.f k1 t192).bind fun t193 => (if y189.length + t193.length < 140737488355328 then (inquestref14_Text.l0 k1 l0 (y189 ++ t193) (wrap64 (x4_1 + 1))) else (none))))) else (none))) else (if x3_1.length < 140737488355328 then ((some (x3_1 ++ [(wrap64 (2 * ((rd_T44 l0 x4_1).f0))) % 256] : List Int)).bind fun y199 => ((inquestref01_Zig.f ((rd_T44 l0 x4_1).f3)).bind fun t202 => ((inquestref01_Var.f k1 t202).bind fun t203 => (if y199.length + t203.length < 140737488355328 then (inquestref14_Text.l0 k1 l0 (y199 ++ t203) (wrap64 (x4_1 + 1))) else (none))))) else (none))) = some r := by rw [← hbq6] at H; exact H
          have Nbq6 := Aside0.mk hbq6
          clear hbq6
          by_cases c7 : bq6 = true
          · subst c7
            have H1 : ((some (([(((wrap64 (2 * ((rd_T44 l0 x4_1).f0))) % 256) + 1) % 256, ((rd_T44 l0 x4_1).f2) % 256] : List Int) : List Int)).bind fun y186 => (if x3_1.length + y186.length < 140737488355328 then ((some (x3_1 ++ y186 : List Int)).bind fun y189 => ((inquestref01_Zig.f ((rd_T44 l0 x4_1).f3)).bind fun t192 => ((inquestref01_Var.f k1 t192).bind fun t193 => (if y189.length + t193.length < 140737488355328 then (inquestref14_Text.l0 k1 l0 (y189 ++ t193) (wrap64 (x4_1 + 1))) else (none))))) else (none))) = some r := by rw [if_pos rfl] at H; exact H
            clear H
            have H := H1
            clear H1
            obtain ⟨y186, hy186⟩ : ∃ y_ : List Int, y_ = (([(((wrap64 (2 * ((rd_T44 l0 x4_1).f0))) % 256) + 1) % 256, ((rd_T44 l0 x4_1).f2) % 256] : List Int)) := ⟨_, rfl⟩
            replace H : (if x3_1.length + y186.length < 140737488355328 then ((some (x3_1 ++ y186 : List Int)).bind fun y189 => ((inquestref01_Zig.f ((rd_T44 l0 x4_1).f3)).bind fun t192 => ((inquestref01_Var.f k1 t192).bind fun t193 => (if y189.length + t193.length < 140737488355328 then (inquestref14_Text.l0 k1 l0 (y189 ++ t193) (wrap64 (x4_1 + 1))) else (none))))) else (none)) = some r := by first | (rw [hy186]; with_reducible exact H) | (have H2_ := (Option.bind_some _ _).symm.trans H; rw [hy186]; with_reducible exact H2_) | (have H2_ := (Option.bind_some _ _).symm.trans H; with_reducible exact H2_) | with_reducible exact H | (rw [hy186]; exact H) | exact H
            have Ny186 := Aside0.mk hy186
            clear hy186
            by_cases c8 : x3_1.length + y186.length < 140737488355328
            · rw [if_pos c8] at H
              have LMc8 := Aside0.mk c8
              clear c8
              obtain ⟨y189, hy189⟩ : ∃ y_ : List Int, y_ = (x3_1 ++ y186) := ⟨_, rfl⟩
              replace H : ((inquestref01_Zig.f ((rd_T44 l0 x4_1).f3)).bind fun t192 => ((inquestref01_Var.f k1 t192).bind fun t193 => (if y189.length + t193.length < 140737488355328 then (inquestref14_Text.l0 k1 l0 (y189 ++ t193) (wrap64 (x4_1 + 1))) else (none)))) = some r := by first | (rw [hy189]; with_reducible exact H) | (have H2_ := (Option.bind_some _ _).symm.trans H; rw [hy189]; with_reducible exact H2_) | (have H2_ := (Option.bind_some _ _).symm.trans H; with_reducible exact H2_) | with_reducible exact H | (rw [hy189]; exact H) | exact H
              have Ny189 := Aside0.mk hy189
              clear hy189
              replace H := Option.bind_eq_some_iff.mp H
              obtain ⟨t192, A90, H⟩ := H
              replace H : ((inquestref01_Var.f k1 t192).bind fun t193 => (if y189.length + t193.length < 140737488355328 then (inquestref14_Text.l0 k1 l0 (y189 ++ t193) (wrap64 (x4_1 + 1))) else (none))) = some r := H
              have A9 := Aside0.mk A90
              clear A90
              replace H := Option.bind_eq_some_iff.mp H
              obtain ⟨t193, A100, H⟩ := H
              replace H : (if y189.length + t193.length < 140737488355328 then (inquestref14_Text.l0 k1 l0 (y189 ++ t193) (wrap64 (x4_1 + 1))) else (none)) = some r := H
              have A10 := Aside0.mk A100
              clear A100
              by_cases c11 : y189.length + t193.length < 140737488355328
              · rw [if_pos c11] at H
                have LMc11 := Aside0.mk c11
                clear c11
                obtain ⟨y196, hy196⟩ : ∃ y_ : List Int, y_ = (y189 ++ t193) := ⟨_, rfl⟩
                replace H : (inquestref14_Text.l0 k1 l0 y196 (wrap64 (x4_1 + 1))) = some r := by first | (rw [hy196]; with_reducible exact H) | (have H2_ := (Option.bind_some _ _).symm.trans H; rw [hy196]; with_reducible exact H2_) | (have H2_ := (Option.bind_some _ _).symm.trans H; with_reducible exact H2_) | with_reducible exact H | (rw [hy196]; exact H) | exact H
                have Ny196 := Aside0.mk hy196
                clear hy196
                have H' := Aside0.mk H
                clear H
                have p184 : 0 ≤ (x4_1 : Int) := of_decide_eq_true (by first | (with_reducible assumption) | assumption)
                have q184 : x4_1 < (l0.length : Int) := of_decide_eq_true (by first | (with_reducible assumption) | assumption)
                obtain ⟨ad184, e184, hx184_0, hx184_1, hx184_2, hx184_3⟩ := at_T44 HR0.out x4_1 p184 q184
                (try rw [← Nbq6.out] at hx184_1)
                cases e184
                replace hx184_0 := (HB.out.cell (World.block_lt_of_cell? w _ hx184_0)).trans hx184_0
                replace hx184_1 := (HB.out.cell (World.block_lt_of_cell? w _ hx184_1)).trans hx184_1
                replace hx184_2 := (HB.out.cell (World.block_lt_of_cell? w _ hx184_2)).trans hx184_2
                replace hx184_3 := (HB.out.cell (World.block_lt_of_cell? w _ hx184_3)).trans hx184_3
                replace p184 := eq_true p184
                replace q184 := eq_true q184
                go_wp2_with (first | ((with_reducible refine gate_dst (N := 5) rfl ?_); refine box_event ?hg (N := 5) ?hd (cs := #[.int .i64 0, .bool false, .int .i64 0, .int .i64 0]) (t := 44) ?hr ?_; (case hd => rfl); (case hg => rfl); (case hr => first | (go_simp; done) | (go_simp; rfl)); intro gb185 hg w12 hbox hb; have n0_ := Aside0.mk (Kd.R_below (by (with_reducible repeat (first | apply Kd.R_alloc | apply Kd.R_drewN | apply Kd.R_drew)); exact HO_3.out) hb); have n1_ := Aside0.mk (below_step (by repeat (first | (with_reducible first | exact HB.out | apply below_alloc | apply pw_below_drewN | apply below_drew1) | exact HB.out)) hb); have n2_ := Aside0.mk (hbox); have n3_ := Aside0.mk ((by rw [hg]; exact (below_size (by repeat (first | (with_reducible first | exact HB.out | apply below_alloc | apply pw_below_drewN | apply below_drew1) | exact HB.out))) : w.heap.size ≤ gb185)); have n4_ := Aside0.mk ((by rw [hg]; exact (below_size (by repeat (first | (with_reducible first | exact HB.out | apply below_alloc | apply pw_below_drewN | apply below_drew1) | exact HB.out))) : w.heap.size ≤ gb185)); clear HO_3; clear HB; have HO_3 := n0_; have HB := n1_; have BK185 := n2_; have GW185 := n3_; have GE185 := n4_; clear n0_ n1_ n2_ n3_ n4_; clear hb hbox hg; have hcz13_0 : w12.cell? ⟨gb185, 0, none⟩ = some (.int .i64 0) := (blk_cell BK185.out 0).trans rfl; have hcz13_1 : w12.cell? ⟨gb185, 1, none⟩ = some (.bool false) := (blk_cell BK185.out 1).trans rfl; have hcz13_2 : w12.cell? ⟨gb185, 2, none⟩ = some (.int .i64 0) := (blk_cell BK185.out 2).trans rfl; have hcz13_3 : w12.cell? ⟨gb185, 3, none⟩ = some (.int .i64 0) := (blk_cell BK185.out 3).trans rfl; have hfz13_0 := blk_frozen BK185.out 0; have hfz13_1 := blk_frozen BK185.out 1; have hfz13_2 := blk_frozen BK185.out 2; have hfz13_3 := blk_frozen BK185.out 3) | ((with_reducible refine gate_dst (N := 33) rfl ?_); refine Kd.R_lit (Kd.int .u8) _ 5 ?hg (N := 33) ?hd (xs := ([(((wrap64 (2 * ((rd_T44 l0 x4_1).f0))) % 256) + 1) % 256, ((rd_T44 l0 x4_1).f2) % 256] : List Int)) (inner := [.int .u8 ((((wrap64 (2 * ((rd_T44 l0 x4_1).f0))) % 256) + 1) % 256), .int .u8 (((rd_T44 l0 x4_1).f2) % 256)]) (ok := fun _ => True) (okp := fun _ => True) ?hr ?hp (fun _ hk => hk) trivial (Below.refl _ _) (Nat.le_refl _) (by simp) ?_; (case hd => rfl); (case hg => rfl); (case hr => first | (go_simp; done) | (go_simp; rfl)); (case hp => exact (Reps.one (show Kd.M (Kd.int .u8) _ _ _ ((((wrap64 (2 * ((rd_T44 l0 x4_1).f0))) % 256) + 1) % 256) [.int .u8 ((((wrap64 (2 * ((rd_T44 l0 x4_1).f0))) % 256) + 1) % 256)] from rfl) (Reps.one (show Kd.M (Kd.int .u8) _ _ _ (((rd_T44 l0 x4_1).f2) % 256) [.int .u8 (((rd_T44 l0 x4_1).f2) % 256)] from rfl) (Reps.none _ _)))); intro v187 w14 ho15 hb hg_ hnew_; clear hg_ hnew_; (first | rw [← Ny186.out] at ho15 | (simp only [Int.reduceToNat] at ho15; rw [← Ny186.out] at ho15)); have n0_ := Aside0.mk (Kd.R_elder' (by (with_reducible repeat (first | apply Kd.R_alloc | apply Kd.R_drewN | apply Kd.R_drew)); exact (Kd.R_mono (Kd.R_far (p := ⟨gb185, 3, none⟩) (Kd.R_far (p := ⟨gb185, 2, none⟩) (Kd.R_far (p := ⟨gb185, 1, none⟩) (Kd.R_far (p := ⟨gb185, 0, none⟩) (Kd.R_types HO_3.out BK185.out (by decide)) (fun _ hk => hk.2) (.int .i64 ((rd_T44 l0 x4_1).f0))) (fun _ hk => hk.2) (.bool true)) (fun _ hk => hk.2) (.int .i64 ((rd_T44 l0 x4_1).f2))) (fun _ hk => hk.2) (.int .i64 ((rd_T44 l0 x4_1).f3))) (fun _ h_ => h_.1))) (Kd.R_base ho15) hb); have n1_ := Aside0.mk (Kd.R_lower (Kd.R_new' ho15 (Kd.R_lt (by (with_reducible repeat (first | apply Kd.R_alloc | apply Kd.R_drewN | apply Kd.R_drew)); exact (Kd.R_mono (Kd.R_far (p := ⟨gb185, 3, none⟩) (Kd.R_far (p := ⟨gb185, 2, none⟩) (Kd.R_far (p := ⟨gb185, 1, none⟩) (Kd.R_far (p := ⟨gb185, 0, none⟩) (Kd.R_types HO_3.out BK185.out (by decide)) (fun _ hk => hk.2) (.int .i64 ((rd_T44 l0 x4_1).f0))) (fun _ hk => hk.2) (.bool true)) (fun _ hk => hk.2) (.int .i64 ((rd_T44 l0 x4_1).f2))) (fun _ hk => hk.2) (.int .i64 ((rd_T44 l0 x4_1).f3))) (fun _ h_ => h_.1))))) (below_size (by repeat (first | (with_reducible first | exact HB.out | apply below_alloc | apply pw_below_drewN | apply below_drew1 | refine below_set ?_ GE185.out) | exact HB.out)))); have n2_ := Aside0.mk (blk_below (g := gb185) (o := .cells #[.int .i64 ((rd_T44 l0 x4_1).f0), .bool true, .int .i64 ((rd_T44 l0 x4_1).f2), .int .i64 ((rd_T44 l0 x4_1).f3)] 44 (0, 0)) (by (with_reducible repeat (first | refine blk_drewN ?_ _ | refine blk_drew ?_ | refine blk_alloc ?_ _)); refine blk_put (cs := #[.int .i64 ((rd_T44 l0 x4_1).f0), .bool true, .int .i64 ((rd_T44 l0 x4_1).f2), .int .i64 0]) ?_ 3 _ rfl; (with_reducible repeat (first | refine blk_drewN ?_ _ | refine blk_drew ?_ | refine blk_alloc ?_ _)); refine blk_put (cs := #[.int .i64 ((rd_T44 l0 x4_1).f0), .bool true, .int .i64 0, .int .i64 0]) ?_ 2 _ rfl; (with_reducible repeat (first | refine blk_drewN ?_ _ | refine blk_drew ?_ | refine blk_alloc ?_ _)); refine blk_put (cs := #[.int .i64 ((rd_T44 l0 x4_1).f0), .bool false, .int .i64 0, .int .i64 0]) ?_ 1 _ rfl; (with_reducible repeat (first | refine blk_drewN ?_ _ | refine blk_drew ?_ | refine blk_alloc ?_ _)); refine blk_put (cs := #[.int .i64 0, .bool false, .int .i64 0, .int .i64 0]) ?_ 0 _ rfl; (with_reducible repeat (first | refine blk_drewN ?_ _ | refine blk_drew ?_ | refine blk_alloc ?_ _)); exact BK185.out) hb); have n3_ := Aside0.mk (below_step (by repeat (first | (with_reducible first | exact HB.out | apply below_alloc | apply pw_below_drewN | apply below_drew1 | refine below_set ?_ GE185.out) | exact HB.out)) hb); clear HO_3; clear BK185; clear HB; have HO_3 := n0_; have HO188 := n1_; have BK185 := n2_; have HB := n3_; clear n0_ n1_ n2_ n3_; clear hb ho15; obtain ⟨Ao17, co17, eo17⟩ := Kd.R_slice HO188.out; subst eo17) | ((with_reducible refine gate_builtin (b := .append) (xs := #[.tmp 27, .tmp 33]) rfl ?_); at_builtin; refine Kd.R_append_rows (Kd.int .u8) (w0 := w) w.heap.size rfl (.tmp 27) (.tmp 33) 47 5 (.int .u8 0) 1 rfl Try.underlying47 info5 rfl (by decide) (by omega) u3 x3_1 y186 _ _ _ (fun k_ => some k_ ≠ (.slice Ao17 y186.length co17 : Value).ownBlock) (fun _ => False) rfl rfl ?aO ?aR (fun _ _ h => h) (fun _ h => h.elim) ?aF ?aB ?aS ?aL ?_; (case aR => repeat (first | exact (Kd.R_reads' HO188.out).2.2 | (with_reducible refine Kd.C_alloc ?_ _) | (with_reducible refine Kd.C_drewN ?_ _) | (with_reducible refine Kd.C_drew ?_))); (case aB => exact (by repeat (first | (with_reducible first | exact HB.out | apply below_alloc | apply pw_below_drewN | apply below_drew1 | refine below_set ?_ GE185.out) | exact HB.out))); (case aF => exact (fun k_ hk => Kd.fresh' (Kd.R_lt (by (with_reducible repeat (first | apply Kd.R_alloc | apply Kd.R_drewN | apply Kd.R_drew)); exact HO188.out)) k_ hk)); (case aO => exact (by (with_reducible repeat (first | apply Kd.R_alloc | apply Kd.R_drewN | apply Kd.R_drew)); exact Kd.R_mono HO_3.out (fun _ hk => hk.2))); (case aS => exact (below_size (by repeat (first | (with_reducible first | exact HB.out | apply below_alloc | apply pw_below_drewN | apply below_drew1 | refine below_set ?_ GE185.out) | exact HB.out)))); (case aL => have := LMc8.out; omega); intro v190 w16 ho hb hg hat; rw [← Ny189.out] at ho; have n0_ := Aside0.mk (blk_grown (g := gb185) (o := .cells #[.int .i64 ((rd_T44 l0 x4_1).f0), .bool true, .int .i64 ((rd_T44 l0 x4_1).f2), .int .i64 ((rd_T44 l0 x4_1).f3)] 44 (0, 0)) (by (with_reducible repeat (first | refine blk_drewN ?_ _ | refine blk_drew ?_ | refine blk_alloc ?_ _)); exact BK185.out) hg (Kd.R_ne HO_3.out BK185.out (by decide))); have n1_ := Aside0.mk (Kd.R_after (ok := (fun _ => True)) (by (with_reducible repeat (first | apply Kd.R_alloc | apply Kd.R_drewN | apply Kd.R_drew)); exact HO188.out) hg hat); have n2_ := Aside0.mk (hb); have n3_ := Aside0.mk (ho); clear BK185; clear HO188; clear HB; clear HO_3; have BK185 := n0_; have HO188 := n1_; have HB := n2_; have HO191 := n3_; clear n0_ n1_ n2_ n3_; clear ho hb hg hat; have hcz18_0 : w16.cell? ⟨gb185, 0, none⟩ = some (.int .i64 ((rd_T44 l0 x4_1).f0)) := (blk_cell BK185.out 0).trans rfl; have hcz18_1 : w16.cell? ⟨gb185, 1, none⟩ = some (.bool true) := (blk_cell BK185.out 1).trans rfl; have hcz18_2 : w16.cell? ⟨gb185, 2, none⟩ = some (.int .i64 ((rd_T44 l0 x4_1).f2)) := (blk_cell BK185.out 2).trans rfl; have hcz18_3 : w16.cell? ⟨gb185, 3, none⟩ = some (.int .i64 ((rd_T44 l0 x4_1).f3)) := (blk_cell BK185.out 3).trans rfl; have hfz18_0 := blk_frozen BK185.out 0; have hfz18_1 := blk_frozen BK185.out 1; have hfz18_2 := blk_frozen BK185.out 2; have hfz18_3 := blk_frozen BK185.out 3) | ((with_reducible refine gate_callee (f := 38) rfl ?_); refine goesL_ (some 42) rfl rfl Try.func38 (by kernel_rfl) rfl #[.int .i64 ((rd_T44 l0 x4_1).f3)] rfl (by (try simp only [List.map_toArray, List.map_cons, List.map_nil]); first | done | rfl | (simp only [List.length_drop, List.length_take]; rfl)) ?_; (with_reducible refine (inquestref01_Zig.calls ((rd_T44 l0 x4_1).f3) t192 _ A9.out).mono ?_); rintro e w' ⟨rfl, ⟨nd, rfl⟩⟩; refine ⟨_, rfl, ?_⟩) | ((with_reducible refine gate_callee (f := 37) rfl ?_); refine goesL_ (some 43) rfl rfl Try.func37 (by kernel_rfl) rfl #[.int .u64 t192] rfl (by (try simp only [List.map_toArray, List.map_cons, List.map_nil]); first | done | rfl | (simp only [List.length_drop, List.length_take]; rfl)) ?_; (with_reducible refine (inquestref01_Var.calls k1 t192 t193 _ A10.out).mono ?_); rintro e w19 ⟨v194, rfl, ho0, hb⟩; refine ⟨_, rfl, ?_⟩; have n0_ := Aside0.mk (Kd.R_elder' (by (with_reducible repeat (first | apply Kd.R_alloc | apply Kd.R_drewN | apply Kd.R_drew)); exact HO188.out) (Kd.R_base ho0) hb); have n1_ := Aside0.mk (Kd.R_elder' (by (with_reducible repeat (first | apply Kd.R_alloc | apply Kd.R_drewN | apply Kd.R_drew)); exact HO191.out) (Kd.R_base ho0) hb); have n2_ := Aside0.mk (Kd.R_lower (Kd.R_new' (Kd.R_new' ho0 (Kd.R_lt (by (with_reducible repeat (first | apply Kd.R_alloc | apply Kd.R_drewN | apply Kd.R_drew)); exact HO188.out))) (Kd.R_lt (by (with_reducible repeat (first | apply Kd.R_alloc | apply Kd.R_drewN | apply Kd.R_drew)); exact HO191.out))) (below_size (by repeat (first | (with_reducible first | exact HB.out | apply below_alloc | apply pw_below_drewN | apply below_drew1 | refine below_set ?_ GE185.out) | exact HB.out)))); have n3_ := Aside0.mk (blk_below (g := gb185) (o := .cells #[.int .i64 ((rd_T44 l0 x4_1).f0), .bool true, .int .i64 ((rd_T44 l0 x4_1).f2), .int .i64 ((rd_T44 l0 x4_1).f3)] 44 (0, 0)) (by (with_reducible repeat (first | refine blk_drewN ?_ _ | refine blk_drew ?_ | refine blk_alloc ?_ _)); exact BK185.out) hb); have n4_ := Aside0.mk (below_step (by repeat (first | (with_reducible first | exact HB.out | apply below_alloc | apply pw_below_drewN | apply below_drew1 | refine below_set ?_ GE185.out) | exact HB.out)) hb); clear HO188; clear HO191; clear BK185; clear HB; have HO188 := n0_; have HO191 := n1_; have HO195 := n2_; have BK185 := n3_; have HB := n4_; clear n0_ n1_ n2_ n3_ n4_; (try clear hb); (try clear hb2); (try clear hk); (try clear hi); (try clear ho0); obtain ⟨Ao21, co21, eo21⟩ := Kd.R_slice HO195.out; subst eo21) | ((with_reducible refine gate_builtin (b := .append) (xs := #[.tmp 39, .tmp 43]) rfl ?_); at_builtin; refine Kd.R_append_rows (Kd.int .u8) (w0 := w) w.heap.size rfl (.tmp 39) (.tmp 43) 47 5 (.int .u8 0) 1 rfl Try.underlying47 info5 rfl (by decide) (by omega) v190 y189 t193 _ _ _ (fun k_ => some k_ ≠ (.slice Ao17 y186.length co17 : Value).ownBlock ∧ some k_ ≠ (.slice Ao21 t193.length co21 : Value).ownBlock) (fun _ => False) rfl rfl ?aO ?aR (fun _ _ h => h) (fun _ h => h.elim) ?aF ?aB ?aS ?aL ?_; (case aR => repeat (first | exact (Kd.R_reads' HO195.out).2.2 | (with_reducible refine Kd.C_alloc ?_ _) | (with_reducible refine Kd.C_drewN ?_ _) | (with_reducible refine Kd.C_drew ?_))); (case aB => exact (by repeat (first | (with_reducible first | exact HB.out | apply below_alloc | apply pw_below_drewN | apply below_drew1 | refine below_set ?_ GE185.out) | exact HB.out))); (case aF => exact (fun k_ hk => ⟨Kd.fresh' (Kd.R_lt (by (with_reducible repeat (first | apply Kd.R_alloc | apply Kd.R_drewN | apply Kd.R_drew)); exact HO188.out)) k_ hk, Kd.fresh' (Kd.R_lt (by (with_reducible repeat (first | apply Kd.R_alloc | apply Kd.R_drewN | apply Kd.R_drew)); exact HO195.out)) k_ hk⟩)); (case aO => exact (by (with_reducible repeat (first | apply Kd.R_alloc | apply Kd.R_drewN | apply Kd.R_drew)); exact HO191.out)); (case aS => exact (below_size (by repeat (first | (with_reducible first | exact HB.out | apply below_alloc | apply pw_below_drewN | apply below_drew1 | refine below_set ?_ GE185.out) | exact HB.out)))); (case aL => have := LMc11.out; omega); intro v197 w20 ho hb hg hat; rw [← Ny196.out] at ho; have n0_ := Aside0.mk (blk_grown (g := gb185) (o := .cells #[.int .i64 ((rd_T44 l0 x4_1).f0), .bool true, .int .i64 ((rd_T44 l0 x4_1).f2), .int .i64 ((rd_T44 l0 x4_1).f3)] 44 (0, 0)) (by (with_reducible repeat (first | refine blk_drewN ?_ _ | refine blk_drew ?_ | refine blk_alloc ?_ _)); exact BK185.out) hg (Kd.R_ne HO191.out BK185.out (by decide))); have n1_ := Aside0.mk (Kd.R_after (ok := (fun k_ => some k_ ≠ (.slice Ao21 t193.length co21 : Value).ownBlock)) (by (with_reducible repeat (first | apply Kd.R_alloc | apply Kd.R_drewN | apply Kd.R_drew)); exact Kd.R_mono HO188.out (fun _ hk => ⟨hk.2, hk.1.2⟩)) hg hat); have n2_ := Aside0.mk (Kd.R_after (ok := (fun k_ => some k_ ≠ (.slice Ao17 y186.length co17 : Value).ownBlock)) (by (with_reducible repeat (first | apply Kd.R_alloc | apply Kd.R_drewN | apply Kd.R_drew)); exact Kd.R_mono HO195.out (fun _ hk => ⟨hk.1.2, hk.2⟩)) hg hat); have n3_ := Aside0.mk (hb); have n4_ := Aside0.mk (ho); clear BK185; clear HO188; clear HO195; clear HB; clear HO191; have BK185 := n0_; have HO188 := n1_; have HO195 := n2_; have HB := n3_; have HO198 := n4_; clear n0_ n1_ n2_ n3_ n4_; clear ho hb hg hat))
                go_roundg k1
                case measure => have := HK1.out; omega
                case rel => exact ⟨(y196), (wrap64 (x4_1 + 1)), (by first | rfl | (simp; done) | (simp [*]; done)), H', ⟨by have := HK1.out; omega⟩, ⟨by (with_reducible repeat (first | apply Kd.R_alloc | apply Kd.R_drewN | apply Kd.R_drew)); exact Kd.R_mono HO198.out (fun _ hk => trivial)⟩, ⟨by repeat (first | (with_reducible first | exact HB.out | apply below_alloc | apply pw_below_drewN | apply below_drew1 | refine below_set ?_ GE185.out) | exact HB.out)⟩⟩
              · rw [if_neg c11] at H
                exact absurd H (by simp)
            · rw [if_neg c8] at H
              exact absurd H (by simp)
          · replace c7 := Bool.eq_false_iff.mpr c7
            subst c7
            have H1 : (if x3_1.length < 140737488355328 then ((some (x3_1 ++ [(wrap64 (2 * ((rd_T44 l0 x4_1).f0))) % 256] : List Int)).bind fun y199 => ((inquestref01_Zig.f ((rd_T44 l0 x4_1).f3)).bind fun t202 => ((inquestref01_Var.f k1 t202).bind fun t203 => (if y199.length + t203.length < 140737488355328 then (inquestref14_Text.l0 k1 l0 (y199 ++ t203) (wrap64 (x4_1 + 1))) else (none))))) else (none)) = some r := by rw [if_neg (show ¬ (false = true) by decide)] at H; exact H
            clear H
            have H := H1
            clear H1
            by_cases c22 : x3_1.length < 140737488355328
            · rw [if_pos c22] at H
              have LMc22 := Aside0.mk c22
              clear c22
              obtain ⟨y199, hy199⟩ : ∃ y_ : List Int, y_ = (x3_1 ++ [(wrap64 (2 * ((rd_T44 l0 x4_1).f0))) % 256]) := ⟨_, rfl⟩
              replace H : ((inquestref01_Zig.f ((rd_T44 l0 x4_1).f3)).bind fun t202 => ((inquestref01_Var.f k1 t202).bind fun t203 => (if y199.length + t203.length < 140737488355328 then (inquestref14_Text.l0 k1 l0 (y199 ++ t203) (wrap64 (x4_1 + 1))) else (none)))) = some r := by first | (rw [hy199]; with_reducible exact H) | (have H2_ := (Option.bind_some _ _).symm.trans H; rw [hy199]; with_reducible exact H2_) | (have H2_ := (Option.bind_some _ _).symm.trans H; with_reducible exact H2_) | with_reducible exact H | (rw [hy199]; exact H) | exact H
              have Ny199 := Aside0.mk hy199
              clear hy199
              replace H := Option.bind_eq_some_iff.mp H
              obtain ⟨t202, A230, H⟩ := H
              replace H : ((inquestref01_Var.f k1 t202).bind fun t203 => (if y199.length + t203.length < 140737488355328 then (inquestref14_Text.l0 k1 l0 (y199 ++ t203) (wrap64 (x4_1 + 1))) else (none))) = some r := H
              have A23 := Aside0.mk A230
              clear A230
              replace H := Option.bind_eq_some_iff.mp H
              obtain ⟨t203, A240, H⟩ := H
              replace H : (if y199.length + t203.length < 140737488355328 then (inquestref14_Text.l0 k1 l0 (y199 ++ t203) (wrap64 (x4_1 + 1))) else (none)) = some r := H
              have A24 := Aside0.mk A240
              clear A240
              by_cases c25 : y199.length + t203.length < 140737488355328
              · rw [if_pos c25] at H
                have LMc25 := Aside0.mk c25
                clear c25
                obtain ⟨y206, hy206⟩ : ∃ y_ : List Int, y_ = (y199 ++ t203) := ⟨_, rfl⟩
                replace H : (inquestref14_Text.l0 k1 l0 y206 (wrap64 (x4_1 + 1))) = some r := by first | (rw [hy206]; with_reducible exact H) | (have H2_ := (Option.bind_some _ _).symm.trans H; rw [hy206]; with_reducible exact H2_) | (have H2_ := (Option.bind_some _ _).symm.trans H; with_reducible exact H2_) | with_reducible exact H | (rw [hy206]; exact H) | exact H
                have Ny206 := Aside0.mk hy206
                clear hy206
                have H' := Aside0.mk H
                clear H
                have p184 : 0 ≤ (x4_1 : Int) := of_decide_eq_true (by first | (with_reducible assumption) | assumption)
                have q184 : x4_1 < (l0.length : Int) := of_decide_eq_true (by first | (with_reducible assumption) | assumption)
                obtain ⟨ad184, e184, hx184_0, hx184_1, hx184_2, hx184_3⟩ := at_T44 HR0.out x4_1 p184 q184
                (try rw [← Nbq6.out] at hx184_1)
                cases e184
                replace hx184_0 := (HB.out.cell (World.block_lt_of_cell? w _ hx184_0)).trans hx184_0
                replace hx184_1 := (HB.out.cell (World.block_lt_of_cell? w _ hx184_1)).trans hx184_1
                replace hx184_2 := (HB.out.cell (World.block_lt_of_cell? w _ hx184_2)).trans hx184_2
                replace hx184_3 := (HB.out.cell (World.block_lt_of_cell? w _ hx184_3)).trans hx184_3
                replace p184 := eq_true p184
                replace q184 := eq_true q184
                go_wp2_with (first | ((with_reducible refine gate_dst (N := 5) rfl ?_); refine box_event ?hg (N := 5) ?hd (cs := #[.int .i64 0, .bool false, .int .i64 0, .int .i64 0]) (t := 44) ?hr ?_; (case hd => rfl); (case hg => rfl); (case hr => first | (go_simp; done) | (go_simp; rfl)); intro gb185 hg w26 hbox hb; have n0_ := Aside0.mk (Kd.R_below (by (with_reducible repeat (first | apply Kd.R_alloc | apply Kd.R_drewN | apply Kd.R_drew)); exact HO_3.out) hb); have n1_ := Aside0.mk (below_step (by repeat (first | (with_reducible first | exact HB.out | apply below_alloc | apply pw_below_drewN | apply below_drew1) | exact HB.out)) hb); have n2_ := Aside0.mk (hbox); have n3_ := Aside0.mk ((by rw [hg]; exact (below_size (by repeat (first | (with_reducible first | exact HB.out | apply below_alloc | apply pw_below_drewN | apply below_drew1) | exact HB.out))) : w.heap.size ≤ gb185)); have n4_ := Aside0.mk ((by rw [hg]; exact (below_size (by repeat (first | (with_reducible first | exact HB.out | apply below_alloc | apply pw_below_drewN | apply below_drew1) | exact HB.out))) : w.heap.size ≤ gb185)); clear HO_3; clear HB; have HO_3 := n0_; have HB := n1_; have BK185 := n2_; have GW185 := n3_; have GE185 := n4_; clear n0_ n1_ n2_ n3_ n4_; clear hb hbox hg; have hcz27_0 : w26.cell? ⟨gb185, 0, none⟩ = some (.int .i64 0) := (blk_cell BK185.out 0).trans rfl; have hcz27_1 : w26.cell? ⟨gb185, 1, none⟩ = some (.bool false) := (blk_cell BK185.out 1).trans rfl; have hcz27_2 : w26.cell? ⟨gb185, 2, none⟩ = some (.int .i64 0) := (blk_cell BK185.out 2).trans rfl; have hcz27_3 : w26.cell? ⟨gb185, 3, none⟩ = some (.int .i64 0) := (blk_cell BK185.out 3).trans rfl; have hfz27_0 := blk_frozen BK185.out 0; have hfz27_1 := blk_frozen BK185.out 1; have hfz27_2 := blk_frozen BK185.out 2; have hfz27_3 := blk_frozen BK185.out 3) | ((with_reducible refine gate_builtin (b := .append) (xs := #[.tmp 35, .tmp 37]) rfl ?_); at_builtin; refine Kd.R_append (Kd.int .u8) (w0 := w) w.heap.size rfl (.tmp 35) (.tmp 37) 47 5 (.int .u8 0) 1 rfl Try.underlying47 info5 rfl (by decide) (by omega) u3 x3_1 ((wrap64 (2 * ((rd_T44 l0 x4_1).f0))) % 256) [.int .u8 ((wrap64 (2 * ((rd_T44 l0 x4_1).f0))) % 256)] (fun _ => True) (fun _ => False) rfl (by first | (go_simp; done) | (go_simp; rfl)) ?aP (fun _ hk => hk.elim) ?aF ?aO ?aB ?aS ?aL ?_; (case aP => exact rfl); (case aB => exact (by repeat (first | (with_reducible first | exact HB.out | apply below_alloc | apply pw_below_drewN | apply below_drew1 | refine below_set ?_ GE185.out) | exact HB.out))); (case aF => exact (fun _ _ => trivial)); (case aO => exact (by (with_reducible repeat (first | apply Kd.R_alloc | apply Kd.R_drewN | apply Kd.R_drew)); exact Kd.R_mono (Kd.R_far (p := ⟨gb185, 3, none⟩) (Kd.R_far (p := ⟨gb185, 2, none⟩) (Kd.R_far (p := ⟨gb185, 1, none⟩) (Kd.R_far (p := ⟨gb185, 0, none⟩) (Kd.R_types HO_3.out BK185.out (by decide)) (fun _ hk => hk.2) (.int .i64 ((rd_T44 l0 x4_1).f0))) (fun _ hk => hk.2) (.bool false)) (fun _ hk => hk.2) (.int .i64 ((rd_T44 l0 x4_1).f2))) (fun _ hk => hk.2) (.int .i64 ((rd_T44 l0 x4_1).f3))) (fun _ hk => trivial))); (case aS => exact (below_size (by repeat (first | (with_reducible first | exact HB.out | apply below_alloc | apply pw_below_drewN | apply below_drew1 | refine below_set ?_ GE185.out) | exact HB.out)))); (case aL => have := LMc22.out; omega); intro v200 w28 ho hb hg hat; rw [← Ny199.out] at ho; have n0_ := Aside0.mk (blk_grown (g := gb185) (o := .cells #[.int .i64 ((rd_T44 l0 x4_1).f0), .bool false, .int .i64 ((rd_T44 l0 x4_1).f2), .int .i64 ((rd_T44 l0 x4_1).f3)] 44 (0, 0)) (by (with_reducible repeat (first | refine blk_drewN ?_ _ | refine blk_drew ?_ | refine blk_alloc ?_ _)); refine blk_put (cs := #[.int .i64 ((rd_T44 l0 x4_1).f0), .bool false, .int .i64 ((rd_T44 l0 x4_1).f2), .int .i64 0]) ?_ 3 _ rfl; (with_reducible repeat (first | refine blk_drewN ?_ _ | refine blk_drew ?_ | refine blk_alloc ?_ _)); refine blk_put (cs := #[.int .i64 ((rd_T44 l0 x4_1).f0), .bool false, .int .i64 0, .int .i64 0]) ?_ 2 _ rfl; (with_reducible repeat (first | refine blk_drewN ?_ _ | refine blk_drew ?_ | refine blk_alloc ?_ _)); refine blk_put (cs := #[.int .i64 ((rd_T44 l0 x4_1).f0), .bool false, .int .i64 0, .int .i64 0]) ?_ 1 _ rfl; (with_reducible repeat (first | refine blk_drewN ?_ _ | refine blk_drew ?_ | refine blk_alloc ?_ _)); refine blk_put (cs := #[.int .i64 0, .bool false, .int .i64 0, .int .i64 0]) ?_ 0 _ rfl; (with_reducible repeat (first | refine blk_drewN ?_ _ | refine blk_drew ?_ | refine blk_alloc ?_ _)); exact BK185.out) hg (Kd.R_ne HO_3.out BK185.out (by decide))); have n1_ := Aside0.mk (hb); have n2_ := Aside0.mk (ho); clear BK185; clear HB; clear HO_3; have BK185 := n0_; have HB := n1_; have HO201 := n2_; clear n0_ n1_ n2_; clear ho hb hg hat; have hcz29_0 : w28.cell? ⟨gb185, 0, none⟩ = some (.int .i64 ((rd_T44 l0 x4_1).f0)) := (blk_cell BK185.out 0).trans rfl; have hcz29_1 : w28.cell? ⟨gb185, 1, none⟩ = some (.bool false) := (blk_cell BK185.out 1).trans rfl; have hcz29_2 : w28.cell? ⟨gb185, 2, none⟩ = some (.int .i64 ((rd_T44 l0 x4_1).f2)) := (blk_cell BK185.out 2).trans rfl; have hcz29_3 : w28.cell? ⟨gb185, 3, none⟩ = some (.int .i64 ((rd_T44 l0 x4_1).f3)) := (blk_cell BK185.out 3).trans rfl; have hfz29_0 := blk_frozen BK185.out 0; have hfz29_1 := blk_frozen BK185.out 1; have hfz29_2 := blk_frozen BK185.out 2; have hfz29_3 := blk_frozen BK185.out 3) | ((with_reducible refine gate_callee (f := 38) rfl ?_); refine goesL_ (some 42) rfl rfl Try.func38 (by kernel_rfl) rfl #[.int .i64 ((rd_T44 l0 x4_1).f3)] rfl (by (try simp only [List.map_toArray, List.map_cons, List.map_nil]); first | done | rfl | (simp only [List.length_drop, List.length_take]; rfl)) ?_; (with_reducible refine (inquestref01_Zig.calls ((rd_T44 l0 x4_1).f3) t202 _ A23.out).mono ?_); rintro e w' ⟨rfl, ⟨nd, rfl⟩⟩; refine ⟨_, rfl, ?_⟩) | ((with_reducible refine gate_callee (f := 37) rfl ?_); refine goesL_ (some 43) rfl rfl Try.func37 (by kernel_rfl) rfl #[.int .u64 t202] rfl (by (try simp only [List.map_toArray, List.map_cons, List.map_nil]); first | done | rfl | (simp only [List.length_drop, List.length_take]; rfl)) ?_; (with_reducible refine (inquestref01_Var.calls k1 t202 t203 _ A24.out).mono ?_); rintro e w30 ⟨v204, rfl, ho0, hb⟩; refine ⟨_, rfl, ?_⟩; have n0_ := Aside0.mk (Kd.R_elder' (by (with_reducible repeat (first | apply Kd.R_alloc | apply Kd.R_drewN | apply Kd.R_drew)); exact HO201.out) (Kd.R_base ho0) hb); have n1_ := Aside0.mk (Kd.R_lower (Kd.R_new' ho0 (Kd.R_lt (by (with_reducible repeat (first | apply Kd.R_alloc | apply Kd.R_drewN | apply Kd.R_drew)); exact HO201.out))) (below_size (by repeat (first | (with_reducible first | exact HB.out | apply below_alloc | apply pw_below_drewN | apply below_drew1 | refine below_set ?_ GE185.out) | exact HB.out)))); have n2_ := Aside0.mk (blk_below (g := gb185) (o := .cells #[.int .i64 ((rd_T44 l0 x4_1).f0), .bool false, .int .i64 ((rd_T44 l0 x4_1).f2), .int .i64 ((rd_T44 l0 x4_1).f3)] 44 (0, 0)) (by (with_reducible repeat (first | refine blk_drewN ?_ _ | refine blk_drew ?_ | refine blk_alloc ?_ _)); exact BK185.out) hb); have n3_ := Aside0.mk (below_step (by repeat (first | (with_reducible first | exact HB.out | apply below_alloc | apply pw_below_drewN | apply below_drew1 | refine below_set ?_ GE185.out) | exact HB.out)) hb); clear HO201; clear BK185; clear HB; have HO201 := n0_; have HO205 := n1_; have BK185 := n2_; have HB := n3_; clear n0_ n1_ n2_ n3_; (try clear hb); (try clear hb2); (try clear hk); (try clear hi); (try clear ho0); obtain ⟨Ao32, co32, eo32⟩ := Kd.R_slice HO205.out; subst eo32) | ((with_reducible refine gate_builtin (b := .append) (xs := #[.tmp 39, .tmp 43]) rfl ?_); at_builtin; refine Kd.R_append_rows (Kd.int .u8) (w0 := w) w.heap.size rfl (.tmp 39) (.tmp 43) 47 5 (.int .u8 0) 1 rfl Try.underlying47 info5 rfl (by decide) (by omega) v200 y199 t203 _ _ _ (fun k_ => some k_ ≠ (.slice Ao32 t203.length co32 : Value).ownBlock) (fun _ => False) rfl rfl ?aO ?aR (fun _ _ h => h) (fun _ h => h.elim) ?aF ?aB ?aS ?aL ?_; (case aR => repeat (first | exact (Kd.R_reads' HO205.out).2.2 | (with_reducible refine Kd.C_alloc ?_ _) | (with_reducible refine Kd.C_drewN ?_ _) | (with_reducible refine Kd.C_drew ?_))); (case aB => exact (by repeat (first | (with_reducible first | exact HB.out | apply below_alloc | apply pw_below_drewN | apply below_drew1 | refine below_set ?_ GE185.out) | exact HB.out))); (case aF => exact (fun k_ hk => Kd.fresh' (Kd.R_lt (by (with_reducible repeat (first | apply Kd.R_alloc | apply Kd.R_drewN | apply Kd.R_drew)); exact HO205.out)) k_ hk)); (case aO => exact (by (with_reducible repeat (first | apply Kd.R_alloc | apply Kd.R_drewN | apply Kd.R_drew)); exact Kd.R_mono HO201.out (fun _ hk => hk.2))); (case aS => exact (below_size (by repeat (first | (with_reducible first | exact HB.out | apply below_alloc | apply pw_below_drewN | apply below_drew1 | refine below_set ?_ GE185.out) | exact HB.out)))); (case aL => have := LMc25.out; omega); intro v207 w31 ho hb hg hat; rw [← Ny206.out] at ho; have n0_ := Aside0.mk (blk_grown (g := gb185) (o := .cells #[.int .i64 ((rd_T44 l0 x4_1).f0), .bool false, .int .i64 ((rd_T44 l0 x4_1).f2), .int .i64 ((rd_T44 l0 x4_1).f3)] 44 (0, 0)) (by (with_reducible repeat (first | refine blk_drewN ?_ _ | refine blk_drew ?_ | refine blk_alloc ?_ _)); exact BK185.out) hg (Kd.R_ne HO201.out BK185.out (by decide))); have n1_ := Aside0.mk (Kd.R_after (ok := (fun _ => True)) (by (with_reducible repeat (first | apply Kd.R_alloc | apply Kd.R_drewN | apply Kd.R_drew)); exact HO205.out) hg hat); have n2_ := Aside0.mk (hb); have n3_ := Aside0.mk (ho); clear BK185; clear HO205; clear HB; clear HO201; have BK185 := n0_; have HO205 := n1_; have HB := n2_; have HO208 := n3_; clear n0_ n1_ n2_ n3_; clear ho hb hg hat))
                go_roundg k1
                case measure => have := HK1.out; omega
                case rel => exact ⟨(y206), (wrap64 (x4_1 + 1)), (by first | rfl | (simp; done) | (simp [*]; done)), H', ⟨by have := HK1.out; omega⟩, ⟨by (with_reducible repeat (first | apply Kd.R_alloc | apply Kd.R_drewN | apply Kd.R_drew)); exact Kd.R_mono HO208.out (fun _ hk => trivial)⟩, ⟨by repeat (first | (with_reducible first | exact HB.out | apply below_alloc | apply pw_below_drewN | apply below_drew1 | refine below_set ?_ GE185.out) | exact HB.out)⟩⟩
              · rw [if_neg c25] at H
                exact absurd H (by simp)
            · rw [if_neg c22] at H
              exact absurd H (by simp)
        · rw [if_neg c5] at H
          exact absurd H (by simp)
      · rw [if_neg c4] at H
        have c4b0 : decide (x4_1 < (l0.length : Int)) = false := decide_eq_false c4
        clear c4
        obtain rfl := Option.some.inj H
        go_wp2
        go_ret
        exact ⟨_, by first | rfl | (simp [errW_none, errW_some] <;> rfl) | (simp [*, errW_none, errW_some] <;> rfl), by (with_reducible repeat (first | apply Kd.R_alloc | apply Kd.R_drewN | apply Kd.R_drew)); exact HO_3.out, by repeat (first | (with_reducible first | exact HB.out | apply below_alloc | apply pw_below_drewN | apply below_drew1) | exact HB.out)⟩

/-! ### inquestref14_Encode: function 24 -/
def inquestref14_Encode.f (k : Nat) (l0 : List (S44)) : Option (List Int × Int) := (inquestref14_Check.f l0).bind fun bt209 => (if bt209.2 = 0 then ((inquestref14_Text.f k l0).bind fun t211 => (some (t211, 0))) else (some (([] : List Int), bt209.2)))
theorem inquestref14_Encode.mono : ∀ a0 k, LeO (inquestref14_Encode.f k a0) (inquestref14_Encode.f (k + 1) a0) := by
  intro a0 k
  unfold inquestref14_Encode.f
  repeat' first
      | (with_reducible exact inquestref14_Text.mono _ _)
      | (with_reducible exact LeO.refl _)
      | (with_reducible exact LeO.none _)
      | (with_reducible refine LeO.ite ?_ ?_)
      | (with_reducible refine LeO.bind ?_ (fun _ => ?_))
      | exact inquestref14_Text.mono _ _
      | exact LeO.none _
      | refine LeO.ite ?_ ?_
      | refine LeO.bind ?_ (fun _ => ?_)
set_option maxHeartbeats 8000000 in
set_option maxRecDepth 100000 in
theorem inquestref14_Encode.calls (k : Nat) (A0 : Option Addr) (c0 : Nat) (l0 : List (S44)) (r1 : List Int) (r2 : Int) (w : World) (hr0 : Kd.C k44 w A0 l0.length l0) (hc0 : l0.length ≤ c0) (h : inquestref14_Encode.f k l0 = some (r1, r2)) :
    Calls Try.prog 24 #[.slice A0 l0.length c0] w fun e w' => ∃ v0_ : Value, e = .returned (.tuple #[v0_, .int .i64 r2]) ∧ Kd.R (Kd.int .u8) 5 w' w.heap.size (fun _ => True) v0_ r1 ∧ Below w.heap.size w w' := by
  have HR0 := Aside0.mk hr0
  have HC0 := Aside0.mk hc0
  clear hr0 hc0
  have HB := Aside0.mk (Below.refl w.heap.size w)
  have H : ((inquestref14_Check.f l0).bind fun bt209 => (if bt209.2 = 0 then ((inquestref14_Text.f k l0).bind fun t211 => (some (t211, 0))) else (some (([] : List Int), bt209.2)))) = some (r1, r2) := h
  clear h
  replace H := Option.bind_eq_some_iff.mp H
  obtain ⟨⟨t209, t210⟩, A20, H⟩ := H
  replace H : (if t210 = 0 then ((inquestref14_Text.f k l0).bind fun t211 => (some (t211, 0))) else (some (([] : List Int), t210))) = some (r1, r2) := H
  have A2 := Aside0.mk A20
  clear A20
  by_cases c3 : t210 = 0
  · rw [if_pos c3] at H
    have c3b0 : (t210 == 0) = true := beq_iff_eq.mpr c3
    have c3b1 : (t210 != 0) = false := bne_eq_false_iff_eq.mpr c3
    clear c3
    replace H := Option.bind_eq_some_iff.mp H
    obtain ⟨t211, A40, H⟩ := H
    replace H : (some (t211, 0)) = some (r1, r2) := H
    have A4 := Aside0.mk A40
    clear A40
    simp only [Option.some.injEq, Prod.mk.injEq] at H
    obtain ⟨rfl, rfl⟩ := H
    go_enter Try.func24, Try.ntmps24
    go_wp2_with (first | ((with_reducible refine gate_callee (f := 12) rfl ?_); refine goesL_ (some 8) rfl rfl Try.func12 (by kernel_rfl) rfl #[.slice A0 l0.length c0] rfl (by (try simp only [List.map_toArray, List.map_cons, List.map_nil]); first | done | rfl | (simp only [List.length_drop, List.length_take]; rfl)) ?_; (with_reducible refine (inquestref14_Check.calls _ _ l0 t209 t210 _ ?side1 ?side2 A2.out).mono ?_); (case side1 => repeat (first | exact HR0.out | (with_reducible refine Kd.C_alloc ?_ _) | (with_reducible refine Kd.C_drewN ?_ _) | (with_reducible refine Kd.C_drew ?_))); (case side2 => exact HC0.out); rintro e w5 ⟨rfl, hb⟩; refine ⟨_, rfl, ?_⟩; have n0_ := Aside0.mk (below_step (by repeat (first | (with_reducible first | exact HB.out | apply below_alloc | apply pw_below_drewN | apply below_drew1) | exact HB.out)) hb); clear HB; have HB := n0_; clear n0_; (try clear hb); (try clear hb2); (try clear hk); (try clear hi)) | ((with_reducible refine gate_callee (f := 32) rfl ?_); refine goesL_ (some 15) rfl rfl Try.func32 (by kernel_rfl) rfl #[.slice A0 l0.length c0] rfl (by (try simp only [List.map_toArray, List.map_cons, List.map_nil]); first | done | rfl | (simp only [List.length_drop, List.length_take]; rfl)) ?_; (with_reducible refine (inquestref14_Text.calls k _ _ l0 t211 _ ?side1 ?side2 A4.out).mono ?_); (case side1 => repeat (first | exact (Kd.C_below HR0.out HB.out) | (with_reducible refine Kd.C_alloc ?_ _) | (with_reducible refine Kd.C_drewN ?_ _) | (with_reducible refine Kd.C_drew ?_))); (case side2 => exact HC0.out); rintro e w6 ⟨v212, rfl, ho0, hb⟩; refine ⟨_, rfl, ?_⟩; have n0_ := Aside0.mk (Kd.R_lower ho0 (below_size (by repeat (first | (with_reducible first | exact HB.out | apply below_alloc | apply pw_below_drewN | apply below_drew1) | exact HB.out)))); have n1_ := Aside0.mk (below_step (by repeat (first | (with_reducible first | exact HB.out | apply below_alloc | apply pw_below_drewN | apply below_drew1) | exact HB.out)) hb); clear HB; have HO213 := n0_; have HB := n1_; clear n0_ n1_; (try clear hb); (try clear hb2); (try clear hk); (try clear hi); (try clear ho0)))
    go_ret2
    exact ⟨_, by first | rfl | (simp [errW_none, errW_some] <;> rfl) | (simp [*, errW_none, errW_some] <;> rfl), by (with_reducible repeat (first | apply Kd.R_alloc | apply Kd.R_drewN | apply Kd.R_drew)); exact HO213.out, by repeat (first | (with_reducible first | exact HB.out | apply below_alloc | apply pw_below_drewN | apply below_drew1) | exact HB.out)⟩
  · rw [if_neg c3] at H
    have c3b0 : (t210 == 0) = false := beq_eq_false_iff_ne.mpr c3
    have c3b1 : (t210 != 0) = true := bne_iff_ne.mpr c3
    simp only [Option.some.injEq, Prod.mk.injEq] at H
    obtain ⟨rfl, rfl⟩ := H
    go_enter Try.func24, Try.ntmps24
    go_wp2_with (first | ((with_reducible refine gate_callee (f := 12) rfl ?_); refine goesL_ (some 8) rfl rfl Try.func12 (by kernel_rfl) rfl #[.slice A0 l0.length c0] rfl (by (try simp only [List.map_toArray, List.map_cons, List.map_nil]); first | done | rfl | (simp only [List.length_drop, List.length_take]; rfl)) ?_; (with_reducible refine (inquestref14_Check.calls _ _ l0 t209 t210 _ ?side1 ?side2 A2.out).mono ?_); (case side1 => repeat (first | exact HR0.out | (with_reducible refine Kd.C_alloc ?_ _) | (with_reducible refine Kd.C_drewN ?_ _) | (with_reducible refine Kd.C_drew ?_))); (case side2 => exact HC0.out); rintro e w7 ⟨rfl, hb⟩; refine ⟨_, rfl, ?_⟩; have n0_ := Aside0.mk (below_step (by repeat (first | (with_reducible first | exact HB.out | apply below_alloc | apply pw_below_drewN | apply below_drew1) | exact HB.out)) hb); clear HB; have HB := n0_; clear n0_; (try clear hb); (try clear hb2); (try clear hk); (try clear hi)))
    go_ret2
    exact ⟨_, by first | rfl | (simp [errW_none, errW_some] <;> rfl) | (simp [*, errW_none, errW_some] <;> rfl), by first | exact Kd.R_nil _ _ _ _ _ | exact Kd.N_nil _ _ _ _ _ | exact Kd.V_nil _ _ _ _ _ | exact Kd.Q_nil _ _ _ _ _ | exact Kd.S_nil _ _ _ _ _, by repeat (first | (with_reducible first | exact HB.out | apply below_alloc | apply pw_below_drewN | apply below_drew1) | exact HB.out)⟩

/-! ### word_ReadVar: function 33 -/
mutual
def word_ReadVar.l0 : Nat → Int → List Int → Int → Int → Option (Int × Int × Int)
  | 0, _, _, _, _ => none
  | k + 1, x5, x8, x9, x10 => if x10 < x9 then (if 0 ≤ x10 then (if x10 < (x8.length : Int) then (if x10 = 9 then (word_ReadVar.j1 k x5 x10 (rd x8 x10) x8 x9 x10 (decide ((rd x8 x10) > 1))) else (word_ReadVar.j1 k x5 x10 (rd x8 x10) x8 x9 x10 false)) else (none)) else (none)) else (some (0, 0, 3))
def word_ReadVar.j1 : Nat → Int → Int → Int → List Int → Int → Int → Bool → Option (Int × Int × Int)
  | 0, _, _, _, _, _, _, _ => none
  | k + 1, x5, x6, x7, x8, x9, x10, x20 => if x20 = true then (some (0, 0, 4)) else (if 0 ≤ (wrap64 (7 * x6)) then (if x7 < 128 then (if x7 = 0 then (if x6 > 0 then (some (0, 0, 4)) else (some (Go.bits .or .u64 x5 (shl .u64 (IntKind.u64.wrap (Go.bits .and .u8 x7 127)) (wrap64 (7 * x6))), wrap64 (x6 + 1), 0))) else (some (Go.bits .or .u64 x5 (shl .u64 (IntKind.u64.wrap (Go.bits .and .u8 x7 127)) (wrap64 (7 * x6))), wrap64 (x6 + 1), 0))) else (word_ReadVar.l0 k (Go.bits .or .u64 x5 (shl .u64 (IntKind.u64.wrap (Go.bits .and .u8 x7 127)) (wrap64 (7 * x6)))) x8 x9 (wrap64 (x10 + 1)))) else (none))
end
def word_ReadVar.f (k : Nat) (l0 : List Int) : Option (Int × Int × Int) := word_ReadVar.l0 k 0 l0 (l0.length : Int) 0
theorem word_ReadVar.mono_l : ∀ k, (∀ y0 y1 y2 y3, LeO (word_ReadVar.l0 k y0 y1 y2 y3) (word_ReadVar.l0 (k + 1) y0 y1 y2 y3)) ∧ (∀ y0 y1 y2 y3 y4 y5 y6, LeO (word_ReadVar.j1 k y0 y1 y2 y3 y4 y5 y6) (word_ReadVar.j1 (k + 1) y0 y1 y2 y3 y4 y5 y6))
  | 0 => ⟨fun _ _ _ _ r h => by simp [word_ReadVar.l0] at h, fun _ _ _ _ _ _ _ r h => by simp [word_ReadVar.j1] at h⟩
  | k + 1 => by
    obtain ⟨ih0, ih1⟩ := word_ReadVar.mono_l k
    refine ⟨?_, ?_⟩
    · intro y0 y1 y2 y3
      unfold word_ReadVar.l0
      repeat' first
      | (with_reducible exact ih0 _ _ _ _)
      | (with_reducible exact ih1 _ _ _ _ _ _ _)
      | (with_reducible exact LeO.refl _)
      | (with_reducible exact LeO.none _)
      | (with_reducible refine LeO.ite ?_ ?_)
      | (with_reducible refine LeO.bind ?_ (fun _ => ?_))
      | exact ih0 _ _ _ _
      | exact ih1 _ _ _ _ _ _ _
      | exact LeO.none _
      | refine LeO.ite ?_ ?_
      | refine LeO.bind ?_ (fun _ => ?_)
    · intro y0 y1 y2 y3 y4 y5 y6
      unfold word_ReadVar.j1
      repeat' first
      | (with_reducible exact ih0 _ _ _ _)
      | (with_reducible exact ih1 _ _ _ _ _ _ _)
      | (with_reducible exact LeO.refl _)
      | (with_reducible exact LeO.none _)
      | (with_reducible refine LeO.ite ?_ ?_)
      | (with_reducible refine LeO.bind ?_ (fun _ => ?_))
      | exact ih0 _ _ _ _
      | exact ih1 _ _ _ _ _ _ _
      | exact LeO.none _
      | refine LeO.ite ?_ ?_
      | refine LeO.bind ?_ (fun _ => ?_)
theorem word_ReadVar.mono : ∀ a0 k, LeO (word_ReadVar.f k a0) (word_ReadVar.f (k + 1) a0) := by
  intro a0 k
  obtain ⟨ih0, ih1⟩ := word_ReadVar.mono_l k
  unfold word_ReadVar.f
  repeat' first
      | (with_reducible exact ih0 _ _ _ _)
      | (with_reducible exact ih1 _ _ _ _ _ _ _)
      | (with_reducible exact LeO.refl _)
      | (with_reducible exact LeO.none _)
      | (with_reducible refine LeO.ite ?_ ?_)
      | (with_reducible refine LeO.bind ?_ (fun _ => ?_))
      | exact ih0 _ _ _ _
      | exact ih1 _ _ _ _ _ _ _
      | exact LeO.none _
      | refine LeO.ite ?_ ?_
      | refine LeO.bind ?_ (fun _ => ?_)
set_option maxHeartbeats 8000000 in
set_option maxRecDepth 100000 in
theorem word_ReadVar.calls (k : Nat) (A0 : Option Addr) (c0 : Nat) (l0 : List Int) (r1 : Int) (r2 : Int) (r3 : Int) (w : World) (hr0 : Kd.C (Kd.int .u8) w A0 l0.length l0) (hc0 : l0.length ≤ c0) (h : word_ReadVar.f k l0 = some (r1, r2, r3)) :
    Calls Try.prog 33 #[.slice A0 l0.length c0] w fun e w' => e = .returned (.tuple #[.int .u64 r1, .int .i64 r2, .int .i64 r3]) ∧ Drawn0 w w' := by
  have HR0 := Aside0.mk hr0
  have HC0 := Aside0.mk hc0
  clear hr0 hc0
  have H : (word_ReadVar.l0 k 0 l0 (l0.length : Int) 0) = some (r1, r2, r3) := h
  clear h
  have H' := Aside0.mk H
  clear H
  go_enter Try.func33, Try.ntmps33
  go_wp2
  go_loopg [5, 10] k (fun kq v5 v10 w' => ∃ (x5_1 : Int) (x10_1 : Int), v5 = .int .u64 x5_1 ∧ v10 = .int .i64 x10_1 ∧ Aside0 (word_ReadVar.l0 kq x5_1 l0 (l0.length : Int) x10_1 = some (r1, r2, r3)) ∧ Aside0 (kq ≤ k) ∧ Drawn0 w w')
  case atStart => exact ⟨(0), (0), (by first | rfl | (simp; done) | (simp [*]; done)), (by first | rfl | (simp; done) | (simp [*]; done)), H', ⟨Nat.le_refl _⟩, by repeat (first | exact Drawn0.refl _ | apply Drawn0.step)⟩
  case round =>
    clear H'
    obtain ⟨x5_1, x10_1, rfl, rfl, HA, HK1, ⟨m1, rfl⟩⟩ := hrel
    cases gk with
    | zero => exact absurd HA.out (by simp [word_ReadVar.l0])
    | succ k1 =>
      have H := HA.out
      clear HA
      simp only [word_ReadVar.l0] at H
      by_cases c2 : x10_1 < (l0.length : Int)
      · rw [if_pos c2] at H
        have c2b0 : decide (x10_1 < (l0.length : Int)) = true := decide_eq_true c2
        clear c2
        by_cases c3 : 0 ≤ x10_1
        · rw [if_pos c3] at H
          have c3b0 : decide (0 ≤ x10_1) = true := decide_eq_true c3
          clear c3
          by_cases c4 : x10_1 < (l0.length : Int)
          · rw [if_pos c4] at H
            have c4b0 : decide (x10_1 < (l0.length : Int)) = true := decide_eq_true c4
            clear c4
            have HC5 := Aside0.mk H
            clear H
            have p214 : 0 ≤ (x10_1 : Int) := of_decide_eq_true (by first | (with_reducible assumption) | assumption)
            have q214 : x10_1 < (l0.length : Int) := of_decide_eq_true (by first | (with_reducible assumption) | assumption)
            obtain ⟨ad214, e214, hx214_0⟩ := Kd.at_int HR0.out x10_1 p214 q214
            cases e214
            replace p214 := eq_true p214
            replace q214 := eq_true q214
            go_upto_region 5 with (fail)
            go_cut [20] (fun v20 wc => ∃ (kq : Nat) (x20_4 : Bool), v20 = .bool x20_4 ∧ Aside0 (word_ReadVar.j1 kq x5_1 x10_1 (rd l0 x10_1) l0 (l0.length : Int) x10_1 x20_4 = some (r1, r2, r3)) ∧ Aside0 (kq ≤ k1) ∧ Drawn0 w wc)
            case first =>
              have H := HC5.out
              clear HC5
              by_cases c6 : x10_1 = 9
              · rw [if_pos c6] at H
                have c6b0 : (x10_1 == 9) = true := beq_iff_eq.mpr c6
                have c6b1 : (x10_1 != 9) = false := bne_eq_false_iff_eq.mpr c6
                clear c6
                (first | rw [c6b0] | (simp only [i64_w, i32_w]; rw [c6b0]) | skip)
                have H' := Aside0.mk H
                clear H
                go_wp2
                go_meet
                case rel => exact ⟨_, (decide ((rd l0 x10_1) > 1)), (by first | rfl | (simp; done) | (simp [*]; done)), H', ⟨by have := HK1.out; first | omega | exact Nat.le_refl _⟩, by repeat (first | exact Drawn0.refl _ | apply Drawn0.step)⟩
              · rw [if_neg c6] at H
                have c6b0 : (x10_1 == 9) = false := beq_eq_false_iff_ne.mpr c6
                have c6b1 : (x10_1 != 9) = true := bne_iff_ne.mpr c6
                (first | rw [c6b0] | (simp only [i64_w, i32_w]; rw [c6b0]) | skip)
                have H' := Aside0.mk H
                clear H
                go_wp2
                go_meet
                case rel => exact ⟨_, (false), (by first | rfl | (simp; done) | (simp [*]; done)), H', ⟨by have := HK1.out; first | omega | exact Nat.le_refl _⟩, by repeat (first | exact Drawn0.refl _ | apply Drawn0.step)⟩
            case rest =>
              clear HC5
              try clear c2
              try clear c2b0
              try clear p2
              try clear q2
              try clear hx2
              try clear c3
              try clear c3b0
              try clear c4
              try clear c4b0
              try clear c6
              try clear c6b0
              try clear c6b1
              try clear hx214_0
              try clear p214
              try clear q214
              obtain ⟨kq, x20_4, rfl, HA, HJ4, ⟨mc4, rfl⟩⟩ := hcut
              cases kq with
              | zero => exact absurd HA.out (by simp [word_ReadVar.j1])
              | succ kj4 =>
                have H := HA.out
                clear HA
                simp only [word_ReadVar.j1] at H
                by_cases c7 : x20_4 = true
                · subst c7
                  have H1 : (some (0, 0, 4)) = some (r1, r2, r3) := by rw [if_pos rfl] at H; exact H
                  clear H
                  have H := H1
                  clear H1
                  simp only [Option.some.injEq, Prod.mk.injEq] at H
                  obtain ⟨rfl, rfl, rfl⟩ := H
                  go_wp2
                  go_ret3
                  exact ⟨by first | rfl | (simp; done) | (simp [*]; done), by repeat (first | exact Drawn0.refl _ | apply Drawn0.step)⟩
                · replace c7 := Bool.eq_false_iff.mpr c7
                  subst c7
                  have H1 : (if 0 ≤ (wrap64 (7 * x10_1)) then (if (rd l0 x10_1) < 128 then (if (rd l0 x10_1) = 0 then (if x10_1 > 0 then (some (0, 0, 4)) else (some (Go.bits .or .u64 x5_1 (shl .u64 (IntKind.u64.wrap (Go.bits .and .u8 (rd l0 x10_1) 127)) (wrap64 (7 * x10_1))), wrap64 (x10_1 + 1), 0))) else (some (Go.bits .or .u64 x5_1 (shl .u64 (IntKind.u64.wrap (Go.bits .and .u8 (rd l0 x10_1) 127)) (wrap64 (7 * x10_1))), wrap64 (x10_1 + 1), 0))) else (word_ReadVar.l0 kj4 (Go.bits .or .u64 x5_1 (shl .u64 (IntKind.u64.wrap (Go.bits .and .u8 (rd l0 x10_1) 127)) (wrap64 (7 * x10_1)))) l0 (l0.length : Int) (wrap64 (x10_1 + 1)))) else (none)) = some (r1, r2, r3) := by rw [if_neg (show ¬ (false = true) by decide)] at H; exact H
                  clear H
                  have H := H1
                  clear H1
                  obtain ⟨ji8, hji8⟩ : ∃ j_ : Int, (wrap64 (7 * x10_1)) = j_ := ⟨_, rfl⟩
                  replace H : (if 0 ≤ (ji8) then (if (rd l0 x10_1) < 128 then (if (rd l0 x10_1) = 0 then (if x10_1 > 0 then (some (0, 0, 4)) else (some (Go.bits .or .u64 x5_1 (shl .u64 (IntKind.u64.wrap (Go.bits .and .u8 (rd l0 x10_1) 127)) (ji8)), wrap64 (x10_1 + 1), 0))) else (some (Go.bits .or .u64 x5_1 (shl .u64 (IntKind.u64.wrap (Go.bits .and .u8 (rd l0 x10_1) 127)) (ji8)), wrap64 (x10_1 + 1), 0))) else (word_ReadVar.l0 kj4 (Go.bits .or .u64 x5_1 (shl .u64 (IntKind.u64.wrap (Go.bits .and .u8 (rd l0 x10_1) 127)) (ji8))) l0 (l0.length : Int) (wrap64 (x10_1 + 1)))) else (none)) = some (r1, r2, r3) := by first | (rw [hji8] at H; exact H) | (simp only [hji8] at H ⊢; exact H)
                  have hji8w : (IntKind.i64.wrap (7 * x10_1)) = ji8 := (i64_w _).trans hji8
                  by_cases c9 : 0 ≤ (ji8)
                  · rw [if_pos c9] at H
                    have c9b0 := eq_true c9
                    have c9b1 : decide (0 ≤ (ji8)) = true := decide_eq_true c9
                    clear c9
                    obtain ⟨ji10, hji10⟩ : ∃ j_ : Int, (shl .u64 (IntKind.u64.wrap (Go.bits .and .u8 (rd l0 x10_1) 127)) (ji8)) = j_ := ⟨_, rfl⟩
                    replace H : (if (rd l0 x10_1) < 128 then (if (rd l0 x10_1) = 0 then (if x10_1 > 0 then (some (0, 0, 4)) else (some (Go.bits .or .u64 x5_1 (ji10), wrap64 (x10_1 + 1), 0))) else (some (Go.bits .or .u64 x5_1 (ji10), wrap64 (x10_1 + 1), 0))) else (word_ReadVar.l0 kj4 (Go.bits .or .u64 x5_1 (ji10)) l0 (l0.length : Int) (wrap64 (x10_1 + 1)))) = some (r1, r2, r3) := by first | (rw [hji10] at H; exact H) | (simp only [hji10] at H ⊢; exact H)
                    have hji10_ : (IntKind.u64.wrap ((IntKind.u64.wrap (Go.bits .and .u8 (rd l0 x10_1) 127)) * 2 ^ min (ji8).toNat 64)) = ji10 := hji10
                    have hji10z : (ji8) ≤ 64 → (IntKind.u64.wrap ((IntKind.u64.wrap (Go.bits .and .u8 (rd l0 x10_1) 127)) * 2 ^ (ji8).toNat)) = ji10 := shl_small hji10
                    by_cases c11 : (rd l0 x10_1) < 128
                    · rw [if_pos c11] at H
                      have c11b0 : decide ((rd l0 x10_1) < 128) = true := decide_eq_true c11
                      clear c11
                      by_cases c12 : (rd l0 x10_1) = 0
                      · rw [if_pos c12] at H
                        have c12b0 : ((rd l0 x10_1) == 0) = true := beq_iff_eq.mpr c12
                        have c12b1 : ((rd l0 x10_1) != 0) = false := bne_eq_false_iff_eq.mpr c12
                        clear c12
                        by_cases c13 : x10_1 > 0
                        · rw [if_pos c13] at H
                          have c13b0 : decide (0 < x10_1) = true := decide_eq_true c13
                          clear c13
                          simp only [Option.some.injEq, Prod.mk.injEq] at H
                          obtain ⟨rfl, rfl, rfl⟩ := H
                          go_wp2
                          go_ret3
                          exact ⟨by first | rfl | (simp; done) | (simp only [← hji8, ← hji10] <;> (first | rfl | simp)) | (simp [*]; done), by repeat (first | exact Drawn0.refl _ | apply Drawn0.step)⟩
                        · rw [if_neg c13] at H
                          have c13b0 : decide (0 < x10_1) = false := decide_eq_false c13
                          clear c13
                          simp only [Option.some.injEq, Prod.mk.injEq] at H
                          obtain ⟨rfl, rfl, rfl⟩ := H
                          go_wp2
                          go_ret3
                          exact ⟨by first | rfl | (simp; done) | (simp only [← hji8, ← hji10] <;> (first | rfl | simp)) | (simp [*]; done), by repeat (first | exact Drawn0.refl _ | apply Drawn0.step)⟩
                      · rw [if_neg c12] at H
                        have c12b0 : ((rd l0 x10_1) == 0) = false := beq_eq_false_iff_ne.mpr c12
                        have c12b1 : ((rd l0 x10_1) != 0) = true := bne_iff_ne.mpr c12
                        simp only [Option.some.injEq, Prod.mk.injEq] at H
                        obtain ⟨rfl, rfl, rfl⟩ := H
                        go_wp2
                        go_ret3
                        exact ⟨by first | rfl | (simp; done) | (simp only [← hji8, ← hji10] <;> (first | rfl | simp)) | (simp [*]; done), by repeat (first | exact Drawn0.refl _ | apply Drawn0.step)⟩
                    · rw [if_neg c11] at H
                      have c11b0 : decide ((rd l0 x10_1) < 128) = false := decide_eq_false c11
                      clear c11
                      have H' := Aside0.mk H
                      clear H
                      go_wp2
                      go_roundg kj4
                      case measure => have := HK1.out; have := HJ4.out; omega
                      case rel => exact ⟨(Go.bits .or .u64 x5_1 (ji10)), (wrap64 (x10_1 + 1)), (by first | rfl | (simp; done) | (simp only [← hji10] <;> (first | rfl | simp)) | (simp [*]; done)), (by first | rfl | (simp; done) | (simp [*]; done)), H', ⟨by have := HK1.out; have := HJ4.out; omega⟩, by repeat (first | exact Drawn0.refl _ | apply Drawn0.step)⟩
                  · rw [if_neg c9] at H
                    exact absurd H (by simp)
          · rw [if_neg c4] at H
            exact absurd H (by simp)
        · rw [if_neg c3] at H
          exact absurd H (by simp)
      · rw [if_neg c2] at H
        have c2b0 : decide (x10_1 < (l0.length : Int)) = false := decide_eq_false c2
        clear c2
        simp only [Option.some.injEq, Prod.mk.injEq] at H
        obtain ⟨rfl, rfl, rfl⟩ := H
        go_wp2
        go_ret3
        exact ⟨by first | rfl | (simp; done) | (simp [*]; done), by repeat (first | exact Drawn0.refl _ | apply Drawn0.step)⟩

/-! ### word_Zag: function 39 -/
def word_Zag.f (a0 : Int) : Option (Int) := some (Go.bits .xor .i64 (wrap64 (a0 / 2)) (wrap64 (-(wrap64 (Go.bits .and .u64 a0 1)))))
set_option maxHeartbeats 8000000 in
set_option maxRecDepth 100000 in
theorem word_Zag.calls (a0 : Int) (r : Int) (w : World) (h : word_Zag.f a0 = some r) :
    Calls Try.prog 39 #[.int .u64 a0] w fun e w' => e = .returned (.int .i64 r) ∧ Drawn0 w w' := by
  have H : (some (Go.bits .xor .i64 (wrap64 (a0 / 2)) (wrap64 (-(wrap64 (Go.bits .and .u64 a0 1)))))) = some r := h
  clear h
  obtain rfl := Option.some.inj H
  go_enter Try.func39, Try.ntmps39
  go_wp2
  go_ret
  exact ⟨by first | rfl | (simp; done) | (simp [*]; done), by repeat (first | exact Drawn0.refl _ | apply Drawn0.step)⟩

/-! ### hist_event: function 34 -/
def hist_event.j0 : Nat → List Int → Int → Bool → Int → Int → Option (Int × Bool × Int × Int × List Int × Int)
  | 0, _, _, _, _, _ => none
  | k + 1, x0, x220000, x220001, x220002, x220003 => (word_ReadVar.f k x0).bind fun bt232 => (if bt232.2.2 = 0 then ((word_Zag.f bt232.1).bind fun t235 => (if 0 ≤ bt232.2.1 then (if bt232.2.1 ≤ (x0.length : Int) then (some (x220000, x220001, x220002, t235, (x0.drop (bt232.2.1 : Int).toNat), 0)) else (none)) else (none))) else (some (0, false, 0, 0, ([] : List Int), bt232.2.2)))
def hist_event.f (k : Nat) (l0 : List Int) : Option (Int × Bool × Int × Int × List Int × Int) := if (l0.length : Int) = 0 then (some (0, false, 0, 0, ([] : List Int), 3)) else (if 0 < (l0.length : Int) then (if (rd l0 0) ≥ 32 then (some (0, false, 0, 0, ([] : List Int), 4)) else (if 1 ≤ (l0.length : Int) then ((some (l0.drop 1 : List Int)).bind fun y220 => (if (Int.tmod (rd l0 0) 2) = 1 then (if (y220.length : Int) = 0 then (some (0, false, 0, 0, ([] : List Int), 3)) else (if 0 < (y220.length : Int) then (if (rd y220 0) ≥ 16 then (some (0, false, 0, 0, ([] : List Int), 4)) else (if 1 ≤ (y220.length : Int) then (hist_event.j0 k (y220.drop 1) ((Int.tdiv (rd l0 0) 2) % 256) ((Int.tmod (rd l0 0) 2) == 1) (wrap64 (rd y220 0)) 0) else (none))) else (none))) else (hist_event.j0 k y220 ((Int.tdiv (rd l0 0) 2) % 256) ((Int.tmod (rd l0 0) 2) == 1) 0 0))) else (none))) else (none))
theorem hist_event.mono_l : ∀ k, (∀ y0 y1 y2 y3 y4, LeO (hist_event.j0 k y0 y1 y2 y3 y4) (hist_event.j0 (k + 1) y0 y1 y2 y3 y4))
  | 0 => fun _ _ _ _ _ r h => by simp [hist_event.j0] at h
  | k + 1 => by
    have ih0 := hist_event.mono_l k
    · intro y0 y1 y2 y3 y4
      unfold hist_event.j0
      repeat' first
      | (with_reducible exact ih0 _ _ _ _ _)
      | (with_reducible exact word_ReadVar.mono _ _)
      | (with_reducible exact LeO.refl _)
      | (with_reducible exact LeO.none _)
      | (with_reducible refine LeO.ite ?_ ?_)
      | (with_reducible refine LeO.bind ?_ (fun _ => ?_))
      | exact ih0 _ _ _ _ _
      | exact word_ReadVar.mono _ _
      | exact LeO.none _
      | refine LeO.ite ?_ ?_
      | refine LeO.bind ?_ (fun _ => ?_)
theorem hist_event.mono : ∀ a0 k, LeO (hist_event.f k a0) (hist_event.f (k + 1) a0) := by
  intro a0 k
  have ih0 := hist_event.mono_l k
  unfold hist_event.f
  repeat' first
      | (with_reducible exact ih0 _ _ _ _ _)
      | (with_reducible exact word_ReadVar.mono _ _)
      | (with_reducible exact LeO.refl _)
      | (with_reducible exact LeO.none _)
      | (with_reducible refine LeO.ite ?_ ?_)
      | (with_reducible refine LeO.bind ?_ (fun _ => ?_))
      | exact ih0 _ _ _ _ _
      | exact word_ReadVar.mono _ _
      | exact LeO.none _
      | refine LeO.ite ?_ ?_
      | refine LeO.bind ?_ (fun _ => ?_)
def hist_event.T5 : Bool × List (List Nat × List Nat) := (true, [([], []), ([0], [0]), ([1], [1]), ([2], [2]), ([3], [3]), ([], []), ([5], [5]), ([6], [6]), ([7], [7]), ([8], [8]), ([4, 9], [4, 9]), ([], []), ([11, 10, 0, 1, 2, 3, 4, 5, 6, 7, 8, 9, 10, 11], [10, 11])])
def hist_event.B5 : List Nat := [0, 1, 3, 7, 15, 0, 32, 96, 224, 480, 1023, 0, 4095]
theorem hist_event.tab5 : rtab .any (opsOf Try.f34 5) = hist_event.T5 := by kernel_rfl
theorem hist_event.bits5 : waitsOk hist_event.T5.2 hist_event.B5 = true := by kernel_rfl
def hist_event.T12 : Bool × List (List Nat × List Nat) := (true, [([], []), ([0], [0]), ([1], [1]), ([2], [2]), ([], []), ([4], [4]), ([0, 1, 2, 3], []), ([6, 3, 0, 1, 2, 3], [3, 6]), ([5, 7, 0, 1, 2, 3, 4, 5, 6, 7], [0, 4, 5])])
def hist_event.B12 : List Nat := [0, 1, 3, 7, 0, 16, 15, 79, 255]
theorem hist_event.tab12 : rtab .any (opsOf Try.f34 12) = hist_event.T12 := by kernel_rfl
theorem hist_event.bits12 : waitsOk hist_event.T12.2 hist_event.B12 = true := by kernel_rfl
set_option maxHeartbeats 8000000 in
set_option maxRecDepth 100000 in
theorem gen_q {Q : Exit → Act → World → Prop} {e : Exit} {a : Act} (w : World) (F : World → Prop) (hF : F w) (h : ∀ W, F W → Q e a W) : Q e a w := h w hF
theorem ev_u8 (x : Int) : IntKind.u8.wrap x = x % 256 := by simp [IntKind.wrap, IntKind.bits, IntKind.signed]
theorem ev_64 (x : Int) : IntKind.i64.wrap (x % 256) = x % 256 := by
  rw [i64_w]; unfold wrap64; omega
theorem ev_far4 {W : World} {g0 g1 j : Nat} (a b c d : Value) (h : g0 ≠ g1) : ((((W.setCell ⟨g0, 0, none⟩ a).setCell ⟨g0, 1, none⟩ b).setCell ⟨g0, 2, none⟩ c).setCell ⟨g0, 3, none⟩ d).cell? ⟨g1, j, none⟩ = W.cell? ⟨g1, j, none⟩ := by rw [World.cell?_setCell_far _ _ _ _ h, World.cell?_setCell_far _ _ _ _ h, World.cell?_setCell_far _ _ _ _ h, World.cell?_setCell_far _ _ _ _ h]
theorem ev_drew (W : World) (p : Addr) : W.drew.cell? p = W.cell? p := rfl
theorem ev_far4d {W : World} {g0 g1 j : Nat} (a b c d : Value) (h : g0 ≠ g1) : ((((W.setCell ⟨g0, 0, none⟩ a).setCell ⟨g0, 1, none⟩ b).setCell ⟨g0, 2, none⟩ c).setCell ⟨g0, 3, none⟩ d).drew.cell? ⟨g1, j, none⟩ = W.cell? ⟨g1, j, none⟩ := (ev_drew _ _).trans (ev_far4 a b c d h)
theorem ev_blk_new1 (w : World) (a b : Obj) : ((w.alloc a).alloc b).heap[w.heap.size + 1]? = some b := by simpa using blk_new (w.alloc a) b
/-- A cut behind a place: its value, as the run makes it. -/
theorem ev_cut {W : World} {base : Nat} {ok : Nat → Prop} {A : Option Addr} {c : Nat} {l : List Int} (h : Kd.V (Kd.int .u8) 5 W base ok (.slice A l.length c) l) (j : Int) (h0 : 0 ≤ j) (hj : j ≤ (l.length : Int)) :
    ∃ (A1 : Option Addr) (c1 : Nat), (∀ W' : World, (Instr.slice 47 (.slice A l.length c) (some (.int .i64 j)) none none).run Try.prog W' = .ok (.slice A1 (l.drop j.toNat).length c1) W') ∧ Kd.V (Kd.int .u8) 5 W base ok (.slice A1 (l.drop j.toNat).length c1) (l.drop j.toNat) := by
  obtain ⟨i0, hi0, _, hsz, _⟩ := info_parts info5
  obtain ⟨_, hroom, hF⟩ := Kd.V_at h
  have hcut := cut_from (P := Try.prog) 47 5 .i64 Try.underlying47 hi0 1 hsz A l.length c j h0 hj
  have hr := Kd.F_cut (m := j.toNat) (c := c) hF (by omega) hroom
  have hy : (l.drop j.toNat).length = l.length - j.toNat := by rw [List.length_drop]
  rw [← hy] at hcut
  exact ⟨_, _, hcut, Kd.V_mk (by rw [hy]; exact Nat.sub_le_sub_right hroom _) hr⟩
set_option maxHeartbeats 8000000 in
theorem hist_event.calls (k : Nat) (P0_ : Nat → Prop) (A0 : Option Addr) (c0 : Nat) (l0 : List Int) (r1 : Int) (r2 : Bool) (r3 : Int) (r4 : Int) (r5 : List Int) (r6 : Int) (w : World) (hs0 : Kd.V (Kd.int .u8) 5 w w.heap.size (fun k_ => P0_ k_) (.slice A0 l0.length c0) l0) (h : hist_event.f k l0 = some (r1, r2, r3, r4, r5, r6)) :
    Calls Try.prog 34 #[.slice A0 l0.length c0] w fun e w' => ∃ v4_ : Value, e = .returned (.tuple #[.agg #[.int .i64 r1, .bool r2, .int .i64 r3, .int .i64 r4], v4_, .int .i64 r6]) ∧ Kd.V (Kd.int .u8) 5 w' w.heap.size (fun k_ => (P0_ k_ ∨ w.heap.size ≤ k_)) v4_ r5 ∧ Below w.heap.size w w' := by
  have hu44 := Try.underlying44
  have hm : (Kd.int .u8).C w A0 l0.length l0 := (Kd.V_reads' hs0).2.2
  unfold hist_event.f at h
  by_cases c2 : (l0.length : Int) = 0
  · rw [if_pos c2] at h
    simp only [Option.some.injEq, Prod.mk.injEq] at h
    obtain ⟨rfl, rfl, rfl, rfl, rfl, rfl⟩ := h
    have c2b0 : ((l0.length : Int) == 0) = true := beq_iff_eq.mpr c2
    go_enter Try.func34, Try.ntmps34
    go_wp2
    refine bodyPost_ret (results_ctt rfl _ _ w.heap.size 44 #[.int .i64 0, .bool false, .int .i64 0, .int .i64 0] (0, 0) _ rfl (by exact blk_new w _) Try.underlying44 rfl (by kernel_rfl)) rfl ?_
    exact ⟨_, rfl, Kd.V_nil _ _ _ _ _, by exact below_alloc (Below.refl _ _) _⟩
  · rw [if_neg c2] at h
    have c2b0 : ((l0.length : Int) == 0) = false := beq_eq_false_iff_ne.mpr c2
    have c5 : 0 < (l0.length : Int) := by omega
    obtain ⟨ad, rfl, hx⟩ := Kd.at_int hm 0 (Int.le_refl _) c5
    rw [show ((0 : Int)).toNat = 0 from rfl, Addr.add_zero'] at hx
    have hx0 := pw_cell_below (below_alloc (Below.refl w.heap.size w) (.cells #[.int .i64 0, .bool false, .int .i64 0, .int .i64 0] 44)) hx
    rw [if_pos c5] at h
    by_cases c6 : (rd l0 0) ≥ 32
    · rw [if_pos c6] at h
      simp only [Option.some.injEq, Prod.mk.injEq] at h
      obtain ⟨rfl, rfl, rfl, rfl, rfl, rfl⟩ := h
      have c6b0 : decide (32 ≤ (rd l0 0)) = true := decide_eq_true c6
      go_enter Try.func34, Try.ntmps34
      go_wp2
      refine bodyPost_ret (results_ctt rfl _ _ w.heap.size 44 #[.int .i64 0, .bool false, .int .i64 0, .int .i64 0] (0, 0) _ rfl (by exact blk_new w _) Try.underlying44 rfl (by kernel_rfl)) rfl ?_
      exact ⟨_, rfl, Kd.V_nil _ _ _ _ _, by exact below_alloc (Below.refl _ _) _⟩
    · rw [if_neg c6, if_pos (by omega)] at h
      simp only [Option.bind_some] at h
      have c6b0 : decide (32 ≤ (rd l0 0)) = false := decide_eq_false c6
      obtain ⟨A1, c1, hcut1, hV1⟩ := ev_cut hs0 1 (by omega) (by omega)
      rw [show (1 : Int).toNat = 1 from rfl] at hcut1 hV1
      have hc1 := (Kd.V_at hV1).2.1
      have hl1 : (l0.drop 1).length = l0.length - 1 := List.length_drop
      generalize l0.drop 1 = l1 at *
      have e8 : IntKind.u8.wrap ((rd l0 0).tdiv 2) = (rd l0 0).tdiv 2 % 256 := ev_u8 _
      have e64 : IntKind.i64.wrap ((rd l0 0).tdiv 2 % 256) = (rd l0 0).tdiv 2 % 256 := ev_64 _
      have q0 : (0 < l0.length) = True := eq_true (by omega)
      replace hl1 := Aside0.mk hl1
      by_cases c8 : Int.tmod (rd l0 0) 2 = 1
      · rw [if_pos c8] at h
        have t8 : (Int.tmod (rd l0 0) 2 == 1) = true := by simpa using c8
        rw [t8] at h
        go_enter Try.func34, Try.ntmps34
        go_wp2
        go_region_held3 (fun W => W.cell? ad = some (.int .u8 (rd l0 0))) (first | assumption | exact (World.cell?_alloc_some _ _ _ (by rw [hx0]; rfl)).trans hx0) (fail)
        refine gen_q _ (fun W => W.heap[w.heap.size]? = some (.cells #[.int .i64 0, .bool false, .int .i64 0, .int .i64 0] 44 (0, 0)) ∧ W.heap[w.heap.size + 1]? = some (.cells #[.int .i64 (Int.tdiv (rd l0 0) 2 % 256), .bool true, .int .i64 0, .int .i64 0] 44 (0, 0)) ∧ Below w.heap.size w W) ⟨(by repeat (first | (with_reducible exact blk_new _ _) | (with_reducible exact ev_blk_new1 _ _ _) | (with_reducible refine blk_drewN ?_ _) | (with_reducible refine blk_drew ?_) | (with_reducible refine blk_alloc ?_ _))), (by repeat (first | (with_reducible exact blk_new _ _) | (with_reducible exact ev_blk_new1 _ _ _) | (with_reducible refine blk_drewN ?_ _) | (with_reducible refine blk_drew ?_) | (with_reducible refine blk_alloc ?_ _))), (by repeat (first | exact Below.refl w.heap.size w | (with_reducible apply below_alloc) | (with_reducible apply pw_below_drewN) | (with_reducible apply below_drew1)))⟩ ?_
        rintro W ⟨hk0, hk1, hB⟩
        have hV := Kd.V_below hV1 hB
        have z0 := blk_cell hk0 0
        have z1 := blk_cell hk0 1
        have z2 := blk_cell hk0 2
        have z3 := blk_cell hk0 3
        have y0 := blk_frozen hk0 0
        have y1 := blk_frozen hk0 1
        have y2 := blk_frozen hk0 2
        have y3 := blk_frozen hk0 3
        have x0 := blk_cell hk1 0
        have x1 := blk_cell hk1 1
        have x2 := blk_cell hk1 2
        have x3 := blk_cell hk1 3
        have v0 := blk_frozen hk1 0
        have v1 := blk_frozen hk1 1
        have v2 := blk_frozen hk1 2
        have v3 := blk_frozen hk1 3
        simp only [List.getElem?_toArray, List.getElem?_cons_zero, List.getElem?_cons_succ] at z0 z1 z2 z3 x0 x1 x2 x3
        have n1 : w.heap.size ≠ w.heap.size + 1 := Nat.ne_of_lt (Nat.lt_succ_self _)
        have n2 : w.heap.size + 1 ≠ w.heap.size := fun e => n1 e.symm
        by_cases c9 : (l1.length : Int) = 0
        · rw [if_pos c9] at h
          simp only [Option.some.injEq, Prod.mk.injEq] at h
          obtain ⟨rfl, rfl, rfl, rfl, rfl, rfl⟩ := h
          have c9b : ((l1.length : Int) == 0) = true := beq_iff_eq.mpr c9
          go_wp2
          refine bodyPost_ret (results_ctt rfl _ _ w.heap.size 44 #[.int .i64 0, .bool false, .int .i64 0, .int .i64 0] (0, 0) _ rfl (blk_put (cs := #[.int .i64 0, .bool false, .int .i64 0, .int .i64 0]) (blk_put (cs := #[.int .i64 0, .bool false, .int .i64 0, .int .i64 0]) (blk_put (cs := #[.int .i64 0, .bool false, .int .i64 0, .int .i64 0]) (blk_put (cs := #[.int .i64 0, .bool false, .int .i64 0, .int .i64 0]) hk0 0 _ rfl) 1 _ rfl) 2 _ rfl) 3 _ rfl) Try.underlying44 rfl (by kernel_rfl)) rfl ?_
          exact ⟨_, rfl, Kd.V_nil _ _ _ _ _, below_set (below_set (below_set (below_set hB (Nat.le_refl _)) (Nat.le_refl _)) (Nat.le_refl _)) (Nat.le_refl _)⟩
        · rw [if_neg c9] at h
          have c9b : ((l1.length : Int) == 0) = false := beq_eq_false_iff_ne.mpr c9
          have q1 : 0 < (l1.length : Int) := by omega
          have q2 : (0 < l1.length) = True := eq_true (by omega)
          obtain ⟨ad1, rfl, hx1w⟩ := Kd.at_int (Kd.V_reads' hV1).2.2 0 (Int.le_refl _) q1
          rw [show ((0 : Int)).toNat = 0 from rfl, Addr.add_zero'] at hx1w
          have hx1 := pw_cell_below hB hx1w
          have n3 : w.heap.size + 1 ≠ ad1.block := by have := World.block_lt_of_cell? w _ hx1w; omega
          rw [if_pos q1] at h
          by_cases c10 : rd l1 0 ≥ 16
          · rw [if_pos c10] at h
            simp only [Option.some.injEq, Prod.mk.injEq] at h
            obtain ⟨rfl, rfl, rfl, rfl, rfl, rfl⟩ := h
            have c10b : decide (16 ≤ rd l1 0) = true := decide_eq_true c10
            go_wp2
            refine bodyPost_ret (results_ctt rfl _ _ w.heap.size 44 #[.int .i64 0, .bool false, .int .i64 0, .int .i64 0] (0, 0) _ rfl (blk_put (cs := #[.int .i64 0, .bool false, .int .i64 0, .int .i64 0]) (blk_put (cs := #[.int .i64 0, .bool false, .int .i64 0, .int .i64 0]) (blk_put (cs := #[.int .i64 0, .bool false, .int .i64 0, .int .i64 0]) (blk_put (cs := #[.int .i64 0, .bool false, .int .i64 0, .int .i64 0]) hk0 0 _ rfl) 1 _ rfl) 2 _ rfl) 3 _ rfl) Try.underlying44 rfl (by kernel_rfl)) rfl ?_
            exact ⟨_, rfl, Kd.V_nil _ _ _ _ _, below_set (below_set (below_set (below_set hB (Nat.le_refl _)) (Nat.le_refl _)) (Nat.le_refl _)) (Nat.le_refl _)⟩
          · rw [if_neg c10, if_pos (by omega)] at h
            have c10b : decide (16 ≤ rd l1 0) = false := decide_eq_false c10
            obtain ⟨A2, c2x, hcut2, hV2⟩ := ev_cut hV1 1 (by omega) (by omega)
            rw [show (1 : Int).toNat = 1 from rfl] at hcut2 hV2
            have i64 : IntKind.i64.wrap (rd l1 0) = wrap64 (rd l1 0) := i64_w _
            generalize l1.drop 1 = l2 at *
            go_wp2
            go_region_held3 (fun W => W.cell? ad1 = some (.int .u8 (rd l1 0))) (first | assumption | exact hx1 | exact (World.cell?_setCell_far _ _ _ _ n3).trans (by assumption)) (fail)
            have hk0b := blk_drew (blk_far hk0 n1 (.int .i64 (wrap64 (rd l1 0))) (p := ⟨w.heap.size + 1, 2, none⟩))
            have hk1b := blk_drew (blk_put (cs' := #[.int .i64 (Int.tdiv (rd l0 0) 2 % 256), .bool true, .int .i64 (wrap64 (rd l1 0)), .int .i64 0]) hk1 2 (.int .i64 (wrap64 (rd l1 0))) rfl)
            have hBb := below_drew1 (below_set (j := 2) (v := .int .i64 (wrap64 (rd l1 0))) hB (Nat.le_succ _))
            clear z0
            clear z1
            clear z2
            clear z3
            clear y0
            clear y1
            clear y2
            clear y3
            clear x0
            clear x1
            clear x2
            clear x3
            clear v0
            clear v1
            clear v2
            clear v3
            clear hV hx1 hk0 hk1 hB
            refine gen_q _ (fun W => W.heap[w.heap.size]? = some (.cells #[.int .i64 0, .bool false, .int .i64 0, .int .i64 0] 44 (0, 0)) ∧ W.heap[w.heap.size + 1]? = some (.cells #[.int .i64 (Int.tdiv (rd l0 0) 2 % 256), .bool true, .int .i64 (wrap64 (rd l1 0)), .int .i64 0] 44 (0, 0)) ∧ Below w.heap.size w W) ⟨hk0b, hk1b, hBb⟩ ?_
            clear hk0b hk1b hBb
            rintro W ⟨hk0, hk1, hB⟩
            have hV := Kd.V_below hV2 hB
            have z0 := blk_cell hk0 0
            have z1 := blk_cell hk0 1
            have z2 := blk_cell hk0 2
            have z3 := blk_cell hk0 3
            have y0 := blk_frozen hk0 0
            have y1 := blk_frozen hk0 1
            have y2 := blk_frozen hk0 2
            have y3 := blk_frozen hk0 3
            have x0 := blk_cell hk1 0
            have x1 := blk_cell hk1 1
            have x2 := blk_cell hk1 2
            have x3 := blk_cell hk1 3
            have v0 := blk_frozen hk1 0
            have v1 := blk_frozen hk1 1
            have v2 := blk_frozen hk1 2
            have v3 := blk_frozen hk1 3
            simp only [List.getElem?_toArray, List.getElem?_cons_zero, List.getElem?_cons_succ] at z0 z1 z2 z3 x0 x1 x2 x3
            cases k with
            | zero => simp [hist_event.j0] at h
            | succ k =>
              simp only [hist_event.j0] at h
              obtain ⟨⟨t1, t2, t3⟩, hrv, h⟩ := Option.bind_eq_some_iff.1 h
              dsimp only at h
              obtain ⟨_, hcl, _⟩ := Kd.V_at hV
              have hCl := (Kd.V_reads' hV).2.2
              by_cases c3 : t3 = 0
              · rw [if_pos c3] at h
                subst c3
                obtain ⟨t4, hzg, h⟩ := Option.bind_eq_some_iff.1 h
                by_cases d1 : 0 ≤ t2
                · rw [if_pos d1] at h
                  by_cases d2 : t2 ≤ (l2.length : Int)
                  · rw [if_pos d2] at h
                    simp only [Option.some.injEq, Prod.mk.injEq] at h
                    obtain ⟨rfl, rfl, rfl, rfl, rfl, rfl⟩ := h
                    obtain ⟨A9, c9, hcut9, hV9⟩ := ev_cut hV2 t2 d1 d2
                    go_wp2_with (first | (go_at_call 33; (with_reducible refine (word_ReadVar.calls k _ _ l2 t1 t2 0 _ hCl hcl hrv).mono ?_); rintro e w9 ⟨rfl, nd9, rfl⟩) | ((with_reducible refine gate_dst (N := 60) rfl ?_); refine goesL_ (some 60) rfl rfl Try.func39 (by kernel_rfl) rfl #[.int .u64 t1] rfl (by (try simp only [List.map_toArray, List.map_cons, List.map_nil]); first | done | rfl) ?_; (with_reducible refine (word_Zag.calls t1 t4 _ hzg).mono ?_); rintro e w10 ⟨rfl, nd10, rfl⟩; refine ⟨_, rfl, ?_⟩))
                    have hk0b := blk_far (blk_drewN hk0 (nd9 + nd10)) n1 (.int .i64 t4) (p := ⟨w.heap.size + 1, 3, none⟩)
                    have hk1b := blk_put (cs' := #[.int .i64 (Int.tdiv (rd l0 0) 2 % 256), .bool true, .int .i64 (wrap64 (rd l1 0)), .int .i64 t4]) (blk_drewN hk1 (nd9 + nd10)) 3 (.int .i64 t4) rfl
                    have hBb := below_set (j := 3) (v := .int .i64 t4) (pw_below_drewN hB (nd9 + nd10)) (Nat.le_succ _)
                    have m0 := blk_cell hk1b 0
                    have m1 := blk_cell hk1b 1
                    have m2 := blk_cell hk1b 2
                    have m3 := blk_cell hk1b 3
                    simp only [List.getElem?_toArray, List.getElem?_cons_zero, List.getElem?_cons_succ] at m0 m1 m2 m3
                    go_region_held3 (fun W_ => W_.cell? ⟨w.heap.size + 1, 0, none⟩ = some (.int .i64 (Int.tdiv (rd l0 0) 2 % 256)) ∧ W_.cell? ⟨w.heap.size + 1, 1, none⟩ = some (.bool true) ∧ W_.cell? ⟨w.heap.size + 1, 2, none⟩ = some (.int .i64 (wrap64 (rd l1 0))) ∧ W_.cell? ⟨w.heap.size + 1, 3, none⟩ = some (.int .i64 t4)) (first | with_reducible assumption | with_reducible exact ⟨(ev_far4 _ _ _ _ n1).trans m0, (ev_far4 _ _ _ _ n1).trans m1, (ev_far4 _ _ _ _ n1).trans m2, (ev_far4 _ _ _ _ n1).trans m3⟩ | with_reducible exact ⟨(ev_far4d _ _ _ _ n1).trans m0, (ev_far4d _ _ _ _ n1).trans m1, (ev_far4d _ _ _ _ n1).trans m2, (ev_far4d _ _ _ _ n1).trans m3⟩ | with_reducible exact ⟨(ev_drew _ _).trans m0, (ev_drew _ _).trans m1, (ev_drew _ _).trans m2, (ev_drew _ _).trans m3⟩) (fail)
                    go_wp2
                    refine bodyPost_ret (results_ctt rfl _ _ w.heap.size 44 #[.int .i64 (Int.tdiv (rd l0 0) 2 % 256), .bool true, .int .i64 (wrap64 (rd l1 0)), .int .i64 t4] (0, 0) _ rfl (by exact blk_drew (blk_put (cs := #[.int .i64 (Int.tdiv (rd l0 0) 2 % 256), .bool true, .int .i64 (wrap64 (rd l1 0)), .int .i64 0]) (blk_put (cs := #[.int .i64 (Int.tdiv (rd l0 0) 2 % 256), .bool true, .int .i64 0, .int .i64 0]) (blk_put (cs := #[.int .i64 (Int.tdiv (rd l0 0) 2 % 256), .bool false, .int .i64 0, .int .i64 0]) (blk_put (cs := #[.int .i64 0, .bool false, .int .i64 0, .int .i64 0]) hk0b 0 _ rfl) 1 _ rfl) 2 _ rfl) 3 _ rfl)) Try.underlying44 rfl (by kernel_rfl)) rfl ?_
                    have hBf := (below_set (j := 3) (v := .int .i64 t4) (below_set (j := 2) (v := .int .i64 (wrap64 (rd l1 0))) (below_set (j := 1) (v := .bool true) (below_set (j := 0) (v := .int .i64 (Int.tdiv (rd l0 0) 2 % 256)) hBb (Nat.le_refl _)) (Nat.le_refl _)) (Nat.le_refl _)) (Nat.le_refl _))
                    rw [List.length_drop] at hV9
                    exact ⟨_, rfl, Kd.V_drew (Kd.V_mono (Kd.V_below hV9 hBf) (fun k_ hk => .inl hk)), below_drew1 hBf⟩
                  · rw [if_neg d2] at h; exact absurd h (by simp)
                · rw [if_neg d1] at h; exact absurd h (by simp)
              · rw [if_neg c3] at h
                simp only [Option.some.injEq, Prod.mk.injEq] at h
                obtain ⟨rfl, rfl, rfl, rfl, rfl, rfl⟩ := h
                have c3b : (t3 != 0) = true := bne_iff_ne.mpr c3
                go_wp2_with (first | (go_at_call 33; (with_reducible refine (word_ReadVar.calls k _ _ l2 t1 t2 t3 _ hCl hcl hrv).mono ?_); rintro e w9 ⟨rfl, nd9, rfl⟩))
                refine bodyPost_ret (results_ctt rfl _ _ w.heap.size 44 #[.int .i64 0, .bool false, .int .i64 0, .int .i64 0] (0, 0) _ rfl (blk_put (cs := #[.int .i64 0, .bool false, .int .i64 0, .int .i64 0]) (blk_put (cs := #[.int .i64 0, .bool false, .int .i64 0, .int .i64 0]) (blk_put (cs := #[.int .i64 0, .bool false, .int .i64 0, .int .i64 0]) (blk_put (cs := #[.int .i64 0, .bool false, .int .i64 0, .int .i64 0]) (blk_drewN hk0 _) 0 _ rfl) 1 _ rfl) 2 _ rfl) 3 _ rfl) Try.underlying44 rfl (by kernel_rfl)) rfl ?_
                exact ⟨_, rfl, Kd.V_nil _ _ _ _ _, below_set (below_set (below_set (below_set (pw_below_drewN hB _) (Nat.le_refl _)) (Nat.le_refl _)) (Nat.le_refl _)) (Nat.le_refl _)⟩
      · rw [if_neg c8] at h
        have t8 : (Int.tmod (rd l0 0) 2 == 1) = false := by simpa using c8
        rw [t8] at h
        go_enter Try.func34, Try.ntmps34
        go_wp2
        go_region_held3 (fun W => W.cell? ad = some (.int .u8 (rd l0 0))) (first | assumption | exact (World.cell?_alloc_some _ _ _ (by rw [hx0]; rfl)).trans hx0) (fail)
        refine gen_q _ (fun W => W.heap[w.heap.size]? = some (.cells #[.int .i64 0, .bool false, .int .i64 0, .int .i64 0] 44 (0, 0)) ∧ W.heap[w.heap.size + 1]? = some (.cells #[.int .i64 (Int.tdiv (rd l0 0) 2 % 256), .bool false, .int .i64 0, .int .i64 0] 44 (0, 0)) ∧ Below w.heap.size w W) ⟨(by repeat (first | (with_reducible exact blk_new _ _) | (with_reducible exact ev_blk_new1 _ _ _) | (with_reducible refine blk_drewN ?_ _) | (with_reducible refine blk_drew ?_) | (with_reducible refine blk_alloc ?_ _))), (by repeat (first | (with_reducible exact blk_new _ _) | (with_reducible exact ev_blk_new1 _ _ _) | (with_reducible refine blk_drewN ?_ _) | (with_reducible refine blk_drew ?_) | (with_reducible refine blk_alloc ?_ _))), (by repeat (first | exact Below.refl w.heap.size w | (with_reducible apply below_alloc) | (with_reducible apply pw_below_drewN) | (with_reducible apply below_drew1)))⟩ ?_
        rintro W ⟨hk0, hk1, hB⟩
        have hV := Kd.V_below hV1 hB
        have z0 := blk_cell hk0 0
        have z1 := blk_cell hk0 1
        have z2 := blk_cell hk0 2
        have z3 := blk_cell hk0 3
        have y0 := blk_frozen hk0 0
        have y1 := blk_frozen hk0 1
        have y2 := blk_frozen hk0 2
        have y3 := blk_frozen hk0 3
        have x0 := blk_cell hk1 0
        have x1 := blk_cell hk1 1
        have x2 := blk_cell hk1 2
        have x3 := blk_cell hk1 3
        have v0 := blk_frozen hk1 0
        have v1 := blk_frozen hk1 1
        have v2 := blk_frozen hk1 2
        have v3 := blk_frozen hk1 3
        simp only [List.getElem?_toArray, List.getElem?_cons_zero, List.getElem?_cons_succ] at z0 z1 z2 z3 x0 x1 x2 x3
        have n1 : w.heap.size ≠ w.heap.size + 1 := Nat.ne_of_lt (Nat.lt_succ_self _)
        have n2 : w.heap.size + 1 ≠ w.heap.size := fun e => n1 e.symm
        cases k with
        | zero => simp [hist_event.j0] at h
        | succ k =>
          simp only [hist_event.j0] at h
          obtain ⟨⟨t1, t2, t3⟩, hrv, h⟩ := Option.bind_eq_some_iff.1 h
          dsimp only at h
          obtain ⟨_, hcl, _⟩ := Kd.V_at hV
          have hCl := (Kd.V_reads' hV).2.2
          by_cases c3 : t3 = 0
          · rw [if_pos c3] at h
            subst c3
            obtain ⟨t4, hzg, h⟩ := Option.bind_eq_some_iff.1 h
            by_cases d1 : 0 ≤ t2
            · rw [if_pos d1] at h
              by_cases d2 : t2 ≤ (l1.length : Int)
              · rw [if_pos d2] at h
                simp only [Option.some.injEq, Prod.mk.injEq] at h
                obtain ⟨rfl, rfl, rfl, rfl, rfl, rfl⟩ := h
                obtain ⟨A9, c9, hcut9, hV9⟩ := ev_cut hV1 t2 d1 d2
                go_wp2_with (first | (go_at_call 33; (with_reducible refine (word_ReadVar.calls k _ _ l1 t1 t2 0 _ hCl hcl hrv).mono ?_); rintro e w9 ⟨rfl, nd9, rfl⟩) | ((with_reducible refine gate_dst (N := 60) rfl ?_); refine goesL_ (some 60) rfl rfl Try.func39 (by kernel_rfl) rfl #[.int .u64 t1] rfl (by (try simp only [List.map_toArray, List.map_cons, List.map_nil]); first | done | rfl) ?_; (with_reducible refine (word_Zag.calls t1 t4 _ hzg).mono ?_); rintro e w10 ⟨rfl, nd10, rfl⟩; refine ⟨_, rfl, ?_⟩))
                have hk0b := blk_far (blk_drewN hk0 (nd9 + nd10)) n1 (.int .i64 t4) (p := ⟨w.heap.size + 1, 3, none⟩)
                have hk1b := blk_put (cs' := #[.int .i64 (Int.tdiv (rd l0 0) 2 % 256), .bool false, .int .i64 0, .int .i64 t4]) (blk_drewN hk1 (nd9 + nd10)) 3 (.int .i64 t4) rfl
                have hBb := below_set (j := 3) (v := .int .i64 t4) (pw_below_drewN hB (nd9 + nd10)) (Nat.le_succ _)
                have m0 := blk_cell hk1b 0
                have m1 := blk_cell hk1b 1
                have m2 := blk_cell hk1b 2
                have m3 := blk_cell hk1b 3
                simp only [List.getElem?_toArray, List.getElem?_cons_zero, List.getElem?_cons_succ] at m0 m1 m2 m3
                go_region_held3 (fun W_ => W_.cell? ⟨w.heap.size + 1, 0, none⟩ = some (.int .i64 (Int.tdiv (rd l0 0) 2 % 256)) ∧ W_.cell? ⟨w.heap.size + 1, 1, none⟩ = some (.bool false) ∧ W_.cell? ⟨w.heap.size + 1, 2, none⟩ = some (.int .i64 0) ∧ W_.cell? ⟨w.heap.size + 1, 3, none⟩ = some (.int .i64 t4)) (first | with_reducible assumption | with_reducible exact ⟨(ev_far4 _ _ _ _ n1).trans m0, (ev_far4 _ _ _ _ n1).trans m1, (ev_far4 _ _ _ _ n1).trans m2, (ev_far4 _ _ _ _ n1).trans m3⟩ | with_reducible exact ⟨(ev_far4d _ _ _ _ n1).trans m0, (ev_far4d _ _ _ _ n1).trans m1, (ev_far4d _ _ _ _ n1).trans m2, (ev_far4d _ _ _ _ n1).trans m3⟩ | with_reducible exact ⟨(ev_drew _ _).trans m0, (ev_drew _ _).trans m1, (ev_drew _ _).trans m2, (ev_drew _ _).trans m3⟩) (fail)
                go_wp2
                refine bodyPost_ret (results_ctt rfl _ _ w.heap.size 44 #[.int .i64 (Int.tdiv (rd l0 0) 2 % 256), .bool false, .int .i64 0, .int .i64 t4] (0, 0) _ rfl (by exact blk_drew (blk_put (cs := #[.int .i64 (Int.tdiv (rd l0 0) 2 % 256), .bool false, .int .i64 0, .int .i64 0]) (blk_put (cs := #[.int .i64 (Int.tdiv (rd l0 0) 2 % 256), .bool false, .int .i64 0, .int .i64 0]) (blk_put (cs := #[.int .i64 (Int.tdiv (rd l0 0) 2 % 256), .bool false, .int .i64 0, .int .i64 0]) (blk_put (cs := #[.int .i64 0, .bool false, .int .i64 0, .int .i64 0]) hk0b 0 _ rfl) 1 _ rfl) 2 _ rfl) 3 _ rfl)) Try.underlying44 rfl (by kernel_rfl)) rfl ?_
                have hBf := (below_set (j := 3) (v := .int .i64 t4) (below_set (j := 2) (v := .int .i64 0) (below_set (j := 1) (v := .bool false) (below_set (j := 0) (v := .int .i64 (Int.tdiv (rd l0 0) 2 % 256)) hBb (Nat.le_refl _)) (Nat.le_refl _)) (Nat.le_refl _)) (Nat.le_refl _))
                rw [List.length_drop] at hV9
                exact ⟨_, rfl, Kd.V_drew (Kd.V_mono (Kd.V_below hV9 hBf) (fun k_ hk => .inl hk)), below_drew1 hBf⟩
              · rw [if_neg d2] at h; exact absurd h (by simp)
            · rw [if_neg d1] at h; exact absurd h (by simp)
          · rw [if_neg c3] at h
            simp only [Option.some.injEq, Prod.mk.injEq] at h
            obtain ⟨rfl, rfl, rfl, rfl, rfl, rfl⟩ := h
            have c3b : (t3 != 0) = true := bne_iff_ne.mpr c3
            go_wp2_with (first | (go_at_call 33; (with_reducible refine (word_ReadVar.calls k _ _ l1 t1 t2 t3 _ hCl hcl hrv).mono ?_); rintro e w9 ⟨rfl, nd9, rfl⟩))
            refine bodyPost_ret (results_ctt rfl _ _ w.heap.size 44 #[.int .i64 0, .bool false, .int .i64 0, .int .i64 0] (0, 0) _ rfl (blk_put (cs := #[.int .i64 0, .bool false, .int .i64 0, .int .i64 0]) (blk_put (cs := #[.int .i64 0, .bool false, .int .i64 0, .int .i64 0]) (blk_put (cs := #[.int .i64 0, .bool false, .int .i64 0, .int .i64 0]) (blk_put (cs := #[.int .i64 0, .bool false, .int .i64 0, .int .i64 0]) (blk_drewN hk0 _) 0 _ rfl) 1 _ rfl) 2 _ rfl) 3 _ rfl) Try.underlying44 rfl (by kernel_rfl)) rfl ?_
            exact ⟨_, rfl, Kd.V_nil _ _ _ _ _, below_set (below_set (below_set (below_set (pw_below_drewN hB _) (Nat.le_refl _)) (Nat.le_refl _)) (Nat.le_refl _)) (Nat.le_refl _)⟩
end Go.Proofs.Ytofhghpahmeolaa.PHistTexts
