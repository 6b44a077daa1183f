-- Written by a program of this session (wip/bin/patch_print.py): a turned copy of the kit's printer. Not trusted: Lean checks it.
import Derived.Test.YtofhghpahmeolaaPHistTextsx0
import Derived.Test.YtofhghpahmeolaaPHistTextsx2
namespace Go.Proofs.Ytofhghpahmeolaa.PHistTexts
open Go.RowKit Go.Proofs.YtofhghpahmeolaaW.PrintWords Go.Proofs.YtofhghpahmeolaaW.PrintLast Go.Proofs.YtofhghpahmeolaaW.PrintMore
attribute [local go_sem] max2_int min2_int max_two min_two max_three min_three max_four min_four   -- for this text's walks alone
set_option linter.unusedVariables false
set_option linter.unusedSimpArgs false

/-! ### hist_Encode: function 23 -/
def hist_Encode.l0 : Nat → List Int → List (S44) → Int → Int → Option (List Int × Int)
  | 0, _, _, _, _ => none
  | k + 1, x6, x21, x22, x23 => if x23 < x22 then (if 0 ≤ x23 then (if x23 < (x21.length : Int) then (if (rd_T44 x21 x23).f1 = true then ((some (([(wrap64 ((wrap64 (2 * ((rd_T44 x21 x23).f0))) + 1)) % 256, ((rd_T44 x21 x23).f2) % 256] : List Int) : List Int)).bind fun y143 => (if x6.length + y143.length < 140737488355328 then ((some (x6 ++ y143 : List Int)).bind fun y146 => ((word_Zig.f ((rd_T44 x21 x23).f3)).bind fun t149 => ((word_Var.f k t149).bind fun t150 => (if y146.length + t150.length < 140737488355328 then (hist_Encode.l0 k (y146 ++ t150) x21 x22 (wrap64 (x23 + 1))) else (none))))) else (none))) else (if x6.length < 140737488355328 then ((some (x6 ++ [(wrap64 (2 * ((rd_T44 x21 x23).f0))) % 256] : List Int)).bind fun y156 => ((word_Zig.f ((rd_T44 x21 x23).f3)).bind fun t159 => ((word_Var.f k t159).bind fun t160 => (if y156.length + t160.length < 140737488355328 then (hist_Encode.l0 k (y156 ++ t160) x21 x22 (wrap64 (x23 + 1))) else (none))))) else (none))) else (none)) else (none)) else (some (x6, 0))
def hist_Encode.f (k : Nat) (l0 : List (S44)) : Option (List Int × Int) := (hist_Check.f l0).bind fun bt136 => (if bt136.2 = 0 then ((word_Var.f k (IntKind.u64.wrap ((l0.length : Int)))).bind fun t138 => (hist_Encode.l0 k t138 l0 (l0.length : Int) 0)) else (some (([] : List Int), bt136.2)))
theorem hist_Encode.mono_l : ∀ k, (∀ y0 y1 y2 y3, LeO (hist_Encode.l0 k y0 y1 y2 y3) (hist_Encode.l0 (k + 1) y0 y1 y2 y3))
  | 0 => fun _ _ _ _ r h => by simp [hist_Encode.l0] at h
  | k + 1 => by
    have ih0 := hist_Encode.mono_l k
    · intro y0 y1 y2 y3
      unfold hist_Encode.l0
      repeat' first
      | (with_reducible exact ih0 _ _ _ _)
      | (with_reducible exact word_Var.mono _ _)
      | (with_reducible exact LeO.refl _)
      | (with_reducible exact LeO.none _)
      | (with_reducible refine LeO.ite ?_ ?_)
      | (with_reducible refine LeO.bind ?_ (fun _ => ?_))
      | exact ih0 _ _ _ _
      | exact word_Var.mono _ _
      | exact LeO.none _
      | refine LeO.ite ?_ ?_
      | refine LeO.bind ?_ (fun _ => ?_)
theorem hist_Encode.mono : ∀ a0 k, LeO (hist_Encode.f k a0) (hist_Encode.f (k + 1) a0) := by
  intro a0 k
  have ih0 := hist_Encode.mono_l k
  unfold hist_Encode.f
  repeat' first
      | (with_reducible exact ih0 _ _ _ _)
      | (with_reducible exact word_Var.mono _ _)
      | (with_reducible exact LeO.refl _)
      | (with_reducible exact LeO.none _)
      | (with_reducible refine LeO.ite ?_ ?_)
      | (with_reducible refine LeO.bind ?_ (fun _ => ?_))
      | exact ih0 _ _ _ _
      | exact word_Var.mono _ _
      | exact LeO.none _
      | refine LeO.ite ?_ ?_
      | refine LeO.bind ?_ (fun _ => ?_)
set_option maxHeartbeats 8000000 in
set_option maxRecDepth 100000 in
theorem hist_Encode.calls (k : Nat) (A0 : Option Addr) (c0 : Nat) (l0 : List (S44)) (r1 : List Int) (r2 : Int) (w : World) (hr0 : Kd.C k44 w A0 l0.length l0) (hc0 : l0.length ≤ c0) (h : hist_Encode.f k l0 = some (r1, r2)) :
    Calls Try.prog 23 #[.slice A0 l0.length c0] w fun e w' => ∃ v0_ : Value, e = .returned (.tuple #[v0_, .int .i64 r2]) ∧ Kd.R (Kd.int .u8) 5 w' w.heap.size (fun _ => True) v0_ r1 ∧ Below w.heap.size w w' := by
  have hu44 := Try.underlying44
  have HR0 := Aside0.mk hr0
  have HC0 := Aside0.mk hc0
  clear hr0 hc0
  have HB := Aside0.mk (Below.refl w.heap.size w)
  have H : ((hist_Check.f l0).bind fun bt136 => (if bt136.2 = 0 then ((word_Var.f k (IntKind.u64.wrap ((l0.length : Int)))).bind fun t138 => (hist_Encode.l0 k t138 l0 (l0.length : Int) 0)) else (some (([] : List Int), bt136.2)))) = some (r1, r2) := h
  clear h
  replace H := Option.bind_eq_some_iff.mp H
  obtain ⟨⟨t136, t137⟩, A20, H⟩ := H
  replace H : (if t137 = 0 then ((word_Var.f k (IntKind.u64.wrap ((l0.length : Int)))).bind fun t138 => (hist_Encode.l0 k t138 l0 (l0.length : Int) 0)) else (some (([] : List Int), t137))) = some (r1, r2) := H
  have A2 := Aside0.mk A20
  clear A20
  by_cases c3 : t137 = 0
  · rw [if_pos c3] at H
    have c3b0 : (t137 == 0) = true := beq_iff_eq.mpr c3
    have c3b1 : (t137 != 0) = false := bne_eq_false_iff_eq.mpr c3
    clear c3
    replace H := Option.bind_eq_some_iff.mp H
    obtain ⟨t138, A40, H⟩ := H
    replace H : (hist_Encode.l0 k t138 l0 (l0.length : Int) 0) = some (r1, r2) := H
    have A4 := Aside0.mk A40
    clear A40
    have H' := Aside0.mk H
    clear H
    go_enter Try.func23, Try.ntmps23
    go_wp2_with (first | ((with_reducible refine gate_callee (f := 11) rfl ?_); refine goesL_ (some 11) rfl rfl Try.func11 (by kernel_rfl) rfl #[.slice A0 l0.length c0] rfl (by (try simp only [List.map_toArray, List.map_cons, List.map_nil]); first | done | rfl | (simp only [List.length_drop, List.length_take]; rfl)) ?_; (with_reducible refine (hist_Check.calls _ _ l0 t136 t137 _ ?side1 ?side2 A2.out).mono ?_); (case side1 => repeat (first | exact HR0.out | (with_reducible refine Kd.C_alloc ?_ _) | (with_reducible refine Kd.C_drewN ?_ _) | (with_reducible refine Kd.C_drew ?_))); (case side2 => exact HC0.out); rintro e w5 ⟨rfl, hb⟩; refine ⟨_, rfl, ?_⟩; have n0_ := Aside0.mk (below_step (by repeat (first | (with_reducible first | exact HB.out | apply below_alloc | apply pw_below_drewN | apply below_drew1) | exact HB.out)) hb); clear HB; have HB := n0_; clear n0_; (try clear hb); (try clear hb2); (try clear hk); (try clear hi)) | ((with_reducible refine gate_callee (f := 30) rfl ?_); refine goesL_ (some 20) rfl rfl Try.func30 (by kernel_rfl) rfl #[.int .u64 (IntKind.u64.wrap ((l0.length : Int)))] rfl (by (try simp only [List.map_toArray, List.map_cons, List.map_nil]); first | done | rfl | (simp only [List.length_drop, List.length_take]; rfl)) ?_; (with_reducible refine (word_Var.calls k (IntKind.u64.wrap ((l0.length : Int))) t138 _ A4.out).mono ?_); rintro e w6 ⟨v139, rfl, ho0, hb⟩; refine ⟨_, rfl, ?_⟩; have n0_ := Aside0.mk (Kd.R_lower ho0 (below_size (by repeat (first | (with_reducible first | exact HB.out | apply below_alloc | apply pw_below_drewN | apply below_drew1) | exact HB.out)))); have n1_ := Aside0.mk (below_step (by repeat (first | (with_reducible first | exact HB.out | apply below_alloc | apply pw_below_drewN | apply below_drew1) | exact HB.out)) hb); clear HB; have HO140 := n0_; have HB := n1_; clear n0_ n1_; (try clear hb); (try clear hb2); (try clear hk); (try clear hi); (try clear ho0)))
    go_loopg [6, 23] k (fun kq v6 v23 w' => ∃ (x6_1 : List Int) (x23_1 : Int), v23 = .int .i64 x23_1 ∧ Aside0 (hist_Encode.l0 kq x6_1 l0 (l0.length : Int) x23_1 = some (r1, r2)) ∧ Aside0 (kq ≤ k) ∧ Aside0 (Kd.R (Kd.int .u8) 5 w' w.heap.size (fun _ => True) v6 x6_1) ∧ Aside0 (Below w.heap.size w w'))
    case atStart => exact ⟨(t138), (0), (by first | rfl | (simp; done) | (simp [*]; done)), H', ⟨Nat.le_refl _⟩, ⟨by (with_reducible repeat (first | apply Kd.R_alloc | apply Kd.R_drewN | apply Kd.R_drew)); exact HO140.out⟩, ⟨by repeat (first | (with_reducible first | exact HB.out | apply below_alloc | apply pw_below_drewN | apply below_drew1) | exact HB.out)⟩⟩
    case round =>
      clear H'
      try clear c1
      try clear c2
      try clear p2
      try clear c3
      try clear c3b0
      try clear c3b1
      obtain ⟨x6_1, x23_1, rfl, HA, HK1, HO_6, HB⟩ := hrel
      cases gk with
      | zero => exact absurd HA.out (by simp [hist_Encode.l0])
      | succ k1 =>
        have H := HA.out
        clear HA
        simp only [hist_Encode.l0] at H
        by_cases c7 : x23_1 < (l0.length : Int)
        · rw [if_pos c7] at H
          have c7b0 : decide (x23_1 < (l0.length : Int)) = true := decide_eq_true c7
          clear c7
          by_cases c8 : 0 ≤ x23_1
          · rw [if_pos c8] at H
            have c8b0 : decide (0 ≤ x23_1) = true := decide_eq_true c8
            clear c8
            by_cases c9 : x23_1 < (l0.length : Int)
            · rw [if_pos c9] at H
              have c9b0 : decide (x23_1 < (l0.length : Int)) = true := decide_eq_true c9
              clear c9
              obtain ⟨bq10, hbq10⟩ : ∃ b_ : Bool, b_ = ((rd_T44 l0 x23_1).f1) := ⟨_, rfl⟩
              replace H : (if bq10 = true then ((some (([(wrap64 ((wrap64 (2 * ((rd_T44 l0 x23_1).f0))) + 1)) % 256, ((rd_T44 l0 x23_1).f2) % 256] : List Int) : List Int)).bind fun y143 => (if x6_1.length + y143.length < 140737488355328 then ((some (x6_1 ++ y143 : List Int)).bind fun y146 => ((word_Zig.f ((rd_T44 l0 x23_1).f3)).bind fun t149 => ((word_Var.f k1 t149).bind fun t150 => (if y146.length + t150.length < 140737488355328 then (hist_Encode.l0 k1 (y146 ++ t150) l0 (l0.length : Int) (wrap64 (x23_1 + 1))) else (none))))) else (none))) else (if x6_1.length < 140737488355328 then ((some (x6_1 ++ [(wrap64 (2 * ((rd_T44 l0 x23_1).f0))) % 256] : List Int)).bind fun y156 => ((word_Zig.f ((rd_T44 l0 x23_1).f3)).bind fun t159 => ((word_Var.f k1 t159).bind fun t160 => (if y156.length + t160.length < 140737488355328 then (hist_Encode.l0 k1 (y156 ++ t160) l0 (l0.length : Int) (wrap64 (x23_1 + 1))) else (none))))) else (none))) = some (r1, r2) := by rw [← hbq10] at H; exact H
              have Nbq10 := Aside0.mk hbq10
              clear hbq10
              by_cases c11 : bq10 = true
              · subst c11
                have H1 : ((some (([(wrap64 ((wrap64 (2 * ((rd_T44 l0 x23_1).f0))) + 1)) % 256, ((rd_T44 l0 x23_1).f2) % 256] : List Int) : List Int)).bind fun y143 => (if x6_1.length + y143.length < 140737488355328 then ((some (x6_1 ++ y143 : List Int)).bind fun y146 => ((word_Zig.f ((rd_T44 l0 x23_1).f3)).bind fun t149 => ((word_Var.f k1 t149).bind fun t150 => (if y146.length + t150.length < 140737488355328 then (hist_Encode.l0 k1 (y146 ++ t150) l0 (l0.length : Int) (wrap64 (x23_1 + 1))) else (none))))) else (none))) = some (r1, r2) := by rw [if_pos rfl] at H; exact H
                clear H
                have H := H1
                clear H1
                obtain ⟨y143, hy143⟩ : ∃ y_ : List Int, y_ = (([(wrap64 ((wrap64 (2 * ((rd_T44 l0 x23_1).f0))) + 1)) % 256, ((rd_T44 l0 x23_1).f2) % 256] : List Int)) := ⟨_, rfl⟩
                replace H : (if x6_1.length + y143.length < 140737488355328 then ((some (x6_1 ++ y143 : List Int)).bind fun y146 => ((word_Zig.f ((rd_T44 l0 x23_1).f3)).bind fun t149 => ((word_Var.f k1 t149).bind fun t150 => (if y146.length + t150.length < 140737488355328 then (hist_Encode.l0 k1 (y146 ++ t150) l0 (l0.length : Int) (wrap64 (x23_1 + 1))) else (none))))) else (none)) = some (r1, r2) := by first | (rw [hy143]; with_reducible exact H) | (have H2_ := (Option.bind_some _ _).symm.trans H; rw [hy143]; with_reducible exact H2_) | (have H2_ := (Option.bind_some _ _).symm.trans H; with_reducible exact H2_) | with_reducible exact H | (rw [hy143]; exact H) | exact H
                have Ny143 := Aside0.mk hy143
                clear hy143
                by_cases c12 : x6_1.length + y143.length < 140737488355328
                · rw [if_pos c12] at H
                  have LMc12 := Aside0.mk c12
                  clear c12
                  obtain ⟨y146, hy146⟩ : ∃ y_ : List Int, y_ = (x6_1 ++ y143) := ⟨_, rfl⟩
                  replace H : ((word_Zig.f ((rd_T44 l0 x23_1).f3)).bind fun t149 => ((word_Var.f k1 t149).bind fun t150 => (if y146.length + t150.length < 140737488355328 then (hist_Encode.l0 k1 (y146 ++ t150) l0 (l0.length : Int) (wrap64 (x23_1 + 1))) else (none)))) = some (r1, r2) := by first | (rw [hy146]; with_reducible exact H) | (have H2_ := (Option.bind_some _ _).symm.trans H; rw [hy146]; with_reducible exact H2_) | (have H2_ := (Option.bind_some _ _).symm.trans H; with_reducible exact H2_) | with_reducible exact H | (rw [hy146]; exact H) | exact H
                  have Ny146 := Aside0.mk hy146
                  clear hy146
                  replace H := Option.bind_eq_some_iff.mp H
                  obtain ⟨t149, A130, H⟩ := H
                  replace H : ((word_Var.f k1 t149).bind fun t150 => (if y146.length + t150.length < 140737488355328 then (hist_Encode.l0 k1 (y146 ++ t150) l0 (l0.length : Int) (wrap64 (x23_1 + 1))) else (none))) = some (r1, r2) := H
                  have A13 := Aside0.mk A130
                  clear A130
                  replace H := Option.bind_eq_some_iff.mp H
                  obtain ⟨t150, A140, H⟩ := H
                  replace H : (if y146.length + t150.length < 140737488355328 then (hist_Encode.l0 k1 (y146 ++ t150) l0 (l0.length : Int) (wrap64 (x23_1 + 1))) else (none)) = some (r1, r2) := H
                  have A14 := Aside0.mk A140
                  clear A140
                  by_cases c15 : y146.length + t150.length < 140737488355328
                  · rw [if_pos c15] at H
                    have LMc15 := Aside0.mk c15
                    clear c15
                    obtain ⟨y153, hy153⟩ : ∃ y_ : List Int, y_ = (y146 ++ t150) := ⟨_, rfl⟩
                    replace H : (hist_Encode.l0 k1 y153 l0 (l0.length : Int) (wrap64 (x23_1 + 1))) = some (r1, r2) := by first | (rw [hy153]; with_reducible exact H) | (have H2_ := (Option.bind_some _ _).symm.trans H; rw [hy153]; with_reducible exact H2_) | (have H2_ := (Option.bind_some _ _).symm.trans H; with_reducible exact H2_) | with_reducible exact H | (rw [hy153]; exact H) | exact H
                    have Ny153 := Aside0.mk hy153
                    clear hy153
                    have H' := Aside0.mk H
                    clear H
                    have p141 : 0 ≤ (x23_1 : Int) := of_decide_eq_true (by first | (with_reducible assumption) | assumption)
                    have q141 : x23_1 < (l0.length : Int) := of_decide_eq_true (by first | (with_reducible assumption) | assumption)
                    obtain ⟨ad141, e141, hx141_0, hx141_1, hx141_2, hx141_3⟩ := at_T44 HR0.out x23_1 p141 q141
                    (try rw [← Nbq10.out] at hx141_1)
                    cases e141
                    replace hx141_0 := (HB.out.cell (World.block_lt_of_cell? w _ hx141_0)).trans hx141_0
                    replace hx141_1 := (HB.out.cell (World.block_lt_of_cell? w _ hx141_1)).trans hx141_1
                    replace hx141_2 := (HB.out.cell (World.block_lt_of_cell? w _ hx141_2)).trans hx141_2
                    replace hx141_3 := (HB.out.cell (World.block_lt_of_cell? w _ hx141_3)).trans hx141_3
                    replace p141 := eq_true p141
                    replace q141 := eq_true q141
                    go_wp2_with (first | ((with_reducible refine gate_dst (N := 8) rfl ?_); refine box_event ?hg (N := 8) ?hd (cs := #[.int .i64 0, .bool false, .int .i64 0, .int .i64 0]) (t := 44) ?hr ?_; (case hd => rfl); (case hg => rfl); (case hr => first | (go_simp; done) | (go_simp; rfl)); intro gb142 hg w16 hbox hb; have n0_ := Aside0.mk (Kd.R_below (by (with_reducible repeat (first | apply Kd.R_alloc | apply Kd.R_drewN | apply Kd.R_drew)); exact HO_6.out) hb); have n1_ := Aside0.mk (below_step (by repeat (first | (with_reducible first | exact HB.out | apply below_alloc | apply pw_below_drewN | apply below_drew1) | exact HB.out)) hb); have n2_ := Aside0.mk (hbox); have n3_ := Aside0.mk ((by rw [hg]; exact (below_size (by repeat (first | (with_reducible first | exact HB.out | apply below_alloc | apply pw_below_drewN | apply below_drew1) | exact HB.out))) : w.heap.size ≤ gb142)); have n4_ := Aside0.mk ((by rw [hg]; exact (below_size (by repeat (first | (with_reducible first | exact HB.out | apply below_alloc | apply pw_below_drewN | apply below_drew1) | exact HB.out))) : w.heap.size ≤ gb142)); clear HO_6; clear HB; have HO_6 := n0_; have HB := n1_; have BK142 := n2_; have GW142 := n3_; have GE142 := n4_; clear n0_ n1_ n2_ n3_ n4_; clear hb hbox hg; have hcz17_0 : w16.cell? ⟨gb142, 0, none⟩ = some (.int .i64 0) := (blk_cell BK142.out 0).trans rfl; have hcz17_1 : w16.cell? ⟨gb142, 1, none⟩ = some (.bool false) := (blk_cell BK142.out 1).trans rfl; have hcz17_2 : w16.cell? ⟨gb142, 2, none⟩ = some (.int .i64 0) := (blk_cell BK142.out 2).trans rfl; have hcz17_3 : w16.cell? ⟨gb142, 3, none⟩ = some (.int .i64 0) := (blk_cell BK142.out 3).trans rfl; have hfz17_0 := blk_frozen BK142.out 0; have hfz17_1 := blk_frozen BK142.out 1; have hfz17_2 := blk_frozen BK142.out 2; have hfz17_3 := blk_frozen BK142.out 3) | ((with_reducible refine gate_dst (N := 38) rfl ?_); refine Kd.R_lit (Kd.int .u8) _ 5 ?hg (N := 38) ?hd (xs := ([(wrap64 ((wrap64 (2 * ((rd_T44 l0 x23_1).f0))) + 1)) % 256, ((rd_T44 l0 x23_1).f2) % 256] : List Int)) (inner := [.int .u8 ((wrap64 ((wrap64 (2 * ((rd_T44 l0 x23_1).f0))) + 1)) % 256), .int .u8 (((rd_T44 l0 x23_1).f2) % 256)]) (ok := fun _ => True) (okp := fun _ => True) ?hr ?hp (fun _ hk => hk) trivial (Below.refl _ _) (Nat.le_refl _) (by simp) ?_; (case hd => rfl); (case hg => rfl); (case hr => first | (go_simp; done) | (go_simp; rfl)); (case hp => exact (Reps.one (show Kd.M (Kd.int .u8) _ _ _ ((wrap64 ((wrap64 (2 * ((rd_T44 l0 x23_1).f0))) + 1)) % 256) [.int .u8 ((wrap64 ((wrap64 (2 * ((rd_T44 l0 x23_1).f0))) + 1)) % 256)] from rfl) (Reps.one (show Kd.M (Kd.int .u8) _ _ _ (((rd_T44 l0 x23_1).f2) % 256) [.int .u8 (((rd_T44 l0 x23_1).f2) % 256)] from rfl) (Reps.none _ _)))); intro v144 w18 ho19 hb hg_ hnew_; clear hg_ hnew_; (first | rw [← Ny143.out] at ho19 | (simp only [Int.reduceToNat] at ho19; rw [← Ny143.out] at ho19)); have n0_ := Aside0.mk (Kd.R_elder' (by (with_reducible repeat (first | apply Kd.R_alloc | apply Kd.R_drewN | apply Kd.R_drew)); exact (Kd.R_mono (Kd.R_far (p := ⟨gb142, 3, none⟩) (Kd.R_far (p := ⟨gb142, 2, none⟩) (Kd.R_far (p := ⟨gb142, 1, none⟩) (Kd.R_far (p := ⟨gb142, 0, none⟩) (Kd.R_types HO_6.out BK142.out (by decide)) (fun _ hk => hk.2) (.int .i64 ((rd_T44 l0 x23_1).f0))) (fun _ hk => hk.2) (.bool true)) (fun _ hk => hk.2) (.int .i64 ((rd_T44 l0 x23_1).f2))) (fun _ hk => hk.2) (.int .i64 ((rd_T44 l0 x23_1).f3))) (fun _ h_ => h_.1))) (Kd.R_base ho19) hb); have n1_ := Aside0.mk (Kd.R_lower (Kd.R_new' ho19 (Kd.R_lt (by (with_reducible repeat (first | apply Kd.R_alloc | apply Kd.R_drewN | apply Kd.R_drew)); exact (Kd.R_mono (Kd.R_far (p := ⟨gb142, 3, none⟩) (Kd.R_far (p := ⟨gb142, 2, none⟩) (Kd.R_far (p := ⟨gb142, 1, none⟩) (Kd.R_far (p := ⟨gb142, 0, none⟩) (Kd.R_types HO_6.out BK142.out (by decide)) (fun _ hk => hk.2) (.int .i64 ((rd_T44 l0 x23_1).f0))) (fun _ hk => hk.2) (.bool true)) (fun _ hk => hk.2) (.int .i64 ((rd_T44 l0 x23_1).f2))) (fun _ hk => hk.2) (.int .i64 ((rd_T44 l0 x23_1).f3))) (fun _ h_ => h_.1))))) (below_size (by repeat (first | (with_reducible first | exact HB.out | apply below_alloc | apply pw_below_drewN | apply below_drew1 | refine below_set ?_ GE142.out) | exact HB.out)))); have n2_ := Aside0.mk (blk_below (g := gb142) (o := .cells #[.int .i64 ((rd_T44 l0 x23_1).f0), .bool true, .int .i64 ((rd_T44 l0 x23_1).f2), .int .i64 ((rd_T44 l0 x23_1).f3)] 44 (0, 0)) (by (with_reducible repeat (first | refine blk_drewN ?_ _ | refine blk_drew ?_ | refine blk_alloc ?_ _)); refine blk_put (cs := #[.int .i64 ((rd_T44 l0 x23_1).f0), .bool true, .int .i64 ((rd_T44 l0 x23_1).f2), .int .i64 0]) ?_ 3 _ rfl; (with_reducible repeat (first | refine blk_drewN ?_ _ | refine blk_drew ?_ | refine blk_alloc ?_ _)); refine blk_put (cs := #[.int .i64 ((rd_T44 l0 x23_1).f0), .bool true, .int .i64 0, .int .i64 0]) ?_ 2 _ rfl; (with_reducible repeat (first | refine blk_drewN ?_ _ | refine blk_drew ?_ | refine blk_alloc ?_ _)); refine blk_put (cs := #[.int .i64 ((rd_T44 l0 x23_1).f0), .bool false, .int .i64 0, .int .i64 0]) ?_ 1 _ rfl; (with_reducible repeat (first | refine blk_drewN ?_ _ | refine blk_drew ?_ | refine blk_alloc ?_ _)); refine blk_put (cs := #[.int .i64 0, .bool false, .int .i64 0, .int .i64 0]) ?_ 0 _ rfl; (with_reducible repeat (first | refine blk_drewN ?_ _ | refine blk_drew ?_ | refine blk_alloc ?_ _)); exact BK142.out) hb); have n3_ := Aside0.mk (below_step (by repeat (first | (with_reducible first | exact HB.out | apply below_alloc | apply pw_below_drewN | apply below_drew1 | refine below_set ?_ GE142.out) | exact HB.out)) hb); clear HO_6; clear BK142; clear HB; have HO_6 := n0_; have HO145 := n1_; have BK142 := n2_; have HB := n3_; clear n0_ n1_ n2_ n3_; clear hb ho19; obtain ⟨Ao21, co21, eo21⟩ := Kd.R_slice HO145.out; subst eo21) | ((with_reducible refine gate_builtin (b := .append) (xs := #[.tmp 29, .tmp 38]) rfl ?_); at_builtin; refine Kd.R_append_rows (Kd.int .u8) (w0 := w) w.heap.size rfl (.tmp 29) (.tmp 38) 47 5 (.int .u8 0) 1 rfl Try.underlying47 info5 rfl (by decide) (by omega) u6 x6_1 y143 _ _ _ (fun k_ => some k_ ≠ (.slice Ao21 y143.length co21 : Value).ownBlock) (fun _ => False) rfl rfl ?aO ?aR (fun _ _ h => h) (fun _ h => h.elim) ?aF ?aB ?aS ?aL ?_; (case aR => repeat (first | exact (Kd.R_reads' HO145.out).2.2 | (with_reducible refine Kd.C_alloc ?_ _) | (with_reducible refine Kd.C_drewN ?_ _) | (with_reducible refine Kd.C_drew ?_))); (case aB => exact (by repeat (first | (with_reducible first | exact HB.out | apply below_alloc | apply pw_below_drewN | apply below_drew1 | refine below_set ?_ GE142.out) | exact HB.out))); (case aF => exact (fun k_ hk => Kd.fresh' (Kd.R_lt (by (with_reducible repeat (first | apply Kd.R_alloc | apply Kd.R_drewN | apply Kd.R_drew)); exact HO145.out)) k_ hk)); (case aO => exact (by (with_reducible repeat (first | apply Kd.R_alloc | apply Kd.R_drewN | apply Kd.R_drew)); exact Kd.R_mono HO_6.out (fun _ hk => hk.2))); (case aS => exact (below_size (by repeat (first | (with_reducible first | exact HB.out | apply below_alloc | apply pw_below_drewN | apply below_drew1 | refine below_set ?_ GE142.out) | exact HB.out)))); (case aL => have := LMc12.out; omega); intro v147 w20 ho hb hg hat; rw [← Ny146.out] at ho; have n0_ := Aside0.mk (blk_grown (g := gb142) (o := .cells #[.int .i64 ((rd_T44 l0 x23_1).f0), .bool true, .int .i64 ((rd_T44 l0 x23_1).f2), .int .i64 ((rd_T44 l0 x23_1).f3)] 44 (0, 0)) (by (with_reducible repeat (first | refine blk_drewN ?_ _ | refine blk_drew ?_ | refine blk_alloc ?_ _)); exact BK142.out) hg (Kd.R_ne HO_6.out BK142.out (by decide))); have n1_ := Aside0.mk (Kd.R_after (ok := (fun _ => True)) (by (with_reducible repeat (first | apply Kd.R_alloc | apply Kd.R_drewN | apply Kd.R_drew)); exact HO145.out) hg hat); have n2_ := Aside0.mk (hb); have n3_ := Aside0.mk (ho); clear BK142; clear HO145; clear HB; clear HO_6; have BK142 := n0_; have HO145 := n1_; have HB := n2_; have HO148 := n3_; clear n0_ n1_ n2_ n3_; clear ho hb hg hat; have hcz22_0 : w20.cell? ⟨gb142, 0, none⟩ = some (.int .i64 ((rd_T44 l0 x23_1).f0)) := (blk_cell BK142.out 0).trans rfl; have hcz22_1 : w20.cell? ⟨gb142, 1, none⟩ = some (.bool true) := (blk_cell BK142.out 1).trans rfl; have hcz22_2 : w20.cell? ⟨gb142, 2, none⟩ = some (.int .i64 ((rd_T44 l0 x23_1).f2)) := (blk_cell BK142.out 2).trans rfl; have hcz22_3 : w20.cell? ⟨gb142, 3, none⟩ = some (.int .i64 ((rd_T44 l0 x23_1).f3)) := (blk_cell BK142.out 3).trans rfl; have hfz22_0 := blk_frozen BK142.out 0; have hfz22_1 := blk_frozen BK142.out 1; have hfz22_2 := blk_frozen BK142.out 2; have hfz22_3 := blk_frozen BK142.out 3) | ((with_reducible refine gate_callee (f := 31) rfl ?_); refine goesL_ (some 50) rfl rfl Try.func31 (by kernel_rfl) rfl #[.int .i64 ((rd_T44 l0 x23_1).f3)] rfl (by (try simp only [List.map_toArray, List.map_cons, List.map_nil]); first | done | rfl | (simp only [List.length_drop, List.length_take]; rfl)) ?_; (with_reducible refine (word_Zig.calls ((rd_T44 l0 x23_1).f3) t149 _ A13.out).mono ?_); rintro e w' ⟨rfl, ⟨nd, rfl⟩⟩; refine ⟨_, rfl, ?_⟩) | ((with_reducible refine gate_callee (f := 30) rfl ?_); refine goesL_ (some 51) rfl rfl Try.func30 (by kernel_rfl) rfl #[.int .u64 t149] rfl (by (try simp only [List.map_toArray, List.map_cons, List.map_nil]); first | done | rfl | (simp only [List.length_drop, List.length_take]; rfl)) ?_; (with_reducible refine (word_Var.calls k1 t149 t150 _ A14.out).mono ?_); rintro e w23 ⟨v151, rfl, ho0, hb⟩; refine ⟨_, rfl, ?_⟩; have n0_ := Aside0.mk (Kd.R_elder' (by (with_reducible repeat (first | apply Kd.R_alloc | apply Kd.R_drewN | apply Kd.R_drew)); exact HO145.out) (Kd.R_base ho0) hb); have n1_ := Aside0.mk (Kd.R_elder' (by (with_reducible repeat (first | apply Kd.R_alloc | apply Kd.R_drewN | apply Kd.R_drew)); exact HO148.out) (Kd.R_base ho0) hb); have n2_ := Aside0.mk (Kd.R_lower (Kd.R_new' (Kd.R_new' ho0 (Kd.R_lt (by (with_reducible repeat (first | apply Kd.R_alloc | apply Kd.R_drewN | apply Kd.R_drew)); exact HO145.out))) (Kd.R_lt (by (with_reducible repeat (first | apply Kd.R_alloc | apply Kd.R_drewN | apply Kd.R_drew)); exact HO148.out))) (below_size (by repeat (first | (with_reducible first | exact HB.out | apply below_alloc | apply pw_below_drewN | apply below_drew1 | refine below_set ?_ GE142.out) | exact HB.out)))); have n3_ := Aside0.mk (blk_below (g := gb142) (o := .cells #[.int .i64 ((rd_T44 l0 x23_1).f0), .bool true, .int .i64 ((rd_T44 l0 x23_1).f2), .int .i64 ((rd_T44 l0 x23_1).f3)] 44 (0, 0)) (by (with_reducible repeat (first | refine blk_drewN ?_ _ | refine blk_drew ?_ | refine blk_alloc ?_ _)); exact BK142.out) hb); have n4_ := Aside0.mk (below_step (by repeat (first | (with_reducible first | exact HB.out | apply below_alloc | apply pw_below_drewN | apply below_drew1 | refine below_set ?_ GE142.out) | exact HB.out)) hb); clear HO145; clear HO148; clear BK142; clear HB; have HO145 := n0_; have HO148 := n1_; have HO152 := n2_; have BK142 := n3_; have HB := n4_; clear n0_ n1_ n2_ n3_ n4_; (try clear hb); (try clear hb2); (try clear hk); (try clear hi); (try clear ho0); obtain ⟨Ao25, co25, eo25⟩ := Kd.R_slice HO152.out; subst eo25) | ((with_reducible refine gate_builtin (b := .append) (xs := #[.tmp 47, .tmp 51]) rfl ?_); at_builtin; refine Kd.R_append_rows (Kd.int .u8) (w0 := w) w.heap.size rfl (.tmp 47) (.tmp 51) 47 5 (.int .u8 0) 1 rfl Try.underlying47 info5 rfl (by decide) (by omega) v147 y146 t150 _ _ _ (fun k_ => some k_ ≠ (.slice Ao21 y143.length co21 : Value).ownBlock ∧ some k_ ≠ (.slice Ao25 t150.length co25 : Value).ownBlock) (fun _ => False) rfl rfl ?aO ?aR (fun _ _ h => h) (fun _ h => h.elim) ?aF ?aB ?aS ?aL ?_; (case aR => repeat (first | exact (Kd.R_reads' HO152.out).2.2 | (with_reducible refine Kd.C_alloc ?_ _) | (with_reducible refine Kd.C_drewN ?_ _) | (with_reducible refine Kd.C_drew ?_))); (case aB => exact (by repeat (first | (with_reducible first | exact HB.out | apply below_alloc | apply pw_below_drewN | apply below_drew1 | refine below_set ?_ GE142.out) | exact HB.out))); (case aF => exact (fun k_ hk => ⟨Kd.fresh' (Kd.R_lt (by (with_reducible repeat (first | apply Kd.R_alloc | apply Kd.R_drewN | apply Kd.R_drew)); exact HO145.out)) k_ hk, Kd.fresh' (Kd.R_lt (by (with_reducible repeat (first | apply Kd.R_alloc | apply Kd.R_drewN | apply Kd.R_drew)); exact HO152.out)) k_ hk⟩)); (case aO => exact (by (with_reducible repeat (first | apply Kd.R_alloc | apply Kd.R_drewN | apply Kd.R_drew)); exact HO148.out)); (case aS => exact (below_size (by repeat (first | (with_reducible first | exact HB.out | apply below_alloc | apply pw_below_drewN | apply below_drew1 | refine below_set ?_ GE142.out) | exact HB.out)))); (case aL => have := LMc15.out; omega); intro v154 w24 ho hb hg hat; rw [← Ny153.out] at ho; have n0_ := Aside0.mk (blk_grown (g := gb142) (o := .cells #[.int .i64 ((rd_T44 l0 x23_1).f0), .bool true, .int .i64 ((rd_T44 l0 x23_1).f2), .int .i64 ((rd_T44 l0 x23_1).f3)] 44 (0, 0)) (by (with_reducible repeat (first | refine blk_drewN ?_ _ | refine blk_drew ?_ | refine blk_alloc ?_ _)); exact BK142.out) hg (Kd.R_ne HO148.out BK142.out (by decide))); have n1_ := Aside0.mk (Kd.R_after (ok := (fun k_ => some k_ ≠ (.slice Ao25 t150.length co25 : Value).ownBlock)) (by (with_reducible repeat (first | apply Kd.R_alloc | apply Kd.R_drewN | apply Kd.R_drew)); exact Kd.R_mono HO145.out (fun _ hk => ⟨hk.2, hk.1.2⟩)) hg hat); have n2_ := Aside0.mk (Kd.R_after (ok := (fun k_ => some k_ ≠ (.slice Ao21 y143.length co21 : Value).ownBlock)) (by (with_reducible repeat (first | apply Kd.R_alloc | apply Kd.R_drewN | apply Kd.R_drew)); exact Kd.R_mono HO152.out (fun _ hk => ⟨hk.1.2, hk.2⟩)) hg hat); have n3_ := Aside0.mk (hb); have n4_ := Aside0.mk (ho); clear BK142; clear HO145; clear HO152; clear HB; clear HO148; have BK142 := n0_; have HO145 := n1_; have HO152 := n2_; have HB := n3_; have HO155 := n4_; clear n0_ n1_ n2_ n3_ n4_; clear ho hb hg hat))
                    go_roundg k1
                    case measure => have := HK1.out; omega
                    case rel => exact ⟨(y153), (wrap64 (x23_1 + 1)), (by first | rfl | (simp; done) | (simp [*]; done)), H', ⟨by have := HK1.out; omega⟩, ⟨by (with_reducible repeat (first | apply Kd.R_alloc | apply Kd.R_drewN | apply Kd.R_drew)); exact Kd.R_mono HO155.out (fun _ hk => trivial)⟩, ⟨by repeat (first | (with_reducible first | exact HB.out | apply below_alloc | apply pw_below_drewN | apply below_drew1 | refine below_set ?_ GE142.out) | exact HB.out)⟩⟩
                  · rw [if_neg c15] at H
                    exact absurd H (by simp)
                · rw [if_neg c12] at H
                  exact absurd H (by simp)
              · replace c11 := Bool.eq_false_iff.mpr c11
                subst c11
                have H1 : (if x6_1.length < 140737488355328 then ((some (x6_1 ++ [(wrap64 (2 * ((rd_T44 l0 x23_1).f0))) % 256] : List Int)).bind fun y156 => ((word_Zig.f ((rd_T44 l0 x23_1).f3)).bind fun t159 => ((word_Var.f k1 t159).bind fun t160 => (if y156.length + t160.length < 140737488355328 then (hist_Encode.l0 k1 (y156 ++ t160) l0 (l0.length : Int) (wrap64 (x23_1 + 1))) else (none))))) else (none)) = some (r1, r2) := by rw [if_neg (show ¬ (false = true) by decide)] at H; exact H
                clear H
                have H := H1
                clear H1
                by_cases c26 : x6_1.length < 140737488355328
                · rw [if_pos c26] at H
                  have LMc26 := Aside0.mk c26
                  clear c26
                  obtain ⟨y156, hy156⟩ : ∃ y_ : List Int, y_ = (x6_1 ++ [(wrap64 (2 * ((rd_T44 l0 x23_1).f0))) % 256]) := ⟨_, rfl⟩
                  replace H : ((word_Zig.f ((rd_T44 l0 x23_1).f3)).bind fun t159 => ((word_Var.f k1 t159).bind fun t160 => (if y156.length + t160.length < 140737488355328 then (hist_Encode.l0 k1 (y156 ++ t160) l0 (l0.length : Int) (wrap64 (x23_1 + 1))) else (none)))) = some (r1, r2) := by first | (rw [hy156]; with_reducible exact H) | (have H2_ := (Option.bind_some _ _).symm.trans H; rw [hy156]; with_reducible exact H2_) | (have H2_ := (Option.bind_some _ _).symm.trans H; with_reducible exact H2_) | with_reducible exact H | (rw [hy156]; exact H) | exact H
                  have Ny156 := Aside0.mk hy156
                  clear hy156
                  replace H := Option.bind_eq_some_iff.mp H
                  obtain ⟨t159, A270, H⟩ := H
                  replace H : ((word_Var.f k1 t159).bind fun t160 => (if y156.length + t160.length < 140737488355328 then (hist_Encode.l0 k1 (y156 ++ t160) l0 (l0.length : Int) (wrap64 (x23_1 + 1))) else (none))) = some (r1, r2) := H
                  have A27 := Aside0.mk A270
                  clear A270
                  replace H := Option.bind_eq_some_iff.mp H
                  obtain ⟨t160, A280, H⟩ := H
                  replace H : (if y156.length + t160.length < 140737488355328 then (hist_Encode.l0 k1 (y156 ++ t160) l0 (l0.length : Int) (wrap64 (x23_1 + 1))) else (none)) = some (r1, r2) := H
                  have A28 := Aside0.mk A280
                  clear A280
                  by_cases c29 : y156.length + t160.length < 140737488355328
                  · rw [if_pos c29] at H
                    have LMc29 := Aside0.mk c29
                    clear c29
                    obtain ⟨y163, hy163⟩ : ∃ y_ : List Int, y_ = (y156 ++ t160) := ⟨_, rfl⟩
                    replace H : (hist_Encode.l0 k1 y163 l0 (l0.length : Int) (wrap64 (x23_1 + 1))) = some (r1, r2) := by first | (rw [hy163]; with_reducible exact H) | (have H2_ := (Option.bind_some _ _).symm.trans H; rw [hy163]; with_reducible exact H2_) | (have H2_ := (Option.bind_some _ _).symm.trans H; with_reducible exact H2_) | with_reducible exact H | (rw [hy163]; exact H) | exact H
                    have Ny163 := Aside0.mk hy163
                    clear hy163
                    have H' := Aside0.mk H
                    clear H
                    have p141 : 0 ≤ (x23_1 : Int) := of_decide_eq_true (by first | (with_reducible assumption) | assumption)
                    have q141 : x23_1 < (l0.length : Int) := of_decide_eq_true (by first | (with_reducible assumption) | assumption)
                    obtain ⟨ad141, e141, hx141_0, hx141_1, hx141_2, hx141_3⟩ := at_T44 HR0.out x23_1 p141 q141
                    (try rw [← Nbq10.out] at hx141_1)
                    cases e141
                    replace hx141_0 := (HB.out.cell (World.block_lt_of_cell? w _ hx141_0)).trans hx141_0
                    replace hx141_1 := (HB.out.cell (World.block_lt_of_cell? w _ hx141_1)).trans hx141_1
                    replace hx141_2 := (HB.out.cell (World.block_lt_of_cell? w _ hx141_2)).trans hx141_2
                    replace hx141_3 := (HB.out.cell (World.block_lt_of_cell? w _ hx141_3)).trans hx141_3
                    replace p141 := eq_true p141
                    replace q141 := eq_true q141
                    go_wp2_with (first | ((with_reducible refine gate_dst (N := 8) rfl ?_); refine box_event ?hg (N := 8) ?hd (cs := #[.int .i64 0, .bool false, .int .i64 0, .int .i64 0]) (t := 44) ?hr ?_; (case hd => rfl); (case hg => rfl); (case hr => first | (go_simp; done) | (go_simp; rfl)); intro gb142 hg w30 hbox hb; have n0_ := Aside0.mk (Kd.R_below (by (with_reducible repeat (first | apply Kd.R_alloc | apply Kd.R_drewN | apply Kd.R_drew)); exact HO_6.out) hb); have n1_ := Aside0.mk (below_step (by repeat (first | (with_reducible first | exact HB.out | apply below_alloc | apply pw_below_drewN | apply below_drew1) | exact HB.out)) hb); have n2_ := Aside0.mk (hbox); have n3_ := Aside0.mk ((by rw [hg]; exact (below_size (by repeat (first | (with_reducible first | exact HB.out | apply below_alloc | apply pw_below_drewN | apply below_drew1) | exact HB.out))) : w.heap.size ≤ gb142)); have n4_ := Aside0.mk ((by rw [hg]; exact (below_size (by repeat (first | (with_reducible first | exact HB.out | apply below_alloc | apply pw_below_drewN | apply below_drew1) | exact HB.out))) : w.heap.size ≤ gb142)); clear HO_6; clear HB; have HO_6 := n0_; have HB := n1_; have BK142 := n2_; have GW142 := n3_; have GE142 := n4_; clear n0_ n1_ n2_ n3_ n4_; clear hb hbox hg; have hcz31_0 : w30.cell? ⟨gb142, 0, none⟩ = some (.int .i64 0) := (blk_cell BK142.out 0).trans rfl; have hcz31_1 : w30.cell? ⟨gb142, 1, none⟩ = some (.bool false) := (blk_cell BK142.out 1).trans rfl; have hcz31_2 : w30.cell? ⟨gb142, 2, none⟩ = some (.int .i64 0) := (blk_cell BK142.out 2).trans rfl; have hcz31_3 : w30.cell? ⟨gb142, 3, none⟩ = some (.int .i64 0) := (blk_cell BK142.out 3).trans rfl; have hfz31_0 := blk_frozen BK142.out 0; have hfz31_1 := blk_frozen BK142.out 1; have hfz31_2 := blk_frozen BK142.out 2; have hfz31_3 := blk_frozen BK142.out 3) | ((with_reducible refine gate_builtin (b := .append) (xs := #[.tmp 40, .tmp 45]) rfl ?_); at_builtin; refine Kd.R_append (Kd.int .u8) (w0 := w) w.heap.size rfl (.tmp 40) (.tmp 45) 47 5 (.int .u8 0) 1 rfl Try.underlying47 info5 rfl (by decide) (by omega) u6 x6_1 ((wrap64 (2 * ((rd_T44 l0 x23_1).f0))) % 256) [.int .u8 ((wrap64 (2 * ((rd_T44 l0 x23_1).f0))) % 256)] (fun _ => True) (fun _ => False) rfl (by first | (go_simp; done) | (go_simp; rfl)) ?aP (fun _ hk => hk.elim) ?aF ?aO ?aB ?aS ?aL ?_; (case aP => exact rfl); (case aB => exact (by repeat (first | (with_reducible first | exact HB.out | apply below_alloc | apply pw_below_drewN | apply below_drew1 | refine below_set ?_ GE142.out) | exact HB.out))); (case aF => exact (fun _ _ => trivial)); (case aO => exact (by (with_reducible repeat (first | apply Kd.R_alloc | apply Kd.R_drewN | apply Kd.R_drew)); exact Kd.R_mono (Kd.R_far (p := ⟨gb142, 3, none⟩) (Kd.R_far (p := ⟨gb142, 2, none⟩) (Kd.R_far (p := ⟨gb142, 1, none⟩) (Kd.R_far (p := ⟨gb142, 0, none⟩) (Kd.R_types HO_6.out BK142.out (by decide)) (fun _ hk => hk.2) (.int .i64 ((rd_T44 l0 x23_1).f0))) (fun _ hk => hk.2) (.bool false)) (fun _ hk => hk.2) (.int .i64 ((rd_T44 l0 x23_1).f2))) (fun _ hk => hk.2) (.int .i64 ((rd_T44 l0 x23_1).f3))) (fun _ hk => trivial))); (case aS => exact (below_size (by repeat (first | (with_reducible first | exact HB.out | apply below_alloc | apply pw_below_drewN | apply below_drew1 | refine below_set ?_ GE142.out) | exact HB.out)))); (case aL => have := LMc26.out; omega); intro v157 w32 ho hb hg hat; rw [← Ny156.out] at ho; have n0_ := Aside0.mk (blk_grown (g := gb142) (o := .cells #[.int .i64 ((rd_T44 l0 x23_1).f0), .bool false, .int .i64 ((rd_T44 l0 x23_1).f2), .int .i64 ((rd_T44 l0 x23_1).f3)] 44 (0, 0)) (by (with_reducible repeat (first | refine blk_drewN ?_ _ | refine blk_drew ?_ | refine blk_alloc ?_ _)); refine blk_put (cs := #[.int .i64 ((rd_T44 l0 x23_1).f0), .bool false, .int .i64 ((rd_T44 l0 x23_1).f2), .int .i64 0]) ?_ 3 _ rfl; (with_reducible repeat (first | refine blk_drewN ?_ _ | refine blk_drew ?_ | refine blk_alloc ?_ _)); refine blk_put (cs := #[.int .i64 ((rd_T44 l0 x23_1).f0), .bool false, .int .i64 0, .int .i64 0]) ?_ 2 _ rfl; (with_reducible repeat (first | refine blk_drewN ?_ _ | refine blk_drew ?_ | refine blk_alloc ?_ _)); refine blk_put (cs := #[.int .i64 ((rd_T44 l0 x23_1).f0), .bool false, .int .i64 0, .int .i64 0]) ?_ 1 _ rfl; (with_reducible repeat (first | refine blk_drewN ?_ _ | refine blk_drew ?_ | refine blk_alloc ?_ _)); refine blk_put (cs := #[.int .i64 0, .bool false, .int .i64 0, .int .i64 0]) ?_ 0 _ rfl; (with_reducible repeat (first | refine blk_drewN ?_ _ | refine blk_drew ?_ | refine blk_alloc ?_ _)); exact BK142.out) hg (Kd.R_ne HO_6.out BK142.out (by decide))); have n1_ := Aside0.mk (hb); have n2_ := Aside0.mk (ho); clear BK142; clear HB; clear HO_6; have BK142 := n0_; have HB := n1_; have HO158 := n2_; clear n0_ n1_ n2_; clear ho hb hg hat; have hcz33_0 : w32.cell? ⟨gb142, 0, none⟩ = some (.int .i64 ((rd_T44 l0 x23_1).f0)) := (blk_cell BK142.out 0).trans rfl; have hcz33_1 : w32.cell? ⟨gb142, 1, none⟩ = some (.bool false) := (blk_cell BK142.out 1).trans rfl; have hcz33_2 : w32.cell? ⟨gb142, 2, none⟩ = some (.int .i64 ((rd_T44 l0 x23_1).f2)) := (blk_cell BK142.out 2).trans rfl; have hcz33_3 : w32.cell? ⟨gb142, 3, none⟩ = some (.int .i64 ((rd_T44 l0 x23_1).f3)) := (blk_cell BK142.out 3).trans rfl; have hfz33_0 := blk_frozen BK142.out 0; have hfz33_1 := blk_frozen BK142.out 1; have hfz33_2 := blk_frozen BK142.out 2; have hfz33_3 := blk_frozen BK142.out 3) | ((with_reducible refine gate_callee (f := 31) rfl ?_); refine goesL_ (some 50) rfl rfl Try.func31 (by kernel_rfl) rfl #[.int .i64 ((rd_T44 l0 x23_1).f3)] rfl (by (try simp only [List.map_toArray, List.map_cons, List.map_nil]); first | done | rfl | (simp only [List.length_drop, List.length_take]; rfl)) ?_; (with_reducible refine (word_Zig.calls ((rd_T44 l0 x23_1).f3) t159 _ A27.out).mono ?_); rintro e w' ⟨rfl, ⟨nd, rfl⟩⟩; refine ⟨_, rfl, ?_⟩) | ((with_reducible refine gate_callee (f := 30) rfl ?_); refine goesL_ (some 51) rfl rfl Try.func30 (by kernel_rfl) rfl #[.int .u64 t159] rfl (by (try simp only [List.map_toArray, List.map_cons, List.map_nil]); first | done | rfl | (simp only [List.length_drop, List.length_take]; rfl)) ?_; (with_reducible refine (word_Var.calls k1 t159 t160 _ A28.out).mono ?_); rintro e w34 ⟨v161, rfl, ho0, hb⟩; refine ⟨_, rfl, ?_⟩; have n0_ := Aside0.mk (Kd.R_elder' (by (with_reducible repeat (first | apply Kd.R_alloc | apply Kd.R_drewN | apply Kd.R_drew)); exact HO158.out) (Kd.R_base ho0) hb); have n1_ := Aside0.mk (Kd.R_lower (Kd.R_new' ho0 (Kd.R_lt (by (with_reducible repeat (first | apply Kd.R_alloc | apply Kd.R_drewN | apply Kd.R_drew)); exact HO158.out))) (below_size (by repeat (first | (with_reducible first | exact HB.out | apply below_alloc | apply pw_below_drewN | apply below_drew1 | refine below_set ?_ GE142.out) | exact HB.out)))); have n2_ := Aside0.mk (blk_below (g := gb142) (o := .cells #[.int .i64 ((rd_T44 l0 x23_1).f0), .bool false, .int .i64 ((rd_T44 l0 x23_1).f2), .int .i64 ((rd_T44 l0 x23_1).f3)] 44 (0, 0)) (by (with_reducible repeat (first | refine blk_drewN ?_ _ | refine blk_drew ?_ | refine blk_alloc ?_ _)); exact BK142.out) hb); have n3_ := Aside0.mk (below_step (by repeat (first | (with_reducible first | exact HB.out | apply below_alloc | apply pw_below_drewN | apply below_drew1 | refine below_set ?_ GE142.out) | exact HB.out)) hb); clear HO158; clear BK142; clear HB; have HO158 := n0_; have HO162 := n1_; have BK142 := n2_; have HB := n3_; clear n0_ n1_ n2_ n3_; (try clear hb); (try clear hb2); (try clear hk); (try clear hi); (try clear ho0); obtain ⟨Ao36, co36, eo36⟩ := Kd.R_slice HO162.out; subst eo36) | ((with_reducible refine gate_builtin (b := .append) (xs := #[.tmp 47, .tmp 51]) rfl ?_); at_builtin; refine Kd.R_append_rows (Kd.int .u8) (w0 := w) w.heap.size rfl (.tmp 47) (.tmp 51) 47 5 (.int .u8 0) 1 rfl Try.underlying47 info5 rfl (by decide) (by omega) v157 y156 t160 _ _ _ (fun k_ => some k_ ≠ (.slice Ao36 t160.length co36 : Value).ownBlock) (fun _ => False) rfl rfl ?aO ?aR (fun _ _ h => h) (fun _ h => h.elim) ?aF ?aB ?aS ?aL ?_; (case aR => repeat (first | exact (Kd.R_reads' HO162.out).2.2 | (with_reducible refine Kd.C_alloc ?_ _) | (with_reducible refine Kd.C_drewN ?_ _) | (with_reducible refine Kd.C_drew ?_))); (case aB => exact (by repeat (first | (with_reducible first | exact HB.out | apply below_alloc | apply pw_below_drewN | apply below_drew1 | refine below_set ?_ GE142.out) | exact HB.out))); (case aF => exact (fun k_ hk => Kd.fresh' (Kd.R_lt (by (with_reducible repeat (first | apply Kd.R_alloc | apply Kd.R_drewN | apply Kd.R_drew)); exact HO162.out)) k_ hk)); (case aO => exact (by (with_reducible repeat (first | apply Kd.R_alloc | apply Kd.R_drewN | apply Kd.R_drew)); exact Kd.R_mono HO158.out (fun _ hk => hk.2))); (case aS => exact (below_size (by repeat (first | (with_reducible first | exact HB.out | apply below_alloc | apply pw_below_drewN | apply below_drew1 | refine below_set ?_ GE142.out) | exact HB.out)))); (case aL => have := LMc29.out; omega); intro v164 w35 ho hb hg hat; rw [← Ny163.out] at ho; have n0_ := Aside0.mk (blk_grown (g := gb142) (o := .cells #[.int .i64 ((rd_T44 l0 x23_1).f0), .bool false, .int .i64 ((rd_T44 l0 x23_1).f2), .int .i64 ((rd_T44 l0 x23_1).f3)] 44 (0, 0)) (by (with_reducible repeat (first | refine blk_drewN ?_ _ | refine blk_drew ?_ | refine blk_alloc ?_ _)); exact BK142.out) hg (Kd.R_ne HO158.out BK142.out (by decide))); have n1_ := Aside0.mk (Kd.R_after (ok := (fun _ => True)) (by (with_reducible repeat (first | apply Kd.R_alloc | apply Kd.R_drewN | apply Kd.R_drew)); exact HO162.out) hg hat); have n2_ := Aside0.mk (hb); have n3_ := Aside0.mk (ho); clear BK142; clear HO162; clear HB; clear HO158; have BK142 := n0_; have HO162 := n1_; have HB := n2_; have HO165 := n3_; clear n0_ n1_ n2_ n3_; clear ho hb hg hat))
                    go_roundg k1
                    case measure => have := HK1.out; omega
                    case rel => exact ⟨(y163), (wrap64 (x23_1 + 1)), (by first | rfl | (simp; done) | (simp [*]; done)), H', ⟨by have := HK1.out; omega⟩, ⟨by (with_reducible repeat (first | apply Kd.R_alloc | apply Kd.R_drewN | apply Kd.R_drew)); exact Kd.R_mono HO165.out (fun _ hk => trivial)⟩, ⟨by repeat (first | (with_reducible first | exact HB.out | apply below_alloc | apply pw_below_drewN | apply below_drew1 | refine below_set ?_ GE142.out) | exact HB.out)⟩⟩
                  · rw [if_neg c29] at H
                    exact absurd H (by simp)
                · rw [if_neg c26] at H
                  exact absurd H (by simp)
            · rw [if_neg c9] at H
              exact absurd H (by simp)
          · rw [if_neg c8] at H
            exact absurd H (by simp)
        · rw [if_neg c7] at H
          have c7b0 : decide (x23_1 < (l0.length : Int)) = false := decide_eq_false c7
          clear c7
          simp only [Option.some.injEq, Prod.mk.injEq] at H
          obtain ⟨rfl, rfl⟩ := H
          go_wp2
          go_ret2
          exact ⟨_, by first | rfl | (simp [errW_none, errW_some] <;> rfl) | (simp [*, errW_none, errW_some] <;> rfl), by (with_reducible repeat (first | apply Kd.R_alloc | apply Kd.R_drewN | apply Kd.R_drew)); exact HO_6.out, by repeat (first | (with_reducible first | exact HB.out | apply below_alloc | apply pw_below_drewN | apply below_drew1) | exact HB.out)⟩
  · rw [if_neg c3] at H
    have c3b0 : (t137 == 0) = false := beq_eq_false_iff_ne.mpr c3
    have c3b1 : (t137 != 0) = true := bne_iff_ne.mpr c3
    simp only [Option.some.injEq, Prod.mk.injEq] at H
    obtain ⟨rfl, rfl⟩ := H
    go_enter Try.func23, Try.ntmps23
    go_wp2_with (first | ((with_reducible refine gate_callee (f := 11) rfl ?_); refine goesL_ (some 11) rfl rfl Try.func11 (by kernel_rfl) rfl #[.slice A0 l0.length c0] rfl (by (try simp only [List.map_toArray, List.map_cons, List.map_nil]); first | done | rfl | (simp only [List.length_drop, List.length_take]; rfl)) ?_; (with_reducible refine (hist_Check.calls _ _ l0 t136 t137 _ ?side1 ?side2 A2.out).mono ?_); (case side1 => repeat (first | exact HR0.out | (with_reducible refine Kd.C_alloc ?_ _) | (with_reducible refine Kd.C_drewN ?_ _) | (with_reducible refine Kd.C_drew ?_))); (case side2 => exact HC0.out); rintro e w37 ⟨rfl, hb⟩; refine ⟨_, rfl, ?_⟩; have n0_ := Aside0.mk (below_step (by repeat (first | (with_reducible first | exact HB.out | apply below_alloc | apply pw_below_drewN | apply below_drew1) | exact HB.out)) hb); clear HB; have HB := n0_; clear n0_; (try clear hb); (try clear hb2); (try clear hk); (try clear hi)))
    go_ret2
    exact ⟨_, by first | rfl | (simp [errW_none, errW_some] <;> rfl) | (simp [*, errW_none, errW_some] <;> rfl), by first | exact Kd.R_nil _ _ _ _ _ | exact Kd.N_nil _ _ _ _ _ | exact Kd.V_nil _ _ _ _ _ | exact Kd.Q_nil _ _ _ _ _ | exact Kd.S_nil _ _ _ _ _, by repeat (first | (with_reducible first | exact HB.out | apply below_alloc | apply pw_below_drewN | apply below_drew1) | exact HB.out)⟩

/-! ### inquestref14_calls: function 28 -/
def inquestref14_calls.l0 : Nat → List (S44) → Int → Int → Int → Option (Int)
  | 0, _, _, _, _ => none
  | k + 1, x0, x1, x5, x6 => if x6 < x1 then (if 0 ≤ x6 then (if x6 < (x0.length : Int) then (if (rd_T44 x0 x6).f1 = true then (inquestref14_calls.l0 k x0 x1 (wrap64 (x5 + 1)) (wrap64 (x6 + 1))) else (inquestref14_calls.l0 k x0 x1 x5 (wrap64 (x6 + 1)))) else (none)) else (none)) else (some x5)
def inquestref14_calls.f (k : Nat) (l0 : List (S44)) (a1 : Int) : Option (Int) := inquestref14_calls.l0 k l0 a1 0 0
theorem inquestref14_calls.mono_l : ∀ k, (∀ y0 y1 y2 y3, LeO (inquestref14_calls.l0 k y0 y1 y2 y3) (inquestref14_calls.l0 (k + 1) y0 y1 y2 y3))
  | 0 => fun _ _ _ _ r h => by simp [inquestref14_calls.l0] at h
  | k + 1 => by
    have ih0 := inquestref14_calls.mono_l k
    · intro y0 y1 y2 y3
      unfold inquestref14_calls.l0
      repeat' first
      | (with_reducible exact ih0 _ _ _ _)
      | (with_reducible exact LeO.refl _)
      | (with_reducible exact LeO.none _)
      | (with_reducible refine LeO.ite ?_ ?_)
      | (with_reducible refine LeO.bind ?_ (fun _ => ?_))
      | exact ih0 _ _ _ _
      | exact LeO.none _
      | refine LeO.ite ?_ ?_
      | refine LeO.bind ?_ (fun _ => ?_)
theorem inquestref14_calls.mono : ∀ a0 a1 k, LeO (inquestref14_calls.f k a0 a1) (inquestref14_calls.f (k + 1) a0 a1) := by
  intro a0 a1 k
  have ih0 := inquestref14_calls.mono_l k
  unfold inquestref14_calls.f
  repeat' first
      | (with_reducible exact ih0 _ _ _ _)
      | (with_reducible exact LeO.refl _)
      | (with_reducible exact LeO.none _)
      | (with_reducible refine LeO.ite ?_ ?_)
      | (with_reducible refine LeO.bind ?_ (fun _ => ?_))
      | exact ih0 _ _ _ _
      | exact LeO.none _
      | refine LeO.ite ?_ ?_
      | refine LeO.bind ?_ (fun _ => ?_)
set_option maxHeartbeats 8000000 in
set_option maxRecDepth 100000 in
theorem inquestref14_calls.calls (k : Nat) (A0 : Option Addr) (c0 : Nat) (l0 : List (S44)) (a1 : Int) (r : Int) (w : World) (hr0 : Kd.C k44 w A0 l0.length l0) (hc0 : l0.length ≤ c0) (h : inquestref14_calls.f k l0 a1 = some r) :
    Calls Try.prog 28 #[.slice A0 l0.length c0, .int .i64 a1] w fun e w' => e = .returned (.int .i64 r) ∧ Drawn0 w w' := by
  have HR0 := Aside0.mk hr0
  have HC0 := Aside0.mk hc0
  clear hr0 hc0
  have H : (inquestref14_calls.l0 k l0 a1 0 0) = some r := h
  clear h
  have H' := Aside0.mk H
  clear H
  go_enter Try.func28, Try.ntmps28
  go_wp2
  go_loopg [5, 6] k (fun kq v5 v6 w' => ∃ (x5_1 : Int) (x6_1 : Int), v5 = .int .i64 x5_1 ∧ v6 = .int .i64 x6_1 ∧ Aside0 (inquestref14_calls.l0 kq l0 a1 x5_1 x6_1 = some r) ∧ Aside0 (kq ≤ k) ∧ Drawn0 w w')
  case atStart => exact ⟨(0), (0), (by first | rfl | (simp; done) | (simp [*]; done)), (by first | rfl | (simp; done) | (simp [*]; done)), H', ⟨Nat.le_refl _⟩, by repeat (first | exact Drawn0.refl _ | apply Drawn0.step)⟩
  case round =>
    clear H'
    try clear c2
    try clear p2
    obtain ⟨x5_1, x6_1, rfl, rfl, HA, HK1, ⟨m1, rfl⟩⟩ := hrel
    cases gk with
    | zero => exact absurd HA.out (by simp [inquestref14_calls.l0])
    | succ k1 =>
      have H := HA.out
      clear HA
      simp only [inquestref14_calls.l0] at H
      by_cases c3 : x6_1 < a1
      · rw [if_pos c3] at H
        have c3b0 : decide (x6_1 < a1) = true := decide_eq_true c3
        clear c3
        by_cases c4 : 0 ≤ x6_1
        · rw [if_pos c4] at H
          have c4b0 : decide (0 ≤ x6_1) = true := decide_eq_true c4
          clear c4
          by_cases c5 : x6_1 < (l0.length : Int)
          · rw [if_pos c5] at H
            have c5b0 : decide (x6_1 < (l0.length : Int)) = true := decide_eq_true c5
            clear c5
            obtain ⟨bq6, hbq6⟩ : ∃ b_ : Bool, b_ = ((rd_T44 l0 x6_1).f1) := ⟨_, rfl⟩
            replace H : (if bq6 = true then (inquestref14_calls.l0 k1 l0 a1 (wrap64 (x5_1 + 1)) (wrap64 (x6_1 + 1))) else (inquestref14_calls.l0 k1 l0 a1 x5_1 (wrap64 (x6_1 + 1)))) = some r := by rw [← hbq6] at H; exact H
            have Nbq6 := Aside0.mk hbq6
            clear hbq6
            by_cases c7 : bq6 = true
            · subst c7
              have H1 : (inquestref14_calls.l0 k1 l0 a1 (wrap64 (x5_1 + 1)) (wrap64 (x6_1 + 1))) = some r := by rw [if_pos rfl] at H; exact H
              clear H
              have H := H1
              clear H1
              have H' := Aside0.mk H
              clear H
              have p166 : 0 ≤ (x6_1 : Int) := of_decide_eq_true (by first | (with_reducible assumption) | assumption)
              have q166 : x6_1 < (l0.length : Int) := of_decide_eq_true (by first | (with_reducible assumption) | assumption)
              obtain ⟨ad166, e166, hx166_0, hx166_1, hx166_2, hx166_3⟩ := at_T44 HR0.out x6_1 p166 q166
              (try rw [← Nbq6.out] at hx166_1)
              cases e166
              replace p166 := eq_true p166
              replace q166 := eq_true q166
              go_wp2
              go_roundg k1
              case measure => have := HK1.out; omega
              case rel => exact ⟨(wrap64 (x5_1 + 1)), (wrap64 (x6_1 + 1)), (by first | rfl | (simp; done) | (simp [*]; done)), (by first | rfl | (simp; done) | (simp [*]; done)), H', ⟨by have := HK1.out; omega⟩, by repeat (first | exact Drawn0.refl _ | apply Drawn0.step)⟩
            · replace c7 := Bool.eq_false_iff.mpr c7
              subst c7
              have H1 : (inquestref14_calls.l0 k1 l0 a1 x5_1 (wrap64 (x6_1 + 1))) = some r := by rw [if_neg (show ¬ (false = true) by decide)] at H; exact H
              clear H
              have H := H1
              clear H1
              have H' := Aside0.mk H
              clear H
              have p166 : 0 ≤ (x6_1 : Int) := of_decide_eq_true (by first | (with_reducible assumption) | assumption)
              have q166 : x6_1 < (l0.length : Int) := of_decide_eq_true (by first | (with_reducible assumption) | assumption)
              obtain ⟨ad166, e166, hx166_0, hx166_1, hx166_2, hx166_3⟩ := at_T44 HR0.out x6_1 p166 q166
              (try rw [← Nbq6.out] at hx166_1)
              cases e166
              replace p166 := eq_true p166
              replace q166 := eq_true q166
              go_wp2
              go_roundg k1
              case measure => have := HK1.out; omega
              case rel => exact ⟨(x5_1), (wrap64 (x6_1 + 1)), (by first | rfl | (simp; done) | (simp [*]; done)), (by first | rfl | (simp; done) | (simp [*]; done)), H', ⟨by have := HK1.out; omega⟩, by repeat (first | exact Drawn0.refl _ | apply Drawn0.step)⟩
          · rw [if_neg c5] at H
            exact absurd H (by simp)
        · rw [if_neg c4] at H
          exact absurd H (by simp)
      · rw [if_neg c3] at H
        have c3b0 : decide (x6_1 < a1) = false := decide_eq_false c3
        clear c3
        obtain rfl := Option.some.inj H
        go_wp2
        go_ret
        exact ⟨by first | rfl | (simp; done) | (simp [*]; done), by repeat (first | exact Drawn0.refl _ | apply Drawn0.step)⟩

/-! ### inquestref14_last: function 29 -/
def inquestref14_last.l0 : Nat → List (S44) → Int → Int → Option (Bool)
  | 0, _, _, _ => none
  | k + 1, x0, x2, x7 => if x7 ≥ 0 then (if 0 ≤ x7 then (if x7 < (x0.length : Int) then (if ((rd_T44 x0 x7).f0) = x2 then (some ((rd_T44 x0 x7).f1)) else (inquestref14_last.l0 k x0 x2 (wrap64 (x7 - 1)))) else (none)) else (none)) else (some false)
def inquestref14_last.f (k : Nat) (l0 : List (S44)) (a1 : Int) (a2 : Int) : Option (Bool) := inquestref14_last.l0 k l0 a2 (wrap64 (a1 - 1))
theorem inquestref14_last.mono_l : ∀ k, (∀ y0 y1 y2, LeO (inquestref14_last.l0 k y0 y1 y2) (inquestref14_last.l0 (k + 1) y0 y1 y2))
  | 0 => fun _ _ _ r h => by simp [inquestref14_last.l0] at h
  | k + 1 => by
    have ih0 := inquestref14_last.mono_l k
    · intro y0 y1 y2
      unfold inquestref14_last.l0
      repeat' first
      | (with_reducible exact ih0 _ _ _)
      | (with_reducible exact LeO.refl _)
      | (with_reducible exact LeO.none _)
      | (with_reducible refine LeO.ite ?_ ?_)
      | (with_reducible refine LeO.bind ?_ (fun _ => ?_))
      | exact ih0 _ _ _
      | exact LeO.none _
      | refine LeO.ite ?_ ?_
      | refine LeO.bind ?_ (fun _ => ?_)
theorem inquestref14_last.mono : ∀ a0 a1 a2 k, LeO (inquestref14_last.f k a0 a1 a2) (inquestref14_last.f (k + 1) a0 a1 a2) := by
  intro a0 a1 a2 k
  have ih0 := inquestref14_last.mono_l k
  unfold inquestref14_last.f
  repeat' first
      | (with_reducible exact ih0 _ _ _)
      | (with_reducible exact LeO.refl _)
      | (with_reducible exact LeO.none _)
      | (with_reducible refine LeO.ite ?_ ?_)
      | (with_reducible refine LeO.bind ?_ (fun _ => ?_))
      | exact ih0 _ _ _
      | exact LeO.none _
      | refine LeO.ite ?_ ?_
      | refine LeO.bind ?_ (fun _ => ?_)
set_option maxHeartbeats 8000000 in
set_option maxRecDepth 100000 in
theorem inquestref14_last.calls (k : Nat) (A0 : Option Addr) (c0 : Nat) (l0 : List (S44)) (a1 : Int) (a2 : Int) (r : Bool) (w : World) (hr0 : Kd.C k44 w A0 l0.length l0) (hc0 : l0.length ≤ c0) (h : inquestref14_last.f k l0 a1 a2 = some r) :
    Calls Try.prog 29 #[.slice A0 l0.length c0, .int .i64 a1, .int .i64 a2] w fun e w' => e = .returned (.bool r) ∧ Drawn0 w w' := by
  have HR0 := Aside0.mk hr0
  have HC0 := Aside0.mk hc0
  clear hr0 hc0
  have H : (inquestref14_last.l0 k l0 a2 (wrap64 (a1 - 1))) = some r := h
  clear h
  have H' := Aside0.mk H
  clear H
  go_enter Try.func29, Try.ntmps29
  go_wp2
  go_loopg [7] k (fun kq v7 w' => ∃ (x7_1 : Int), v7 = .int .i64 x7_1 ∧ Aside0 (inquestref14_last.l0 kq l0 a2 x7_1 = some r) ∧ Aside0 (kq ≤ k) ∧ Drawn0 w w')
  case atStart => exact ⟨(wrap64 (a1 - 1)), (by first | rfl | (simp; done) | (simp [*]; done)), H', ⟨Nat.le_refl _⟩, by repeat (first | exact Drawn0.refl _ | apply Drawn0.step)⟩
  case round =>
    clear H'
    try clear c2
    try clear p2
    obtain ⟨x7_1, rfl, HA, HK1, ⟨m1, rfl⟩⟩ := hrel
    cases gk with
    | zero => exact absurd HA.out (by simp [inquestref14_last.l0])
    | succ k1 =>
      have H := HA.out
      clear HA
      simp only [inquestref14_last.l0] at H
      by_cases c4 : x7_1 ≥ 0
      · rw [if_pos c4] at H
        have c4b0 : decide (0 ≤ x7_1) = true := decide_eq_true c4
        clear c4
        by_cases c5 : 0 ≤ x7_1
        · rw [if_pos c5] at H
          have c5b0 : decide (0 ≤ x7_1) = true := decide_eq_true c5
          clear c5
          by_cases c6 : x7_1 < (l0.length : Int)
          · rw [if_pos c6] at H
            have c6b0 : decide (x7_1 < (l0.length : Int)) = true := decide_eq_true c6
            clear c6
            by_cases c7 : ((rd_T44 l0 x7_1).f0) = a2
            · rw [if_pos c7] at H
              have c7b0 : (((rd_T44 l0 x7_1).f0) == a2) = true := beq_iff_eq.mpr c7
              have c7b1 : (((rd_T44 l0 x7_1).f0) != a2) = false := bne_eq_false_iff_eq.mpr c7
              clear c7
              obtain rfl := Option.some.inj H
              have p167 : 0 ≤ (x7_1 : Int) := of_decide_eq_true (by first | (with_reducible assumption) | assumption)
              have q167 : x7_1 < (l0.length : Int) := of_decide_eq_true (by first | (with_reducible assumption) | assumption)
              obtain ⟨ad167, e167, hx167_0, hx167_1, hx167_2, hx167_3⟩ := at_T44 HR0.out x7_1 p167 q167
              cases e167
              replace p167 := eq_true p167
              replace q167 := eq_true q167
              have p168 : 0 ≤ (x7_1 : Int) := of_decide_eq_true (by first | (with_reducible assumption) | assumption)
              have q168 : x7_1 < (l0.length : Int) := of_decide_eq_true (by first | (with_reducible assumption) | assumption)
              obtain ⟨ad168, e168, hx168_0, hx168_1, hx168_2, hx168_3⟩ := at_T44 HR0.out x7_1 p168 q168
              obtain rfl : ad167 = ad168 := (by injection e168)
              replace p168 := eq_true p168
              replace q168 := eq_true q168
              go_wp2
              go_ret
              exact ⟨by first | rfl | (simp; done) | (simp [*]; done), by repeat (first | exact Drawn0.refl _ | apply Drawn0.step)⟩
            · rw [if_neg c7] at H
              have c7b0 : (((rd_T44 l0 x7_1).f0) == a2) = false := beq_eq_false_iff_ne.mpr c7
              have c7b1 : (((rd_T44 l0 x7_1).f0) != a2) = true := bne_iff_ne.mpr c7
              have H' := Aside0.mk H
              clear H
              have p167 : 0 ≤ (x7_1 : Int) := of_decide_eq_true (by first | (with_reducible assumption) | assumption)
              have q167 : x7_1 < (l0.length : Int) := of_decide_eq_true (by first | (with_reducible assumption) | assumption)
              obtain ⟨ad167, e167, hx167_0, hx167_1, hx167_2, hx167_3⟩ := at_T44 HR0.out x7_1 p167 q167
              cases e167
              replace p167 := eq_true p167
              replace q167 := eq_true q167
              go_wp2
              go_roundg k1
              case measure => have := HK1.out; omega
              case rel => exact ⟨(wrap64 (x7_1 - 1)), (by first | rfl | (simp; done) | (simp [*]; done)), H', ⟨by have := HK1.out; omega⟩, by repeat (first | exact Drawn0.refl _ | apply Drawn0.step)⟩
          · rw [if_neg c6] at H
            exact absurd H (by simp)
        · rw [if_neg c5] at H
          exact absurd H (by simp)
      · rw [if_neg c4] at H
        have c4b0 : decide (0 ≤ x7_1) = false := decide_eq_false c4
        clear c4
        obtain rfl := Option.some.inj H
        go_wp2
        go_ret
        exact ⟨by first | rfl | (simp; done) | (simp [*]; done), by repeat (first | exact Drawn0.refl _ | apply Drawn0.step)⟩

/-! ### inquestref14_Check: function 12 -/
def badE (x : S44) : Prop := x.f0 < 0 ∨ 16 ≤ x.f0 ∨ x.f2 < 0 ∨ 16 ≤ x.f2 ∨ (x.f1 = false ∧ x.f2 ≠ 0)
instance (x : S44) : Decidable (badE x) := by unfold badE; infer_instance
/-- How many calls there are. -/
def cnt : List S44 → Nat
  | [] => 0
  | x :: l => (if x.f1 = true then 1 else 0) + cnt l
theorem cnt_app : ∀ (p q : List S44), cnt (p ++ q) = cnt p + cnt q
  | [], q => by simp [cnt]
  | x :: p, q => by rw [List.cons_append, cnt, cnt, cnt_app p q]; omega
theorem cnt_le : ∀ (p : List S44), cnt p ≤ p.length
  | [] => by simp [cnt]
  | x :: p => by rw [cnt, List.length_cons]; have := cnt_le p; split <;> omega
/-- Whether a client's last event is a call. -/
def lst (cl : Int) : List S44 → Bool → Bool
  | [], b => b
  | x :: l, b => lst cl l (if x.f0 = cl then x.f1 else b)
theorem lst_app (cl : Int) : ∀ (p q : List S44) (b : Bool), lst cl (p ++ q) b = lst cl q (lst cl p b)
  | [], q, b => rfl
  | x :: p, q, b => by rw [List.cons_append, lst, lst, lst_app cl p q]
theorem take_snoc44 (L : List S44) (i : Nat) (h : i < L.length) : L.take (i + 1) = L.take i ++ [rd_T44 L i] := by
  rw [List.take_succ_eq_append_getElem h]; congr 1; simp [rd_T44, List.getElem?_eq_getElem h]
theorem drop_cons44 (L : List S44) (i : Nat) (h : i < L.length) : L.drop i = rd_T44 L i :: L.drop (i + 1) := by
  rw [List.drop_eq_getElem_cons h]; congr 1; simp [rd_T44, List.getElem?_eq_getElem h]
theorem r14_calls_l0 (d : Nat) : ∀ (L : List S44) (n i : Nat), n ≤ L.length → L.length ≤ 1000 → n - i = d → i ≤ n → Ev (fun k => inquestref14_calls.l0 k L n (cnt (L.take i)) i) (cnt (L.take n) : Int) := by
  induction d with
  | zero =>
    intro L n i hn hl hd hi
    have : i = n := by omega
    subst this
    refine Ev.step (f := fun _ => some ((cnt (L.take i) : Nat) : Int)) (fun k => ?_) (Ev.now _)
    simp only [inquestref14_calls.l0]; rw [if_neg (by omega)]
  | succ d ih =>
    intro L n i hn hl hd hi
    have g := ih L n (i + 1) hn hl (by omega) (by omega)
    rw [take_snoc44 L i (by omega), cnt_app] at g
    have c := cnt_le (L.take i)
    rw [List.length_take] at c
    refine Ev.step (fun k => ?_) g
    simp only [inquestref14_calls.l0]
    rw [if_pos (by omega), if_pos (by omega), if_pos (by omega)]
    have w1 : wrap64 ((i : Int) + 1) = ((i + 1 : Nat) : Int) := by rw [w64_h (by omega) (by omega)]; rfl
    have w2 : wrap64 (((cnt (L.take i) : Nat) : Int) + 1) = ((cnt (L.take i) + 1 : Nat) : Int) := by rw [w64_h (by omega) (by omega)]; rfl
    rw [w1, w2]
    cases h : (rd_T44 L i).f1 with
    | true => simp [cnt, h]
    | false => simp [cnt, h]
theorem r14_calls_ev (L : List S44) (n : Nat) (hn : n ≤ L.length) (hl : L.length ≤ 1000) : Ev (fun k => inquestref14_calls.f k L n) (cnt (L.take n) : Int) := by
  have := r14_calls_l0 n L n 0 hn hl (by omega) (by omega)
  exact this
theorem r14_last_l0 (cl : Int) : ∀ (m : Nat) (L : List S44), m ≤ L.length → L.length ≤ 1000 → Ev (fun k => inquestref14_last.l0 k L cl ((m : Int) - 1)) (lst cl (L.take m) false)
  | 0, L, hm, hl => by
    refine Ev.step (f := fun _ => some false) (fun k => ?_) (Ev.now _)
    simp only [inquestref14_last.l0]; rw [if_neg (by omega)]
  | m + 1, L, hm, hl => by
    rw [take_snoc44 L m (by omega), lst_app, lst, lst]
    have e : ((m + 1 : Nat) : Int) - 1 = (m : Int) := by omega
    rw [e]
    by_cases c : (rd_T44 L m).f0 = cl
    · rw [if_pos c]
      refine Ev.step (f := fun _ => some (rd_T44 L m).f1) (fun k => ?_) (Ev.now _)
      simp only [inquestref14_last.l0]; rw [if_pos (by omega), if_pos (by omega), if_pos (by omega), if_pos c]
    · rw [if_neg c]
      refine Ev.step (fun k => ?_) (r14_last_l0 cl m L (by omega) hl)
      simp only [inquestref14_last.l0]; rw [if_pos (by omega), if_pos (by omega), if_pos (by omega), if_neg c, w64_h (by omega) (by omega)]
theorem r14_last_ev (L : List S44) (m : Nat) (cl : Int) (hm : m ≤ L.length) (hl : L.length ≤ 1000) : Ev (fun k => inquestref14_last.f k L m cl) (lst cl (L.take m) false) := by
  refine Ev.congr (fun k => ?_) (r14_last_l0 cl m L hm hl)
  unfold inquestref14_last.f; rw [w64_h (by omega) (by omega)]
/-- What the walk keeps of the row of bools. -/
def OpenIs (L : List S44) (i : Nat) (xs : List Bool) : Prop := xs.length = 16 ∧ ∀ cl : Int, 0 ≤ cl → cl < 16 → rdOf false xs cl = lst cl (L.take i) false
theorem rdOf_set (xs : List Bool) (a c : Int) (b : Bool) (ha : 0 ≤ a) (hc : 0 ≤ c) (h : a.toNat < xs.length) : rdOf false (xs.set a.toNat b) c = if a = c then b else rdOf false xs c := by
  obtain ⟨n, rfl⟩ := Int.eq_ofNat_of_zero_le ha
  obtain ⟨m, rfl⟩ := Int.eq_ofNat_of_zero_le hc
  simp only [rdOf, Int.toNat_natCast, List.getD_eq_getElem?_getD] at h ⊢
  by_cases e : n = m
  · subst e; rw [if_pos rfl, List.getElem?_set_self h]; rfl
  · rw [if_neg (by omega), List.getElem?_set_ne e]
theorem OpenIs.step {L : List S44} {i : Nat} {xs : List Bool} (h : OpenIs L i xs) (hi : i < L.length) (hb : ¬ badE (rd_T44 L i)) : OpenIs L (i + 1) (xs.set (rd_T44 L i).f0.toNat (rd_T44 L i).f1) := by
  unfold badE at hb
  refine ⟨by simpa using h.1, fun cl h0 h1 => ?_⟩
  rw [rdOf_set _ _ _ _ (by omega) h0 (by rw [h.1]; omega), take_snoc44 L i hi, lst_app, lst, lst, h.2 cl h0 h1]
theorem OpenIs.start (L : List S44) : OpenIs L 0 (List.replicate 16 false) := by
  refine ⟨rfl, fun cl h0 h1 => ?_⟩
  obtain ⟨n, rfl⟩ := Int.eq_ofNat_of_zero_le h0
  have key : ∀ n : Nat, n < 16 → rdOf false (List.replicate 16 false) (n : Int) = false := by decide +kernel
  rw [key n (by omega)]; rfl
theorem z_bad (x : S44) (l : List S44) (i : Nat) (c : Int) (xs : List Bool) (h : badE x) : hist_Check.z (x :: l) i c xs = ((i : Int), 2) := by rw [hist_Check.z]; exact if_pos h
theorem z_ok (x : S44) (l : List S44) (i : Nat) (c : Int) (xs : List Bool) (h : ¬ badE x) : hist_Check.z (x :: l) i c xs = if x.f1 = true ∧ c = 64 then ((i : Int), 5) else if x.f1 = rdOf false xs x.f0 then ((i : Int), 20) else hist_Check.z l (i + 1) (if x.f1 = true then c + 1 else c) (xs.set x.f0.toNat x.f1) := by rw [hist_Check.z]; exact if_neg h
def inquestref14_Check.f (l0 : List S44) : Option (Int × Int) := if l0.length ≤ 1000 then some (hist_Check.z l0 0 0 (List.replicate 16 false)) else none
set_option maxHeartbeats 8000000 in
theorem inquestref14_Check.calls (A0 : Option Addr) (c0 : Nat) (l0 : List S44) (r1 r2 : Int) (w : World) (hr0 : Kd.C k44 w A0 l0.length l0) (hc0 : l0.length ≤ c0) (h : inquestref14_Check.f l0 = some (r1, r2)) :
    Calls Try.prog 12 #[.slice A0 l0.length c0] w fun e w' => e = .returned (.tuple #[.int .i64 r1, .int .i64 r2]) ∧ Below w.heap.size w w' := by
  have hu44 := Try.underlying44
  unfold inquestref14_Check.f at h
  by_cases hlen : l0.length ≤ 1000
  · rw [if_pos hlen] at h
    replace h := Aside0.mk (Option.some.inj h)
    go_enter Try.func12, Try.ntmps12
    go_wp2
    go_loopg [4] l0.length (fun k v4 W => ∃ (i : Nat) (xs : List Bool), v4 = .int .i64 i ∧ Aside0 (k + i = l0.length) ∧ Aside0 (hist_Check.z (l0.drop i) i (cnt (l0.take i)) xs = (r1, r2)) ∧ i ≤ l0.length ∧ Aside0 (OpenIs l0 i xs) ∧ Below w.heap.size w W)
    case atStart => exact ⟨0, List.replicate 16 false, rfl, ⟨Nat.add_zero _⟩, h, by omega, ⟨OpenIs.start _⟩, Below.refl _ _⟩
    case round =>
      obtain ⟨i, xs, rfl, hk, hz, hin, hop, hI⟩ := hrel
      by_cases hil : (i : Int) < (l0.length : Int)
      · have p0 : (0 : Int) ≤ (i : Int) := Int.natCast_nonneg i
        obtain ⟨j, rfl⟩ : ∃ j, gk = j + 1 := ⟨gk - 1, by have := hk.out; omega⟩
        have hlt : i < l0.length := by omega
        have hCr := Kd.C_below hr0 hI
        obtain ⟨ad, rfl, hy0, hy1, hy2, hy3⟩ := at_T44 hCr (i : Int) p0 hil
        simp only [Int.toNat_natCast] at hy0 hy1 hy2 hy3
        have hrr := hz.out
        rw [drop_cons44 l0 i hlt] at hrr
        have hwi : wrap64 ((i : Int) + 1) = (i : Int) + 1 := w64_h (by omega) (by omega)
        obtain ⟨kc, hcalls⟩ := Ev.rounds (r14_calls_ev l0 i hin hlen)
        obtain ⟨kl, hlast⟩ := Ev.rounds (r14_last_ev l0 i (rd_T44 l0 i).f0 hin hlen)
        have hstep : ¬ badE (rd_T44 l0 i) → Aside0 (OpenIs l0 (i + 1) (xs.set (rd_T44 l0 i).f0.toNat (rd_T44 l0 i).f1)) := fun hb => ⟨hop.out.step hlt hb⟩
        have hcnt : cnt (l0.take (i + 1)) = cnt (l0.take i) + (if (rd_T44 l0 i).f1 = true then 1 else 0) := by rw [take_snoc44 l0 i hlt, cnt_app]; rfl
        have hlx : ¬ badE (rd_T44 l0 i) → rdOf false xs (rd_T44 l0 i).f0 = lst (rd_T44 l0 i).f0 (l0.take i) false := fun hb => hop.out.2 _ (by unfold badE at hb; omega) (by unfold badE at hb; omega)
        clear h hz hop
        generalize rd_T44 l0 i = x at *
        obtain ⟨cl, ca, op, va⟩ := x
        dsimp only at hy0 hy1 hy2 hy3 hlast hstep hlx hcnt
        generalize lst cl (l0.take i) false = lv at *
        have hbx := blk_new wr (.cells #[.int .i64 cl, .bool ca, .int .i64 op, .int .i64 va] 44)
        have b0 := blk_cell hbx 0
        have b1 := blk_cell hbx 1
        have b2 := blk_cell hbx 2
        have b3 := blk_cell hbx 3
        have hJ := below_step hI (below_alloc (Below.refl wr.heap.size wr) (.cells #[.int .i64 cl, .bool ca, .int .i64 op, .int .i64 va] 44))
        have hCj := Kd.C_below hr0 hJ
        simp only [List.getElem?_toArray, List.getElem?_cons_zero, List.getElem?_cons_succ] at b0 b1 b2 b3
        clear hbx hCr
        by_cases cA : cl < 0
        · have hb : badE ⟨cl, ca, op, va⟩ := .inl cA
          rw [z_bad _ _ _ _ _ hb] at hrr
          obtain ⟨rfl, rfl⟩ : (i : Int) = r1 ∧ (2 : Int) = r2 := by simpa using hrr
          clear hrr hstep hlx hb hcalls hlast hcnt
          have cA' : (0 ≤ cl) = False := eq_false (by omega)
          go_wp2
          go_ret2
          exact ⟨rfl, hJ⟩
        have cA' : (0 ≤ cl) = True := eq_true (by omega)
        by_cases cB : 16 ≤ cl
        · have hb : badE ⟨cl, ca, op, va⟩ := .inr (.inl cB)
          rw [z_bad _ _ _ _ _ hb] at hrr
          obtain ⟨rfl, rfl⟩ : (i : Int) = r1 ∧ (2 : Int) = r2 := by simpa using hrr
          clear hrr hstep hlx hb hcalls hlast hcnt
          have cB' : (cl ≤ 15) = False := eq_false (by omega)
          go_wp2
          go_ret2
          exact ⟨rfl, hJ⟩
        have cB' : (cl ≤ 15) = True := eq_true (by omega)
        cases ca with
        | false =>
          by_cases cE : op ≠ 0
          · have hb : badE ⟨cl, false, op, va⟩ := .inr (.inr (.inr (.inr ⟨rfl, cE⟩)))
            rw [z_bad _ _ _ _ _ hb] at hrr
            obtain ⟨rfl, rfl⟩ : (i : Int) = r1 ∧ (2 : Int) = r2 := by simpa using hrr
            clear hrr hstep hlx hb hcalls hlast hcnt
            have cE' : (op == 0) = false := by simpa using cE
            go_wp2
            go_ret2
            exact ⟨rfl, hJ⟩
          obtain rfl : op = 0 := Decidable.not_not.1 cE
          have hb : ¬ badE ⟨cl, false, 0, va⟩ := by unfold badE; simp; omega
          rw [z_ok _ _ _ _ _ hb, if_neg (by simp), hlx hb] at hrr
          have hs := hstep hb
          clear hstep hlx hb hcalls
          cases lv with
          | false =>
            rw [if_pos rfl] at hrr
            obtain ⟨rfl, rfl⟩ : (i : Int) = r1 ∧ (20 : Int) = r2 := by simpa using hrr
            clear hrr hs hcnt
            go_wp2_with (first | (go_at_call 29; (with_reducible refine (inquestref14_last.calls kl _ c0 l0 i cl _ _ (by first | exact hCj | exact Kd.C_drew hCj | exact Kd.C_drewN hCj _) hc0 hlast).mono ?_); rintro e w2 ⟨rfl, nd2, rfl⟩))
            go_region_held3 (fun W => W.cell? ⟨wr.heap.size, 1, none⟩ = some (.bool false) ∧ W.cell? ⟨wr.heap.size, 0, none⟩ = some (.int .i64 cl)) (first | assumption | exact ⟨b1, b0⟩) (first | (go_at_call 29; (with_reducible refine (inquestref14_last.calls kl _ c0 l0 i cl _ _ (by first | exact hCj | exact Kd.C_drew hCj | exact Kd.C_drewN hCj _) hc0 hlast).mono ?_); rintro e w2 ⟨rfl, nd2, rfl⟩))
            go_wp2
            go_ret2
            exact ⟨rfl, (by repeat (first | exact hJ | (with_reducible refine pw_below_drewN ?_ _) | (with_reducible refine below_drew1 ?_)))⟩
          | true =>
            rw [if_neg (by simp)] at hrr
            have hrr2 : Aside0 (hist_Check.z (l0.drop (i + 1)) (i + 1) (cnt (l0.take (i + 1))) (xs.set cl.toNat false) = (r1, r2)) := ⟨by rw [hcnt]; simpa using hrr⟩
            clear hrr hcnt
            go_wp2_with (first | (go_at_call 29; (with_reducible refine (inquestref14_last.calls kl _ c0 l0 i cl _ _ (by first | exact hCj | exact Kd.C_drew hCj | exact Kd.C_drewN hCj _) hc0 hlast).mono ?_); rintro e w2 ⟨rfl, nd2, rfl⟩))
            go_region_held3 (fun W => W.cell? ⟨wr.heap.size, 1, none⟩ = some (.bool false) ∧ W.cell? ⟨wr.heap.size, 0, none⟩ = some (.int .i64 cl)) (first | assumption | exact ⟨b1, b0⟩) (first | (go_at_call 29; (with_reducible refine (inquestref14_last.calls kl _ c0 l0 i cl _ _ (by first | exact hCj | exact Kd.C_drew hCj | exact Kd.C_drewN hCj _) hc0 hlast).mono ?_); rintro e w2 ⟨rfl, nd2, rfl⟩))
            go_wp2
            go_roundg j
            case measure => omega
            case rel => exact ⟨i + 1, _, (by first | rfl | (rw [hwi]; rfl)), ⟨by have := hk.out; omega⟩, hrr2, by omega, hs, (by repeat (first | exact hJ | (with_reducible refine pw_below_drewN ?_ _) | (with_reducible refine below_drew1 ?_)))⟩
        | true =>
          by_cases cC : op < 0
          · have hb : badE ⟨cl, true, op, va⟩ := .inr (.inr (.inl cC))
            rw [z_bad _ _ _ _ _ hb] at hrr
            obtain ⟨rfl, rfl⟩ : (i : Int) = r1 ∧ (2 : Int) = r2 := by simpa using hrr
            clear hrr hstep hlx hb hcalls hlast hcnt
            have cC' : (0 ≤ op) = False := eq_false (by omega)
            go_wp2
            go_ret2
            exact ⟨rfl, hJ⟩
          have cC' : (0 ≤ op) = True := eq_true (by omega)
          by_cases cD : 16 ≤ op
          · have hb : badE ⟨cl, true, op, va⟩ := .inr (.inr (.inr (.inl cD)))
            rw [z_bad _ _ _ _ _ hb] at hrr
            obtain ⟨rfl, rfl⟩ : (i : Int) = r1 ∧ (2 : Int) = r2 := by simpa using hrr
            clear hrr hstep hlx hb hcalls hlast hcnt
            have cD' : (op ≤ 15) = False := eq_false (by omega)
            go_wp2
            go_ret2
            exact ⟨rfl, hJ⟩
          have cD' : (op ≤ 15) = True := eq_true (by omega)
          have hb : ¬ badE ⟨cl, true, op, va⟩ := by unfold badE; simp; omega
          rw [z_ok _ _ _ _ _ hb, hlx hb] at hrr
          have hs := hstep hb
          clear hstep hlx hb
          by_cases cF : ((cnt (l0.take i) : Nat) : Int) = 64
          · rw [if_pos ⟨rfl, cF⟩] at hrr
            obtain ⟨rfl, rfl⟩ : (i : Int) = r1 ∧ (5 : Int) = r2 := by simpa using hrr
            rw [cF] at hcalls
            clear hrr hs hcnt hlast
            go_wp2_with (first | (go_at_call 28; (with_reducible refine (inquestref14_calls.calls kc _ c0 l0 i _ _ (by first | exact hCj | exact Kd.C_drew hCj | exact Kd.C_drewN hCj _) hc0 hcalls).mono ?_); rintro e w2 ⟨rfl, nd1, rfl⟩))
            go_ret2
            exact ⟨rfl, (by repeat (first | exact hJ | (with_reducible refine pw_below_drewN ?_ _) | (with_reducible refine below_drew1 ?_)))⟩
          have cF' : (((cnt (l0.take i) : Nat) : Int) == 64) = false := by simpa using cF
          rw [if_neg (fun h => cF h.2)] at hrr
          cases lv with
          | false =>
            rw [if_neg (by simp)] at hrr
            have hrr2 : Aside0 (hist_Check.z (l0.drop (i + 1)) (i + 1) (cnt (l0.take (i + 1))) (xs.set cl.toNat true) = (r1, r2)) := ⟨by rw [hcnt]; simpa using hrr⟩
            clear hrr hcnt
            go_wp2_with (first | (go_at_call 28; (with_reducible refine (inquestref14_calls.calls kc _ c0 l0 i _ _ (by first | exact hCj | exact Kd.C_drew hCj | exact Kd.C_drewN hCj _) hc0 hcalls).mono ?_); rintro e w2 ⟨rfl, nd1, rfl⟩) | (go_at_call 29; (with_reducible refine (inquestref14_last.calls kl _ c0 l0 i cl _ _ (by first | exact hCj | exact Kd.C_drew hCj | exact Kd.C_drewN hCj _) hc0 hlast).mono ?_); rintro e w2 ⟨rfl, nd2, rfl⟩))
            go_region_held3 (fun W => W.cell? ⟨wr.heap.size, 1, none⟩ = some (.bool true) ∧ W.cell? ⟨wr.heap.size, 0, none⟩ = some (.int .i64 cl)) (first | assumption | exact ⟨b1, b0⟩) (first | (go_at_call 29; (with_reducible refine (inquestref14_last.calls kl _ c0 l0 i cl _ _ (by first | exact hCj | exact Kd.C_drew hCj | exact Kd.C_drewN hCj _) hc0 hlast).mono ?_); rintro e w2 ⟨rfl, nd2, rfl⟩))
            go_wp2
            go_roundg j
            case measure => omega
            case rel => exact ⟨i + 1, _, (by first | rfl | (rw [hwi]; rfl)), ⟨by have := hk.out; omega⟩, hrr2, by omega, hs, (by repeat (first | exact hJ | (with_reducible refine pw_below_drewN ?_ _) | (with_reducible refine below_drew1 ?_)))⟩
          | true =>
            rw [if_pos rfl] at hrr
            obtain ⟨rfl, rfl⟩ : (i : Int) = r1 ∧ (20 : Int) = r2 := by simpa using hrr
            clear hrr hs hcnt
            go_wp2_with (first | (go_at_call 28; (with_reducible refine (inquestref14_calls.calls kc _ c0 l0 i _ _ (by first | exact hCj | exact Kd.C_drew hCj | exact Kd.C_drewN hCj _) hc0 hcalls).mono ?_); rintro e w2 ⟨rfl, nd1, rfl⟩) | (go_at_call 29; (with_reducible refine (inquestref14_last.calls kl _ c0 l0 i cl _ _ (by first | exact hCj | exact Kd.C_drew hCj | exact Kd.C_drewN hCj _) hc0 hlast).mono ?_); rintro e w2 ⟨rfl, nd2, rfl⟩))
            go_region_held3 (fun W => W.cell? ⟨wr.heap.size, 1, none⟩ = some (.bool true) ∧ W.cell? ⟨wr.heap.size, 0, none⟩ = some (.int .i64 cl)) (first | assumption | exact ⟨b1, b0⟩) (first | (go_at_call 29; (with_reducible refine (inquestref14_last.calls kl _ c0 l0 i cl _ _ (by first | exact hCj | exact Kd.C_drew hCj | exact Kd.C_drewN hCj _) hc0 hlast).mono ?_); rintro e w2 ⟨rfl, nd2, rfl⟩))
            go_wp2
            go_ret2
            exact ⟨rfl, (by repeat (first | exact hJ | (with_reducible refine pw_below_drewN ?_ _) | (with_reducible refine below_drew1 ?_)))⟩
      · obtain rfl : i = l0.length := by omega
        have hrr := hz.out
        rw [List.drop_of_length_le (Nat.le_refl _)] at hrr
        unfold hist_Check.z at hrr
        obtain ⟨rfl, rfl⟩ : (0 : Int) = r1 ∧ (0 : Int) = r2 := by simpa using hrr
        clear hrr hz h
        go_wp2
        go_ret2
        exact ⟨rfl, hI⟩
  · rw [if_neg hlen] at h; exact absurd h (by simp)

/-! ### inquestref01_Var: function 37 -/
def inquestref01_Var.f : Nat → Int → Option (List Int)
  | 0, _ => none
  | k + 1, a0 => if a0 < 128 then (some (([(a0) % 256] : List Int))) else ((some (([(IntKind.u64.wrap (128 + (Int.tmod a0 128))) % 256] : List Int) : List Int)).bind fun y172 => ((inquestref01_Var.f k (IntKind.u64.wrap (Int.tdiv a0 128))).bind fun t175 => (if y172.length + t175.length < 140737488355328 then (some (y172 ++ t175)) else (none))))
theorem inquestref01_Var.mono_l : ∀ k, (∀ y0, LeO (inquestref01_Var.f k y0) (inquestref01_Var.f (k + 1) y0))
  | 0 => fun _ r h => by simp [inquestref01_Var.f] at h
  | k + 1 => by
    have ih0 := inquestref01_Var.mono_l k
    · intro y0
      unfold inquestref01_Var.f
      repeat' first
      | (with_reducible exact ih0 _)
      | (with_reducible exact LeO.refl _)
      | (with_reducible exact LeO.none _)
      | (with_reducible refine LeO.ite ?_ ?_)
      | (with_reducible refine LeO.bind ?_ (fun _ => ?_))
      | exact ih0 _
      | exact LeO.none _
      | refine LeO.ite ?_ ?_
      | refine LeO.bind ?_ (fun _ => ?_)
theorem inquestref01_Var.mono : ∀ a0 k, LeO (inquestref01_Var.f k a0) (inquestref01_Var.f (k + 1) a0) := by
  intro a0 k
  have ih0 := inquestref01_Var.mono_l k
  exact ih0 a0
set_option maxHeartbeats 8000000 in
set_option maxRecDepth 100000 in
theorem inquestref01_Var.calls (k : Nat) : ∀ (a0 : Int) (r : List Int) (w : World) (h : inquestref01_Var.f k a0 = some r),
    Calls Try.prog 37 #[.int .u64 a0] w fun e w' => ∃ v0_ : Value, e = .returned (v0_) ∧ Kd.R (Kd.int .u8) 5 w' w.heap.size (fun _ => True) v0_ r ∧ Below w.heap.size w w' := by
  induction k using Nat.strongRecOn with
  | _ k ih =>
  intro a0 r w h
  cases k with
  | zero => exact absurd h (by simp [inquestref01_Var.f])
  | succ k =>
  simp only [inquestref01_Var.f] at h
  have HB := Aside0.mk (Below.refl w.heap.size w)
  have H : (if a0 < 128 then (some (([(a0) % 256] : List Int))) else ((some (([(IntKind.u64.wrap (128 + (Int.tmod a0 128))) % 256] : List Int) : List Int)).bind fun y172 => ((inquestref01_Var.f k (IntKind.u64.wrap (Int.tdiv a0 128))).bind fun t175 => (if y172.length + t175.length < 140737488355328 then (some (y172 ++ t175)) else (none))))) = some r := h
  clear h
  by_cases c2 : a0 < 128
  · rw [if_pos c2] at H
    have c2b0 : decide (a0 < 128) = true := decide_eq_true c2
    clear c2
    obtain ⟨y169, hy169⟩ : ∃ y_ : List Int, y_ = (([(a0) % 256] : List Int)) := ⟨_, rfl⟩
    replace H : (some y169) = some r := by first | (rw [hy169]; with_reducible exact H) | (have H2_ := (Option.bind_some _ _).symm.trans H; rw [hy169]; with_reducible exact H2_) | (have H2_ := (Option.bind_some _ _).symm.trans H; with_reducible exact H2_) | with_reducible exact H | (rw [hy169]; exact H) | exact H
    have Ny169 := Aside0.mk hy169
    clear hy169
    obtain rfl := Option.some.inj H
    go_enter Try.func37, Try.ntmps37
    go_wp2_with (first | ((with_reducible refine gate_dst (N := 7) rfl ?_); refine Kd.R_lit (Kd.int .u8) _ 5 ?hg (N := 7) ?hd (xs := ([(a0) % 256] : List Int)) (inner := [.int .u8 ((a0) % 256)]) (ok := fun _ => True) (okp := fun _ => True) ?hr ?hp (fun _ hk => hk) trivial (Below.refl _ _) (Nat.le_refl _) (by simp) ?_; (case hd => rfl); (case hg => rfl); (case hr => first | (go_simp; done) | (go_simp; rfl)); (case hp => exact (Reps.one (show Kd.M (Kd.int .u8) _ _ _ ((a0) % 256) [.int .u8 ((a0) % 256)] from rfl) (Reps.none _ _))); intro v170 w3 ho4 hb hg_ hnew_; clear hg_ hnew_; (first | rw [← Ny169.out] at ho4 | (simp only [Int.reduceToNat] at ho4; rw [← Ny169.out] at ho4)); have n0_ := Aside0.mk (Kd.R_lower ho4 (below_size (by repeat (first | (with_reducible first | exact HB.out | apply below_alloc | apply pw_below_drewN | apply below_drew1) | exact HB.out)))); have n1_ := Aside0.mk (below_step (by repeat (first | (with_reducible first | exact HB.out | apply below_alloc | apply pw_below_drewN | apply below_drew1) | exact HB.out)) hb); clear HB; have HO171 := n0_; have HB := n1_; clear n0_ n1_; clear hb ho4))
    go_ret
    exact ⟨_, by first | rfl | (simp [errW_none, errW_some] <;> rfl) | (simp [*, errW_none, errW_some] <;> rfl), by (with_reducible repeat (first | apply Kd.R_alloc | apply Kd.R_drewN | apply Kd.R_drew)); exact HO171.out, by repeat (first | (with_reducible first | exact HB.out | apply below_alloc | apply pw_below_drewN | apply below_drew1) | exact HB.out)⟩
  · rw [if_neg c2] at H
    have c2b0 : decide (a0 < 128) = false := decide_eq_false c2
    clear c2
    obtain ⟨y172, hy172⟩ : ∃ y_ : List Int, y_ = (([(IntKind.u64.wrap (128 + (Int.tmod a0 128))) % 256] : List Int)) := ⟨_, rfl⟩
    replace H : ((inquestref01_Var.f k (IntKind.u64.wrap (Int.tdiv a0 128))).bind fun t175 => (if y172.length + t175.length < 140737488355328 then (some (y172 ++ t175)) else (none))) = some r := by first | (rw [hy172]; with_reducible exact H) | (have H2_ := (Option.bind_some _ _).symm.trans H; rw [hy172]; with_reducible exact H2_) | (have H2_ := (Option.bind_some _ _).symm.trans H; with_reducible exact H2_) | with_reducible exact H | (rw [hy172]; exact H) | exact H
    have Ny172 := Aside0.mk hy172
    clear hy172
    replace H := Option.bind_eq_some_iff.mp H
    obtain ⟨t175, A50, H⟩ := H
    replace H : (if y172.length + t175.length < 140737488355328 then (some (y172 ++ t175)) else (none)) = some r := H
    have A5 := Aside0.mk A50
    clear A50
    by_cases c6 : y172.length + t175.length < 140737488355328
    · rw [if_pos c6] at H
      have LMc6 := Aside0.mk c6
      clear c6
      obtain ⟨y178, hy178⟩ : ∃ y_ : List Int, y_ = (y172 ++ t175) := ⟨_, rfl⟩
      replace H : (some y178) = some r := by first | (rw [hy178]; with_reducible exact H) | (have H2_ := (Option.bind_some _ _).symm.trans H; rw [hy178]; with_reducible exact H2_) | (have H2_ := (Option.bind_some _ _).symm.trans H; with_reducible exact H2_) | with_reducible exact H | (rw [hy178]; exact H) | exact H
      have Ny178 := Aside0.mk hy178
      clear hy178
      obtain rfl := Option.some.inj H
      go_enter Try.func37, Try.ntmps37
      go_wp2_with (first | ((with_reducible refine gate_dst (N := 12) rfl ?_); refine Kd.R_lit (Kd.int .u8) _ 5 ?hg (N := 12) ?hd (xs := ([(IntKind.u64.wrap (128 + (Int.tmod a0 128))) % 256] : List Int)) (inner := [.int .u8 ((IntKind.u64.wrap (128 + (Int.tmod a0 128))) % 256)]) (ok := fun _ => True) (okp := fun _ => True) ?hr ?hp (fun _ hk => hk) trivial (Below.refl _ _) (Nat.le_refl _) (by simp) ?_; (case hd => rfl); (case hg => rfl); (case hr => first | (go_simp; done) | (go_simp; rfl)); (case hp => exact (Reps.one (show Kd.M (Kd.int .u8) _ _ _ ((IntKind.u64.wrap (128 + (Int.tmod a0 128))) % 256) [.int .u8 ((IntKind.u64.wrap (128 + (Int.tmod a0 128))) % 256)] from rfl) (Reps.none _ _))); intro v173 w7 ho8 hb hg_ hnew_; clear hg_ hnew_; (first | rw [← Ny172.out] at ho8 | (simp only [Int.reduceToNat] at ho8; rw [← Ny172.out] at ho8)); have n0_ := Aside0.mk (Kd.R_lower ho8 (below_size (by repeat (first | (with_reducible first | exact HB.out | apply below_alloc | apply pw_below_drewN | apply below_drew1) | exact HB.out)))); have n1_ := Aside0.mk (below_step (by repeat (first | (with_reducible first | exact HB.out | apply below_alloc | apply pw_below_drewN | apply below_drew1) | exact HB.out)) hb); clear HB; have HO174 := n0_; have HB := n1_; clear n0_ n1_; clear hb ho8) | ((with_reducible refine gate_callee (f := 37) rfl ?_); refine goesL_ (some 15) rfl rfl Try.func37 (by kernel_rfl) rfl #[.int .u64 (IntKind.u64.wrap (Int.tdiv a0 128))] rfl (by (try simp only [List.map_toArray, List.map_cons, List.map_nil]); first | done | rfl | (simp only [List.length_drop, List.length_take]; rfl)) ?_; (with_reducible refine (ih k (by omega) (IntKind.u64.wrap (Int.tdiv a0 128)) t175 _ A5.out).mono ?_); rintro e w9 ⟨v176, rfl, ho0, hb⟩; refine ⟨_, rfl, ?_⟩; have n0_ := Aside0.mk (Kd.R_elder' (by (with_reducible repeat (first | apply Kd.R_alloc | apply Kd.R_drewN | apply Kd.R_drew)); exact HO174.out) (Kd.R_base ho0) hb); have n1_ := Aside0.mk (Kd.R_lower (Kd.R_new' ho0 (Kd.R_lt (by (with_reducible repeat (first | apply Kd.R_alloc | apply Kd.R_drewN | apply Kd.R_drew)); exact HO174.out))) (below_size (by repeat (first | (with_reducible first | exact HB.out | apply below_alloc | apply pw_below_drewN | apply below_drew1) | exact HB.out)))); have n2_ := Aside0.mk (below_step (by repeat (first | (with_reducible first | exact HB.out | apply below_alloc | apply pw_below_drewN | apply below_drew1) | exact HB.out)) hb); clear HO174; clear HB; have HO174 := n0_; have HO177 := n1_; have HB := n2_; clear n0_ n1_ n2_; (try clear hb); (try clear hb2); (try clear hk); (try clear hi); (try clear ho0); obtain ⟨Ao11, co11, eo11⟩ := Kd.R_slice HO177.out; subst eo11) | ((with_reducible refine gate_builtin (b := .append) (xs := #[.tmp 12, .tmp 15]) rfl ?_); at_builtin; refine Kd.R_append_rows (Kd.int .u8) (w0 := w) w.heap.size rfl (.tmp 12) (.tmp 15) 47 5 (.int .u8 0) 1 rfl Try.underlying47 info5 rfl (by decide) (by omega) v173 y172 t175 _ _ _ (fun k_ => some k_ ≠ (.slice Ao11 t175.length co11 : Value).ownBlock) (fun _ => False) rfl rfl ?aO ?aR (fun _ _ h => h) (fun _ h => h.elim) ?aF ?aB ?aS ?aL ?_; (case aR => repeat (first | exact (Kd.R_reads' HO177.out).2.2 | (with_reducible refine Kd.C_alloc ?_ _) | (with_reducible refine Kd.C_drewN ?_ _) | (with_reducible refine Kd.C_drew ?_))); (case aB => exact (by repeat (first | (with_reducible first | exact HB.out | apply below_alloc | apply pw_below_drewN | apply below_drew1) | exact HB.out))); (case aF => exact (fun k_ hk => Kd.fresh' (Kd.R_lt (by (with_reducible repeat (first | apply Kd.R_alloc | apply Kd.R_drewN | apply Kd.R_drew)); exact HO177.out)) k_ hk)); (case aO => exact (by (with_reducible repeat (first | apply Kd.R_alloc | apply Kd.R_drewN | apply Kd.R_drew)); exact Kd.R_mono HO174.out (fun _ hk => hk.2))); (case aS => exact (below_size (by repeat (first | (with_reducible first | exact HB.out | apply below_alloc | apply pw_below_drewN | apply below_drew1) | exact HB.out)))); (case aL => have := LMc6.out; omega); intro v179 w10 ho hb hg hat; rw [← Ny178.out] at ho; have n0_ := Aside0.mk (Kd.R_after (ok := (fun _ => True)) (by (with_reducible repeat (first | apply Kd.R_alloc | apply Kd.R_drewN | apply Kd.R_drew)); exact HO177.out) hg hat); have n1_ := Aside0.mk (hb); have n2_ := Aside0.mk (ho); clear HO177; clear HB; clear HO174; have HO177 := n0_; have HB := n1_; have HO180 := n2_; clear n0_ n1_ n2_; clear ho hb hg hat))
      go_ret
      exact ⟨_, by first | rfl | (simp [errW_none, errW_some] <;> rfl) | (simp [*, errW_none, errW_some] <;> rfl), by (with_reducible repeat (first | apply Kd.R_alloc | apply Kd.R_drewN | apply Kd.R_drew)); exact Kd.R_mono HO180.out (fun _ hk => trivial), by repeat (first | (with_reducible first | exact HB.out | apply below_alloc | apply pw_below_drewN | apply below_drew1) | exact HB.out)⟩
    · rw [if_neg c6] at H
      exact absurd H (by simp)

/-! ### inquestref01_Zig: function 38 -/
def inquestref01_Zig.f (a0 : Int) : Option (Int) := if a0 ≥ 0 then (some (IntKind.u64.wrap (2 * (IntKind.u64.wrap (a0))))) else (some (IntKind.u64.wrap ((IntKind.u64.wrap (2 * (IntKind.u64.wrap (wrap64 (-(wrap64 (a0 + 1))))))) + 1)))
set_option maxHeartbeats 8000000 in
set_option maxRecDepth 100000 in
theorem inquestref01_Zig.calls (a0 : Int) (r : Int) (w : World) (h : inquestref01_Zig.f a0 = some r) :
    Calls Try.prog 38 #[.int .i64 a0] w fun e w' => e = .returned (.int .u64 r) ∧ Drawn0 w w' := by
  have H : (if a0 ≥ 0 then (some (IntKind.u64.wrap (2 * (IntKind.u64.wrap (a0))))) else (some (IntKind.u64.wrap ((IntKind.u64.wrap (2 * (IntKind.u64.wrap (wrap64 (-(wrap64 (a0 + 1))))))) + 1)))) = some r := h
  clear h
  by_cases c2 : a0 ≥ 0
  · rw [if_pos c2] at H
    have c2b0 : decide (0 ≤ a0) = true := decide_eq_true c2
    clear c2
    obtain rfl := Option.some.inj H
    go_enter Try.func38, Try.ntmps38
    go_wp2
    go_ret
    exact ⟨by first | rfl | (simp; done) | (simp [*]; done), by repeat (first | exact Drawn0.refl _ | apply Drawn0.step)⟩
  · rw [if_neg c2] at H
    have c2b0 : decide (0 ≤ a0) = false := decide_eq_false c2
    clear c2
    obtain rfl := Option.some.inj H
    go_enter Try.func38, Try.ntmps38
    go_wp2
    go_ret
    exact ⟨by first | rfl | (simp; done) | (simp [*]; done), by repeat (first | exact Drawn0.refl _ | apply Drawn0.step)⟩

end Go.Proofs.Ytofhghpahmeolaa.PHistTexts
