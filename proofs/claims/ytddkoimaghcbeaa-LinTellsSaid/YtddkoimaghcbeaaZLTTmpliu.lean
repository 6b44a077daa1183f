/- A part of what the law LinTells stands on, only as far as it is needed (the words and walks were printed or written in this seat; this text was cut by a program of this session, wip/bin/trim.py). No condition beyond what each theorem says. -/
import Derived.Test.YtddkoimaghcbeaaZLTPVmStepsx0
import Derived.Test.YtddkoimaghcbeaaZLTPVmStepsx2
import Derived.Test.YtddkoimaghcbeaaZLTPVmStepsx3
import Derived.Test.YtddkoimaghcbeaaZLTPVmStepsx4
import Derived.Test.YtddkoimaghcbeaaZLTPVmStepsx5
import Derived.Test.YtddkoimaghcbeaaZLTPVmStepsx6
import Derived.Test.YtddkoimaghcbeaaZLTTmplir
namespace Go.Proofs.Ytddkoimaghcbeaa.PVmSteps
open Go.RowKit Go.Proofs.YtddkoimaghcbeaaW.PrintWords Go.Proofs.YtddkoimaghcbeaaW.PrintLast Go.Proofs.YtddkoimaghcbeaaW.PrintMore
set_option linter.unusedVariables false
set_option linter.unusedSimpArgs false
theorem lin_info145 : (Try.prog.info? 145).map (fun i => (i.zero, i.size, i.bytes)) = some (some (.agg #[.int .u64 0, .int .i64 0, .int .i64 0, .int .i64 0, .int .i64 0, .int .i64 0]), 6, 48) := by kernel_rfl
theorem lin_lit1 (w : World) (v0 v1 v2 v3 v4 v5 : Value) : (Instr.buildSlice 85 1 #[(0, .agg #[v0, v1, v2, v3, v4, v5])]).run Try.prog w = .ok (.slice (some ⟨w.heap.size, 0, none⟩) 1 1) (w.alloc (.cells #[v0, v1, v2, v3, v4, v5] 145)) := by kernel_rfl
theorem lin_fr0 (w : World) (v0 v1 v2 v3 v4 : Value) : (Instr.build 145 #[(0, .agg #[v0, v1, v2, v3, v4])]).run Try.prog w = .ok (.agg #[v0, v1, v2, v3, v4, .int .i64 0]) w := by kernel_rfl
set_option maxRecDepth 100000 in
set_option maxHeartbeats 8000000 in
theorem lin_enter {w0 W : World} {q : LinQ} {g gm bm : Nat} {vM vO vA vL vR : Value} {st : LinS} (h : LinM w0 W q g gm bm vM vO vA vL vR st) (p : Ps) (hp : p.1 < 2 ^ 64) (hn : q.ops.length ≤ 64) (hl : st.l.length ≤ 1073741824) :
    Calls Try.prog 66 #[.pointer (some ⟨g, 0, none⟩), psV p] W fun e w' => e = .returned (.tuple #[]) ∧ ∃ vL', LinM w0 w' q g gm bm vM vO vA vL' vR (enterZ q st p) := by
  unfold psV
  have h0 := Aside0.mk h
  have hlb : Aside0 ((st.l.reverse.length + 1) * 48 ≤ 140737488355328) := ⟨by simp; omega⟩
  replace hl := Aside0.mk hl
  have hand := u_and p.1 (mustZ q.ops) hp (mask_lt64 _ hn)
  clear h hp hn
  go_enter Try.func66, Try.ntmps66
  go_wp2
  refine vm_gen _ (fun W1 => Below W.heap.size W W1 ∧ W1.heap[W.heap.size]? = some (Obj.cells (psC p).toArray 114 (0, 0))) ⟨by repeat (first | exact Below.refl _ _ | apply pw_below_drewN | apply below_alloc), by first | exact blk_new _ _ | trace_state⟩ ?_
  rintro W1 ⟨hB1, hgp⟩
  have hM1 := Aside0.mk (h0.out.came (below_step hB1 (below_drew (Below.refl _ _))))
  have hcel : Aside0 (∀ W_ : World, Below W1.drew.heap.size W1.drew W_ → W_.cell? ⟨g, 7, none⟩ = some vL ∧ (W_.cell? ⟨W.heap.size, 0, none⟩ = some (.int .u64 (p.1 : Int)) ∧ W_.cell? ⟨W.heap.size, 1, none⟩ = some (.int .i64 (rdOf 0 p.2 0)) ∧ W_.cell? ⟨W.heap.size, 2, none⟩ = some (.int .i64 (rdOf 0 p.2 1)) ∧ W_.cell? ⟨W.heap.size, 3, none⟩ = some (.int .i64 (rdOf 0 p.2 2)) ∧ W_.cell? ⟨W.heap.size, 4, none⟩ = some (.int .i64 (rdOf 0 p.2 3)))) := ⟨fun W_ hb => ⟨(hM1.out.cells W_ hb).2.2.2.2.2.2.2.1, by
    have h2 := blk_below (show W1.drew.heap[W.heap.size]? = _ from hgp) hb
    exact ⟨blk_cell h2 0, blk_cell h2 1, blk_cell h2 2, blk_cell h2 3, blk_cell h2 4⟩⟩⟩
  have hRL := Aside0.mk hM1.out.hL
  have hrow : Aside0 (∀ k, vL.ownBlock = some k → k < W1.drew.heap.size) := ⟨fun k hk => by obtain ⟨cs, hc⟩ := Kd.R_row hRL.out k hk; exact blk_lt hc⟩
  have hgne : Aside0 (some g ≠ vL.ownBlock) := ⟨fun e => by obtain ⟨cs, hc⟩ := Kd.R_row hRL.out g e.symm; exact blk_ne hM1.out.hk hc (by decide) rfl⟩
  have hcg : Aside0 (∀ W_ : World, W1.drew.grownBy W_ vL.ownBlock → W_.cell? ⟨g, 7, none⟩ = some vL ∧ W_.frozen? ⟨g, 7, none⟩ = false) := ⟨fun W_ hg => by
    have hk := blk_grown hM1.out.hk hg hgne.out
    exact ⟨blk_cell hk 7, blk_frozen hk 7⟩⟩
  have hgp2 : Aside0 (some W.heap.size ≠ vL.ownBlock) := ⟨fun e => by obtain ⟨cs, hc⟩ := Kd.R_row hRL.out _ e.symm; exact blk_ne (show W1.drew.heap[W.heap.size]? = _ from hgp) hc (by decide) rfl⟩
  replace hgp := Aside0.mk hgp
  clear hB1
  go_wp2
  refine region_by (fun b us W_ => EntC W1.drew g w0.heap.size vL st.l.reverse (p, 0) b us W_) (by kernel_rfl) (by kernel_rfl) ⟨fun _ => undef, EntC.start _ _ _ _ _ _ _⟩ ?_
  iterate 4 (refine rb_want (fun us => rfl) ?_; apply Exists.intro; apply And.intro; (focus (apply rb_pure; (focus (intro b us w h; exact h.off (by decide) (by decide) (by decide))); intro b us W_ hC; go_simp; rfl)); apply Exists.intro; apply And.intro; (focus (intro us; simp only [Act.put, List.setIfInBounds_toArray, List.set_cons_zero, List.set_cons_succ]; rfl)))
  (refine rb_want (fun us => rfl) ?_; apply Exists.intro; apply And.intro; (focus (apply rb_read; (focus (intro b us w h; exact h.off (by decide) (by decide) (by decide))); intro b us W_ hb hon hC; have y := (hC.early (hC.e8 (.inl rfl) hb)).1; have k7 := (hcel.out W_ y).1; first | (go_simp; done) | (go_simp; rfl))); apply Exists.intro; apply And.intro; (focus (intro us; simp only [Act.put, List.setIfInBounds_toArray, List.set_cons_zero, List.set_cons_succ]; rfl)))
  (refine rb_want (fun us => rfl) ?_; apply Exists.intro; apply And.intro; (focus (apply rb_read; (focus (intro b us w h; exact h.off (by decide) (by decide) (by decide))); intro b us W_ hb hon hC; have y := (hC.early (hC.e8 (.inr (.inl rfl)) hb)).1; have k7 := (hcel.out W_ y).2; obtain ⟨k0, k1, k2, k3, k4⟩ := k7; first | (go_simp; done) | (go_simp; rfl))); apply Exists.intro; apply And.intro; (focus (intro us; simp only [Act.put, List.setIfInBounds_toArray, List.set_cons_zero, List.set_cons_succ]; rfl)))
  (refine rb_want (fun us => rfl) ?_; apply Exists.intro; apply And.intro; (focus (apply rb_pure; (focus (intro b us w h; exact h.off (by decide) (by decide) (by decide))); intro b us W_ hC; have y := lin_fr0 W_; go_simp; rfl)); apply Exists.intro; apply And.intro; (focus (intro us; simp only [Act.put, List.setIfInBounds_toArray, List.set_cons_zero, List.set_cons_succ]; rfl)))
  (refine rb_open (fun us => rfl) (rb_new (fun b us W_ hb hon hC => ?_)) ?_; (focus (refine ⟨.slice (some ⟨W_.heap.size, 0, none⟩) 1 1, W_.alloc (.cells (frC (p, 0)).toArray 145), ?_, hC.new hb⟩; have y := lin_lit1 W_; unfold frC; first | (go_simp; done) | (go_simp; rfl))); apply Exists.intro; apply And.intro; (focus (intro us; simp only [Act.put, List.setIfInBounds_toArray, List.set_cons_zero, List.set_cons_succ]; rfl)))
  (refine rb_open (fun us => rfl) (rb_new (fun b us W_ hb hon hC => ?_)) ?_; (focus (have h4 := hon 4 (by decide) (by decide); have h5 := hon 5 (by decide) (by decide); have h7 := hon 7 (by decide) (by decide); obtain ⟨hB_, hbx⟩ := hC.early hb; obtain ⟨gb, egb, hgb⟩ := hbx h7; exact Kd.run_append_k kFr w0.heap.size (.tmp 8) (.tmp 11) 85 145 _ 48 (by rfl) Try.underlying85 lin_info145 (by rfl) (by decide) (by decide) vL st.l.reverse (p, 0) (frC (p, 0)) (fun _ => True) (fun _ => False) (by rfl) gb (by exact egb) hgb (by rfl) (fun _ hk => hk.elim) (fun _ _ => trivial) (Kd.R_below hRL.out hB_) (Nat.le_trans hM1.out.hB.size hB_.size) hlb.out (fun v1 w1 hR hg => hC.app h4 h5 h7 hb hR hg hrow.out))); apply Exists.intro; apply And.intro; (focus (intro us; simp only [Act.put, List.setIfInBounds_toArray, List.set_cons_zero, List.set_cons_succ]; rfl)))
  iterate 2 (refine rb_want (fun us => rfl) ?_; apply Exists.intro; apply And.intro; (focus (apply rb_pure; (focus (intro b us w h; exact h.off (by decide) (by decide) (by decide))); intro b us W_ hC; go_simp; rfl)); apply Exists.intro; apply And.intro; (focus (intro us; simp only [Act.put, List.setIfInBounds_toArray, List.set_cons_zero, List.set_cons_succ]; rfl)))
  (refine rb_want (fun us => rfl) ⟨undef, rb_store (fun b us W_ hb hon hC => ?_), ?_⟩; (focus (have h8 := hon 8 (by decide) (by decide); obtain ⟨y1, y2⟩ := hC.at h8 hb; obtain ⟨k7, v7⟩ := hcg.out W_ y1; refine ⟨W_.setCell ⟨g, 7, none⟩ (us 8), ?_, hC.put h8 hb⟩; obtain ⟨A9, c9, e9⟩ := Kd.R_slice y2; rw [e9]; first | (go_simp; done) | (go_simp; rfl))); apply Exists.intro; apply And.intro; (focus (intro us; simp only [Act.put, List.setIfInBounds_toArray, List.set_cons_zero, List.set_cons_succ]; rfl)))
  refine rb_done (fun b us W_ hall hC => ?_)
  obtain ⟨W8, hg8, hR8, hW_⟩ := hC.late (hall 8 (by decide))
  rw [if_pos (hall 11 (by decide))] at hW_
  subst hW_
  try dsimp only
  generalize us 8 = v8 at *
  generalize us 7 = v7 at *
  clear hC hall
  clear us b
  have hM8 := Aside0.mk (hM1.out.pushL hg8 hR8)
  have hgp3 : Aside0 ((W8.setCell ⟨g, 7, none⟩ v8).heap[W.heap.size]? = some (Obj.cells (psC p).toArray 114 (0, 0))) := ⟨by
    have a1 := blk_grown (show W1.drew.heap[W.heap.size]? = _ from hgp.out) hg8 hgp2.out
    exact (Below.heap_setCell _ _ _ _ (blk_ne (show W1.drew.heap[W.heap.size]? = _ from hgp.out) hM1.out.hk (by decide))).trans a1⟩
  clear hg8 hR8 hcel hcg
  refine vm_gen _ (fun W_ => LinM w0 W_ q g gm bm vM vO vA v8 vR { st with l := (p, 0) :: st.l } ∧ W_.heap[W.heap.size]? = some (Obj.cells (psC p).toArray 114 (0, 0))) ⟨hM8.out, hgp3.out⟩ ?_
  rintro W5 ⟨hM5, hp5⟩
  replace hM5 := Aside0.mk hM5
  obtain ⟨c0, c1, c2, c3, c4, c5, c6, c7, c8, c9, c10, c11⟩ := hM5.out.cells W5 (Below.refl _ _)
  have p0 := blk_cell hp5 0
  simp only [psC, List.getElem?_toArray, List.getElem?_cons_zero] at p0
  clear hM8 hgp3 hp5 hgp hgp2 hgne hrow hRL c0 c1 c2 c3 c4 c6 c7 c8 c9 c10 c11 hM1
  by_cases hc : p.1 &&& mustZ q.ops = mustZ q.ops
  · have hz : enterZ q st p = { st with l := (p, 0) :: st.l, over := true, kind := 1 } := by unfold enterZ; rw [if_pos hc]
    replace hz := Aside0.mk hz
    rw [hc] at hand
    clear hc
    go_wp2
    go_quiet (fail)
    go_wp2_with (first | (go_at_call 69; (with_reducible refine (lin_ends (hM5.out.came (by repeat (first | exact Below.refl _ _ | apply pw_below_drewN))) 1).mono ?_); rintro e W6 ⟨rfl, hM6⟩; replace hM6 := Aside0.mk hM6))
    go_end0
    rw [hz.out]
    exact ⟨rfl, _, hM6.out⟩
  · have hz : enterZ q st p = { st with l := (p, 0) :: st.l } := by unfold enterZ; rw [if_neg hc]
    replace hz := Aside0.mk hz
    have hc2 : (((p.1 &&& mustZ q.ops : Nat) : Int) == ((mustZ q.ops : Nat) : Int)) = false := by
      rw [beq_eq_false_iff_ne]
      intro e; exact hc (by omega)
    clear hc
    go_wp2
    go_quiet (fail)
    go_wp2
    go_end0
    rw [hz.out]
    exact ⟨rfl, _, hM5.out.came (by repeat (first | exact Below.refl _ _ | apply pw_below_drewN))⟩
end Go.Proofs.Ytddkoimaghcbeaa.PVmSteps
