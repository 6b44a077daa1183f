/- A part of the proofs about layers 16 to 18 (vm, order, lin) and their references: contracts and plain lemmas that the laws stand on. No condition beyond what each theorem says. -/
import Derived.Test.YtddkoimaghcbeaaPVmStepsx1
import Derived.Test.YtddkoimaghcbeaaPVmStepsx2
import Derived.Test.YtddkoimaghcbeaaPVmStepsx3
import Derived.Test.YtddkoimaghcbeaaPVmStepsx4
import Derived.Test.YtddkoimaghcbeaaPVmStepsx5
import Derived.Test.YtddkoimaghcbeaaPVmStepsx6
import Derived.Test.YtddkoimaghcbeaaTmpvmu
import Derived.Test.YtddkoimaghcbeaaTmpvms
namespace Go.Proofs.Ytddkoimaghcbeaa.PVmSteps
open Go.RowKit Go.Proofs.YtddkoimaghcbeaaW.PrintWords Go.Proofs.YtddkoimaghcbeaaW.PrintLast Go.Proofs.YtddkoimaghcbeaaW.PrintMore
set_option linter.unusedVariables false
set_option linter.unusedSimpArgs false
/-- A call's cells, in any later world. -/
theorem call_cells {WX : World} {bx : Nat} {c0 c1 c2 c3 kind fuel arg : Int} {T : Nat} (h : WX.heap[bx]? = some (.cells #[.int .i64 c0, .int .i64 c1, .int .i64 c2, .int .i64 c3, .int .i64 kind, .int .i64 fuel, .int .i64 arg] T (0, 0))) (W_ : World) (hb : Below WX.heap.size WX W_) :
    (W_.cell? ⟨bx, 0, none⟩ = some (.int .i64 c0) ∧ W_.cell? ⟨bx, 1, none⟩ = some (.int .i64 c1) ∧ W_.cell? ⟨bx, 2, none⟩ = some (.int .i64 c2) ∧ W_.cell? ⟨bx, 3, none⟩ = some (.int .i64 c3) ∧ W_.cell? ⟨bx, 4, none⟩ = some (.int .i64 kind) ∧ W_.cell? ⟨bx, 5, none⟩ = some (.int .i64 fuel) ∧ W_.cell? ⟨bx, 6, none⟩ = some (.int .i64 arg)) := by
  have h2 := blk_below h hb
  exact ⟨blk_cell h2 0, blk_cell h2 1, blk_cell h2 2, blk_cell h2 3, blk_cell h2 4, blk_cell h2 5, blk_cell h2 6⟩
/-- What holds inside the drawn statement. -/
structure NbC (WX : World) (b : Nat → Bool) (us : Nat → Value) (W : World) : Prop where
  hB : Below WX.heap.size WX W
  h14 : b 14 = true → ∃ g, us 14 = .pointer (some ⟨g, 0, none⟩) ∧ W.heap[g]? = some (.cells #[.slice none 0 0] 53 (0, 0))
theorem NbC.off {WX W : World} {b : Nat → Bool} {us : Nat → Value} {i : Nat} (h : NbC WX b us W) (hi : 14 ≠ i) : NbC WX (up b i) us W := ⟨h.hB, fun h14 => h.h14 ((up_off hi).symm.trans h14)⟩
theorem NbC.came {WX W W' : World} {b : Nat → Bool} {us : Nat → Value} (h : NbC WX b us W) (hb : Below W.heap.size W W') : NbC WX b us W' := ⟨below_step h.hB hb, fun h14 => let ⟨g, e, hg⟩ := h.h14 h14; ⟨g, e, blk_below hg hb⟩⟩
theorem NbC.new14 {WX W : World} {b : Nat → Bool} {us : Nat → Value} (h : NbC WX b us W) : NbC WX (up b 14) (usUp us 14 (.pointer (some ⟨W.heap.size, 0, none⟩))) (W.alloc (.cells #[.slice none 0 0] 53)) := ⟨below_step h.hB (below_alloc (Below.refl _ _) _), fun _ => ⟨_, rfl, blk_new _ _⟩⟩
set_option maxRecDepth 100000 in
set_option maxHeartbeats 2000000 in
theorem inquestlaw16_VmNobody.any (c0 c1 c2 c3 kind fuel arg : Int) (w : World) (_ : (Lit.int .i64 c0).wf = true) (_ : (Lit.int .i64 c1).wf = true) (_ : (Lit.int .i64 c2).wf = true) (_ : (Lit.int .i64 c3).wf = true) (_ : (Lit.int .i64 kind).wf = true) (_ : (Lit.int .i64 fuel).wf = true) (_ : (Lit.int .i64 arg).wf = true) : Calls Try.prog 9 #[.agg #[.int .i64 c0, .int .i64 c1, .int .i64 c2, .int .i64 c3, .int .i64 kind, .int .i64 fuel, .int .i64 arg]] w fun e w' => e = .returned (.bool true) ∧ Below w.heap.size w w' := by
  have hu := Try.underlying53
  go_enter Try.func9, Try.ntmps9
  go_wp2
  refine vm_gen _ (fun W => W.heap[w.heap.size]? = some (.cells #[.int .i64 c0, .int .i64 c1, .int .i64 c2, .int .i64 c3, .int .i64 kind, .int .i64 fuel, .int .i64 arg] 26 (0, 0)) ∧ Below w.heap.size w W) ⟨blk_new _ _, below_alloc (Below.refl _ _) _⟩ ?_
  rintro WX ⟨hbx, hbX⟩
  have hcb := Aside0.mk (call_cells hbx)
  replace hbX := Aside0.mk hbX
  clear hbx
  refine region_by (fun b us W_ => NbC WX b us W_) (by kernel_rfl) (by kernel_rfl) ⟨fun _ => undef, ⟨below_drew (Below.refl _ _), fun h => by cases h⟩⟩ ?_
  iterate 8 (refine rb_want (fun us => rfl) ?_; apply Exists.intro; apply And.intro; (focus (apply rb_pure; (focus (intro b us w h; exact h.off (by decide))); intro b us W_ hC; have y := hcb.out W_ hC.hB; obtain ⟨y0, y1, y2, y3, y4, y5, y6⟩ := y; go_simp; rfl)); apply Exists.intro; apply And.intro; (focus (intro us; simp only [Act.put, List.setIfInBounds_toArray, List.set_cons_zero, List.set_cons_succ]; rfl)))
  (refine rb_want (fun us => rfl) ⟨.int .i64 (fuelZ fuel), rb_call (f := 27) (args := fun us => #[.agg #[.int .i64 c0, .int .i64 c1, .int .i64 c2, .int .i64 c3, .int .i64 kind, .int .i64 fuel, .int .i64 arg]]) (fun us W_ => ?_) (fun b us W_ hb hon hC => ?_), ?_⟩; (focus (exact rb_enters Try.func27 (by kernel_rfl) rfl (by rfl) W_)); (focus (refine (vm_fuel [c0, c1, c2, c3] kind fuel arg W_).mono ?_; rintro e w1 ⟨rfl, hbw⟩; exact ⟨rfl, (hC.came hbw).off (by decide)⟩)); apply Exists.intro; apply And.intro; (focus (intro us; simp only [Act.put, List.setIfInBounds_toArray, List.set_cons_zero, List.set_cons_succ]; rfl)))
  (refine rb_want (fun us => rfl) ⟨.agg #[.int .i64 4, .int .i64 0, .int .i64 0, .int .i64 0, .int .i64 0, .int .i64 0, .int .i64 0], rb_call (f := 26) (args := fun us => #[.pointer none, .agg #[.int .i64 c0, .int .i64 c1, .int .i64 c2, .int .i64 c3], .int .i64 kind, .int .i64 arg, .int .i64 (fuelZ fuel)]) (fun us W_ => ?_) (fun b us W_ hb hon hC => ?_), ?_⟩; (focus (exact rb_enters Try.func26 (by kernel_rfl) rfl (by rfl) W_)); (focus (refine (vm_Step_nil [c0, c1, c2, c3] kind arg (fuelZ fuel) W_).mono ?_; rintro e w1 ⟨rfl, hbw⟩; exact ⟨rfl, (hC.came hbw).off (by decide)⟩)); apply Exists.intro; apply And.intro; (focus (intro us; simp only [Act.put, List.setIfInBounds_toArray, List.set_cons_zero, List.set_cons_succ]; rfl)))
  (refine rb_want (fun us => rfl) ?_; apply Exists.intro; apply And.intro; (focus (apply rb_pure; (focus (intro b us w h; exact h.off (by decide))); intro b us W_ hC; go_simp; rfl)); apply Exists.intro; apply And.intro; (focus (intro us; simp only [Act.put, List.setIfInBounds_toArray, List.set_cons_zero, List.set_cons_succ]; rfl)))
  (refine rb_want (fun us => rfl) ?_; apply Exists.intro; apply And.intro; (focus (apply rb_pure; (focus (intro b us w h; exact h.off (by decide))); intro b us W_ hC; have q := eqI24_9 W_; have q2 := guard38; go_simp; rfl)); apply Exists.intro; apply And.intro; (focus (intro us; simp only [Act.put, List.setIfInBounds_toArray, List.set_cons_zero, List.set_cons_succ]; rfl)))
  (refine rb_want (fun us => rfl) ?_; apply Exists.intro; apply And.intro; (focus (apply rb_pure; (focus (intro b us w h; exact h.off (by decide))); intro b us W_ hC; go_simp; rfl)); apply Exists.intro; apply And.intro; (focus (intro us; simp only [Act.put, List.setIfInBounds_toArray, List.set_cons_zero, List.set_cons_succ]; rfl)))
  (refine rb_want (fun us => rfl) ?_; apply Exists.intro; apply And.intro; (focus (apply rb_pure; (focus (intro b us w h; exact h.off (by decide))); intro b us W_ hC; go_simp; rfl)); apply Exists.intro; apply And.intro; (focus (intro us; simp only [Act.put, List.setIfInBounds_toArray, List.set_cons_zero, List.set_cons_succ]; rfl)))
  (refine rb_open (fun us => rfl) (rb_new (fun b us W_ hb hon hC => ⟨.pointer (some ⟨W_.heap.size, 0, none⟩), W_.alloc (.cells #[.slice none 0 0] 53), ?_, ?_⟩)) ?_; (focus (first | (go_simp; done) | (go_simp; rfl))); (focus (exact hC.new14)); apply Exists.intro; apply And.intro; (focus (intro us; simp only [Act.put, List.setIfInBounds_toArray, List.set_cons_zero, List.set_cons_succ]; rfl)))
  iterate 7 (refine rb_want (fun us => rfl) ?_; apply Exists.intro; apply And.intro; (focus (apply rb_pure; (focus (intro b us w h; exact h.off (by decide))); intro b us W_ hC; have y := hcb.out W_ hC.hB; obtain ⟨y0, y1, y2, y3, y4, y5, y6⟩ := y; go_simp; rfl)); apply Exists.intro; apply And.intro; (focus (intro us; simp only [Act.put, List.setIfInBounds_toArray, List.set_cons_zero, List.set_cons_succ]; rfl)))
  (refine rb_want (fun us => rfl) ⟨.int .i64 (fuelZ fuel), rb_call (f := 27) (args := fun us => #[.agg #[.int .i64 c0, .int .i64 c1, .int .i64 c2, .int .i64 c3, .int .i64 kind, .int .i64 fuel, .int .i64 arg]]) (fun us W_ => ?_) (fun b us W_ hb hon hC => ?_), ?_⟩; (focus (exact rb_enters Try.func27 (by kernel_rfl) rfl (by rfl) W_)); (focus (refine (vm_fuel [c0, c1, c2, c3] kind fuel arg W_).mono ?_; rintro e w1 ⟨rfl, hbw⟩; exact ⟨rfl, (hC.came hbw).off (by decide)⟩)); apply Exists.intro; apply And.intro; (focus (intro us; simp only [Act.put, List.setIfInBounds_toArray, List.set_cons_zero, List.set_cons_succ]; rfl)))
  (refine rb_want (fun us => rfl) ⟨.agg #[.int .i64 4, .int .i64 0, .int .i64 0, .int .i64 0, .int .i64 0, .int .i64 0, .int .i64 0], rb_call (f := 26) (args := fun us => #[us 14, .agg #[.int .i64 c0, .int .i64 c1, .int .i64 c2, .int .i64 c3], .int .i64 kind, .int .i64 arg, .int .i64 (fuelZ fuel)]) (fun us W_ => ?_) (fun b us W_ hb hon hC => ?_), ?_⟩; (focus (exact rb_enters Try.func26 (by kernel_rfl) rfl (by rfl) W_)); (focus (obtain ⟨g, eg, hg⟩ := hC.h14 (hon 14 (by decide) (by decide)); rw [eg]; refine (vm_Step_empty g [c0, c1, c2, c3] kind arg (fuelZ fuel) W_ (blk_cell hg 0) (blk_lt hg)).mono ?_; rintro e w1 ⟨rfl, hbw⟩; exact ⟨rfl, (hC.came hbw).off (by decide)⟩)); apply Exists.intro; apply And.intro; (focus (intro us; simp only [Act.put, List.setIfInBounds_toArray, List.set_cons_zero, List.set_cons_succ]; rfl)))
  (refine rb_want (fun us => rfl) ?_; apply Exists.intro; apply And.intro; (focus (apply rb_pure; (focus (intro b us w h; exact h.off (by decide))); intro b us W_ hC; go_simp; rfl)); apply Exists.intro; apply And.intro; (focus (intro us; simp only [Act.put, List.setIfInBounds_toArray, List.set_cons_zero, List.set_cons_succ]; rfl)))
  (refine rb_want (fun us => rfl) ?_; apply Exists.intro; apply And.intro; (focus (apply rb_pure; (focus (intro b us w h; exact h.off (by decide))); intro b us W_ hC; have q := eqI24_9 W_; have q2 := guard38; go_simp; rfl)); apply Exists.intro; apply And.intro; (focus (intro us; simp only [Act.put, List.setIfInBounds_toArray, List.set_cons_zero, List.set_cons_succ]; rfl)))
  iterate 2 (refine rb_want (fun us => rfl) ?_; apply Exists.intro; apply And.intro; (focus (apply rb_pure; (focus (intro b us w h; exact h.off (by decide))); intro b us W_ hC; go_simp; rfl)); apply Exists.intro; apply And.intro; (focus (intro us; simp only [Act.put, List.setIfInBounds_toArray, List.set_cons_zero, List.set_cons_succ]; rfl)))
  (refine rb_want (fun us => rfl) ⟨.bool true, rb_call (f := 29) (args := fun us => #[]) (fun us W_ => ?_) (fun b us W_ hb hon hC => ?_), ?_⟩; (focus (exact rb_enters Try.func29 (by kernel_rfl) rfl (by rfl) W_)); (focus (refine (vm_lives W_).mono ?_; rintro e w1 ⟨rfl, hbw⟩; exact ⟨rfl, (hC.came hbw).off (by decide)⟩)); apply Exists.intro; apply And.intro; (focus (intro us; simp only [Act.put, List.setIfInBounds_toArray, List.set_cons_zero, List.set_cons_succ]; rfl)))
  iterate 2 (refine rb_want (fun us => rfl) ?_; apply Exists.intro; apply And.intro; (focus (apply rb_pure; (focus (intro b us w h; exact h.off (by decide))); intro b us W_ hC; go_simp; rfl)); apply Exists.intro; apply And.intro; (focus (intro us; simp only [Act.put, List.setIfInBounds_toArray, List.set_cons_zero, List.set_cons_succ]; rfl)))
  refine rb_done (fun b us W_ hall hC => ?_)
  have hB := hC.hB
  clear hC hall
  go_wp2
  go_ret
  exact ⟨rfl, below_step hbX.out hB⟩

end Go.Proofs.Ytddkoimaghcbeaa.PVmSteps
