/- A part of what the law LinBegins stands on, only as far as it is needed (the words and walks were printed or written in this seat; this text was cut by a program of this session, wip/bin/trim.py). No condition beyond what each theorem says. -/
import Derived.ChangeKeysEq
import Derived.Test.YtddkoimaghcbeaaZLGPVmStepsx0
import Derived.Test.YtddkoimaghcbeaaZLGPVmStepsx2
import Derived.Test.YtddkoimaghcbeaaZLGPVmStepsx3
import Derived.Test.YtddkoimaghcbeaaZLGPVmStepsx4
import Derived.Test.YtddkoimaghcbeaaZLGPVmStepsx5
import Derived.Test.YtddkoimaghcbeaaZLGTmpvmt
import Derived.Test.YtddkoimaghcbeaaZLGTmpvmr
import Derived.Test.YtddkoimaghcbeaaZLGTmpvms
section
namespace Go.Proofs.Ytddkoimaghcbeaa.PVmSteps
open Go.RowKit Go.Proofs.YtddkoimaghcbeaaW.PrintWords Go.Proofs.YtddkoimaghcbeaaW.PrintLast Go.Proofs.YtddkoimaghcbeaaW.PrintMore
set_option linter.unusedVariables false
set_option linter.unusedSimpArgs false
attribute [local go_sem] Op.eqItems
theorem eqI24 (d : Nat) (w : World) (x0 x1 x2 x3 y0 y1 y2 y3 : Int) :
    (Op.equalIn (d + 2) 24 (.agg #[.int .i64 x0, .int .i64 x1, .int .i64 x2, .int .i64 x3]) (.agg #[.int .i64 y0, .int .i64 y1, .int .i64 y2, .int .i64 y3])).run Try.prog w = .ok (x0 == y0 && (x1 == y1 && (x2 == y2 && (x3 == y3)))) w := by
  obtain ⟨i0, hi, hz0, hz1, hz2⟩ := info_parts vp_info2
  have hc : Try.prog.cellsOf 2 = 1 := by kernel_rfl
  rw [run_equalIn_array w (d + 1) _ _ Try.underlying24 hi, hc]
  simp only [show List.range 4 = [0, 1, 2, 3] from rfl]
  by_cases c0 : x0 = y0
  · by_cases c1 : x1 = y1
    · by_cases c2 : x2 = y2
      · by_cases c3 : x3 = y3
        · subst c0 c1 c2 c3; go_simp
        · have e3 : (x3 == y3) = false := beq_eq_false_iff_ne.mpr c3
          subst c0 c1 c2; go_simp
      · have e2 : (x2 == y2) = false := beq_eq_false_iff_ne.mpr c2
        subst c0 c1; go_simp
    · have e1 : (x1 == y1) = false := beq_eq_false_iff_ne.mpr c1
      subst c0; go_simp
  · have e0 : (x0 == y0) = false := beq_eq_false_iff_ne.mpr c0
    go_simp
end Go.Proofs.Ytddkoimaghcbeaa.PVmSteps
end
section
namespace Go.Proofs.Ytddkoimaghcbeaa.PVmSteps
open Go.RowKit Go.Proofs.YtddkoimaghcbeaaW.PrintWords Go.Proofs.YtddkoimaghcbeaaW.PrintLast Go.Proofs.YtddkoimaghcbeaaW.PrintMore
set_option linter.unusedVariables false
set_option linter.unusedSimpArgs false
/-- What holds inside a drawn statement with one new variable: made by operation i, written by operation j. -/
structure OneC (WX : World) (i j : Nat) (z x : Obj) (b : Nat → Bool) (us : Nat → Value) (W : World) : Prop where
  hB : Below WX.heap.size WX W
  hx : rbX W WX.heap.size (b i) (b j) (us i) z x
  hd : b j = true → b i = true
section
variable {WX W : World} {i j : Nat} {z x : Obj} {b : Nat → Bool} {us : Nat → Value}
theorem OneC.start (WX : World) (i j : Nat) (z x : Obj) (us : Nat → Value) : OneC WX i j z x (fun _ => false) us WX.drew := ⟨below_drew (Below.refl _ _), (fun h => by cases h), (fun h => by cases h)⟩
theorem OneC.off {k : Nat} (h : OneC WX i j z x b us W) (hi : i ≠ k) (hj : j ≠ k) : OneC WX i j z x (up b k) us W := by
  refine ⟨h.hB, ?_, ?_⟩
  · rw [up_off hi, up_off hj]; exact h.hx
  · rw [up_off hi, up_off hj]; exact h.hd
theorem OneC.came {W' : World} (h : OneC WX i j z x b us W) (hb : Below W.heap.size W W') : OneC WX i j z x b us W' := ⟨below_step h.hB hb, h.hx.below hb, h.hd⟩
theorem OneC.new (h : OneC WX i j z x b us W) (hij : j ≠ i) (hb : b i = false) : OneC WX i j z x (up b i) (usUp us i (.pointer (some ⟨W.heap.size, 0, none⟩))) (W.alloc z) := by
  have hj : b j = false := by
    cases hc : b j with
    | false => rfl
    | true => rw [h.hd hc] at hb; cases hb
  refine ⟨below_step h.hB (below_alloc (Below.refl _ _) _), ?_, fun _ => by simp [up]⟩
  rw [up_off hij]
  have e : usUp us i (.pointer (some ⟨W.heap.size, 0, none⟩)) i = .pointer (some ⟨W.heap.size, 0, none⟩) := by simp [usUp]
  rw [e]
  exact rbX.new hj h.hB.size
theorem OneC.at (h : OneC WX i j z x b us W) (hi : b i = true) (hj : b j = false) : ∃ g, us i = .pointer (some ⟨g, 0, none⟩) ∧ WX.heap.size ≤ g ∧ W.heap[g]? = some z := h.hx.at hi hj
theorem OneC.put {W' : World} {g : Nat} (h : OneC WX i j z x b us W) (hij : i ≠ j) (hi : b i = true) (eg : us i = .pointer (some ⟨g, 0, none⟩)) (hg : WX.heap.size ≤ g) (hB : Below WX.heap.size WX W') (hk : W'.heap[g]? = some x) : OneC WX i j z x (up b j) us W' := by
  refine ⟨hB, ?_, fun _ => by rw [up_off hij]; exact hi⟩
  intro _
  have e : up b j j = true := by simp [up]
  rw [e]
  exact ⟨g, eg, hg, hk⟩
theorem OneC.done (h : OneC WX i j z x b us W) (hi : b i = true) (hj : b j = true) : ∃ g, us i = .pointer (some ⟨g, 0, none⟩) ∧ WX.heap.size ≤ g ∧ W.heap[g]? = some x := h.hx.done hi hj
end
/-- The zero of a step, a step in memory. -/
def stepZ : Obj := .cells #[.int .i64 0, .int .i64 0, .int .i64 0, .int .i64 0, .int .i64 0, .int .i64 0, .int .i64 0] 38
def stepO (k d0 d1 d2 d3 r u : Int) : Obj := .cells #[.int .i64 k, .int .i64 d0, .int .i64 d1, .int .i64 d2, .int .i64 d3, .int .i64 r, .int .i64 u] 38
/-- The store of a step into such a variable. -/
def stepPut (W : World) (g : Nat) (k d0 d1 d2 d3 r u : Int) : World := (((((((W.setCell ⟨g, 0, none⟩ (.int .i64 k)).setCell ⟨g, 1, none⟩ (.int .i64 d0)).setCell ⟨g, 2, none⟩ (.int .i64 d1)).setCell ⟨g, 3, none⟩ (.int .i64 d2)).setCell ⟨g, 4, none⟩ (.int .i64 d3)).setCell ⟨g, 5, none⟩ (.int .i64 r)).setCell ⟨g, 6, none⟩ (.int .i64 u))
theorem step_cells {WX : World} {g : Nat} {k d0 d1 d2 d3 r u : Int} (h : WX.heap[g]? = some (stepO k d0 d1 d2 d3 r u)) (W_ : World) (hb : Below WX.heap.size WX W_) :
    W_.cell? ⟨g, 0, none⟩ = some (.int .i64 k) ∧ W_.cell? ⟨g, 1, none⟩ = some (.int .i64 d0) ∧ W_.cell? ⟨g, 2, none⟩ = some (.int .i64 d1) ∧ W_.cell? ⟨g, 3, none⟩ = some (.int .i64 d2) ∧ W_.cell? ⟨g, 4, none⟩ = some (.int .i64 d3) ∧ W_.cell? ⟨g, 5, none⟩ = some (.int .i64 r) ∧ W_.cell? ⟨g, 6, none⟩ = some (.int .i64 u) := by
  have h2 := blk_below h hb
  exact ⟨blk_cell h2 0, blk_cell h2 1, blk_cell h2 2, blk_cell h2 3, blk_cell h2 4, blk_cell h2 5, blk_cell h2 6⟩
/-- A list of four numbers. -/
theorem four_of {rs : List Int} (h : rs.length = 4) : ∃ a b c d, rs = [a, b, c, d] := by
  match rs, h with
  | [a, b, c, d], _ => exact ⟨a, b, c, d, rfl⟩
end Go.Proofs.Ytddkoimaghcbeaa.PVmSteps
end
