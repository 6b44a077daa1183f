/- A part of the proofs about layers 16 to 18 (vm, order, lin) and their references: contracts and plain lemmas that the laws stand on. No condition beyond what each theorem says. -/
import Derived.Test.YtddkoimaghcbeaaPVmStepsx1
import Derived.Test.YtddkoimaghcbeaaPVmStepsx2
import Derived.Test.YtddkoimaghcbeaaPVmStepsx3
import Derived.Test.YtddkoimaghcbeaaPVmStepsx4
import Derived.Test.YtddkoimaghcbeaaPVmStepsx5
import Derived.Test.YtddkoimaghcbeaaPVmStepsx6
import Derived.Test.YtddkoimaghcbeaaTmpvma
namespace Go.Proofs.Ytddkoimaghcbeaa.PVmSteps
open Go.RowKit Go.Proofs.YtddkoimaghcbeaaW.PrintWords Go.Proofs.YtddkoimaghcbeaaW.PrintLast Go.Proofs.YtddkoimaghcbeaaW.PrintMore
set_option linter.unusedVariables false
set_option linter.unusedSimpArgs false
/-- Blocks that stay. -/
def VmP (K : List (Nat × Obj)) (g : Nat) (k : Nat) : Prop := k ≠ g ∧ ∀ q ∈ K, k ≠ q.1
structure VmB (w0 W : World) (K : List (Nat × Obj)) (g : Nat) (cs : List Int) (stk : List Int) (at_ en rt : Int) (vS : Value) : Prop where
  hB : Below w0.heap.size w0 W
  bg : w0.heap.size ≤ g
  c4 : cs.length = 4
  hk : W.heap[g]? = some (.cells #[.int .i64 (rdOf 0 cs 0), .int .i64 (rdOf 0 cs 1), .int .i64 (rdOf 0 cs 2), .int .i64 (rdOf 0 cs 3), vS, .int .i64 at_, .int .i64 en, .int .i64 rt] 101 (0, 0))
  hS : (Kd.int .i64).R 2 W w0.heap.size (VmP K g) vS stk
  kept : ∀ q ∈ K, W.heap[q.1]? = some q.2 ∧ q.1 ≠ g
theorem vm_kset {W : World} {K : List (Nat × Obj)} {g : Nat} (h : ∀ q ∈ K, W.heap[q.1]? = some q.2 ∧ q.1 ≠ g) (j : Nat) (v : Value) : ∀ q ∈ K, (W.setCell ⟨g, j, none⟩ v).heap[q.1]? = some q.2 ∧ q.1 ≠ g :=
  fun q hq => ⟨(Below.heap_setCell _ _ _ _ (h q hq).2).trans (h q hq).1, (h q hq).2⟩
theorem v_w (n c : Nat) (h : c ≤ maxLen) (hn : n ≤ c) : wrap64 (n : Int) = (n : Int) := by unfold maxLen at h; unfold wrap64; omega
theorem vpop_calls (w0 w : World) (K : List (Nat × Obj)) (g : Nat) (cs stk : List Int) (at_ en rt x : Int) (vS : Value) (h : VmB w0 w K g cs (stk ++ [x]) at_ en rt vS) :
    Calls Try.prog 91 #[.pointer (some ⟨g, 0, none⟩)] w fun e w' => e = .returned (.int .i64 x) ∧ ∃ vS', VmB w0 w' K g cs stk at_ en rt vS' := by
  obtain ⟨A, c, rfl⟩ := Kd.R_slice h.hS
  have hlen : (stk ++ [x]).length = stk.length + 1 := by simp
  have hSo := h.hS
  rw [hlen] at hSo
  have hown := Kd.own_of_R h.hS
  obtain ⟨_, hown⟩ := hown
  rcases hown with ⟨_, h0⟩ | ⟨b, cap, cur, e, hb2, hw, hn, hm, hs, ht⟩
  · simp at h0
  cases e
  have hgb : b ≠ g := by first | exact (h.hS.1 b rfl).1 | trace_state
  have p0 : (0 : Int) ≤ (stk.length : Int) := by omega
  have p1 : (stk.length : Int) < ((stk.length + 1 : Nat) : Int) := by omega
  have hwl := v_w stk.length c hm (by omega)
  obtain ⟨z1, _⟩ := Kd.R_celln (0 : Int) hSo (stk.length : Int) p0 p1
  have ex : rdOf 0 (stk ++ [x]) (stk.length : Int) = x := by simp [rdOf]
  rw [ex] at z1
  have k4 := blk_cell h.hk 4
  have v4 := blk_frozen h.hk 4
  simp only [List.getElem?_toArray, List.getElem?_cons_zero, List.getElem?_cons_succ] at k4
  rw [hlen] at k4
  have hR2 := Kd.R_take hSo (m := stk.length) (by simp)
  rw [List.take_left' rfl] at hR2
  have q0 : 0 ≤ wrap64 (stk.length : Int) := by rw [hwl]; omega
  have q1 : wrap64 (stk.length : Int) < ((stk.length : Nat) : Int) + 1 := by rw [hwl]; omega
  have q2 : wrap64 (stk.length : Int) ≤ (c : Int) := by rw [hwl]; omega
  rw [← hwl] at z1
  replace hwl := Aside0.mk hwl
  clear p0 p1 hm
  go_enter Try.func91, Try.ntmps91
  go_wp2
  have e : (wrap64 (stk.length : Int)).toNat = stk.length := by rw [hwl.out]; simp
  rw [e]
  go_ret
  exact ⟨rfl, _, below_set h.hB h.bg, h.bg, h.c4, blk_put h.hk 4 _ (by simp), Kd.R_far hR2 (fun k hk => hk.1) _, vm_kset h.kept 4 _⟩
theorem vp_u60 : Try.prog.underlying 99 = some (.slice 2) := by kernel_rfl
theorem vp_info2 : (Try.prog.info? 2).map (fun i => (i.zero, i.size, i.bytes)) = some (some (.int .i64 0), 1, 8) := by kernel_rfl
theorem vpush_calls (w0 w : World) (K : List (Nat × Obj)) (g : Nat) (cs stk : List Int) (at_ en rt x : Int) (vS : Value) (h : VmB w0 w K g cs stk at_ en rt vS) (hsm : stk.length ≤ 1000) :
    Calls Try.prog 90 #[.pointer (some ⟨g, 0, none⟩), .int .i64 x] w fun e w' => e = .returned (.tuple #[]) ∧ ∃ vS', VmB w0 w' K g cs (stk ++ [x]) at_ en rt vS' := by
  have k4 := blk_cell h.hk 4
  simp only [List.getElem?_toArray, List.getElem?_cons_zero, List.getElem?_cons_succ] at k4
  go_enter Try.func90, Try.ntmps90
  go_wp2_with (first | ((with_reducible refine gate_builtin (b := .append) (xs := #[.tmp 8, .tmp 10]) rfl ?_); at_builtin; refine Kd.R_append (Kd.int .i64) (w0 := w0) w0.heap.size rfl (.tmp 8) (.tmp 10) 99 2 (.int .i64 0) 8 rfl vp_u60 vp_info2 rfl (by decide) (by omega) vS stk x [.int .i64 x] (VmP K g) (fun _ => False) rfl rfl ?aP (fun _ hk => hk.elim) ?aF ?aO ?aB ?aS ?aL ?_; (case aP => exact rfl); (case aB => exact h.hB); (case aF => exact fun k hk => ⟨fun e => by have := blk_lt h.hk; omega, fun q hq e => by have := blk_lt (h.kept q hq).1; omega⟩); (case aO => exact h.hS); (case aS => exact h.hB.size); (case aL => omega); intro v1 w1 ho hb hg hat; obtain ⟨A1, c1, rfl⟩ := Kd.R_slice ho; have hk1 := blk_grown h.hk hg (fun e => (h.hS.1 g e.symm).1 rfl); have k5 := blk_frozen hk1 4; have k6 := blk_cell hk1 4; simp only [List.getElem?_toArray, List.getElem?_cons_zero, List.getElem?_cons_succ] at k6; clear hat))
  go_end0
  exact ⟨rfl, _, below_set hb h.bg, h.bg, h.c4, blk_put hk1 4 _ (by simp), Kd.R_far ho (fun k hk => hk.1) _, vm_kset (fun q hq => ⟨blk_grown (h.kept q hq).1 hg (fun e => (h.hS.1 q.1 e.symm).2 q hq rfl), (h.kept q hq).2⟩) 4 _⟩
theorem VmB.came {w0 W W' : World} {K : List (Nat × Obj)} {g : Nat} {cs stk : List Int} {at_ en rt : Int} {vS : Value} (h : VmB w0 W K g cs stk at_ en rt vS) (hb : Below W.heap.size W W') : VmB w0 W' K g cs stk at_ en rt vS :=
  ⟨below_step h.hB hb, h.bg, h.c4, blk_below h.hk hb, Kd.R_below h.hS hb, fun q hq => ⟨blk_below (h.kept q hq).1 hb, (h.kept q hq).2⟩⟩
theorem VmB.setAt {w0 W : World} {K : List (Nat × Obj)} {g : Nat} {cs stk : List Int} {at_ en rt : Int} {vS : Value} (h : VmB w0 W K g cs stk at_ en rt vS) (a : Int) : VmB w0 (W.setCell ⟨g, 5, none⟩ (.int .i64 a)) K g cs stk a en rt vS :=
  ⟨below_set h.hB h.bg, h.bg, h.c4, blk_put h.hk 5 _ (by simp), Kd.R_far h.hS (fun k hk => hk.1) _, vm_kset h.kept _ _⟩
theorem VmB.setEnd {w0 W : World} {K : List (Nat × Obj)} {g : Nat} {cs stk : List Int} {at_ en rt : Int} {vS : Value} (h : VmB w0 W K g cs stk at_ en rt vS) (a : Int) : VmB w0 (W.setCell ⟨g, 6, none⟩ (.int .i64 a)) K g cs stk at_ a rt vS :=
  ⟨below_set h.hB h.bg, h.bg, h.c4, blk_put h.hk 6 _ (by simp), Kd.R_far h.hS (fun k hk => hk.1) _, vm_kset h.kept _ _⟩
theorem VmB.setRet {w0 W : World} {K : List (Nat × Obj)} {g : Nat} {cs stk : List Int} {at_ en rt : Int} {vS : Value} (h : VmB w0 W K g cs stk at_ en rt vS) (a : Int) : VmB w0 (W.setCell ⟨g, 7, none⟩ (.int .i64 a)) K g cs stk at_ en a vS :=
  ⟨below_set h.hB h.bg, h.bg, h.c4, blk_put h.hk 7 _ (by simp), Kd.R_far h.hS (fun k hk => hk.1) _, vm_kset h.kept _ _⟩

end Go.Proofs.Ytddkoimaghcbeaa.PVmSteps
