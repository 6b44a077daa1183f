/- A part of the proofs about layers 16 to 18 (vm, order, lin) and their references: contracts and plain lemmas that the laws stand on. No condition beyond what each theorem says. -/
import Derived.Test.YtddkoimaghcbeaaPVmStepsx1
import Derived.Test.YtddkoimaghcbeaaPVmStepsx2
import Derived.Test.YtddkoimaghcbeaaPVmStepsx3
import Derived.Test.YtddkoimaghcbeaaPVmStepsx4
import Derived.Test.YtddkoimaghcbeaaPVmStepsx5
import Derived.Test.YtddkoimaghcbeaaPVmStepsx6
import Derived.Defers
import Derived.Recover
namespace Go.Proofs.Ytddkoimaghcbeaa.PVmSteps
open Go.RowKit Go.Proofs.YtddkoimaghcbeaaW.PrintWords Go.Proofs.YtddkoimaghcbeaaW.PrintLast Go.Proofs.YtddkoimaghcbeaaW.PrintMore
set_option linter.unusedVariables false
set_option linter.unusedSimpArgs false
set_option maxRecDepth 100000 in
theorem vd_idle (p : Addr) (w : World) : CallsD Try.prog 78 #[.pointer (some p)] .returning w fun e u' w' => e = .returned (.tuple #[]) ∧ u' = .returning ∧ w' = w := by
  refine callsD_of_wpS Try.func78 rfl fun c₀ cs hu => ?_
  apply wpS_seq
  apply wpS_region
  simp [wpOpsS, go_sem, recoverD, hu, Try.ntmps78, Exit.thenS]
  refine wpS_of_wp ?_
  go_wp2
  cases c₀
  simp_all [bodyPostS, results, Try.results78]
theorem vd_assert (w : World) : (Instr.typeAssert (.iface 139 (.agg #[])) 20 139 true).run Try.prog w = .ok (.tuple #[.agg #[], .bool true]) w := by
  kernel_rfl
set_option maxRecDepth 100000 in
theorem vd_refused (p : Addr) (g : Nat) (u0 : Int) (older : List PanicEntry) (w : World) (hp : w.cell? p = some (.pointer (some ⟨g, 0, none⟩))) (c0 c1 c2 c3 at_ rt : Value) (vS : Value) (hk : w.heap[g]? = some (.cells #[c0, c1, c2, c3, vS, at_, .int .i64 u0, rt] 101 (0, 0))) :
    CallsD Try.prog 78 #[.pointer (some p)] (.panicking ({ v := .iface 139 (.agg #[]), recovered := false } :: older)) w fun e u' w' => e = .returned (.tuple #[]) ∧ u' = .panicking ({ v := .iface 139 (.agg #[]), recovered := true } :: older) ∧ ∃ o, w' = (w.alloc o).setCell ⟨g, 6, none⟩ (.int .i64 2) := by
  refine callsD_of_wpS Try.func78 rfl fun c₀ cs hu => ?_
  apply wpS_seq
  apply wpS_region
  simp [wpOpsS, go_sem, recoverD, hu, Try.ntmps78, Exit.thenS]
  refine wpS_of_wp ?_
  have hta := vd_assert
  have hp2 := pw_cell_below (below_alloc (Below.refl w.heap.size w) (.cells #[] 139)) hp
  have hk2 := blk_below hk (below_alloc (Below.refl w.heap.size w) (.cells #[] 139))
  have b6 := blk_cell hk2 6
  have z6 := blk_frozen hk2 6
  simp only [List.getElem?_toArray, List.getElem?_cons_zero, List.getElem?_cons_succ] at b6
  go_wp2
  cases c₀
  simp_all [bodyPostS, results, Try.results78]
  exact ⟨_, rfl⟩
def vtwo (op a b : Int) : Option Int :=
  if op = 8 then some (wrap64 (a + b)) else if op = 9 then some (wrap64 (a - b)) else if op = 10 then some (wrap64 (a * b))
  else if op = 13 then some (if a < b then 1 else 0) else if op = 14 then some (if a = b then 1 else 0)
  else if b = 0 then none else if op = 11 then some (wrap64 (a.tdiv b)) else some (a.tmod b)
set_option maxRecDepth 100000 in
theorem vtwo_none (op a b : Int) (w : World) (h : vtwo op a b = none) : Calls Try.prog 93 #[.int .i64 op, .int .i64 a, .int .i64 b] w fun e w' => e = .panicked [{ v := .iface 139 (.agg #[]), recovered := false }] ∧ w' = w := by
  unfold vtwo at h
  have h8 : (op == 8) = false := by cases c : (op == 8) with | false => rfl | true => rw [if_pos (beq_iff_eq.1 c)] at h; cases h
  rw [if_neg (by simpa using h8)] at h
  have h9 : (op == 9) = false := by cases c : (op == 9) with | false => rfl | true => rw [if_pos (beq_iff_eq.1 c)] at h; cases h
  rw [if_neg (by simpa using h9)] at h
  have h10 : (op == 10) = false := by cases c : (op == 10) with | false => rfl | true => rw [if_pos (beq_iff_eq.1 c)] at h; cases h
  rw [if_neg (by simpa using h10)] at h
  have h13 : (op == 13) = false := by cases c : (op == 13) with | false => rfl | true => rw [if_pos (beq_iff_eq.1 c)] at h; cases h
  rw [if_neg (by simpa using h13)] at h
  have h14 : (op == 14) = false := by cases c : (op == 14) with | false => rfl | true => rw [if_pos (beq_iff_eq.1 c)] at h; cases h
  rw [if_neg (by simpa using h14)] at h
  have hb : b = 0 := by
    by_cases c : b = 0
    · exact c
    · rw [if_neg c] at h; split at h <;> cases h
  subst hb
  clear h
  have hpn : ∀ w, (Instr.panic (.iface 139 (.agg #[]))).run Try.prog w = .halt (.panic (.iface 139 (.agg #[]))) w := fun _ => by first | rfl | (simp [Instr.panic, go_sem]; done)
  go_enter Try.func93, Try.ntmps93
  go_wp2
  simp [bodyPost]
set_option maxRecDepth 100000 in
theorem vtwo_some (op a b v : Int) (w : World) (h : vtwo op a b = some v) : Calls Try.prog 93 #[.int .i64 op, .int .i64 a, .int .i64 b] w fun e w' => e = .returned (.int .i64 v) ∧ Drawn0 w w' := by
  unfold vtwo at h
  by_cases h8 : op = 8
  · subst h8
    rw [if_pos rfl] at h; cases h
    go_enter Try.func93, Try.ntmps93
    go_wp2
    go_ret
    exact ⟨rfl, ⟨0, rfl⟩⟩
  have k8 : (op == 8) = false := by simpa using h8
  rw [if_neg h8] at h
  by_cases h9 : op = 9
  · subst h9
    rw [if_pos rfl] at h; cases h
    go_enter Try.func93, Try.ntmps93
    go_wp2
    go_ret
    exact ⟨rfl, ⟨0, rfl⟩⟩
  have k9 : (op == 9) = false := by simpa using h9
  rw [if_neg h9] at h
  by_cases h10 : op = 10
  · subst h10
    rw [if_pos rfl] at h; cases h
    go_enter Try.func93, Try.ntmps93
    go_wp2
    go_ret
    exact ⟨rfl, ⟨0, rfl⟩⟩
  have k10 : (op == 10) = false := by simpa using h10
  rw [if_neg h10] at h
  by_cases h13 : op = 13
  · subst h13
    rw [if_pos rfl] at h; cases h
    go_enter Try.func93, Try.ntmps93
    go_wp2_with (first | (go_at_call 92; (with_reducible refine (vm_bit.calls (decide (a < b)) (if a < b then 1 else 0) _ (by unfold vm_bit.f; by_cases c : a < b <;> simp [c])).mono ?_); rintro e w1 ⟨rfl, hd⟩))
    all_goals (go_ret; exact ⟨rfl, hd⟩)
  have k13 : (op == 13) = false := by simpa using h13
  rw [if_neg h13] at h
  by_cases h14 : op = 14
  · subst h14
    rw [if_pos rfl] at h; cases h
    go_enter Try.func93, Try.ntmps93
    go_wp2_with (first | (go_at_call 92; (with_reducible refine (vm_bit.calls (a == b) (if a = b then 1 else 0) _ (by unfold vm_bit.f; by_cases c : a = b <;> simp [c])).mono ?_); rintro e w1 ⟨rfl, hd⟩))
    all_goals (go_ret; exact ⟨rfl, hd⟩)
  have k14 : (op == 14) = false := by simpa using h14
  rw [if_neg h14] at h
  have hb : ¬ b = 0 := by intro c; rw [if_pos c] at h; cases h
  have kb : (b == 0) = false := by simpa using hb
  rw [if_neg hb] at h
  by_cases h11 : op = 11
  · subst h11
    rw [if_pos rfl] at h; cases h
    go_enter Try.func93, Try.ntmps93
    go_wp2
    go_ret
    exact ⟨rfl, ⟨0, rfl⟩⟩
  have k11 : (op == 11) = false := by simpa using h11
  rw [if_neg h11] at h
  cases h
  go_enter Try.func93, Try.ntmps93
  go_wp2
  go_ret
  exact ⟨rfl, ⟨0, rfl⟩⟩

end Go.Proofs.Ytddkoimaghcbeaa.PVmSteps
