/- A part of what the law LinTells stands on, only as far as it is needed (the words and walks were printed or written in this seat; this text was cut by a program of this session, wip/bin/trim.py). No condition beyond what each theorem says. -/
import Derived.Defers
import Derived.Recover
import Derived.Test.YtddkoimaghcbeaaZLTPVmStepsx0
import Derived.Test.YtddkoimaghcbeaaZLTPVmStepsx2
import Derived.Test.YtddkoimaghcbeaaZLTPVmStepsx3
import Derived.Test.YtddkoimaghcbeaaZLTPVmStepsx4
import Derived.Test.YtddkoimaghcbeaaZLTPVmStepsx5
import Derived.Test.YtddkoimaghcbeaaZLTPVmStepsx6
section
namespace Go.Proofs.Ytddkoimaghcbeaa.PVmSteps
open Go.RowKit Go.Proofs.YtddkoimaghcbeaaW.PrintWords Go.Proofs.YtddkoimaghcbeaaW.PrintLast Go.Proofs.YtddkoimaghcbeaaW.PrintMore
set_option linter.unusedVariables false
set_option linter.unusedSimpArgs false
set_option maxRecDepth 100000 in
theorem vd_idle (p : Addr) (w : World) : CallsD Try.prog 78 #[.pointer (some p)] .returning w fun e u' w' => e = .returned (.tuple #[]) ∧ u' = .returning ∧ w' = w := by
  refine callsD_of_wpS Try.func78 rfl fun c₀ cs hu => ?_
  apply wpS_seq
  apply wpS_region
  simp [wpOpsS, go_sem, recoverD, hu, Try.ntmps78, Exit.thenS]
  refine wpS_of_wp ?_
  go_wp2
  cases c₀
  simp_all [bodyPostS, results, Try.results78]
theorem vd_assert (w : World) : (Instr.typeAssert (.iface 139 (.agg #[])) 20 139 true).run Try.prog w = .ok (.tuple #[.agg #[], .bool true]) w := by
  kernel_rfl
set_option maxRecDepth 100000 in
theorem vd_refused (p : Addr) (g : Nat) (u0 : Int) (older : List PanicEntry) (w : World) (hp : w.cell? p = some (.pointer (some ⟨g, 0, none⟩))) (c0 c1 c2 c3 at_ rt : Value) (vS : Value) (hk : w.heap[g]? = some (.cells #[c0, c1, c2, c3, vS, at_, .int .i64 u0, rt] 101 (0, 0))) :
    CallsD Try.prog 78 #[.pointer (some p)] (.panicking ({ v := .iface 139 (.agg #[]), recovered := false } :: older)) w fun e u' w' => e = .returned (.tuple #[]) ∧ u' = .panicking ({ v := .iface 139 (.agg #[]), recovered := true } :: older) ∧ ∃ o, w' = (w.alloc o).setCell ⟨g, 6, none⟩ (.int .i64 2) := by
  refine callsD_of_wpS Try.func78 rfl fun c₀ cs hu => ?_
  apply wpS_seq
  apply wpS_region
  simp [wpOpsS, go_sem, recoverD, hu, Try.ntmps78, Exit.thenS]
  refine wpS_of_wp ?_
  have hta := vd_assert
  have hp2 := pw_cell_below (below_alloc (Below.refl w.heap.size w) (.cells #[] 139)) hp
  have hk2 := blk_below hk (below_alloc (Below.refl w.heap.size w) (.cells #[] 139))
  have b6 := blk_cell hk2 6
  have z6 := blk_frozen hk2 6
  simp only [List.getElem?_toArray, List.getElem?_cons_zero, List.getElem?_cons_succ] at b6
  go_wp2
  cases c₀
  simp_all [bodyPostS, results, Try.results78]
  exact ⟨_, rfl⟩
def vtwo (op a b : Int) : Option Int :=
  if op = 8 then some (wrap64 (a + b)) else if op = 9 then some (wrap64 (a - b)) else if op = 10 then some (wrap64 (a * b))
  else if op = 13 then some (if a < b then 1 else 0) else if op = 14 then some (if a = b then 1 else 0)
  else if b = 0 then none else if op = 11 then some (wrap64 (a.tdiv b)) else some (a.tmod b)
set_option maxRecDepth 100000 in
theorem vtwo_none (op a b : Int) (w : World) (h : vtwo op a b = none) : Calls Try.prog 93 #[.int .i64 op, .int .i64 a, .int .i64 b] w fun e w' => e = .panicked [{ v := .iface 139 (.agg #[]), recovered := false }] ∧ w' = w := by
  unfold vtwo at h
  have h8 : (op == 8) = false := by cases c : (op == 8) with | false => rfl | true => rw [if_pos (beq_iff_eq.1 c)] at h; cases h
  rw [if_neg (by simpa using h8)] at h
  have h9 : (op == 9) = false := by cases c : (op == 9) with | false => rfl | true => rw [if_pos (beq_iff_eq.1 c)] at h; cases h
  rw [if_neg (by simpa using h9)] at h
  have h10 : (op == 10) = false := by cases c : (op == 10) with | false => rfl | true => rw [if_pos (beq_iff_eq.1 c)] at h; cases h
  rw [if_neg (by simpa using h10)] at h
  have h13 : (op == 13) = false := by cases c : (op == 13) with | false => rfl | true => rw [if_pos (beq_iff_eq.1 c)] at h; cases h
  rw [if_neg (by simpa using h13)] at h
  have h14 : (op == 14) = false := by cases c : (op == 14) with | false => rfl | true => rw [if_pos (beq_iff_eq.1 c)] at h; cases h
  rw [if_neg (by simpa using h14)] at h
  have hb : b = 0 := by
    by_cases c : b = 0
    · exact c
    · rw [if_neg c] at h; split at h <;> cases h
  subst hb
  clear h
  have hpn : ∀ w, (Instr.panic (.iface 139 (.agg #[]))).run Try.prog w = .halt (.panic (.iface 139 (.agg #[]))) w := fun _ => by first | rfl | (simp [Instr.panic, go_sem]; done)
  go_enter Try.func93, Try.ntmps93
  go_wp2
  simp [bodyPost]
set_option maxRecDepth 100000 in
theorem vtwo_some (op a b v : Int) (w : World) (h : vtwo op a b = some v) : Calls Try.prog 93 #[.int .i64 op, .int .i64 a, .int .i64 b] w fun e w' => e = .returned (.int .i64 v) ∧ Drawn0 w w' := by
  unfold vtwo at h
  by_cases h8 : op = 8
  · subst h8
    rw [if_pos rfl] at h; cases h
    go_enter Try.func93, Try.ntmps93
    go_wp2
    go_ret
    exact ⟨rfl, ⟨0, rfl⟩⟩
  have k8 : (op == 8) = false := by simpa using h8
  rw [if_neg h8] at h
  by_cases h9 : op = 9
  · subst h9
    rw [if_pos rfl] at h; cases h
    go_enter Try.func93, Try.ntmps93
    go_wp2
    go_ret
    exact ⟨rfl, ⟨0, rfl⟩⟩
  have k9 : (op == 9) = false := by simpa using h9
  rw [if_neg h9] at h
  by_cases h10 : op = 10
  · subst h10
    rw [if_pos rfl] at h; cases h
    go_enter Try.func93, Try.ntmps93
    go_wp2
    go_ret
    exact ⟨rfl, ⟨0, rfl⟩⟩
  have k10 : (op == 10) = false := by simpa using h10
  rw [if_neg h10] at h
  by_cases h13 : op = 13
  · subst h13
    rw [if_pos rfl] at h; cases h
    go_enter Try.func93, Try.ntmps93
    go_wp2_with (first | (go_at_call 92; (with_reducible refine (vm_bit.calls (decide (a < b)) (if a < b then 1 else 0) _ (by unfold vm_bit.f; by_cases c : a < b <;> simp [c])).mono ?_); rintro e w1 ⟨rfl, hd⟩))
    all_goals (go_ret; exact ⟨rfl, hd⟩)
  have k13 : (op == 13) = false := by simpa using h13
  rw [if_neg h13] at h
  by_cases h14 : op = 14
  · subst h14
    rw [if_pos rfl] at h; cases h
    go_enter Try.func93, Try.ntmps93
    go_wp2_with (first | (go_at_call 92; (with_reducible refine (vm_bit.calls (a == b) (if a = b then 1 else 0) _ (by unfold vm_bit.f; by_cases c : a = b <;> simp [c])).mono ?_); rintro e w1 ⟨rfl, hd⟩))
    all_goals (go_ret; exact ⟨rfl, hd⟩)
  have k14 : (op == 14) = false := by simpa using h14
  rw [if_neg h14] at h
  have hb : ¬ b = 0 := by intro c; rw [if_pos c] at h; cases h
  have kb : (b == 0) = false := by simpa using hb
  rw [if_neg hb] at h
  by_cases h11 : op = 11
  · subst h11
    rw [if_pos rfl] at h; cases h
    go_enter Try.func93, Try.ntmps93
    go_wp2
    go_ret
    exact ⟨rfl, ⟨0, rfl⟩⟩
  have k11 : (op == 11) = false := by simpa using h11
  rw [if_neg h11] at h
  cases h
  go_enter Try.func93, Try.ntmps93
  go_wp2
  go_ret
  exact ⟨rfl, ⟨0, rfl⟩⟩
end Go.Proofs.Ytddkoimaghcbeaa.PVmSteps
end
section
namespace Go.Proofs.Ytddkoimaghcbeaa.PVmSteps
open Go.RowKit Go.Proofs.YtddkoimaghcbeaaW.PrintWords Go.Proofs.YtddkoimaghcbeaaW.PrintLast Go.Proofs.YtddkoimaghcbeaaW.PrintMore
set_option linter.unusedVariables false
set_option linter.unusedSimpArgs false
/-- Blocks that stay. -/
def VmP (K : List (Nat × Obj)) (g : Nat) (k : Nat) : Prop := k ≠ g ∧ ∀ q ∈ K, k ≠ q.1
structure VmB (w0 W : World) (K : List (Nat × Obj)) (g : Nat) (cs : List Int) (stk : List Int) (at_ en rt : Int) (vS : Value) : Prop where
  hB : Below w0.heap.size w0 W
  bg : w0.heap.size ≤ g
  c4 : cs.length = 4
  hk : W.heap[g]? = some (.cells #[.int .i64 (rdOf 0 cs 0), .int .i64 (rdOf 0 cs 1), .int .i64 (rdOf 0 cs 2), .int .i64 (rdOf 0 cs 3), vS, .int .i64 at_, .int .i64 en, .int .i64 rt] 101 (0, 0))
  hS : (Kd.int .i64).R 2 W w0.heap.size (VmP K g) vS stk
  kept : ∀ q ∈ K, W.heap[q.1]? = some q.2 ∧ q.1 ≠ g
theorem vm_kset {W : World} {K : List (Nat × Obj)} {g : Nat} (h : ∀ q ∈ K, W.heap[q.1]? = some q.2 ∧ q.1 ≠ g) (j : Nat) (v : Value) : ∀ q ∈ K, (W.setCell ⟨g, j, none⟩ v).heap[q.1]? = some q.2 ∧ q.1 ≠ g :=
  fun q hq => ⟨(Below.heap_setCell _ _ _ _ (h q hq).2).trans (h q hq).1, (h q hq).2⟩
theorem v_w (n c : Nat) (h : c ≤ maxLen) (hn : n ≤ c) : wrap64 (n : Int) = (n : Int) := by unfold maxLen at h; unfold wrap64; omega
theorem vpop_calls (w0 w : World) (K : List (Nat × Obj)) (g : Nat) (cs stk : List Int) (at_ en rt x : Int) (vS : Value) (h : VmB w0 w K g cs (stk ++ [x]) at_ en rt vS) :
    Calls Try.prog 91 #[.pointer (some ⟨g, 0, none⟩)] w fun e w' => e = .returned (.int .i64 x) ∧ ∃ vS', VmB w0 w' K g cs stk at_ en rt vS' := by
  obtain ⟨A, c, rfl⟩ := Kd.R_slice h.hS
  have hlen : (stk ++ [x]).length = stk.length + 1 := by simp
  have hSo := h.hS
  rw [hlen] at hSo
  have hown := Kd.own_of_R h.hS
  obtain ⟨_, hown⟩ := hown
  rcases hown with ⟨_, h0⟩ | ⟨b, cap, cur, e, hb2, hw, hn, hm, hs, ht⟩
  · simp at h0
  cases e
  have hgb : b ≠ g := by first | exact (h.hS.1 b rfl).1 | trace_state
  have p0 : (0 : Int) ≤ (stk.length : Int) := by omega
  have p1 : (stk.length : Int) < ((stk.length + 1 : Nat) : Int) := by omega
  have hwl := v_w stk.length c hm (by omega)
  obtain ⟨z1, _⟩ := Kd.R_celln (0 : Int) hSo (stk.length : Int) p0 p1
  have ex : rdOf 0 (stk ++ [x]) (stk.length : Int) = x := by simp [rdOf]
  rw [ex] at z1
  have k4 := blk_cell h.hk 4
  have v4 := blk_frozen h.hk 4
  simp only [List.getElem?_toArray, List.getElem?_cons_zero, List.getElem?_cons_succ] at k4
  rw [hlen] at k4
  have hR2 := Kd.R_take hSo (m := stk.length) (by simp)
  rw [List.take_left' rfl] at hR2
  have q0 : 0 ≤ wrap64 (stk.length : Int) := by rw [hwl]; omega
  have q1 : wrap64 (stk.length : Int) < ((stk.length : Nat) : Int) + 1 := by rw [hwl]; omega
  have q2 : wrap64 (stk.length : Int) ≤ (c : Int) := by rw [hwl]; omega
  rw [← hwl] at z1
  replace hwl := Aside0.mk hwl
  clear p0 p1 hm
  go_enter Try.func91, Try.ntmps91
  go_wp2
  have e : (wrap64 (stk.length : Int)).toNat = stk.length := by rw [hwl.out]; simp
  rw [e]
  go_ret
  exact ⟨rfl, _, below_set h.hB h.bg, h.bg, h.c4, blk_put h.hk 4 _ (by simp), Kd.R_far hR2 (fun k hk => hk.1) _, vm_kset h.kept 4 _⟩
theorem vp_u60 : Try.prog.underlying 99 = some (.slice 2) := by kernel_rfl
theorem vp_info2 : (Try.prog.info? 2).map (fun i => (i.zero, i.size, i.bytes)) = some (some (.int .i64 0), 1, 8) := by kernel_rfl
theorem vpush_calls (w0 w : World) (K : List (Nat × Obj)) (g : Nat) (cs stk : List Int) (at_ en rt x : Int) (vS : Value) (h : VmB w0 w K g cs stk at_ en rt vS) (hsm : stk.length ≤ 1000) :
    Calls Try.prog 90 #[.pointer (some ⟨g, 0, none⟩), .int .i64 x] w fun e w' => e = .returned (.tuple #[]) ∧ ∃ vS', VmB w0 w' K g cs (stk ++ [x]) at_ en rt vS' := by
  have k4 := blk_cell h.hk 4
  simp only [List.getElem?_toArray, List.getElem?_cons_zero, List.getElem?_cons_succ] at k4
  go_enter Try.func90, Try.ntmps90
  go_wp2_with (first | ((with_reducible refine gate_builtin (b := .append) (xs := #[.tmp 8, .tmp 10]) rfl ?_); at_builtin; refine Kd.R_append (Kd.int .i64) (w0 := w0) w0.heap.size rfl (.tmp 8) (.tmp 10) 99 2 (.int .i64 0) 8 rfl vp_u60 vp_info2 rfl (by decide) (by omega) vS stk x [.int .i64 x] (VmP K g) (fun _ => False) rfl rfl ?aP (fun _ hk => hk.elim) ?aF ?aO ?aB ?aS ?aL ?_; (case aP => exact rfl); (case aB => exact h.hB); (case aF => exact fun k hk => ⟨fun e => by have := blk_lt h.hk; omega, fun q hq e => by have := blk_lt (h.kept q hq).1; omega⟩); (case aO => exact h.hS); (case aS => exact h.hB.size); (case aL => omega); intro v1 w1 ho hb hg hat; obtain ⟨A1, c1, rfl⟩ := Kd.R_slice ho; have hk1 := blk_grown h.hk hg (fun e => (h.hS.1 g e.symm).1 rfl); have k5 := blk_frozen hk1 4; have k6 := blk_cell hk1 4; simp only [List.getElem?_toArray, List.getElem?_cons_zero, List.getElem?_cons_succ] at k6; clear hat))
  go_end0
  exact ⟨rfl, _, below_set hb h.bg, h.bg, h.c4, blk_put hk1 4 _ (by simp), Kd.R_far ho (fun k hk => hk.1) _, vm_kset (fun q hq => ⟨blk_grown (h.kept q hq).1 hg (fun e => (h.hS.1 q.1 e.symm).2 q hq rfl), (h.kept q hq).2⟩) 4 _⟩
theorem VmB.came {w0 W W' : World} {K : List (Nat × Obj)} {g : Nat} {cs stk : List Int} {at_ en rt : Int} {vS : Value} (h : VmB w0 W K g cs stk at_ en rt vS) (hb : Below W.heap.size W W') : VmB w0 W' K g cs stk at_ en rt vS :=
  ⟨below_step h.hB hb, h.bg, h.c4, blk_below h.hk hb, Kd.R_below h.hS hb, fun q hq => ⟨blk_below (h.kept q hq).1 hb, (h.kept q hq).2⟩⟩
theorem VmB.setAt {w0 W : World} {K : List (Nat × Obj)} {g : Nat} {cs stk : List Int} {at_ en rt : Int} {vS : Value} (h : VmB w0 W K g cs stk at_ en rt vS) (a : Int) : VmB w0 (W.setCell ⟨g, 5, none⟩ (.int .i64 a)) K g cs stk a en rt vS :=
  ⟨below_set h.hB h.bg, h.bg, h.c4, blk_put h.hk 5 _ (by simp), Kd.R_far h.hS (fun k hk => hk.1) _, vm_kset h.kept _ _⟩
theorem VmB.setEnd {w0 W : World} {K : List (Nat × Obj)} {g : Nat} {cs stk : List Int} {at_ en rt : Int} {vS : Value} (h : VmB w0 W K g cs stk at_ en rt vS) (a : Int) : VmB w0 (W.setCell ⟨g, 6, none⟩ (.int .i64 a)) K g cs stk at_ a rt vS :=
  ⟨below_set h.hB h.bg, h.bg, h.c4, blk_put h.hk 6 _ (by simp), Kd.R_far h.hS (fun k hk => hk.1) _, vm_kset h.kept _ _⟩
theorem VmB.setRet {w0 W : World} {K : List (Nat × Obj)} {g : Nat} {cs stk : List Int} {at_ en rt : Int} {vS : Value} (h : VmB w0 W K g cs stk at_ en rt vS) (a : Int) : VmB w0 (W.setCell ⟨g, 7, none⟩ (.int .i64 a)) K g cs stk at_ en a vS :=
  ⟨below_set h.hB h.bg, h.bg, h.c4, blk_put h.hk 7 _ (by simp), Kd.R_far h.hS (fun k hk => hk.1) _, vm_kset h.kept _ _⟩
end Go.Proofs.Ytddkoimaghcbeaa.PVmSteps
end
section
namespace Go.Proofs.Ytddkoimaghcbeaa.PVmSteps
open Go.RowKit Go.Proofs.YtddkoimaghcbeaaW.PrintWords Go.Proofs.YtddkoimaghcbeaaW.PrintLast Go.Proofs.YtddkoimaghcbeaaW.PrintMore
set_option linter.unusedVariables false
set_option linter.unusedSimpArgs false
/-- A machine's step under way: cells, stack (the top first), place, end, answer. -/
structure VR where
  cs : List Int
  st : List Int
  at_ : Int
  en : Int
  rt : Int
def VrB (w0 W : World) (K : List (Nat × Obj)) (g : Nat) (r : VR) : Prop := ∃ vS, VmB w0 W K g r.cs r.st.reverse r.at_ r.en r.rt vS
theorem VrB.came {w0 W W' : World} {K : List (Nat × Obj)} {g : Nat} {r : VR} (h : VrB w0 W K g r) (hb : Below W.heap.size W W') : VrB w0 W' K g r := let ⟨v, h⟩ := h; ⟨v, h.came hb⟩
theorem VrB.setAt {w0 W : World} {K : List (Nat × Obj)} {g : Nat} {r : VR} (h : VrB w0 W K g r) (a : Int) : VrB w0 (W.setCell ⟨g, 5, none⟩ (.int .i64 a)) K g { r with at_ := a } := let ⟨v, h⟩ := h; ⟨v, h.setAt a⟩
theorem VrB.setEnd {w0 W : World} {K : List (Nat × Obj)} {g : Nat} {r : VR} (h : VrB w0 W K g r) (a : Int) : VrB w0 (W.setCell ⟨g, 6, none⟩ (.int .i64 a)) K g { r with en := a } := let ⟨v, h⟩ := h; ⟨v, h.setEnd a⟩
theorem VrB.setRet {w0 W : World} {K : List (Nat × Obj)} {g : Nat} {r : VR} (h : VrB w0 W K g r) (a : Int) : VrB w0 (W.setCell ⟨g, 7, none⟩ (.int .i64 a)) K g { r with rt := a } := let ⟨v, h⟩ := h; ⟨v, h.setRet a⟩
/-- Blocks that stay: fewer of them. -/
theorem VrB.less {w0 W : World} {K K' : List (Nat × Obj)} {g : Nat} {r : VR} (h : VrB w0 W K g r) (hk : ∀ q ∈ K', q ∈ K) : VrB w0 W K' g r :=
  let ⟨v, h⟩ := h; ⟨v, h.hB, h.bg, h.c4, h.hk, ⟨fun k e => ⟨(h.hS.1 k e).1, fun q hq => (h.hS.1 k e).2 q (hk q hq)⟩, h.hS.2⟩, fun q hq => h.kept q (hk q hq)⟩
/-- A new block. -/
theorem VrB.more {w0 W : World} {K : List (Nat × Obj)} {g : Nat} {r : VR} (h : VrB w0 W K g r) (o : Obj) : VrB w0 (W.alloc o) ((W.heap.size, o) :: K) g r :=
  let ⟨v, h⟩ := h
  let h2 := h.came (below_alloc (Below.refl _ _) o)
  ⟨v, h2.hB, h2.bg, h2.c4, h2.hk, ⟨fun k e => ⟨(h2.hS.1 k e).1, fun q hq => by
    rcases List.mem_cons.1 hq with rfl | hq
    · have := Kd.R_lt h.hS k e; simp only; omega
    · exact (h2.hS.1 k e).2 q hq⟩, h2.hS.2⟩, fun q hq => by
    rcases List.mem_cons.1 hq with rfl | hq
    · exact ⟨blk_new _ _, by have := blk_lt h.hk; simp only; omega⟩
    · exact h2.kept q hq⟩
theorem vm_ssz (W : World) (p : Addr) (v : Value) : (W.setCell p v).heap.size = W.heap.size := by simp [World.setCell]
theorem VrB.moreAt {w0 W : World} {K : List (Nat × Obj)} {g : Nat} {r : VR} (h : VrB w0 W K g r) (o : Obj) (n : Nat) (hn : W.heap.size = n) : VrB w0 (W.alloc o) ((n, o) :: K) g r := by subst hn; exact h.more o
theorem VrB.drew {w0 W : World} {K : List (Nat × Obj)} {g : Nat} {r : VR} (h : VrB w0 W K g r) : VrB w0 W.drew K g r := h.came (below_drew (Below.refl _ _))
theorem VrB.setCs0 {w0 W : World} {K : List (Nat × Obj)} {g : Nat} {r : VR} (h : VrB w0 W K g r) (x : Int) : VrB w0 (W.setCell ⟨g, 0, none⟩ (.int .i64 x)) K g { r with cs := r.cs.set 0 x } := by
  obtain ⟨v, h⟩ := h
  obtain ⟨cs, st, at_, en, rt⟩ := r
  obtain ⟨a, b, c, d, rfl⟩ : ∃ a b c d, cs = [a, b, c, d] := by
    have := h.c4
    match cs, this with
    | [a, b, c, d], _ => exact ⟨a, b, c, d, rfl⟩
  exact ⟨v, below_set h.hB h.bg, h.bg, rfl, blk_put h.hk 0 _ (by simp [rdOf]), Kd.R_far h.hS (fun k hk => hk.1) _, vm_kset h.kept _ _⟩
theorem VrB.setCs1 {w0 W : World} {K : List (Nat × Obj)} {g : Nat} {r : VR} (h : VrB w0 W K g r) (x : Int) : VrB w0 (W.setCell ⟨g, 1, none⟩ (.int .i64 x)) K g { r with cs := r.cs.set 1 x } := by
  obtain ⟨v, h⟩ := h
  obtain ⟨cs, st, at_, en, rt⟩ := r
  obtain ⟨a, b, c, d, rfl⟩ : ∃ a b c d, cs = [a, b, c, d] := by
    have := h.c4
    match cs, this with
    | [a, b, c, d], _ => exact ⟨a, b, c, d, rfl⟩
  exact ⟨v, below_set h.hB h.bg, h.bg, rfl, blk_put h.hk 1 _ (by simp [rdOf]), Kd.R_far h.hS (fun k hk => hk.1) _, vm_kset h.kept _ _⟩
theorem VrB.setCs2 {w0 W : World} {K : List (Nat × Obj)} {g : Nat} {r : VR} (h : VrB w0 W K g r) (x : Int) : VrB w0 (W.setCell ⟨g, 2, none⟩ (.int .i64 x)) K g { r with cs := r.cs.set 2 x } := by
  obtain ⟨v, h⟩ := h
  obtain ⟨cs, st, at_, en, rt⟩ := r
  obtain ⟨a, b, c, d, rfl⟩ : ∃ a b c d, cs = [a, b, c, d] := by
    have := h.c4
    match cs, this with
    | [a, b, c, d], _ => exact ⟨a, b, c, d, rfl⟩
  exact ⟨v, below_set h.hB h.bg, h.bg, rfl, blk_put h.hk 2 _ (by simp [rdOf]), Kd.R_far h.hS (fun k hk => hk.1) _, vm_kset h.kept _ _⟩
theorem VrB.setCs3 {w0 W : World} {K : List (Nat × Obj)} {g : Nat} {r : VR} (h : VrB w0 W K g r) (x : Int) : VrB w0 (W.setCell ⟨g, 3, none⟩ (.int .i64 x)) K g { r with cs := r.cs.set 3 x } := by
  obtain ⟨v, h⟩ := h
  obtain ⟨cs, st, at_, en, rt⟩ := r
  obtain ⟨a, b, c, d, rfl⟩ : ∃ a b c d, cs = [a, b, c, d] := by
    have := h.c4
    match cs, this with
    | [a, b, c, d], _ => exact ⟨a, b, c, d, rfl⟩
  exact ⟨v, below_set h.hB h.bg, h.bg, rfl, blk_put h.hk 3 _ (by simp [rdOf]), Kd.R_far h.hS (fun k hk => hk.1) _, vm_kset h.kept _ _⟩
theorem vm_box {w0 W : World} {K : List (Nat × Obj)} {g bx T : Nat} {a b : Value} {r : VR} (h : VrB w0 W ((bx, .cells #[a, b] T) :: K) g r) : W.cell? ⟨bx, 1, none⟩ = some b := by
  obtain ⟨v, h⟩ := h
  exact blk_cell (h.kept _ List.mem_cons_self).1 1
theorem vm_gen {P : World → Prop} (w : World) (F : World → Prop) (hF : F w) (h : ∀ W, F W → P W) : P w := h w hF
theorem vr_push (w0 w : World) (K : List (Nat × Obj)) (g : Nat) (r : VR) (x : Int) (h : VrB w0 w K g r) (hs : r.st.length ≤ 1000) : Calls Try.prog 90 #[.pointer (some ⟨g, 0, none⟩), .int .i64 x] w fun e w' => e = .returned (.tuple #[]) ∧ VrB w0 w' K g { r with st := x :: r.st } := by
  obtain ⟨vS, h⟩ := h
  refine (vpush_calls w0 w K g r.cs r.st.reverse r.at_ r.en r.rt x vS h (by simpa using hs)).mono ?_
  rintro e w' ⟨rfl, v2, h2⟩
  exact ⟨rfl, v2, by rw [List.reverse_cons]; exact h2⟩
theorem vr_pop (w0 w : World) (K : List (Nat × Obj)) (g : Nat) (r : VR) (x : Int) (s : List Int) (h : VrB w0 w K g r) (hs : r.st = x :: s) : Calls Try.prog 91 #[.pointer (some ⟨g, 0, none⟩)] w fun e w' => e = .returned (.int .i64 x) ∧ VrB w0 w' K g { r with st := s } := by
  obtain ⟨vS, h⟩ := h
  rw [hs, List.reverse_cons] at h
  refine (vpop_calls w0 w K g r.cs s.reverse r.at_ r.en r.rt x vS h).mono ?_
  rintro e w' ⟨rfl, v2, h2⟩
  exact ⟨rfl, v2, h2⟩
/-- One instruction: none where the stack is short or there is no such cell; none within where it refuses. -/
def vdo (op n kind arg : Int) (r : VR) : Option (Option VR) :=
  if op = 0 then some (some { r with st := n :: r.st, at_ := wrap64 (r.at_ + 1) })
  else if op = 1 then (match r.st with | _ :: s => some (some { r with st := s, at_ := wrap64 (r.at_ + 1) }) | [] => none)
  else if op = 2 then (match r.st with | x :: s => some (some { r with st := x :: x :: s, at_ := wrap64 (r.at_ + 1) }) | [] => none)
  else if op = 3 then (match r.st with | b :: a :: s => some (some { r with st := a :: b :: s, at_ := wrap64 (r.at_ + 1) }) | _ => none)
  else if op = 4 then (if 0 ≤ n ∧ n < 4 then some (some { r with st := rdOf 0 r.cs n :: r.st, at_ := wrap64 (r.at_ + 1) }) else none)
  else if op = 5 then (match r.st with | x :: s => if 0 ≤ n ∧ n < 4 then some (some { r with cs := r.cs.set n.toNat x, st := s, at_ := wrap64 (r.at_ + 1) }) else none | [] => none)
  else if op = 6 then some (some { r with st := arg :: r.st, at_ := wrap64 (r.at_ + 1) })
  else if op = 7 then some (some { r with st := kind :: r.st, at_ := wrap64 (r.at_ + 1) })
  else if op = 15 then (match r.st with | x :: s => some (some { r with st := (if x = 0 then 1 else 0) :: s, at_ := wrap64 (r.at_ + 1) }) | [] => none)
  else if op = 16 then some (some { r with at_ := n })
  else if op = 17 then (match r.st with | x :: s => some (some { r with st := s, at_ := if x = 0 then n else wrap64 (r.at_ + 1) }) | [] => none)
  else if op = 18 then (match r.st with | x :: s => some (some { r with st := s, at_ := wrap64 (r.at_ + 1), en := 1, rt := x }) | [] => none)
  else if op = 19 then some (some { r with at_ := wrap64 (r.at_ + 1), en := 2 })
  else (match r.st with | b :: a :: s => (match vtwo op a b with | none => some none | some v => some (some { r with st := v :: s, at_ := wrap64 (r.at_ + 1) })) | _ => none)
end Go.Proofs.Ytddkoimaghcbeaa.PVmSteps
end
