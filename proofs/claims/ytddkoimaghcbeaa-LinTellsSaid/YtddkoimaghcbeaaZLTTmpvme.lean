/- A part of what the law LinTells stands on, only as far as it is needed (the words and walks were printed or written in this seat; this text was cut by a program of this session, wip/bin/trim.py). No condition beyond what each theorem says. -/
import Derived.Test.YtddkoimaghcbeaaZLTPVmStepsx0
import Derived.Test.YtddkoimaghcbeaaZLTPVmStepsx2
import Derived.Test.YtddkoimaghcbeaaZLTPVmStepsx3
import Derived.Test.YtddkoimaghcbeaaZLTPVmStepsx4
import Derived.Test.YtddkoimaghcbeaaZLTPVmStepsx5
import Derived.Test.YtddkoimaghcbeaaZLTPVmStepsx6
import Derived.Test.YtddkoimaghcbeaaZLTTmpvmd
namespace Go.Proofs.Ytddkoimaghcbeaa.PVmSteps
open Go.RowKit Go.Proofs.YtddkoimaghcbeaaW.PrintWords Go.Proofs.YtddkoimaghcbeaaW.PrintLast Go.Proofs.YtddkoimaghcbeaaW.PrintMore
set_option linter.unusedVariables false
set_option linter.unusedSimpArgs false
theorem vm_do {w0 w : World} {K : List (Nat × Obj)} {g : Nat} {op n kind arg : Int} {r r' : VR} (h : VrB w0 w K g r) (hsm : r.st.length ≤ 990) (hop : 0 ≤ op ∧ op ≤ 19) (hv : vdo op n kind arg r = some (some r')) :
    Calls Try.prog 79 #[.pointer (some ⟨g, 0, none⟩), .agg #[.int .i64 op, .int .i64 n], .int .i64 kind, .int .i64 arg] w fun e w' => e = .returned (.tuple #[]) ∧ VrB w0 w' K g r' := by
  obtain ⟨cs, st, at_, en, rt⟩ := r
  unfold vdo at hv
  simp only at hv hsm
  by_cases c0 : op = 0
  · rw [if_pos c0] at hv
    subst c0
    cases hv
    exact vdo_push n kind arg h hsm
  rw [if_neg c0] at hv
  by_cases c1 : op = 1
  · rw [if_pos c1] at hv
    subst c1
    cases st with
    | nil => cases hv
    | cons x s =>
      dsimp only at hv
      cases hv
      exact vdo_pop n kind arg x h (by simp only [List.length_cons] at hsm; omega)
  rw [if_neg c1] at hv
  by_cases c2 : op = 2
  · rw [if_pos c2] at hv
    subst c2
    cases st with
    | nil => cases hv
    | cons x s =>
      dsimp only at hv
      cases hv
      exact vdo_dup n kind arg x h (by simp only [List.length_cons] at hsm; omega)
  rw [if_neg c2] at hv
  by_cases c3 : op = 3
  · rw [if_pos c3] at hv
    subst c3
    cases st with
    | nil => cases hv
    | cons b s =>
      cases s with
      | nil => cases hv
      | cons a s =>
        dsimp only at hv
        cases hv
        exact vdo_swap n kind arg a b h (by simp only [List.length_cons] at hsm; omega)
  rw [if_neg c3] at hv
  by_cases c4 : op = 4
  · rw [if_pos c4] at hv
    subst c4
    split at hv
    · rename_i hn
      cases hv
      have hn4 : n = 0 ∨ n = 1 ∨ n = 2 ∨ n = 3 := by omega
      rcases hn4 with rfl | rfl | rfl | rfl
      · exact vdo_load0 _ kind arg rfl h hsm
      · exact vdo_load1 _ kind arg rfl h hsm
      · exact vdo_load2 _ kind arg rfl h hsm
      · exact vdo_load3 _ kind arg rfl h hsm
    · cases hv
  rw [if_neg c4] at hv
  by_cases c5 : op = 5
  · rw [if_pos c5] at hv
    subst c5
    cases st with
    | nil => cases hv
    | cons x s =>
      dsimp only at hv
      split at hv
      · rename_i hn
        cases hv
        have hn4 : n = 0 ∨ n = 1 ∨ n = 2 ∨ n = 3 := by omega
        rcases hn4 with rfl | rfl | rfl | rfl
        · exact vdo_store0 _ kind arg x rfl h (by simp only [List.length_cons] at hsm; omega)
        · exact vdo_store1 _ kind arg x rfl h (by simp only [List.length_cons] at hsm; omega)
        · exact vdo_store2 _ kind arg x rfl h (by simp only [List.length_cons] at hsm; omega)
        · exact vdo_store3 _ kind arg x rfl h (by simp only [List.length_cons] at hsm; omega)
      · cases hv
  rw [if_neg c5] at hv
  by_cases c6 : op = 6
  · rw [if_pos c6] at hv
    subst c6
    cases hv
    exact vdo_arg n kind arg h hsm
  rw [if_neg c6] at hv
  by_cases c7 : op = 7
  · rw [if_pos c7] at hv
    subst c7
    cases hv
    exact vdo_kind n kind arg h hsm
  rw [if_neg c7] at hv
  by_cases c15 : op = 15
  · rw [if_pos c15] at hv
    subst c15
    cases st with
    | nil => cases hv
    | cons x s =>
      dsimp only at hv
      by_cases hx : x = 0
      · rw [if_pos hx] at hv
        cases hv
        exact vdo_not1 n kind arg x hx h (by simp only [List.length_cons] at hsm; omega)
      · rw [if_neg hx] at hv
        cases hv
        exact vdo_not0 n kind arg x hx h (by simp only [List.length_cons] at hsm; omega)
  rw [if_neg c15] at hv
  by_cases c16 : op = 16
  · rw [if_pos c16] at hv
    subst c16
    cases hv
    exact vdo_jump n kind arg h hsm
  rw [if_neg c16] at hv
  by_cases c17 : op = 17
  · rw [if_pos c17] at hv
    subst c17
    cases st with
    | nil => cases hv
    | cons x s =>
      dsimp only at hv
      by_cases hx : x = 0
      · rw [if_pos hx] at hv
        cases hv
        exact vdo_unless0 n kind arg x hx h (by simp only [List.length_cons] at hsm; omega)
      · rw [if_neg hx] at hv
        cases hv
        exact vdo_unless1 n kind arg x hx h (by simp only [List.length_cons] at hsm; omega)
  rw [if_neg c17] at hv
  by_cases c18 : op = 18
  · rw [if_pos c18] at hv
    subst c18
    cases st with
    | nil => cases hv
    | cons x s =>
      dsimp only at hv
      cases hv
      exact vdo_answer n kind arg x h (by simp only [List.length_cons] at hsm; omega)
  rw [if_neg c18] at hv
  by_cases c19 : op = 19
  · rw [if_pos c19] at hv
    subst c19
    cases hv
    exact vdo_refuse n kind arg h hsm
  rw [if_neg c19] at hv
  cases st with
  | nil => cases hv
  | cons b s =>
    cases s with
    | nil => cases hv
    | cons a s =>
      dsimp only at hv
      cases h2 : vtwo op a b with
      | none =>
        rw [h2] at hv
        cases hv
      | some v =>
        rw [h2] at hv
        cases hv
        exact vdo_two n kind arg op a b v (by omega) h2 h (by simp only [List.length_cons] at hsm; omega)
theorem vm_dono {w0 w : World} {K : List (Nat × Obj)} {g : Nat} {op n kind arg : Int} {r : VR} (h : VrB w0 w K g r) (hsm : r.st.length ≤ 990) (hop : 0 ≤ op ∧ op ≤ 19) (hv : vdo op n kind arg r = some none) :
    Calls Try.prog 79 #[.pointer (some ⟨g, 0, none⟩), .agg #[.int .i64 op, .int .i64 n], .int .i64 kind, .int .i64 arg] w fun e w' => e = .panicked [{ v := .iface 139 (.agg #[]), recovered := false }] ∧ ∃ r2, VrB w0 w' K g r2 := by
  obtain ⟨cs, st, at_, en, rt⟩ := r
  unfold vdo at hv
  simp only at hv hsm
  by_cases c0 : op = 0
  · rw [if_pos c0] at hv
    subst c0
    cases hv
  rw [if_neg c0] at hv
  by_cases c1 : op = 1
  · rw [if_pos c1] at hv
    subst c1
    cases st with
    | nil => cases hv
    | cons x s =>
      dsimp only at hv
      cases hv
  rw [if_neg c1] at hv
  by_cases c2 : op = 2
  · rw [if_pos c2] at hv
    subst c2
    cases st with
    | nil => cases hv
    | cons x s =>
      dsimp only at hv
      cases hv
  rw [if_neg c2] at hv
  by_cases c3 : op = 3
  · rw [if_pos c3] at hv
    subst c3
    cases st with
    | nil => cases hv
    | cons b s =>
      cases s with
      | nil => cases hv
      | cons a s =>
        dsimp only at hv
        cases hv
  rw [if_neg c3] at hv
  by_cases c4 : op = 4
  · rw [if_pos c4] at hv
    subst c4
    split at hv
    · rename_i hn
      cases hv
    · cases hv
  rw [if_neg c4] at hv
  by_cases c5 : op = 5
  · rw [if_pos c5] at hv
    subst c5
    cases st with
    | nil => cases hv
    | cons x s =>
      dsimp only at hv
      split at hv
      · rename_i hn
        cases hv
      · cases hv
  rw [if_neg c5] at hv
  by_cases c6 : op = 6
  · rw [if_pos c6] at hv
    subst c6
    cases hv
  rw [if_neg c6] at hv
  by_cases c7 : op = 7
  · rw [if_pos c7] at hv
    subst c7
    cases hv
  rw [if_neg c7] at hv
  by_cases c15 : op = 15
  · rw [if_pos c15] at hv
    subst c15
    cases st with
    | nil => cases hv
    | cons x s =>
      dsimp only at hv
      cases hv
  rw [if_neg c15] at hv
  by_cases c16 : op = 16
  · rw [if_pos c16] at hv
    subst c16
    cases hv
  rw [if_neg c16] at hv
  by_cases c17 : op = 17
  · rw [if_pos c17] at hv
    subst c17
    cases st with
    | nil => cases hv
    | cons x s =>
      dsimp only at hv
      cases hv
  rw [if_neg c17] at hv
  by_cases c18 : op = 18
  · rw [if_pos c18] at hv
    subst c18
    cases st with
    | nil => cases hv
    | cons x s =>
      dsimp only at hv
      cases hv
  rw [if_neg c18] at hv
  by_cases c19 : op = 19
  · rw [if_pos c19] at hv
    subst c19
    cases hv
  rw [if_neg c19] at hv
  cases st with
  | nil => cases hv
  | cons b s =>
    cases s with
    | nil => cases hv
    | cons a s =>
      dsimp only at hv
      cases h2 : vtwo op a b with
      | none =>
        rw [h2] at hv
        exact (vdo_twono n kind arg op a b (by omega) h2 h (by simp only [List.length_cons] at hsm; omega)).mono (fun e w' he => ⟨he.1, _, he.2⟩)
      | some v =>
        rw [h2] at hv
        cases hv
/-- One instruction, what refuses caught. -/
def vsub (op n kind arg : Int) (r : VR) (r' : VR) : Prop := vdo op n kind arg r = some (some r') ∨ (vdo op n kind arg r = some none ∧ r'.en = 2)
set_option maxRecDepth 100000 in
theorem vm_does {w0 w : World} {K : List (Nat × Obj)} {g : Nat} {op n kind arg : Int} {r : VR} (h : VrB w0 w K g r) (hsm : r.st.length ≤ 990) (hop : 0 ≤ op ∧ op ≤ 19) (hd : vdo op n kind arg r ≠ none) :
    Calls Try.prog 57 #[.pointer (some ⟨g, 0, none⟩), .agg #[.int .i64 op, .int .i64 n], .int .i64 kind, .int .i64 arg] w fun e w' => e = .returned (.tuple #[]) ∧ ∃ r', vsub op n kind arg r r' ∧ VrB w0 w' K g r' := by
  have hmf : ∀ (fn : Fn) (first cap : Array Value) (w : World), (Instr.makeFunc fn first cap).run Try.prog w = .ok (.func fn first cap) w := fun _ _ _ _ => rfl
  have h2 := (h.more (.cells #[.pointer (some ⟨g, 0, none⟩)] 137)).moreAt (.cells #[.int .i64 op, .int .i64 n] 36) (w.heap.size + 1) (by simp)
  cases hv : vdo op n kind arg r with
  | none => exact absurd hv hd
  | some o =>
    clear hd
    cases o with
    | some r' =>
      have hs : vsub op n kind arg r r' := .inl hv
      replace hs := Aside0.mk hs
      replace hv := Aside0.mk hv
      replace h2 := Aside0.mk h2
      clear h
      go_enter_defers Try.func57, Try.ntmps57
      go_wp2_with (go_at_call 79; (with_reducible refine (vm_do h2.out hsm hop hv.out).mono ?_); rintro e W2 ⟨rfl, h3⟩; replace h3 := Aside0.mk h3)
      refine leaves_cons (f := 78) (args := #[.pointer (some ⟨w.heap.size, 0, none⟩)]) (by simp) (by simp [go_sem]) ?_
      refine (vd_idle ⟨w.heap.size, 0, none⟩ _).mono ?_
      rintro e u' w'' ⟨rfl, rfl, rfl⟩
      have hfin : ∃ r', vsub op n kind arg r r' ∧ VrB w0 w'' K g r' := ⟨r', hs.out, h3.out.less (fun q hq => List.mem_cons_of_mem _ (List.mem_cons_of_mem _ hq))⟩
      simp only [Leaves, settle, results, Try.results57, go_sem]
      simp
      exact hfin
    | none =>
      replace hv := Aside0.mk hv
      replace h2 := Aside0.mk h2
      clear h
      go_enter_defers Try.func57, Try.ntmps57
      go_wp2_with (go_at_call 79; (with_reducible refine (vm_dono h2.out hsm hop hv.out).mono ?_); rintro e W2 ⟨rfl, r2, h3⟩; replace h3 := Aside0.mk h3)
      refine leaves_cons (f := 78) (args := #[.pointer (some ⟨w.heap.size, 0, none⟩)]) (by simp) (by simp [go_sem]) ?_
      obtain ⟨v2, q2⟩ := h3.out
      refine (vd_refused ⟨w.heap.size, 0, none⟩ g r2.en [] _ (blk_cell (q2.kept _ (List.mem_cons_of_mem _ List.mem_cons_self)).1 0) _ _ _ _ _ _ _ q2.hk).mono ?_
      rintro e u' w'' ⟨rfl, rfl, o, rfl⟩
      have hfin : ∃ r', vsub op n kind arg r r' ∧ VrB w0 ((W2.alloc o).setCell ⟨g, 6, none⟩ (.int .i64 2)) K g r' := ⟨{ r2 with en := 2 }, .inr ⟨hv.out, rfl⟩, ((h3.out.less (fun q hq => List.mem_cons_of_mem _ (List.mem_cons_of_mem _ hq))).came (below_alloc (Below.refl _ _) o)).setEnd 2⟩
      simp only [Leaves, settle, results, Try.results57, go_sem]
      simp
      exact ⟨.tuple #[], by simp [results, Try.results57, go_sem], rfl, hfin⟩
end Go.Proofs.Ytddkoimaghcbeaa.PVmSteps
