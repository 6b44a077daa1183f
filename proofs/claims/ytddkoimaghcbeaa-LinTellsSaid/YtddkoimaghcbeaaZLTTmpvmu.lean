/- A part of what the law LinTells stands on, only as far as it is needed (the words and walks were printed or written in this seat; this text was cut by a program of this session, wip/bin/trim.py). No condition beyond what each theorem says. -/
import Derived.ChangeKeysEq
import Derived.Test.YtddkoimaghcbeaaZLTPVmStepsx0
import Derived.Test.YtddkoimaghcbeaaZLTPVmStepsx2
import Derived.Test.YtddkoimaghcbeaaZLTPVmStepsx3
import Derived.Test.YtddkoimaghcbeaaZLTPVmStepsx4
import Derived.Test.YtddkoimaghcbeaaZLTPVmStepsx5
import Derived.Test.YtddkoimaghcbeaaZLTPVmStepsx6
import Derived.Test.YtddkoimaghcbeaaZLTTmpvmt
import Derived.Test.YtddkoimaghcbeaaZLTTmpvmr
import Derived.Test.YtddkoimaghcbeaaZLTTmpvms
import Derived.Test.YtddkoimaghcbeaaZLTTmpvmq
section
namespace Go.Proofs.Ytddkoimaghcbeaa.PVmSteps
open Go.RowKit Go.Proofs.YtddkoimaghcbeaaW.PrintWords Go.Proofs.YtddkoimaghcbeaaW.PrintLast Go.Proofs.YtddkoimaghcbeaaW.PrintMore
set_option linter.unusedVariables false
set_option linter.unusedSimpArgs false
attribute [local go_sem] Op.eqItems
theorem eqI24 (d : Nat) (w : World) (x0 x1 x2 x3 y0 y1 y2 y3 : Int) :
    (Op.equalIn (d + 2) 24 (.agg #[.int .i64 x0, .int .i64 x1, .int .i64 x2, .int .i64 x3]) (.agg #[.int .i64 y0, .int .i64 y1, .int .i64 y2, .int .i64 y3])).run Try.prog w = .ok (x0 == y0 && (x1 == y1 && (x2 == y2 && (x3 == y3)))) w := by
  obtain ⟨i0, hi, hz0, hz1, hz2⟩ := info_parts vp_info2
  have hc : Try.prog.cellsOf 2 = 1 := by kernel_rfl
  rw [run_equalIn_array w (d + 1) _ _ Try.underlying24 hi, hc]
  simp only [show List.range 4 = [0, 1, 2, 3] from rfl]
  by_cases c0 : x0 = y0
  · by_cases c1 : x1 = y1
    · by_cases c2 : x2 = y2
      · by_cases c3 : x3 = y3
        · subst c0 c1 c2 c3; go_simp
        · have e3 : (x3 == y3) = false := beq_eq_false_iff_ne.mpr c3
          subst c0 c1 c2; go_simp
      · have e2 : (x2 == y2) = false := beq_eq_false_iff_ne.mpr c2
        subst c0 c1; go_simp
    · have e1 : (x1 == y1) = false := beq_eq_false_iff_ne.mpr c1
      subst c0; go_simp
  · have e0 : (x0 == y0) = false := beq_eq_false_iff_ne.mpr c0
    go_simp
theorem guard24 : Try.prog.eqGuardType Try.prog.depth 24 = false := by kernel_rfl
theorem eqI24_0 (w : World) (x0 x1 x2 x3 y0 y1 y2 y3 : Int) :
    (Op.equalIn 10000 24 (.agg #[.int .i64 x0, .int .i64 x1, .int .i64 x2, .int .i64 x3]) (.agg #[.int .i64 y0, .int .i64 y1, .int .i64 y2, .int .i64 y3])).run Try.prog w = .ok (x0 == y0 && (x1 == y1 && (x2 == y2 && (x3 == y3)))) w := eqI24 9998 w x0 x1 x2 x3 y0 y1 y2 y3
end Go.Proofs.Ytddkoimaghcbeaa.PVmSteps
end
section
namespace Go.Proofs.Ytddkoimaghcbeaa.PVmSteps
open Go.RowKit Go.Proofs.YtddkoimaghcbeaaW.PrintWords Go.Proofs.YtddkoimaghcbeaaW.PrintLast Go.Proofs.YtddkoimaghcbeaaW.PrintMore
set_option linter.unusedVariables false
set_option linter.unusedSimpArgs false
/-- What holds inside a drawn statement with one new variable: made by operation i, written by operation j. -/
structure OneC (WX : World) (i j : Nat) (z x : Obj) (b : Nat → Bool) (us : Nat → Value) (W : World) : Prop where
  hB : Below WX.heap.size WX W
  hx : rbX W WX.heap.size (b i) (b j) (us i) z x
  hd : b j = true → b i = true
section
variable {WX W : World} {i j : Nat} {z x : Obj} {b : Nat → Bool} {us : Nat → Value}
theorem OneC.start (WX : World) (i j : Nat) (z x : Obj) (us : Nat → Value) : OneC WX i j z x (fun _ => false) us WX.drew := ⟨below_drew (Below.refl _ _), (fun h => by cases h), (fun h => by cases h)⟩
theorem OneC.off {k : Nat} (h : OneC WX i j z x b us W) (hi : i ≠ k) (hj : j ≠ k) : OneC WX i j z x (up b k) us W := by
  refine ⟨h.hB, ?_, ?_⟩
  · rw [up_off hi, up_off hj]; exact h.hx
  · rw [up_off hi, up_off hj]; exact h.hd
theorem OneC.came {W' : World} (h : OneC WX i j z x b us W) (hb : Below W.heap.size W W') : OneC WX i j z x b us W' := ⟨below_step h.hB hb, h.hx.below hb, h.hd⟩
theorem OneC.new (h : OneC WX i j z x b us W) (hij : j ≠ i) (hb : b i = false) : OneC WX i j z x (up b i) (usUp us i (.pointer (some ⟨W.heap.size, 0, none⟩))) (W.alloc z) := by
  have hj : b j = false := by
    cases hc : b j with
    | false => rfl
    | true => rw [h.hd hc] at hb; cases hb
  refine ⟨below_step h.hB (below_alloc (Below.refl _ _) _), ?_, fun _ => by simp [up]⟩
  rw [up_off hij]
  have e : usUp us i (.pointer (some ⟨W.heap.size, 0, none⟩)) i = .pointer (some ⟨W.heap.size, 0, none⟩) := by simp [usUp]
  rw [e]
  exact rbX.new hj h.hB.size
theorem OneC.at (h : OneC WX i j z x b us W) (hi : b i = true) (hj : b j = false) : ∃ g, us i = .pointer (some ⟨g, 0, none⟩) ∧ WX.heap.size ≤ g ∧ W.heap[g]? = some z := h.hx.at hi hj
theorem OneC.put {W' : World} {g : Nat} (h : OneC WX i j z x b us W) (hij : i ≠ j) (hi : b i = true) (eg : us i = .pointer (some ⟨g, 0, none⟩)) (hg : WX.heap.size ≤ g) (hB : Below WX.heap.size WX W') (hk : W'.heap[g]? = some x) : OneC WX i j z x (up b j) us W' := by
  refine ⟨hB, ?_, fun _ => by rw [up_off hij]; exact hi⟩
  intro _
  have e : up b j j = true := by simp [up]
  rw [e]
  exact ⟨g, eg, hg, hk⟩
theorem OneC.done (h : OneC WX i j z x b us W) (hi : b i = true) (hj : b j = true) : ∃ g, us i = .pointer (some ⟨g, 0, none⟩) ∧ WX.heap.size ≤ g ∧ W.heap[g]? = some x := h.hx.done hi hj
end
/-- The zero of a step, a step in memory. -/
def stepZ : Obj := .cells #[.int .i64 0, .int .i64 0, .int .i64 0, .int .i64 0, .int .i64 0, .int .i64 0, .int .i64 0] 38
def stepO (k d0 d1 d2 d3 r u : Int) : Obj := .cells #[.int .i64 k, .int .i64 d0, .int .i64 d1, .int .i64 d2, .int .i64 d3, .int .i64 r, .int .i64 u] 38
/-- The store of a step into such a variable. -/
def stepPut (W : World) (g : Nat) (k d0 d1 d2 d3 r u : Int) : World := (((((((W.setCell ⟨g, 0, none⟩ (.int .i64 k)).setCell ⟨g, 1, none⟩ (.int .i64 d0)).setCell ⟨g, 2, none⟩ (.int .i64 d1)).setCell ⟨g, 3, none⟩ (.int .i64 d2)).setCell ⟨g, 4, none⟩ (.int .i64 d3)).setCell ⟨g, 5, none⟩ (.int .i64 r)).setCell ⟨g, 6, none⟩ (.int .i64 u))
theorem step_cells {WX : World} {g : Nat} {k d0 d1 d2 d3 r u : Int} (h : WX.heap[g]? = some (stepO k d0 d1 d2 d3 r u)) (W_ : World) (hb : Below WX.heap.size WX W_) :
    W_.cell? ⟨g, 0, none⟩ = some (.int .i64 k) ∧ W_.cell? ⟨g, 1, none⟩ = some (.int .i64 d0) ∧ W_.cell? ⟨g, 2, none⟩ = some (.int .i64 d1) ∧ W_.cell? ⟨g, 3, none⟩ = some (.int .i64 d2) ∧ W_.cell? ⟨g, 4, none⟩ = some (.int .i64 d3) ∧ W_.cell? ⟨g, 5, none⟩ = some (.int .i64 r) ∧ W_.cell? ⟨g, 6, none⟩ = some (.int .i64 u) := by
  have h2 := blk_below h hb
  exact ⟨blk_cell h2 0, blk_cell h2 1, blk_cell h2 2, blk_cell h2 3, blk_cell h2 4, blk_cell h2 5, blk_cell h2 6⟩
/-- A list of four numbers. -/
theorem four_of {rs : List Int} (h : rs.length = 4) : ∃ a b c d, rs = [a, b, c, d] := by
  match rs, h with
  | [a, b, c, d], _ => exact ⟨a, b, c, d, rfl⟩
end Go.Proofs.Ytddkoimaghcbeaa.PVmSteps
end
section
namespace Go.Proofs.Ytddkoimaghcbeaa.PVmSteps
open Go.RowKit Go.Proofs.YtddkoimaghcbeaaW.PrintWords Go.Proofs.YtddkoimaghcbeaaW.PrintLast Go.Proofs.YtddkoimaghcbeaaW.PrintMore
set_option linter.unusedVariables false
set_option linter.unusedSimpArgs false
/-- A number of 64 bits. -/
def inR (a : Int) : Prop := -9223372036854775808 ≤ a ∧ a ≤ 9223372036854775807
theorem inR_w (a : Int) : inR (wrap64 a) := by unfold inR wrap64; omega
theorem w_inR {a : Int} (h : inR a) : wrap64 a = a := by unfold inR at h; unfold wrap64; omega
theorem w_u_add (a b : Int) : wrap64 (IntKind.u64.wrap ((IntKind.u64.wrap a) + (IntKind.u64.wrap b))) = wrap64 (a + b) := by rw [wu64, wu64, wu64]; unfold wrap64; omega
theorem w_u_sub (a b : Int) : wrap64 (IntKind.u64.wrap ((IntKind.u64.wrap a) - (IntKind.u64.wrap b))) = wrap64 (a - b) := by rw [wu64, wu64, wu64]; unfold wrap64; omega
theorem w_emod (a : Int) : wrap64 (a % 18446744073709551616) = wrap64 a := by unfold wrap64; omega
theorem w_u_mul (a b : Int) : wrap64 (IntKind.u64.wrap ((IntKind.u64.wrap a) * (IntKind.u64.wrap b))) = wrap64 (a * b) := by
  rw [wu64, wu64, wu64, w_emod]
  have h : ((a % 18446744073709551616) * (b % 18446744073709551616)) % 18446744073709551616 = (a * b) % 18446744073709551616 := (Int.mul_emod a b _).symm
  rw [← w_emod, h, w_emod]
theorem tdiv_ab (a b : Int) (hb : b ≠ 0) (hb1 : b ≠ -1) (ha : inR a) : inR (a.tdiv b) := by
  have h := Int.natAbs_tdiv a b
  have h2 : a.natAbs / b.natAbs ≤ a.natAbs := Nat.div_le_self _ _
  unfold inR at *
  by_cases hb2 : b = 1
  · subst hb2; rw [Int.tdiv_one]; exact ha
  · have h3 : a.natAbs / b.natAbs ≤ a.natAbs / 2 := Nat.div_le_div_left (by omega) (by omega)
    have h4 : (a.tdiv b).natAbs ≤ a.natAbs / 2 := by rw [h]; exact h3
    omega
theorem tmod_b (a b : Int) : (0 ≤ a → 0 ≤ a.tmod b ∧ a.tmod b ≤ a) ∧ (a ≤ 0 → a ≤ a.tmod b ∧ a.tmod b ≤ 0) := by
  have h1 := Int.natAbs_tmod a b
  have h2 : a.natAbs % b.natAbs ≤ a.natAbs := Nat.mod_le _ _
  have h3 : (a.tmod b).natAbs ≤ a.natAbs := by rw [h1]; exact h2
  refine ⟨fun h => ?_, fun h => ?_⟩
  · have := Int.tmod_nonneg b h
    omega
  · have h5 := Int.tmod_nonneg b (show 0 ≤ -a by omega)
    rw [Int.neg_tmod] at h5
    omega
theorem joined_v (op a b : Int) (hop : 8 ≤ op ∧ op ≤ 14) (ha : inR a) (hb : inR b) : inquestref16_joined.f op a b = some ((vtwo op a b).getD 0, (vtwo op a b).isSome) := by
  unfold inquestref16_joined.f vtwo
  by_cases h8 : op = 8
  · rw [if_pos h8, if_pos h8, w_u_add]; rfl
  rw [if_neg h8, if_neg h8]
  by_cases h9 : op = 9
  · rw [if_pos h9, if_pos h9, w_u_sub]; rfl
  rw [if_neg h9, if_neg h9]
  by_cases h10 : op = 10
  · rw [if_pos h10, if_pos h10, w_u_mul]; rfl
  rw [if_neg h10, if_neg h10]
  by_cases h13 : op = 13
  · rw [if_pos h13, if_pos h13]
    unfold inquestref16_truth.f
    by_cases c : a < b <;> simp [c]
  rw [if_neg h13, if_neg h13]
  by_cases h14 : op = 14
  · rw [if_pos h14, if_pos h14]
    unfold inquestref16_truth.f
    by_cases c : a = b <;> simp [c]
  rw [if_neg h14, if_neg h14]
  by_cases hb0 : b = 0
  · rw [if_pos hb0, if_pos hb0]; rfl
  rw [if_neg hb0, if_neg hb0]
  by_cases hb1 : b = -1
  · subst hb1
    rw [if_pos rfl]
    by_cases h11 : op = 11
    · rw [if_pos h11, if_pos h11, wu64, wu64, w_emod, Int.tdiv_neg, Int.tdiv_one]
      simp only [Option.getD_some, Option.isSome_some]
      congr 2
      unfold wrap64; omega
    · rw [if_neg h11, if_neg h11]
      simp [Int.tmod_neg, Int.tmod_one]
  · have hd := tdiv_ab a b hb0 hb1 ha
    rw [if_neg hb1]
    by_cases h11 : op = 11
    · rw [if_pos h11, if_pos h11]; rfl
    · rw [if_neg h11, if_neg h11, w_inR hd]
      have e := Int.tdiv_mul_add_tmod a b
      have hm : inR (a.tdiv b * b) := by
        have h1 := tmod_b a b
        unfold inR at *; omega
      rw [w_inR hm]
      have e2 : a - a.tdiv b * b = a.tmod b := by omega
      rw [e2]
      have hr : inR (a.tmod b) := by
        have h1 := tmod_b a b
        unfold inR at *; omega
      rw [w_inR hr]; rfl
theorem vtwo_inR (op a b v : Int) (ha : inR a) (h : vtwo op a b = some v) : inR v := by
  unfold vtwo at h
  split at h
  · cases h; exact inR_w _
  split at h
  · cases h; exact inR_w _
  split at h
  · cases h; exact inR_w _
  split at h
  · cases h; unfold inR; split <;> omega
  split at h
  · cases h; unfold inR; split <;> omega
  split at h
  · cases h
  split at h
  · cases h; exact inR_w _
  · cases h
    have h1 := tmod_b a b
    unfold inR at *; omega
/-- All numbers of a run are of 64 bits. -/
def VRok (r : VR) : Prop := (∀ x ∈ r.cs, inR x) ∧ (∀ x ∈ r.st, inR x) ∧ inR r.rt
theorem rd_inR {cs : List Int} (h : ∀ x ∈ cs, inR x) (n : Int) : inR (rdOf 0 cs n) := by
  unfold rdOf
  rw [List.getD_eq_getElem?_getD]
  cases e : cs[n.toNat]? with
  | none => simp [inR]
  | some v => exact h v (List.mem_of_getElem? e)
theorem vdo_ok (op n kind arg : Int) (r r' : VR) (hr : VRok r) (hn : inR n) (hk : inR kind) (ha : inR arg) (h : vdo op n kind arg r = some (some r')) : VRok r' := by
  obtain ⟨cs, st, at_, en, rt⟩ := r
  obtain ⟨h1, h2, h3⟩ := hr
  unfold vdo at h
  simp only at h h1 h2 h3
  by_cases c0 : op = 0
  · rw [if_pos c0] at h
    cases h
    exact ⟨h1, List.forall_mem_cons.2 ⟨hn, h2⟩, h3⟩
  rw [if_neg c0] at h
  by_cases c1 : op = 1
  · rw [if_pos c1] at h
    cases st with
    | nil => cases h
    | cons x s =>
      dsimp only at h
      cases h
      exact ⟨h1, (List.forall_mem_cons.1 h2).2, h3⟩
  rw [if_neg c1] at h
  by_cases c2 : op = 2
  · rw [if_pos c2] at h
    cases st with
    | nil => cases h
    | cons x s =>
      dsimp only at h
      cases h
      exact ⟨h1, List.forall_mem_cons.2 ⟨(List.forall_mem_cons.1 h2).1, h2⟩, h3⟩
  rw [if_neg c2] at h
  by_cases c3 : op = 3
  · rw [if_pos c3] at h
    cases st with
    | nil => cases h
    | cons b s =>
      cases s with
      | nil => cases h
      | cons a s =>
        dsimp only at h
        cases h
        have g1 := List.forall_mem_cons.1 h2
        have g2 := List.forall_mem_cons.1 g1.2
        exact ⟨h1, List.forall_mem_cons.2 ⟨g2.1, List.forall_mem_cons.2 ⟨g1.1, g2.2⟩⟩, h3⟩
  rw [if_neg c3] at h
  by_cases c4 : op = 4
  · rw [if_pos c4] at h
    split at h
    · cases h
      exact ⟨h1, List.forall_mem_cons.2 ⟨rd_inR h1 _, h2⟩, h3⟩
    · cases h
  rw [if_neg c4] at h
  by_cases c5 : op = 5
  · rw [if_pos c5] at h
    cases st with
    | nil => cases h
    | cons x s =>
      dsimp only at h
      split at h
      · cases h
        exact ⟨fun x hx => by
          rcases List.mem_or_eq_of_mem_set hx with hx | rfl
          · exact h1 _ hx
          · exact (List.forall_mem_cons.1 h2).1, (List.forall_mem_cons.1 h2).2, h3⟩
      · cases h
  rw [if_neg c5] at h
  by_cases c6 : op = 6
  · rw [if_pos c6] at h
    cases h
    exact ⟨h1, List.forall_mem_cons.2 ⟨ha, h2⟩, h3⟩
  rw [if_neg c6] at h
  by_cases c7 : op = 7
  · rw [if_pos c7] at h
    cases h
    exact ⟨h1, List.forall_mem_cons.2 ⟨hk, h2⟩, h3⟩
  rw [if_neg c7] at h
  by_cases c15 : op = 15
  · rw [if_pos c15] at h
    cases st with
    | nil => cases h
    | cons x s =>
      dsimp only at h
      cases h
      exact ⟨h1, List.forall_mem_cons.2 ⟨by unfold inR; split <;> omega, (List.forall_mem_cons.1 h2).2⟩, h3⟩
  rw [if_neg c15] at h
  by_cases c16 : op = 16
  · rw [if_pos c16] at h
    cases h
    exact ⟨h1, h2, h3⟩
  rw [if_neg c16] at h
  by_cases c17 : op = 17
  · rw [if_pos c17] at h
    cases st with
    | nil => cases h
    | cons x s =>
      dsimp only at h
      cases h
      exact ⟨h1, (List.forall_mem_cons.1 h2).2, h3⟩
  rw [if_neg c17] at h
  by_cases c18 : op = 18
  · rw [if_pos c18] at h
    cases st with
    | nil => cases h
    | cons x s =>
      dsimp only at h
      cases h
      exact ⟨h1, (List.forall_mem_cons.1 h2).2, (List.forall_mem_cons.1 h2).1⟩
  rw [if_neg c18] at h
  by_cases c19 : op = 19
  · rw [if_pos c19] at h
    cases h
    exact ⟨h1, h2, h3⟩
  rw [if_neg c19] at h
  cases st with
  | nil => cases h
  | cons b s =>
    cases s with
    | nil => cases h
    | cons a s =>
      dsimp only at h
      cases h4 : vtwo op a b with
      | none => rw [h4] at h; cases h
      | some v =>
        rw [h4] at h
        cases h
        have g1 := List.forall_mem_cons.1 h2
        have g2 := List.forall_mem_cons.1 g1.2
        exact ⟨h1, List.forall_mem_cons.2 ⟨vtwo_inR op a b v g2.1 h4, g2.2⟩, h3⟩
end Go.Proofs.Ytddkoimaghcbeaa.PVmSteps
end
