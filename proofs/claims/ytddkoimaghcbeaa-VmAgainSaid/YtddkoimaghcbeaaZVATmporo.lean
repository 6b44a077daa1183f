/- A part of what the law VmAgain stands on, only as far as it is needed (the words and walks were printed or written in this seat; this text was cut by a program of this session, wip/bin/trim.py). No condition beyond what each theorem says. -/
import Derived.IntWalk
import Derived.StillTailTactics
import Derived.Deep.RegionHeld3
import Derived.Deep.QuietTactic
import Derived.BigQuiet
import Derived.Test.YtddkoimaghcbeaaZVAPVmStepsx0
import Derived.Test.YtddkoimaghcbeaaZVAPVmStepsx2
import Derived.Test.YtddkoimaghcbeaaZVAPVmStepsx3
import Derived.Test.YtddkoimaghcbeaaZVAPVmStepsx4
import Derived.Test.YtddkoimaghcbeaaZVAPVmStepsx5
import Derived.Test.YtddkoimaghcbeaaZVATmpvmu
import Derived.Test.YtddkoimaghcbeaaZVATmpvmq
import Derived.Test.YtddkoimaghcbeaaZVATmplia
section
namespace Go.Proofs.Ytddkoimaghcbeaa.PVmSteps
open Go.RowKit Go.Proofs.YtddkoimaghcbeaaW.PrintWords Go.Proofs.YtddkoimaghcbeaaW.PrintLast Go.Proofs.YtddkoimaghcbeaaW.PrintMore
set_option linter.unusedVariables false
set_option linter.unusedSimpArgs false
variable {P : Program} {B : List Nat} {C : RbC} {i : Nat} {o : Oper} {A : (Nat → Value) → Act}
/-- A read that may look at what is done so far. -/
theorem rb_read {v : Value} (hE : rbOff C i) (h : ∀ b us w, b i = false → (∀ j, j < i → (B.getD i 0).testBit j = true → b j = true) → C b us w → (execOp (A us).eval o).run P w = .ok (.value v) w) : rbOp P B C i o A (some v) := fun b us w hb hon hC => by
  rw [h b us w hb hon hC]; exact ⟨rfl, hE b us w hC⟩
theorem up_on {b : Nat → Bool} {k j : Nat} (h : b j = true) : up b k j = true := by
  by_cases c : j = k
  · subst c; simp [up]
  · rw [up_off c]; exact h
end Go.Proofs.Ytddkoimaghcbeaa.PVmSteps
end
section
namespace Go.Proofs.Ytddkoimaghcbeaa.PVmSteps
open Go.RowKit Go.Proofs.YtddkoimaghcbeaaW.PrintWords Go.Proofs.YtddkoimaghcbeaaW.PrintLast Go.Proofs.YtddkoimaghcbeaaW.PrintMore
set_option linter.unusedVariables false
set_option linter.unusedSimpArgs false
theorem Kd.run_append {P : Program} {α : Type} (d : Kd α) {W : World} (base : Nat) {o : Oper} {ev : Operand → Value} (s x : Operand) (t e : TypeId) (z : Value) (bytes : Nat)
    (ho : o.op = .call { callee := .builtin .append, args := #[s, x], argTypes := #[t, t] })
    (ht : P.underlying t = some (.slice e)) (hinfo : (P.info? e).map (fun i => (i.zero, i.size, i.bytes)) = some (some z, d.sz, bytes)) (hz : z.cells.size = d.sz) (hs0 : 0 < d.sz) (hb0 : 0 < bytes)
    (v : Value) (xs : List α) (p : α) (cs : List Value) (ok okp : Nat → Prop) (hs : ev s = v) {gb : Nat} (hx : ev x = .slice (some ⟨gb, 0, none⟩) 1 1) (hgb : W.heap[gb]? = some (Obj.cells cs.toArray e (0, 0))) (hp : d.M W base okp p cs) (hokp : ∀ k, okp k → ok k ∧ some k ≠ v.ownBlock) (hfresh : ∀ k, W.heap.size ≤ k → ok k)
    (HO : d.R e W base ok v xs) (hbase : base ≤ W.heap.size) (hl : (xs.length + 1) * bytes ≤ 140737488355328) :
    ∃ v1 w1, (execOp ev o).run P W = .ok (.value v1) w1 ∧ d.R e w1 base ok v1 (xs ++ [p]) ∧ W.grownBy w1 v.ownBlock := by
  obtain ⟨i0, hi, hzz⟩ := Option.map_eq_some_iff.1 hinfo
  simp only [Prod.mk.injEq] at hzz
  obtain ⟨hz0, hz1, hz2⟩ := hzz
  have hlen : xs.length + 1 ≤ 140737488355328 := Nat.le_trans (Nat.le_mul_of_pos_right _ hb0) hl
  obtain ⟨h0, inner, hown, hr⟩ := HO
  have hcl : cs.length = d.sz := d.K_len (d.K_of_M hp)
  obtain ⟨v1, w1, hrun, hown1, hg1, _, hat1⟩ := run_append_own_at (P := P) W base t o.type e i0 z d.sz bytes ht hi hz0 hz1 hz2 hz hs0 v xs.length inner hown ⟨gb, 0, none⟩ 1 1 cs (by rw [hcl]; simp)
    (fun j u hj => by
      have := blk_cell hgb j
      rw [List.getElem?_toArray, hj] at this
      have e0 : (⟨gb, 0, none⟩ : Addr).add j = ⟨gb, j, none⟩ := by
        unfold Addr.add
        simp only [Nat.zero_add]
        split
        · rename_i z0; rw [z0]
        · rfl
      rw [e0]; exact this) (d.K_one (d.K_of_M hp)) (by simp only [maxLen]; omega) hl hbase
  refine ⟨v1, w1, ?_, Kd.R_appended h0 hr hp hokp hfresh hown1 hg1 (hat1.imp id (fun h => ⟨_, h, Nat.le_refl _⟩)), hg1⟩
  unfold execOp
  simp only [ho, resolve, invoke, builtin, Sem.run_bind, Sem.run_pure, Result.andThen_ok, List.map_toArray, List.map_cons, List.map_nil, hs, hx, hrun]
theorem Kd.run_append_k {P : Program} {α : Type} (d : Kd α) {W : World} (base : Nat) {o : Oper} {ev : Operand → Value} {K : Value → World → Prop} (s x : Operand) (t e : TypeId) (z : Value) (bytes : Nat)
    (ho : o.op = .call { callee := .builtin .append, args := #[s, x], argTypes := #[t, t] })
    (ht : P.underlying t = some (.slice e)) (hinfo : (P.info? e).map (fun i => (i.zero, i.size, i.bytes)) = some (some z, d.sz, bytes)) (hz : z.cells.size = d.sz) (hs0 : 0 < d.sz) (hb0 : 0 < bytes)
    (v : Value) (xs : List α) (p : α) (cs : List Value) (ok okp : Nat → Prop) (hs : ev s = v) (gb : Nat) (hx : ev x = .slice (some ⟨gb, 0, none⟩) 1 1) (hgb : W.heap[gb]? = some (Obj.cells cs.toArray e (0, 0))) (hp : d.M W base okp p cs) (hokp : ∀ k, okp k → ok k ∧ some k ≠ v.ownBlock) (hfresh : ∀ k, W.heap.size ≤ k → ok k)
    (HO : d.R e W base ok v xs) (hbase : base ≤ W.heap.size) (hl : (xs.length + 1) * bytes ≤ 140737488355328)
    (hk : ∀ v1 w1, d.R e w1 base ok v1 (xs ++ [p]) → W.grownBy w1 v.ownBlock → K v1 w1) : ∃ u w', (execOp ev o).run P W = .ok (.value u) w' ∧ K u w' := by
  obtain ⟨v1, w1, h1, h2, h3⟩ := Kd.run_append d base s x t e z bytes ho ht hinfo hz hs0 hb0 v xs p cs ok okp hs hx hgb hp hokp hfresh HO hbase hl
  exact ⟨v1, w1, h1, hk v1 w1 h2 h3⟩
end Go.Proofs.Ytddkoimaghcbeaa.PVmSteps
end
section
namespace Go.Proofs.Ytddkoimaghcbeaa.PVmSteps
open Go.RowKit Go.Proofs.YtddkoimaghcbeaaW.PrintWords Go.Proofs.YtddkoimaghcbeaaW.PrintLast Go.Proofs.YtddkoimaghcbeaaW.PrintMore
set_option linter.unusedVariables false
set_option linter.unusedSimpArgs false
structure AgC (WS W1 : World) (xs : List StZ) (x : StZ) (b : Nat → Bool) (us : Nat → Value) (W : World) : Prop where
  d12 : b 12 = true → b 11 = true
  d11 : b 11 = true → b 10 = true
  d10 : b 10 = true → b 3 = true ∧ b 5 = true ∧ b 7 = true ∧ b 9 = true
  d9 : b 9 = true → b 8 = true
  early : b 12 = false → Below W1.heap.size W1 W ∧ (b 11 = true → ∃ gb, us 11 = .slice (some ⟨gb, 0, none⟩) 1 1 ∧ W.heap[gb]? = some (Obj.cells (stC x).toArray 38 (0, 0)))
  e13 : b 13 = true → b 12 = true ∧ us 13 = us 12
  late : b 12 = true → Below WS.heap.size WS W ∧ Kd.R kSt 38 W WS.heap.size (fun _ => True) (us 12) (xs ++ [x])
section
variable {WS W1 W : World} {xs : List StZ} {x : StZ} {b : Nat → Bool} {us : Nat → Value}
theorem AgC.start (WS W1 : World) (xs : List StZ) (x : StZ) (us : Nat → Value) : AgC WS W1 xs x (fun _ => false) us W1.drew :=
  ⟨fun h => (by cases h), fun h => (by cases h), fun h => (by cases h), fun h => (by cases h), fun _ => ⟨below_drew (Below.refl _ _), fun h => (by cases h)⟩, fun h => (by cases h), fun h => (by cases h)⟩
theorem AgC.off {k : Nat} (h : AgC WS W1 xs x b us W) (h9 : 9 ≠ k) (h10 : 10 ≠ k) (h11 : 11 ≠ k) (h12 : 12 ≠ k) (h13 : 13 ≠ k) : AgC WS W1 xs x (up b k) us W := by
  refine ⟨fun e => ?_, fun e => ?_, fun e => ?_, fun e => ?_, fun e => ?_, fun e => ?_, fun e => ?_⟩
  · rw [up_off h12] at e; exact up_on (h.d12 e)
  · rw [up_off h11] at e; exact up_on (h.d11 e)
  · rw [up_off h10] at e; obtain ⟨a1, a2, a3, a4⟩ := h.d10 e; exact ⟨up_on a1, up_on a2, up_on a3, up_on a4⟩
  · rw [up_off h9] at e; exact up_on (h.d9 e)
  · rw [up_off h12] at e; rw [up_off h11]; exact h.early e
  · rw [up_off h13] at e; exact ⟨up_on (h.e13 e).1, (h.e13 e).2⟩
  · rw [up_off h12] at e; exact h.late e
theorem AgC.no13 (h : AgC WS W1 xs x b us W) (hb : b 12 = false) : b 13 = false := by
  cases c : b 13 with
  | false => rfl
  | true => rw [(h.e13 c).1] at hb; cases hb
/-- What is not done yet. -/
theorem AgC.no11 (h : AgC WS W1 xs x b us W) (hb : b 11 = false) : b 12 = false := by
  cases c : b 12 with
  | false => rfl
  | true => rw [h.d12 c] at hb; cases hb
theorem AgC.no10 (h : AgC WS W1 xs x b us W) (hb : b 10 = false) : b 11 = false := by
  cases c : b 11 with
  | false => rfl
  | true => rw [h.d11 c] at hb; cases hb
theorem AgC.no {j : Nat} (h : AgC WS W1 xs x b us W) (hj : j = 3 ∨ j = 5 ∨ j = 7 ∨ j = 9 ∨ j = 8) (hb : b j = false) : b 10 = false := by
  cases c : b 10 with
  | false => rfl
  | true =>
    obtain ⟨a1, a2, a3, a4⟩ := h.d10 c
    have a5 := h.d9 a4
    rcases hj with rfl | rfl | rfl | rfl | rfl <;> simp_all
theorem AgC.bel {j : Nat} (h : AgC WS W1 xs x b us W) (hj : j = 3 ∨ j = 5 ∨ j = 7 ∨ j = 9 ∨ j = 8) (hb : b j = false) : Below W1.heap.size W1 W := (h.early (h.no11 (h.no10 (h.no hj hb)))).1
theorem AgC.call9 {W' : World} (h : AgC WS W1 xs x b us W) (hb : b 9 = false) (h8 : b 8 = true) (hW : Below W.heap.size W W') : AgC WS W1 xs x (up b 9) us W' := by
  have e10 := h.no (j := 9) (by simp) hb
  have e11 := h.no10 e10
  have e12 := h.no11 e11
  refine ⟨fun e => ?_, fun e => ?_, fun e => ?_, fun _ => up_on h8, fun _ => ⟨below_step (h.early e12).1 hW, fun e => ?_⟩, fun e => (by rw [up_off (by decide), h.no13 e12] at e; cases e), fun e => ?_⟩
  · rw [up_off (by decide), e12] at e; cases e
  · rw [up_off (by decide), e11] at e; cases e
  · rw [up_off (by decide), e10] at e; cases e
  · rw [up_off (by decide), e11] at e; cases e
  · rw [up_off (by decide), e12] at e; cases e
theorem AgC.call10 {W' : World} (h : AgC WS W1 xs x b us W) (hb : b 10 = false) (h3 : b 3 = true) (h5 : b 5 = true) (h7 : b 7 = true) (h9 : b 9 = true) (hW : Below W.heap.size W W') : AgC WS W1 xs x (up b 10) us W' := by
  have e11 := h.no10 hb
  have e12 := h.no11 e11
  refine ⟨fun e => ?_, fun e => ?_, fun _ => ⟨up_on h3, up_on h5, up_on h7, up_on h9⟩, fun _ => up_on (h.d9 h9), fun _ => ⟨below_step (h.early e12).1 hW, fun e => ?_⟩, fun e => (by rw [up_off (by decide), h.no13 e12] at e; cases e), fun e => ?_⟩
  · rw [up_off (by decide), e12] at e; cases e
  · rw [up_off (by decide), e11] at e; cases e
  · rw [up_off (by decide), e11] at e; cases e
  · rw [up_off (by decide), e12] at e; cases e
theorem AgC.new (h : AgC WS W1 xs x b us W) (hb : b 11 = false) (h10 : b 10 = true) : AgC WS W1 xs x (up b 11) (usUp us 11 (.slice (some ⟨W.heap.size, 0, none⟩) 1 1)) (W.alloc (.cells (stC x).toArray 38)) := by
  have e12 := h.no11 hb
  obtain ⟨a1, a2, a3, a4⟩ := h.d10 h10
  refine ⟨fun e => ?_, fun _ => up_on h10, fun _ => ⟨up_on a1, up_on a2, up_on a3, up_on a4⟩, fun _ => up_on (h.d9 a4), fun _ => ⟨below_step (h.early e12).1 (below_alloc (Below.refl _ _) _), fun _ => ⟨W.heap.size, by simp [usUp], blk_new _ _⟩⟩, fun e => (by rw [up_off (by decide), h.no13 e12] at e; cases e), fun e => ?_⟩
  · rw [up_off (by decide), e12] at e; cases e
  · rw [up_off (by decide), e12] at e; cases e
theorem AgC.app (h : AgC WS W1 xs x b us W) (hb : b 12 = false) (h11 : b 11 = true) {v1 : Value} {w1 : World} (hB : Below WS.heap.size WS w1) (hR : Kd.R kSt 38 w1 WS.heap.size (fun _ => True) v1 (xs ++ [x])) : AgC WS W1 xs x (up b 12) (usUp us 12 v1) w1 := by
  have h10 := h.d11 h11
  obtain ⟨a1, a2, a3, a4⟩ := h.d10 h10
  exact ⟨fun _ => up_on h11, fun _ => up_on h10, fun _ => ⟨up_on a1, up_on a2, up_on a3, up_on a4⟩, fun _ => up_on (h.d9 a4), fun e => (by simp [up] at e), fun e => (by rw [up_off (by decide), h.no13 hb] at e; cases e), fun _ => ⟨hB, by simpa [usUp] using hR⟩⟩
theorem AgC.asg (h : AgC WS W1 xs x b us W) (h12 : b 12 = true) : AgC WS W1 xs x (up b 13) (usUp us 13 (us 12)) W := by
  refine ⟨fun _ => up_on (h.d12 h12), fun e => ?_, fun e => ?_, fun e => ?_, fun e => ?_, fun _ => ⟨up_on h12, by simp [usUp]⟩, fun _ => by simpa [usUp] using h.late h12⟩
  · rw [up_off (by decide)] at e; exact up_on (h.d11 e)
  · rw [up_off (by decide)] at e; obtain ⟨a1, a2, a3, a4⟩ := h.d10 e; exact ⟨up_on a1, up_on a2, up_on a3, up_on a4⟩
  · rw [up_off (by decide)] at e; exact up_on (h.d9 e)
  · rw [up_off (by decide), h12] at e; cases e
end
/-- A row that grew in a block of its own. -/
theorem below_own {WS W w1 : World} {v : Value} (hB : Below WS.heap.size WS W) (hg : W.grownBy w1 v.ownBlock) (ho : ∀ k, v.ownBlock = some k → WS.heap.size ≤ k) : Below WS.heap.size WS w1 :=
  ⟨hg.os.trans hB.os, hg.tape.trans hB.tape, hg.output.trans hB.output, Nat.le_trans hB.size hg.size, fun i hi => (hg.block i (Nat.lt_of_lt_of_le hi hB.size) (fun e => by have := ho i e.symm; omega)).trans (hB.block i hi)⟩
end Go.Proofs.Ytddkoimaghcbeaa.PVmSteps
end
