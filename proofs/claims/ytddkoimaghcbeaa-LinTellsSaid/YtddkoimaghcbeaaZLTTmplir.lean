/- A part of what the law LinTells stands on, only as far as it is needed (the words and walks were printed or written in this seat; this text was cut by a program of this session, wip/bin/trim.py). No condition beyond what each theorem says. -/
import Derived.Test.YtddkoimaghcbeaaZLTPVmStepsx0
import Derived.Test.YtddkoimaghcbeaaZLTPVmStepsx2
import Derived.Test.YtddkoimaghcbeaaZLTPVmStepsx3
import Derived.Test.YtddkoimaghcbeaaZLTPVmStepsx4
import Derived.Test.YtddkoimaghcbeaaZLTPVmStepsx5
import Derived.Test.YtddkoimaghcbeaaZLTPVmStepsx6
import Derived.Test.YtddkoimaghcbeaaZLTTmplip
namespace Go.Proofs.Ytddkoimaghcbeaa.PVmSteps
open Go.RowKit Go.Proofs.YtddkoimaghcbeaaW.PrintWords Go.Proofs.YtddkoimaghcbeaaW.PrintLast Go.Proofs.YtddkoimaghcbeaaW.PrintMore
set_option linter.unusedVariables false
set_option linter.unusedSimpArgs false
theorem Kd.run_append {P : Program} {α : Type} (d : Kd α) {W : World} (base : Nat) {o : Oper} {ev : Operand → Value} (s x : Operand) (t e : TypeId) (z : Value) (bytes : Nat)
    (ho : o.op = .call { callee := .builtin .append, args := #[s, x], argTypes := #[t, t] })
    (ht : P.underlying t = some (.slice e)) (hinfo : (P.info? e).map (fun i => (i.zero, i.size, i.bytes)) = some (some z, d.sz, bytes)) (hz : z.cells.size = d.sz) (hs0 : 0 < d.sz) (hb0 : 0 < bytes)
    (v : Value) (xs : List α) (p : α) (cs : List Value) (ok okp : Nat → Prop) (hs : ev s = v) {gb : Nat} (hx : ev x = .slice (some ⟨gb, 0, none⟩) 1 1) (hgb : W.heap[gb]? = some (Obj.cells cs.toArray e (0, 0))) (hp : d.M W base okp p cs) (hokp : ∀ k, okp k → ok k ∧ some k ≠ v.ownBlock) (hfresh : ∀ k, W.heap.size ≤ k → ok k)
    (HO : d.R e W base ok v xs) (hbase : base ≤ W.heap.size) (hl : (xs.length + 1) * bytes ≤ 140737488355328) :
    ∃ v1 w1, (execOp ev o).run P W = .ok (.value v1) w1 ∧ d.R e w1 base ok v1 (xs ++ [p]) ∧ W.grownBy w1 v.ownBlock := by
  obtain ⟨i0, hi, hzz⟩ := Option.map_eq_some_iff.1 hinfo
  simp only [Prod.mk.injEq] at hzz
  obtain ⟨hz0, hz1, hz2⟩ := hzz
  have hlen : xs.length + 1 ≤ 140737488355328 := Nat.le_trans (Nat.le_mul_of_pos_right _ hb0) hl
  obtain ⟨h0, inner, hown, hr⟩ := HO
  have hcl : cs.length = d.sz := d.K_len (d.K_of_M hp)
  obtain ⟨v1, w1, hrun, hown1, hg1, _, hat1⟩ := run_append_own_at (P := P) W base t o.type e i0 z d.sz bytes ht hi hz0 hz1 hz2 hz hs0 v xs.length inner hown ⟨gb, 0, none⟩ 1 1 cs (by rw [hcl]; simp)
    (fun j u hj => by
      have := blk_cell hgb j
      rw [List.getElem?_toArray, hj] at this
      have e0 : (⟨gb, 0, none⟩ : Addr).add j = ⟨gb, j, none⟩ := by
        unfold Addr.add
        simp only [Nat.zero_add]
        split
        · rename_i z0; rw [z0]
        · rfl
      rw [e0]; exact this) (d.K_one (d.K_of_M hp)) (by simp only [maxLen]; omega) hl hbase
  refine ⟨v1, w1, ?_, Kd.R_appended h0 hr hp hokp hfresh hown1 hg1 (hat1.imp id (fun h => ⟨_, h, Nat.le_refl _⟩)), hg1⟩
  unfold execOp
  simp only [ho, resolve, invoke, builtin, Sem.run_bind, Sem.run_pure, Result.andThen_ok, List.map_toArray, List.map_cons, List.map_nil, hs, hx, hrun]
theorem Kd.run_append_k {P : Program} {α : Type} (d : Kd α) {W : World} (base : Nat) {o : Oper} {ev : Operand → Value} {K : Value → World → Prop} (s x : Operand) (t e : TypeId) (z : Value) (bytes : Nat)
    (ho : o.op = .call { callee := .builtin .append, args := #[s, x], argTypes := #[t, t] })
    (ht : P.underlying t = some (.slice e)) (hinfo : (P.info? e).map (fun i => (i.zero, i.size, i.bytes)) = some (some z, d.sz, bytes)) (hz : z.cells.size = d.sz) (hs0 : 0 < d.sz) (hb0 : 0 < bytes)
    (v : Value) (xs : List α) (p : α) (cs : List Value) (ok okp : Nat → Prop) (hs : ev s = v) (gb : Nat) (hx : ev x = .slice (some ⟨gb, 0, none⟩) 1 1) (hgb : W.heap[gb]? = some (Obj.cells cs.toArray e (0, 0))) (hp : d.M W base okp p cs) (hokp : ∀ k, okp k → ok k ∧ some k ≠ v.ownBlock) (hfresh : ∀ k, W.heap.size ≤ k → ok k)
    (HO : d.R e W base ok v xs) (hbase : base ≤ W.heap.size) (hl : (xs.length + 1) * bytes ≤ 140737488355328)
    (hk : ∀ v1 w1, d.R e w1 base ok v1 (xs ++ [p]) → W.grownBy w1 v.ownBlock → K v1 w1) : ∃ u w', (execOp ev o).run P W = .ok (.value u) w' ∧ K u w' := by
  obtain ⟨v1, w1, h1, h2, h3⟩ := Kd.run_append d base s x t e z bytes ho ht hinfo hz hs0 hb0 v xs p cs ok okp hs hx hgb hp hokp hfresh HO hbase hl
  exact ⟨v1, w1, h1, hk v1 w1 h2 h3⟩
/-- A call whose answer hangs on the order. -/
theorem rb_callo {P : Program} {B : List Nat} {C : RbC} {i : Nat} {o : Oper} {A : (Nat → Value) → Act} {f : FuncId} {args : (Nat → Value) → Array Value} (hrun : ∀ us w, (execOp (A us).eval o).run P w = .ok (.enter f (args us)) w)
    (h : ∀ b us w, b i = false → (∀ j, j < i → (B.getD i 0).testBit j = true → b j = true) → C b us w → Calls P f (args us) w fun e w' => ∃ u, e = .returned u ∧ C (up b i) (usUp us i u) w') : rbOp P B C i o A none := fun b us w hb hon hC => by
  rw [hrun us w]; exact h b us w hb hon hC
structure EntC (W1 : World) (g : Nat) (base : Nat) (vL : Value) (xs : List Fr) (x : Fr) (b : Nat → Bool) (us : Nat → Value) (W : World) : Prop where
  d8 : b 8 = true → b 4 = true ∧ b 5 = true ∧ b 7 = true
  d11 : b 11 = true → b 8 = true
  early : b 8 = false → Below W1.heap.size W1 W ∧ (b 7 = true → ∃ gb, us 7 = .slice (some ⟨gb, 0, none⟩) 1 1 ∧ W.heap[gb]? = some (Obj.cells (frC x).toArray 145 (0, 0)))
  late : b 8 = true → ∃ W8, W1.grownBy W8 vL.ownBlock ∧ Kd.R kFr 145 W8 base (fun _ => True) (us 8) (xs ++ [x]) ∧ W = if b 11 = true then W8.setCell ⟨g, 7, none⟩ (us 8) else W8
section
variable {W1 W : World} {g base : Nat} {vL : Value} {xs : List Fr} {x : Fr} {b : Nat → Bool} {us : Nat → Value}
theorem EntC.start (W1 : World) (g base : Nat) (vL : Value) (xs : List Fr) (x : Fr) (us : Nat → Value) : EntC W1 g base vL xs x (fun _ => false) us W1 := ⟨fun h => (by cases h), fun h => (by cases h), fun _ => ⟨Below.refl _ _, fun h => (by cases h)⟩, fun h => (by cases h)⟩
theorem EntC.off {k : Nat} (h : EntC W1 g base vL xs x b us W) (h7 : 7 ≠ k) (h8 : 8 ≠ k) (h11 : 11 ≠ k) : EntC W1 g base vL xs x (up b k) us W := by
  refine ⟨fun e => ?_, fun e => ?_, fun e => ?_, fun e => ?_⟩
  · rw [up_off h8] at e; obtain ⟨a1, a2, a3⟩ := h.d8 e; exact ⟨up_on a1, up_on a2, up_on a3⟩
  · rw [up_off h11] at e; rw [up_off h8]; exact h.d11 e
  · rw [up_off h8] at e; rw [up_off h7]; exact h.early e
  · rw [up_off h8] at e; rw [up_off h11]; exact h.late e
theorem EntC.e8 {j : Nat} (h : EntC W1 g base vL xs x b us W) (hj : j = 4 ∨ j = 5 ∨ j = 7) (hb : b j = false) : b 8 = false := by
  cases c : b 8 with
  | false => rfl
  | true =>
    obtain ⟨a1, a2, a3⟩ := h.d8 c
    rcases hj with rfl | rfl | rfl <;> simp_all
theorem EntC.new (h : EntC W1 g base vL xs x b us W) (hb : b 7 = false) : EntC W1 g base vL xs x (up b 7) (usUp us 7 (.slice (some ⟨W.heap.size, 0, none⟩) 1 1)) (W.alloc (.cells (frC x).toArray 145)) := by
  have h8 := h.e8 (.inr (.inr rfl)) hb
  have e8 : up b 7 8 = false := by rw [up_off (by decide)]; exact h8
  refine ⟨fun e => (by rw [e8] at e; cases e), fun e => ?_, fun _ => ⟨below_step (h.early h8).1 (below_alloc (Below.refl _ _) _), fun _ => ⟨W.heap.size, by simp [usUp], blk_new _ _⟩⟩, fun e => by rw [e8] at e; cases e⟩
  rw [up_off (by decide)] at e
  rw [h.d11 e] at h8; cases h8
theorem EntC.app (h : EntC W1 g base vL xs x b us W) (h4 : b 4 = true) (h5 : b 5 = true) (h7 : b 7 = true) (hb : b 8 = false) {v1 : Value} {w1 : World} (hR : Kd.R kFr 145 w1 base (fun _ => True) v1 (xs ++ [x])) (hg : W.grownBy w1 vL.ownBlock) (hrow : ∀ k, vL.ownBlock = some k → k < W1.heap.size) : EntC W1 g base vL xs x (up b 8) (usUp us 8 v1) w1 := by
  have e11 : b 11 = false := by
    cases c : b 11 with
    | false => rfl
    | true => rw [h.d11 c] at hb; cases hb
  have e8 : up b 8 8 = true := by simp [up]
  refine ⟨fun _ => ⟨up_on h4, up_on h5, up_on h7⟩, fun e => e8, fun e => (by rw [e8] at e; cases e), fun _ => ⟨w1, ?_, by simpa [usUp] using hR, by rw [up_off (by decide), if_neg (by simp [e11])]⟩⟩
  have hB := (h.early hb).1
  exact ⟨hg.os.trans hB.os, hg.tape.trans hB.tape, hg.output.trans hB.output, Nat.le_trans hB.size hg.size, fun i hi hne => (hg.block i (Nat.lt_of_lt_of_le hi hB.size) hne).trans (hB.block i hi)⟩
theorem EntC.at (h : EntC W1 g base vL xs x b us W) (h8 : b 8 = true) (h11 : b 11 = false) : W1.grownBy W vL.ownBlock ∧ Kd.R kFr 145 W base (fun _ => True) (us 8) (xs ++ [x]) := by
  obtain ⟨W8, a1, a2, rfl⟩ := h.late h8
  rw [if_neg (by simp [h11])]
  exact ⟨a1, a2⟩
theorem EntC.put (h : EntC W1 g base vL xs x b us W) (h8 : b 8 = true) (h11 : b 11 = false) : EntC W1 g base vL xs x (up b 11) us (W.setCell ⟨g, 7, none⟩ (us 8)) := by
  obtain ⟨a1, a2⟩ := h.at h8 h11
  have e8 : up b 11 8 = true := by rw [up_off (by decide)]; exact h8
  exact ⟨fun e => (let ⟨c1, c2, c3⟩ := h.d8 h8; ⟨up_on c1, up_on c2, up_on c3⟩), fun _ => e8, fun e => (by rw [e8] at e; cases e), fun _ => ⟨W, a1, a2, by simp [up]⟩⟩
end
section
variable {w0 W W' W8 : World} {q : LinQ} {g gm bm : Nat} {vM vO vA vL vR v8 : Value} {st : LinS}
theorem ne_row {v : Value} {d t : Nat} {cells : Array Value} (hrow : ∀ k, v.ownBlock = some k → ∃ cells, W.heap[k]? = some (Obj.cells cells d (0, 0))) {k : Nat} (hk : W.heap[k]? = some (Obj.cells cells t (0, 0))) (ht : t ≠ d) : some k ≠ v.ownBlock := fun e => by
  obtain ⟨cs, hc⟩ := hrow k e.symm
  exact blk_ne hk hc ht rfl
theorem ne_rowM {v : Value} {d : Nat} (hrow : ∀ k, v.ownBlock = some k → ∃ cells, W.heap[k]? = some (Obj.cells cells d (0, 0))) {k : Nat} {S : List Ps} (hk : SeenM W k S) : some k ≠ v.ownBlock := fun e => by
  obtain ⟨cs, hc⟩ := hrow k e.symm
  obtain ⟨es, c, h1, _⟩ := hk.out
  rw [hc] at h1; cases h1
theorem LinM.pushL (h : LinM w0 W q g gm bm vM vO vA vL vR st) (hg : W.grownBy W8 vL.ownBlock) {x : Fr} (hR : Kd.R kFr 145 W8 w0.heap.size (fun _ => True) v8 (st.l.reverse ++ [x])) :
    LinM w0 (W8.setCell ⟨g, 7, none⟩ v8) q g gm bm vM vO vA v8 vR { st with l := x :: st.l } := by
  have hrow := Kd.R_row h.hL
  have hb : ∀ k, vL.ownBlock = some k → w0.heap.size ≤ k := by
    obtain ⟨inner, ho⟩ := Kd.R_own h.hL
    exact own_base ho
  have hk8 := blk_grown h.hk hg (ne_row hrow h.hk (by decide))
  have hB8 : Below w0.heap.size w0 W8 := h.hB.grown hg h.hB.size hb
  have hS8 := h.hS.same (hg.block _ h.hS.lt (ne_rowM hrow h.hS))
  have hbm : bm ≠ g := h.bmg
  exact h.turn (below_set hB8 h.bg) ⟨(SameT.grown hg (by decide) hrow).trans (.set hk8 (by decide) _ _), (SameT.grown hg (by decide) hrow).trans (.set hk8 (by decide) _ _), (SameT.grown hg (by decide) hrow).trans (.set hk8 (by decide) _ _), (SameT.grown hg (by decide) hrow).trans (.set hk8 (by decide) _ _)⟩
    (blk_put hk8 7 _ (by simp)) (hS8.same (Below.heap_setCell _ _ _ _ hbm)) (by simpa using R1_same rfl hR (.set hk8 (by decide) _ _)) (R1_same rfl h.hR ((SameT.grown hg (by decide) hrow).trans (.set hk8 (by decide) _ _)))
theorem LinM.pushR (h : LinM w0 W q g gm bm vM vO vA vL vR st) (hg : W.grownBy W8 vR.ownBlock) {l : List Int} (hR : Kd.R (Kd.int .i64) 3 W8 w0.heap.size (fun _ => True) v8 l) :
    LinM w0 (W8.setCell ⟨g, 8, none⟩ v8) q g gm bm vM vO vA vL v8 { st with order := l } := by
  have hrow := Kd.R_row h.hR
  have hb : ∀ k, vR.ownBlock = some k → w0.heap.size ≤ k := by
    obtain ⟨inner, ho⟩ := Kd.R_own h.hR
    exact own_base ho
  have hk8 := blk_grown h.hk hg (ne_row hrow h.hk (by decide))
  have hB8 : Below w0.heap.size w0 W8 := h.hB.grown hg h.hB.size hb
  have hS8 := h.hS.same (hg.block _ h.hS.lt (ne_rowM hrow h.hS))
  have hbm : bm ≠ g := h.bmg
  exact h.turn (below_set hB8 h.bg) ⟨(SameT.grown hg (by decide) hrow).trans (.set hk8 (by decide) _ _), (SameT.grown hg (by decide) hrow).trans (.set hk8 (by decide) _ _), (SameT.grown hg (by decide) hrow).trans (.set hk8 (by decide) _ _), (SameT.grown hg (by decide) hrow).trans (.set hk8 (by decide) _ _)⟩
    (blk_put hk8 8 _ (by simp)) (hS8.same (Below.heap_setCell _ _ _ _ hbm)) (R1_same rfl h.hL ((SameT.grown hg (by decide) hrow).trans (.set hk8 (by decide) _ _))) (R1_same rfl hR (.set hk8 (by decide) _ _))
/-- The map turned. -/
theorem LinM.putS (h : LinM w0 W q g gm bm vM vO vA vL vR st) (hg : W.grownBy W8 (some bm)) {S : List Ps} (hS : SeenM W8 bm S) : LinM w0 W8 q g gm bm vM vO vA vL vR { st with seen := S } := by
  obtain ⟨es, c, h1, _⟩ := h.hS.out
  have hne : some g ≠ some bm := fun e => h.bmg (by injection e with e; exact e.symm)
  exact h.turn (h.hB.grown hg h.hB.size (fun k hk => by injection hk with hk; subst hk; exact h.bb)) ⟨.map hg h1 _, .map hg h1 _, .map hg h1 _, .map hg h1 _⟩ (blk_grown h.hk hg hne) hS (R1_same rfl h.hL (.map hg h1 _)) (R1_same rfl h.hR (.map hg h1 _))
end
end Go.Proofs.Ytddkoimaghcbeaa.PVmSteps
