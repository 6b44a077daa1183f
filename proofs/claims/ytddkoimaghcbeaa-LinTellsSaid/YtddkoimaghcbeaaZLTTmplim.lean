/- A part of what the law LinTells stands on, only as far as it is needed (the words and walks were printed or written in this seat; this text was cut by a program of this session, wip/bin/trim.py). No condition beyond what each theorem says. -/
import Derived.Test.YtddkoimaghcbeaaZLTPVmStepsx0
import Derived.Test.YtddkoimaghcbeaaZLTPVmStepsx2
import Derived.Test.YtddkoimaghcbeaaZLTPVmStepsx3
import Derived.Test.YtddkoimaghcbeaaZLTPVmStepsx4
import Derived.Test.YtddkoimaghcbeaaZLTPVmStepsx5
import Derived.Test.YtddkoimaghcbeaaZLTPVmStepsx6
import Derived.Test.YtddkoimaghcbeaaZLTTmplis
namespace Go.Proofs.Ytddkoimaghcbeaa.PVmSteps
open Go.RowKit Go.Proofs.YtddkoimaghcbeaaW.PrintWords Go.Proofs.YtddkoimaghcbeaaW.PrintLast Go.Proofs.YtddkoimaghcbeaaW.PrintMore
set_option linter.unusedVariables false
set_option linter.unusedSimpArgs false
def aheadL (ops : List S65) : List Int := (List.range ops.length).map (fun i => (aheadZ ops i : Int))
structure LinM (w0 W : World) (q : LinQ) (g gm bm : Nat) (vM vO vA vL vR : Value) (st : LinS) : Prop where
  hB : Below w0.heap.size w0 W
  bg : w0.heap.size ≤ g
  hk : W.heap[g]? = some (Obj.cells #[.pointer (some ⟨gm, 0, none⟩), .int .i64 q.fuel, .int .i64 q.budget, vO, vA, .int .u64 (mustZ q.ops : Int), .map (some bm), vL, vR, .int .i64 (st.tries : Int), .bool st.over, .int .i64 st.kind] 87 (0, 0))
  hM : VmM w0.heap.size W gm q.L vM
  hO : Kd.R k65 65 W w0.heap.size (fun _ => True) vO q.ops
  hA : Kd.R (Kd.int .u64) 83 W w0.heap.size (fun _ => True) vA (aheadL q.ops)
  bb : w0.heap.size ≤ bm
  hS : SeenM W bm st.seen
  hL : Kd.R kFr 145 W w0.heap.size (fun _ => True) vL st.l.reverse
  hR : Kd.R (Kd.int .i64) 3 W w0.heap.size (fun _ => True) vR st.order
/-- A search in memory, wherever its parts lie. -/
def LinT (w0 W : World) (q : LinQ) (g : Nat) (st : LinS) : Prop := ∃ gm bm vM vO vA vL vR, LinM w0 W q g gm bm vM vO vA vL vR st
section
variable {w0 W W' : World} {q : LinQ} {g gm bm : Nat} {vM vO vA vL vR : Value} {st : LinS}
theorem VmM.same {base : Nat} {L : List S36} {v : Value} (h : VmM base W gm L v) (h1 : SameT W W' 53) (h2 : SameT W W' 36) : VmM base W' gm L v :=
  ⟨(h1 _ _ h.hk).trans h.hk, Kd.R_same h.hR (fun t ht => by
    have : t = 36 := by
      rcases List.mem_cons.1 ht with rfl | ht
      · rfl
      · exact absurd ht (by simp [k36, Kd.iso, Kd.pair, Kd.int, Kd.scalar])
    subst this; exact h2), h.hg⟩
theorem R65_same {base : Nat} {ok : Nat → Prop} {v : Value} {xs : List S65} (h : Kd.R k65 65 W base ok v xs) (h2 : SameT W W' 65) : Kd.R k65 65 W' base ok v xs :=
  Kd.R_same h (fun t ht => by
    have : t = 65 := by
      rcases List.mem_cons.1 ht with rfl | ht
      · rfl
      · exact absurd ht (by simp [k65, Kd.iso, Kd.pair, Kd.int, Kd.bool, Kd.scalar])
    subst this; exact h2)
theorem R1_same {α : Type} {d : Kd α} (hE : d.E = []) {e : Nat} {base : Nat} {ok : Nat → Prop} {v : Value} {xs : List α} (h : d.R e W base ok v xs) (h2 : SameT W W' e) : d.R e W' base ok v xs :=
  Kd.R_same h (fun t ht => by rw [hE] at ht; rw [List.mem_singleton.1 ht]; exact h2)
/-- What a turn of the memory leaves as it is. -/
structure LinK (W W' : World) : Prop where
  s53 : SameT W W' 53
  s36 : SameT W W' 36
  s65 : SameT W W' 65
  s83 : SameT W W' 83
theorem LinK.trans {W1 W2 : World} (h : LinK W W1) (h' : LinK W1 W2) : LinK W W2 := ⟨h.s53.trans h'.s53, h.s36.trans h'.s36, h.s65.trans h'.s65, h.s83.trans h'.s83⟩
theorem LinK.below (hb : Below W.heap.size W W') : LinK W W' := ⟨.below hb _, .below hb _, .below hb _, .below hb _⟩
theorem LinM.turn (h : LinM w0 W q g gm bm vM vO vA vL vR st) (hB : Below w0.heap.size w0 W') (hK : LinK W W') {vL' vR' : Value} {st' : LinS}
    (hk : W'.heap[g]? = some (Obj.cells #[.pointer (some ⟨gm, 0, none⟩), .int .i64 q.fuel, .int .i64 q.budget, vO, vA, .int .u64 (mustZ q.ops : Int), .map (some bm), vL', vR', .int .i64 (st'.tries : Int), .bool st'.over, .int .i64 st'.kind] 87 (0, 0)))
    (hS : SeenM W' bm st'.seen) (hL : Kd.R kFr 145 W' w0.heap.size (fun _ => True) vL' st'.l.reverse) (hR : Kd.R (Kd.int .i64) 3 W' w0.heap.size (fun _ => True) vR' st'.order) : LinM w0 W' q g gm bm vM vO vA vL' vR' st' :=
  ⟨hB, h.bg, hk, h.hM.same hK.s53 hK.s36, R65_same h.hO hK.s65, R1_same rfl h.hA hK.s83, h.bb, hS, hL, hR⟩
theorem LinM.came (h : LinM w0 W q g gm bm vM vO vA vL vR st) (hb : Below W.heap.size W W') : LinM w0 W' q g gm bm vM vO vA vL vR st :=
  h.turn (below_step h.hB hb) (.below hb) (blk_below h.hk hb) (h.hS.same (hb.block _ h.hS.lt)) (Kd.R_below h.hL hb) (Kd.R_below h.hR hb)
theorem LinT.came (h : LinT w0 W q g st) (hb : Below W.heap.size W W') : LinT w0 W' q g st := by
  obtain ⟨gm, bm, vM, vO, vA, vL, vR, h⟩ := h
  exact ⟨_, _, _, _, _, _, _, h.came hb⟩
theorem LinM.bmg (h : LinM w0 W q g gm bm vM vO vA vL vR st) : bm ≠ g := by
  rintro rfl
  obtain ⟨es, c, h1, _⟩ := h.hS.out
  rw [h.hk] at h1
  cases h1
/-- A store into the search's own block. -/
theorem LinM.setK (h : LinM w0 W q g gm bm vM vO vA vL vR st) (j : Nat) (u : Value) : LinK W (W.setCell ⟨g, j, none⟩ u) ∧ Below w0.heap.size w0 (W.setCell ⟨g, j, none⟩ u) ∧ SeenM (W.setCell ⟨g, j, none⟩ u) bm st.seen ∧
    Kd.R kFr 145 (W.setCell ⟨g, j, none⟩ u) w0.heap.size (fun _ => True) vL st.l.reverse ∧ Kd.R (Kd.int .i64) 3 (W.setCell ⟨g, j, none⟩ u) w0.heap.size (fun _ => True) vR st.order :=
  ⟨⟨.set h.hk (by decide) _ _, .set h.hk (by decide) _ _, .set h.hk (by decide) _ _, .set h.hk (by decide) _ _⟩, below_set h.hB h.bg, h.hS.same (Below.heap_setCell _ _ _ _ h.bmg), R1_same rfl h.hL (.set h.hk (by decide) _ _), R1_same rfl h.hR (.set h.hk (by decide) _ _)⟩
theorem LinM.setOver (h : LinM w0 W q g gm bm vM vO vA vL vR st) (b : Bool) : LinM w0 (W.setCell ⟨g, 10, none⟩ (.bool b)) q g gm bm vM vO vA vL vR { st with over := b } := by
  obtain ⟨h1, h2, h3, h4, h5⟩ := h.setK 10 (.bool b)
  exact h.turn h2 h1 (blk_put h.hk 10 _ (by simp)) h3 h4 h5
theorem LinM.setKind (h : LinM w0 W q g gm bm vM vO vA vL vR st) (k : Int) : LinM w0 (W.setCell ⟨g, 11, none⟩ (.int .i64 k)) q g gm bm vM vO vA vL vR { st with kind := k } := by
  obtain ⟨h1, h2, h3, h4, h5⟩ := h.setK 11 (.int .i64 k)
  exact h.turn h2 h1 (blk_put h.hk 11 _ (by simp)) h3 h4 h5
theorem LinM.setTries (h : LinM w0 W q g gm bm vM vO vA vL vR st) (k : Nat) : LinM w0 (W.setCell ⟨g, 9, none⟩ (.int .i64 (k : Int))) q g gm bm vM vO vA vL vR { st with tries := k } := by
  obtain ⟨h1, h2, h3, h4, h5⟩ := h.setK 9 (.int .i64 (k : Int))
  exact h.turn h2 h1 (blk_put h.hk 9 _ (by simp)) h3 h4 h5
theorem LinM.setL (h : LinM w0 W q g gm bm vM vO vA vL vR st) (v : Value) (l : List Fr) (hL : Kd.R kFr 145 W w0.heap.size (fun _ => True) v l.reverse) : LinM w0 (W.setCell ⟨g, 7, none⟩ v) q g gm bm vM vO vA v vR { st with l := l } := by
  obtain ⟨h1, h2, h3, h4, h5⟩ := h.setK 7 v
  exact h.turn h2 h1 (blk_put h.hk 7 _ (by simp)) h3 (R1_same rfl hL (.set h.hk (by decide) _ _)) h5
theorem LinM.setR (h : LinM w0 W q g gm bm vM vO vA vL vR st) (v : Value) (l : List Int) (hR : Kd.R (Kd.int .i64) 3 W w0.heap.size (fun _ => True) v l) : LinM w0 (W.setCell ⟨g, 8, none⟩ v) q g gm bm vM vO vA vL v { st with order := l } := by
  obtain ⟨h1, h2, h3, h4, h5⟩ := h.setK 8 v
  exact h.turn h2 h1 (blk_put h.hk 8 _ (by simp)) h3 h4 (R1_same rfl hR (.set h.hk (by decide) _ _))
/-- The cells of the search's own block. -/
theorem LinM.cells (h : LinM w0 W q g gm bm vM vO vA vL vR st) (W_ : World) (hb : Below W.heap.size W W_) :
    W_.cell? ⟨g, 0, none⟩ = some (.pointer (some ⟨gm, 0, none⟩)) ∧ W_.cell? ⟨g, 1, none⟩ = some (.int .i64 q.fuel) ∧ W_.cell? ⟨g, 2, none⟩ = some (.int .i64 q.budget) ∧ W_.cell? ⟨g, 3, none⟩ = some vO ∧ W_.cell? ⟨g, 4, none⟩ = some vA ∧ W_.cell? ⟨g, 5, none⟩ = some (.int .u64 (mustZ q.ops : Int)) ∧ W_.cell? ⟨g, 6, none⟩ = some (.map (some bm)) ∧
    W_.cell? ⟨g, 7, none⟩ = some vL ∧ W_.cell? ⟨g, 8, none⟩ = some vR ∧ W_.cell? ⟨g, 9, none⟩ = some (.int .i64 (st.tries : Int)) ∧ W_.cell? ⟨g, 10, none⟩ = some (.bool st.over) ∧ W_.cell? ⟨g, 11, none⟩ = some (.int .i64 st.kind) := by
  have h2 := blk_below h.hk hb
  exact ⟨blk_cell h2 0, blk_cell h2 1, blk_cell h2 2, blk_cell h2 3, blk_cell h2 4, blk_cell h2 5, blk_cell h2 6, blk_cell h2 7, blk_cell h2 8, blk_cell h2 9, blk_cell h2 10, blk_cell h2 11⟩
theorem LinM.free (h : LinM w0 W q g gm bm vM vO vA vL vR st) (j : Nat) : W.frozen? ⟨g, j, none⟩ = false := blk_frozen h.hk j
/-- The frame at the top. -/
theorem LinM.top (h : LinM w0 W q g gm bm vM vO vA vL vR st) {f : Fr} {r : List Fr} (hl : st.l = f :: r) : ∃ b c, vL = .slice (some ⟨b, 0, none⟩) (r.length + 1) c ∧ w0.heap.size ≤ b ∧ r.length + 1 ≤ c ∧
    (∃ cells, W.heap[b]? = some (Obj.cells cells 145 (0, 0))) ∧ (∀ j, j < 6 → W.cell? ⟨b, r.length * 6 + j, none⟩ = (frC f)[j]?) := by
  have hL := h.hL
  rw [hl] at hL
  have hlen : (f :: r).reverse.length = r.length + 1 := by simp
  obtain ⟨b, c, e, hb, _, hc⟩ := Kd.R_form hL (by rw [hlen]; omega)
  obtain ⟨A, c', e', hle, hC⟩ := Kd.R_reads hL
  rw [e] at e'
  rw [hlen] at e e' hle
  injection e' with e1 e2 e3
  subst e3
  refine ⟨b, c, e, hb, hle, hc, fun j hj => ?_⟩
  obtain ⟨ad, cs, hA, hl6, hK, hcell⟩ := Kd.C_get hC (((0, []), 0) : Fr) (r.length : Int) (by omega) (by rw [hlen]; omega)
  rw [hA] at e1
  injection e1 with e1
  subst e1
  have hf : (f :: r).reverse.getD (r.length : Int).toNat ((0, []), 0) = f := by simp [List.getD_eq_getElem?_getD, List.getElem?_append_right]
  rw [hf] at hK
  have hK' : cs = frC f := hK
  subst hK'
  have : ∃ u, (frC f)[j]? = some u := ⟨_, List.getElem?_eq_getElem (show j < (frC f).length from hj)⟩
  obtain ⟨u, hu⟩ := this
  have := hcell j u hu
  rw [hu, ← this]
  have e0 : (⟨b, 0, none⟩ : Addr).add ((r.length : Int).toNat * kFr.sz + j) = ⟨b, r.length * 6 + j, none⟩ := by
    unfold Addr.add
    simp only [Int.toNat_natCast, kFr, flatK, Nat.zero_add]
    split
    · rename_i z
      rw [z]
    · rfl
  rw [e0]
end
end Go.Proofs.Ytddkoimaghcbeaa.PVmSteps
