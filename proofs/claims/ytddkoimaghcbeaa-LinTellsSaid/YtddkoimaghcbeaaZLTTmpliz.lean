/- A part of what the law LinTells stands on, only as far as it is needed (the words and walks were printed or written in this seat; this text was cut by a program of this session, wip/bin/trim.py). No condition beyond what each theorem says. -/
import Derived.Test.YtddkoimaghcbeaaZLTPVmStepsx0
import Derived.Test.YtddkoimaghcbeaaZLTPVmStepsx2
import Derived.Test.YtddkoimaghcbeaaZLTPVmStepsx3
import Derived.Test.YtddkoimaghcbeaaZLTPVmStepsx4
import Derived.Test.YtddkoimaghcbeaaZLTPVmStepsx5
import Derived.Test.YtddkoimaghcbeaaZLTPVmStepsx6
import Derived.Test.YtddkoimaghcbeaaZLTTmpliy
namespace Go.Proofs.Ytddkoimaghcbeaa.PVmSteps
open Go.RowKit Go.Proofs.YtddkoimaghcbeaaW.PrintWords Go.Proofs.YtddkoimaghcbeaaW.PrintLast Go.Proofs.YtddkoimaghcbeaaW.PrintMore
set_option linter.unusedVariables false
set_option linter.unusedSimpArgs false
theorem lin_enter0 {w0 W : World} {q : LinQ} {g gm bm : Nat} {vM vO vA vL vR : Value} (h : LinM w0 W q g gm bm vM vO vA vL vR ⟨[((0, [0, 0, 0, 0]) : Ps)], [], [], 0, false, 0⟩) (hn : q.ops.length ≤ 64) :
    Calls Try.prog 66 #[.pointer (some ⟨g, 0, none⟩), .agg #[.int .u64 0, .int .i64 0, .int .i64 0, .int .i64 0, .int .i64 0]] W fun e w' => e = .returned (.tuple #[]) ∧ ∃ vL', LinM w0 w' q g gm bm vM vO vA vL' vR (begZ q) := lin_enter h ((0, [0, 0, 0, 0]) : Ps) (by decide) hn (by simp)
theorem lin_info83 : (Try.prog.info? 83).map (fun i => (i.zero, i.size, i.bytes)) = some (some (.int .u64 0), 1, 8) := by kernel_rfl
/-- A row of nought. -/
theorem lin_make (W : World) (n : Nat) (hn : n ≤ 1000) : (Instr.makeSlice 82 (.int .i64 (n : Int)) (.int .i64 (n : Int))).run Try.prog W = .ok (.slice (some ⟨W.heap.size, 0, none⟩) n n) (W.alloc (.cells (madeCells #[.int .u64 0] n) 83)) := by
  have hmk := run_make_row' (P := Try.prog) 82 83 (.int .u64 0) 8 Try.underlying82 lin_info83 rfl .i64 .i64 n (by omega) (by omega)
  exact hmk W
/-- What the literal of a new search has made so far. -/
structure NewC (WX : World) (gm : Nat) (fuel budget : Int) (ops : List S65) (b : Nat → Bool) (us : Nat → Value) (W : World) : Prop where
  hB : Below WX.heap.size WX W
  c4 : b 4 = true → Kd.R k65 65 W WX.heap.size (fun _ => True) (us 4) ops
  c7 : b 7 = true → Kd.R (Kd.int .u64) 83 W WX.heap.size (fun _ => True) (us 7) (List.replicate ops.length 0)
  c8 : b 8 = true → ∃ bm, us 8 = .map (some bm) ∧ WX.heap.size ≤ bm ∧ SeenM W bm (if b 10 = true then [((0, [0, 0, 0, 0]) : Ps)] else [])
  c11 : b 11 = true → b 8 = true ∧ us 11 = us 8
  c12 : b 12 = true → b 4 = true ∧ b 7 = true ∧ b 11 = true ∧ us 12 = .agg #[.pointer (some ⟨gm, 0, none⟩), .int .i64 fuel, .int .i64 budget, us 4, us 7, .int .u64 0, us 11, .slice none 0 0, .slice none 0 0, .int .i64 0, .bool false, .int .i64 0]
  c13 : b 13 = true → b 12 = true ∧ ∃ g, us 13 = .pointer (some ⟨g, 0, none⟩) ∧ WX.heap.size ≤ g ∧ W.heap[g]? = some (Obj.cells #[.pointer (some ⟨gm, 0, none⟩), .int .i64 fuel, .int .i64 budget, us 4, us 7, .int .u64 0, us 11, .slice none 0 0, .slice none 0 0, .int .i64 0, .bool false, .int .i64 0] 87 (0, 0))
  c14 : b 14 = true → b 13 = true ∧ us 14 = us 13
  d10 : b 10 = true → b 8 = true
section
variable {WX W W' : World} {gm : Nat} {fuel budget : Int} {ops : List S65} {b : Nat → Bool} {us : Nat → Value}
theorem NewC.start (WX : World) (gm : Nat) (fuel budget : Int) (ops : List S65) (us : Nat → Value) : NewC WX gm fuel budget ops (fun _ => false) us WX.drew :=
  ⟨below_drew (Below.refl _ _), fun e => (by cases e), fun e => (by cases e), fun e => (by cases e), fun e => (by cases e), fun e => (by cases e), fun e => (by cases e), fun e => (by cases e), fun e => (by cases e)⟩
theorem NewC.off {k : Nat} (h : NewC WX gm fuel budget ops b us W) (h4 : 4 ≠ k) (h7 : 7 ≠ k) (h8 : 8 ≠ k) (h10 : 10 ≠ k) (h11 : 11 ≠ k) (h12 : 12 ≠ k) (h13 : 13 ≠ k) (h14 : 14 ≠ k) : NewC WX gm fuel budget ops (up b k) us W := by
  refine ⟨h.hB, ?_, ?_, ?_, ?_, ?_, ?_, ?_, ?_⟩
  · rw [up_off h4]; exact h.c4
  · rw [up_off h7]; exact h.c7
  · rw [up_off h8, up_off h10]; exact h.c8
  · rw [up_off h11, up_off h8]; exact h.c11
  · rw [up_off h12, up_off h4, up_off h7, up_off h11]; exact h.c12
  · rw [up_off h13, up_off h12]; exact h.c13
  · rw [up_off h14, up_off h13]; exact h.c14
  · rw [up_off h10, up_off h8]; exact h.d10
theorem NewC.came (h : NewC WX gm fuel budget ops b us W) (hb : Below W.heap.size W W') : NewC WX gm fuel budget ops b us W' :=
  ⟨below_step h.hB hb, fun e => Kd.R_below (h.c4 e) hb, fun e => Kd.R_below (h.c7 e) hb, fun e => (let ⟨bm, h1, h2, h3⟩ := h.c8 e; ⟨bm, h1, h2, h3.same (hb.block _ h3.lt)⟩), h.c11, h.c12, fun e => (let ⟨h0, g, h1, h2, h3⟩ := h.c13 e; ⟨h0, g, h1, h2, blk_below h3 hb⟩), h.c14, h.d10⟩
theorem no_of {p q : Bool} (h : p = true → q = true) (hq : q = false) : p = false := by
  cases p with
  | false => rfl
  | true => rw [h rfl] at hq; cases hq
/-- Everything behind a value that is not yet there is not there. -/
theorem NewC.no12 (h : NewC WX gm fuel budget ops b us W) (hb : b 4 = false ∨ b 7 = false ∨ b 11 = false) : b 12 = false := by
  cases c : b 12 with
  | false => rfl
  | true =>
    obtain ⟨h1, h2, h3, _⟩ := h.c12 c
    rcases hb with e | e | e <;> simp_all
theorem NewC.no13 (h : NewC WX gm fuel budget ops b us W) (hb : b 12 = false) : b 13 = false := no_of (fun e => (h.c13 e).1) hb
theorem NewC.no14 (h : NewC WX gm fuel budget ops b us W) (hb : b 13 = false) : b 14 = false := no_of (fun e => (h.c14 e).1) hb
theorem us_off {us : Nat → Value} {k j : Nat} {u : Value} (h : j ≠ k) : usUp us k u j = us j := by simp [usUp, h]
theorem us_on {us : Nat → Value} {k : Nat} {u : Value} : usUp us k u k = u := by simp [usUp]
theorem NewC.new4 (h : NewC WX gm fuel budget ops b us W) (hb : b 4 = false) {v : Value} (hR : Kd.R k65 65 W WX.heap.size (fun _ => True) v ops) : NewC WX gm fuel budget ops (up b 4) (usUp us 4 v) W := by
  have e12 := h.no12 (.inl hb)
  have e13 := h.no13 e12
  have e14 := h.no14 e13
  refine ⟨h.hB, fun _ => by rw [us_on]; exact hR, ?_, ?_, ?_, fun e => ?_, fun e => ?_, fun e => ?_, ?_⟩
  · rw [up_off (by decide), us_off (by decide)]; exact h.c7
  · rw [up_off (by decide), up_off (by decide), us_off (by decide)]; exact h.c8
  · rw [up_off (by decide), up_off (by decide), us_off (by decide), us_off (by decide)]; exact h.c11
  · rw [up_off (by decide), e12] at e; cases e
  · rw [up_off (by decide), e13] at e; cases e
  · rw [up_off (by decide), e14] at e; cases e
  · rw [up_off (by decide), up_off (by decide)]; exact h.d10
theorem NewC.new7 (h : NewC WX gm fuel budget ops b us W) (hb : b 7 = false) {v : Value} (hR : Kd.R (Kd.int .u64) 83 W WX.heap.size (fun _ => True) v (List.replicate ops.length 0)) : NewC WX gm fuel budget ops (up b 7) (usUp us 7 v) W := by
  have e12 := h.no12 (.inr (.inl hb))
  have e13 := h.no13 e12
  have e14 := h.no14 e13
  refine ⟨h.hB, ?_, fun _ => by rw [us_on]; exact hR, ?_, ?_, fun e => ?_, fun e => ?_, fun e => ?_, ?_⟩
  · rw [up_off (by decide), us_off (by decide)]; exact h.c4
  · rw [up_off (by decide), up_off (by decide), us_off (by decide)]; exact h.c8
  · rw [up_off (by decide), up_off (by decide), us_off (by decide), us_off (by decide)]; exact h.c11
  · rw [up_off (by decide), e12] at e; cases e
  · rw [up_off (by decide), e13] at e; cases e
  · rw [up_off (by decide), e14] at e; cases e
  · rw [up_off (by decide), up_off (by decide)]; exact h.d10
theorem NewC.new8 (h : NewC WX gm fuel budget ops b us W) (hb : b 8 = false) {bm : Nat} (hg : WX.heap.size ≤ bm) (hS : SeenM W bm []) : NewC WX gm fuel budget ops (up b 8) (usUp us 8 (.map (some bm))) W := by
  have e10 := no_of h.d10 hb
  have e11 := no_of (fun e => (h.c11 e).1) hb
  have e12 := h.no12 (.inr (.inr e11))
  have e13 := h.no13 e12
  have e14 := h.no14 e13
  refine ⟨h.hB, ?_, ?_, fun _ => ⟨bm, us_on, hg, ?_⟩, fun e => ?_, fun e => ?_, fun e => ?_, fun e => ?_, fun e => ?_⟩
  · rw [up_off (by decide), us_off (by decide)]; exact h.c4
  · rw [up_off (by decide), us_off (by decide)]; exact h.c7
  · rw [up_off (by decide), e10]; exact hS
  · rw [up_off (by decide), e11] at e; cases e
  · rw [up_off (by decide), e12] at e; cases e
  · rw [up_off (by decide), e13] at e; cases e
  · rw [up_off (by decide), e14] at e; cases e
  · rw [up_off (by decide), e10] at e; cases e
theorem NewC.put10 (h : NewC WX gm fuel budget ops b us W) (hb : b 10 = false) (h8 : b 8 = true) {bm : Nat} (e8 : us 8 = .map (some bm)) (hg : WX.heap.size ≤ bm) (hS0 : SeenM W bm []) (hgr : W.grownBy W' (some bm)) (hS : SeenM W' bm [((0, [0, 0, 0, 0]) : Ps)]) : NewC WX gm fuel budget ops (up b 10) us W' := by
  obtain ⟨es, c, h1, _⟩ := hS0.out
  refine ⟨h.hB.grown hgr h.hB.size (fun k hk => by injection hk with hk; subst hk; exact hg), ?_, ?_, fun _ => ⟨bm, e8, hg, ?_⟩, ?_, ?_, ?_, ?_, fun _ => ?_⟩
  · rw [up_off (by decide)]; exact fun e => R65_same (h.c4 e) (.map hgr h1 _)
  · rw [up_off (by decide)]; exact fun e => R1_same rfl (h.c7 e) (.map hgr h1 _)
  · rw [if_pos (by simp [up])]; exact hS
  · rw [up_off (by decide), up_off (by decide)]; exact h.c11
  · rw [up_off (by decide), up_off (by decide), up_off (by decide), up_off (by decide)]; exact h.c12
  · rw [up_off (by decide), up_off (by decide)]
    intro e
    obtain ⟨a, g, a1, a2, a3⟩ := h.c13 e
    exact ⟨a, g, a1, a2, blk_grown a3 hgr (fun q => by injection q with q; rw [q, h1] at a3; cases a3)⟩
  · rw [up_off (by decide), up_off (by decide)]; exact h.c14
  · rw [up_off (by decide)]; exact h8
theorem NewC.new11 (h : NewC WX gm fuel budget ops b us W) (hb : b 11 = false) (h8 : b 8 = true) : NewC WX gm fuel budget ops (up b 11) (usUp us 11 (us 8)) W := by
  have e12 := h.no12 (.inr (.inr hb))
  have e13 := h.no13 e12
  have e14 := h.no14 e13
  refine ⟨h.hB, ?_, ?_, ?_, fun _ => ⟨by rw [up_off (by decide)]; exact h8, by rw [us_on, us_off (by decide)]⟩, fun e => ?_, fun e => ?_, fun e => ?_, ?_⟩
  · rw [up_off (by decide), us_off (by decide)]; exact h.c4
  · rw [up_off (by decide), us_off (by decide)]; exact h.c7
  · rw [up_off (by decide), up_off (by decide), us_off (by decide)]; exact h.c8
  · rw [up_off (by decide), e12] at e; cases e
  · rw [up_off (by decide), e13] at e; cases e
  · rw [up_off (by decide), e14] at e; cases e
  · rw [up_off (by decide), up_off (by decide)]; exact h.d10
theorem NewC.new12 (h : NewC WX gm fuel budget ops b us W) (hb : b 12 = false) (h4 : b 4 = true) (h7 : b 7 = true) (h11 : b 11 = true) : NewC WX gm fuel budget ops (up b 12) (usUp us 12 (.agg #[.pointer (some ⟨gm, 0, none⟩), .int .i64 fuel, .int .i64 budget, us 4, us 7, .int .u64 0, us 11, .slice none 0 0, .slice none 0 0, .int .i64 0, .bool false, .int .i64 0])) W := by
  have e13 := h.no13 hb
  have e14 := h.no14 e13
  refine ⟨h.hB, ?_, ?_, ?_, ?_, fun _ => ⟨?_, ?_, ?_, ?_⟩, fun e => ?_, fun e => ?_, ?_⟩
  · rw [up_off (by decide), us_off (by decide)]; exact h.c4
  · rw [up_off (by decide), us_off (by decide)]; exact h.c7
  · rw [up_off (by decide), up_off (by decide), us_off (by decide)]; exact h.c8
  · rw [up_off (by decide), up_off (by decide), us_off (by decide), us_off (by decide)]; exact h.c11
  · rw [up_off (by decide)]; exact h4
  · rw [up_off (by decide)]; exact h7
  · rw [up_off (by decide)]; exact h11
  · rw [us_on, us_off (by decide), us_off (by decide), us_off (by decide)]
  · rw [up_off (by decide), e13] at e; cases e
  · rw [up_off (by decide), e14] at e; cases e
  · rw [up_off (by decide), up_off (by decide)]; exact h.d10
theorem NewC.new13 (h : NewC WX gm fuel budget ops b us W) (hb : b 13 = false) (h12 : b 12 = true) : NewC WX gm fuel budget ops (up b 13) (usUp us 13 (.pointer (some ⟨W.heap.size, 0, none⟩))) (W.alloc (.cells #[.pointer (some ⟨gm, 0, none⟩), .int .i64 fuel, .int .i64 budget, us 4, us 7, .int .u64 0, us 11, .slice none 0 0, .slice none 0 0, .int .i64 0, .bool false, .int .i64 0] 87)) := by
  have e14 := h.no14 hb
  have hc := h.came (below_alloc (Below.refl W.heap.size W) (.cells #[.pointer (some ⟨gm, 0, none⟩), .int .i64 fuel, .int .i64 budget, us 4, us 7, .int .u64 0, us 11, .slice none 0 0, .slice none 0 0, .int .i64 0, .bool false, .int .i64 0] 87))
  refine ⟨hc.hB, ?_, ?_, ?_, ?_, ?_, fun _ => ⟨by rw [up_off (by decide)]; exact h12, W.heap.size, us_on, h.hB.size, ?_⟩, fun e => ?_, ?_⟩
  · rw [up_off (by decide), us_off (by decide)]; exact hc.c4
  · rw [up_off (by decide), us_off (by decide)]; exact hc.c7
  · rw [up_off (by decide), up_off (by decide), us_off (by decide)]; exact hc.c8
  · rw [up_off (by decide), up_off (by decide), us_off (by decide), us_off (by decide)]; exact hc.c11
  · rw [up_off (by decide), up_off (by decide), up_off (by decide), up_off (by decide), us_off (by decide), us_off (by decide), us_off (by decide), us_off (by decide)]; exact hc.c12
  · rw [us_off (by decide), us_off (by decide), us_off (by decide)]; exact blk_new _ _
  · rw [up_off (by decide), e14] at e; cases e
  · rw [up_off (by decide), up_off (by decide)]; exact hc.d10
theorem NewC.new14 (h : NewC WX gm fuel budget ops b us W) (h13 : b 13 = true) : NewC WX gm fuel budget ops (up b 14) (usUp us 14 (us 13)) W := by
  refine ⟨h.hB, ?_, ?_, ?_, ?_, ?_, ?_, fun _ => ⟨by rw [up_off (by decide)]; exact h13, by rw [us_on, us_off (by decide)]⟩, ?_⟩
  · rw [up_off (by decide), us_off (by decide)]; exact h.c4
  · rw [up_off (by decide), us_off (by decide)]; exact h.c7
  · rw [up_off (by decide), up_off (by decide), us_off (by decide)]; exact h.c8
  · rw [up_off (by decide), up_off (by decide), us_off (by decide), us_off (by decide)]; exact h.c11
  · rw [up_off (by decide), up_off (by decide), up_off (by decide), up_off (by decide), us_off (by decide), us_off (by decide), us_off (by decide), us_off (by decide)]; exact h.c12
  · rw [up_off (by decide), up_off (by decide), us_off (by decide), us_off (by decide), us_off (by decide), us_off (by decide)]; exact h.c13
  · rw [up_off (by decide), up_off (by decide)]; exact h.d10
end
/-- The rows of who is ahead, all of the first i, of the next one as far as k. -/
def alZ (ops : List S65) (i k : Nat) : List Int := (List.range ops.length).map (fun j => if j < i then (aheadZ ops j : Int) else if j = i then (maskZ (fun k => befZ (rd_T65 ops (k : Int)) (rd_T65 ops (i : Int))) k : Int) else 0)
theorem alZ_len (ops : List S65) (i k : Nat) : (alZ ops i k).length = ops.length := by simp [alZ]
theorem alZ_0 (ops : List S65) : alZ ops 0 0 = List.replicate ops.length 0 := by
  refine List.ext_getElem (by simp [alZ]) (fun j h1 h2 => ?_)
  simp [alZ, maskZ]
theorem alZ_next (ops : List S65) (i : Nat) : alZ ops i ops.length = alZ ops (i + 1) 0 := by
  refine List.ext_getElem (by simp [alZ]) (fun j h1 h2 => ?_)
  simp only [alZ, List.getElem_map, List.getElem_range]
  by_cases a : j < i
  · rw [if_pos a, if_pos (by omega)]
  · by_cases e : j = i
    · subst e; rw [if_neg a, if_pos rfl, if_pos (by omega)]; rfl
    · rw [if_neg a, if_neg e, if_neg (by omega)]
      split
      · rfl
      · rfl
theorem alZ_all (ops : List S65) (k : Nat) : alZ ops ops.length k = aheadL ops := by
  refine List.ext_getElem (by simp [alZ, aheadL]) (fun j h1 h2 => ?_)
  simp only [alZ, aheadL, List.getElem_map, List.getElem_range]
  rw [if_pos (by simpa [alZ] using h1)]
theorem alZ_rd (ops : List S65) (i k : Nat) (hi : i < ops.length) : rd (alZ ops i k) (i : Int) = (maskZ (fun k => befZ (rd_T65 ops (k : Int)) (rd_T65 ops (i : Int))) k : Int) := by
  simp [rd, alZ, List.getElem?_map, List.getElem?_range, hi]
theorem alZ_set (ops : List S65) (i k : Nat) (x : Int) (hx : x = (maskZ (fun k => befZ (rd_T65 ops (k : Int)) (rd_T65 ops (i : Int))) (k + 1) : Int)) : (alZ ops i k).set i x = alZ ops i (k + 1) := by
  refine List.ext_getElem (by simp [alZ]) (fun j h1 h2 => ?_)
  rw [List.getElem_set]
  simp only [alZ, List.getElem_map, List.getElem_range]
  by_cases e : i = j
  · subst e; rw [if_pos rfl, if_neg (by omega), if_pos rfl, hx]
  · rw [if_neg e]
    by_cases a : j < i
    · rw [if_pos a, if_pos a]
    · rw [if_neg a, if_neg a, if_neg (fun q => e q.symm), if_neg (fun q => e q.symm)]
theorem alZ_keep (ops : List S65) (i k : Nat) (h : befZ (rd_T65 ops (k : Int)) (rd_T65 ops (i : Int)) = false) : alZ ops i (k + 1) = alZ ops i k := by
  refine List.ext_getElem (by simp [alZ]) (fun j h1 h2 => ?_)
  simp only [alZ, List.getElem_map, List.getElem_range, maskZ, h]
  simp
/-- A search that is being made. -/
structure LinB (w0 W : World) (q : LinQ) (g gm bm : Nat) (vM vO vA : Value) (mz : Nat) (al : List Int) : Prop where
  hB : Below w0.heap.size w0 W
  bg : w0.heap.size ≤ g
  hk : W.heap[g]? = some (Obj.cells #[.pointer (some ⟨gm, 0, none⟩), .int .i64 q.fuel, .int .i64 q.budget, vO, vA, .int .u64 (mz : Int), .map (some bm), .slice none 0 0, .slice none 0 0, .int .i64 0, .bool false, .int .i64 0] 87 (0, 0))
  hM : VmM w0.heap.size W gm q.L vM
  hO : Kd.R k65 65 W w0.heap.size (fun _ => True) vO q.ops
  hA : Kd.R (Kd.int .u64) 83 W w0.heap.size (fun _ => True) vA al
  bb : w0.heap.size ≤ bm
  hS : SeenM W bm [((0, [0, 0, 0, 0]) : Ps)]
section
variable {w0 W W' : World} {q : LinQ} {g gm bm : Nat} {vM vO vA : Value} {mz : Nat} {al : List Int}
theorem LinB.came (h : LinB w0 W q g gm bm vM vO vA mz al) (hb : Below W.heap.size W W') : LinB w0 W' q g gm bm vM vO vA mz al :=
  ⟨below_step h.hB hb, h.bg, blk_below h.hk hb, h.hM.came hb, Kd.R_below h.hO hb, Kd.R_below h.hA hb, h.bb, h.hS.same (hb.block _ h.hS.lt)⟩
theorem LinB.bmg (h : LinB w0 W q g gm bm vM vO vA mz al) : bm ≠ g := by
  rintro rfl
  obtain ⟨es, c, h1, _⟩ := h.hS.out
  rw [h.hk] at h1
  cases h1
theorem LinB.setMust (h : LinB w0 W q g gm bm vM vO vA mz al) (x : Nat) : LinB w0 (W.setCell ⟨g, 5, none⟩ (.int .u64 (x : Int))) q g gm bm vM vO vA x al :=
  ⟨below_set h.hB h.bg, h.bg, blk_put h.hk 5 _ (by simp), h.hM.same (.set h.hk (by decide) _ _) (.set h.hk (by decide) _ _), R65_same h.hO (.set h.hk (by decide) _ _), R1_same rfl h.hA (.set h.hk (by decide) _ _), h.bb, h.hS.same (Below.heap_setCell _ _ _ _ h.bmg)⟩
theorem LinB.putA {ba n c : Nat} (h : LinB w0 W q g gm bm vM vO (.slice (some ⟨ba, 0, none⟩) n c) mz al) (i : Nat) (x : Int) : LinB w0 (W.setCell ⟨ba, i, none⟩ (.int .u64 x)) q g gm bm vM vO (.slice (some ⟨ba, 0, none⟩) n c) mz (al.set i x) := by
  obtain ⟨cells, hc⟩ := Kd.R_row h.hA ba rfl
  have hb : w0.heap.size ≤ ba := by
    obtain ⟨inner, ho⟩ := Kd.R_own h.hA
    exact own_base ho ba rfl
  have hgb : g ≠ ba := blk_ne h.hk hc (by decide)
  have hbm : bm ≠ ba := by
    rintro rfl
    obtain ⟨es, c2, h1, _⟩ := h.hS.out
    rw [hc] at h1
    cases h1
  have hp := (Kd.R_putg h.hA (i : Int) x).1
  rw [Int.toNat_natCast] at hp
  exact ⟨below_set h.hB hb, h.bg, (Below.heap_setCell _ _ _ _ hgb).trans h.hk, h.hM.same (.set hc (by decide) _ _) (.set hc (by decide) _ _), R65_same h.hO (.set hc (by decide) _ _), hp, h.bb, h.hS.same (Below.heap_setCell _ _ _ _ hbm)⟩
theorem LinB.done (h : LinB w0 W q g gm bm vM vO vA (mustZ q.ops) (aheadL q.ops)) : LinM w0 W q g gm bm vM vO vA (.slice none 0 0) (.slice none 0 0) ⟨[((0, [0, 0, 0, 0]) : Ps)], [], [], 0, false, 0⟩ :=
  ⟨h.hB, h.bg, h.hk, h.hM, h.hO, h.hA, h.bb, h.hS, Kd.R_nil _ _ _ _ _, Kd.R_nil _ _ _ _ _⟩
theorem LinB.cells (h : LinB w0 W q g gm bm vM vO vA mz al) (W_ : World) (hb : Below W.heap.size W W_) : W_.cell? ⟨g, 4, none⟩ = some vA ∧ W_.cell? ⟨g, 5, none⟩ = some (.int .u64 (mz : Int)) ∧ W_.frozen? ⟨g, 5, none⟩ = false := by
  have h2 := blk_below h.hk hb
  exact ⟨blk_cell h2 4, blk_cell h2 5, blk_frozen h2 5⟩
end
set_option maxRecDepth 100000 in
set_option maxHeartbeats 8000000 in
theorem lin_New_ok (A0 A3 : Option Addr) (c0 c3 : Nat) (L : List S36) (fuel budget : Int) (ops : List S65) (w : World) (hC0 : Kd.C k36 w A0 L.length L) (hc0 : L.length ≤ c0) (hL : L.length ≤ 300) (hC3 : Kd.C k65 w A3 ops.length ops) (hc3 : ops.length ≤ c3) (ht : (thru L).2.2 = 0) (hf : 0 ≤ fuel ∧ fuel ≤ 10000 ∧ 0 ≤ budget ∧ budget ≤ 1073741824) (ho : ops.length ≤ 64) (hs : selfZ ops = false) :
    Calls Try.prog 39 #[.slice A0 L.length c0, .int .i64 fuel, .int .i64 budget, .slice A3 ops.length c3] w fun e w' => ∃ g, e = .returned (.tuple #[.pointer (some ⟨g, 0, none⟩), .int .i64 0]) ∧ LinT w w' ⟨L, fuel, budget, ops⟩ g (newZ ⟨L, fuel, budget, ops⟩) := by
  replace hC0 := Aside0.mk hC0
  replace hC3 := Aside0.mk hC3
  replace hL := Aside0.mk hL
  have hb1 : decide (fuel < 0) = false := decide_eq_false (by omega)
  have hb2 : decide (10000 < fuel) = false := decide_eq_false (by omega)
  have hb3 : decide (budget < 0) = false := decide_eq_false (by omega)
  have hb4 : decide (1073741824 < budget) = false := decide_eq_false (by omega)
  have hb5 : decide (64 < (ops.length : Int)) = false := decide_eq_false (by omega)
  have hself : Aside0 (∀ i : Nat, i < ops.length → befZ (rd_T65 ops (i : Int)) (rd_T65 ops (i : Int)) = false) := ⟨fun i hi => by
    have := List.any_eq_false.mp hs i (List.mem_range.mpr hi)
    simpa using this⟩
  have hfb := Aside0.mk hf
  clear hf hs
  replace ht := Aside0.mk ht
  have hn64 := Aside0.mk ho
  clear ho
  go_enter Try.func39, Try.ntmps39
  go_wp2_with (first | (go_at_call 23; (with_reducible refine (vm_New_k A0 c0 L _ hC0.out hc0 hL.out ht.out).mono ?_); rintro e WM ⟨gm, vM, rfl, hM, hBM⟩; replace hM := Aside0.mk hM; replace hBM := Aside0.mk hBM))
  go_loopg [49] ops.length (fun kk v49 W_ => ∃ (i : Nat), v49 = .int .i64 i ∧ Aside0 (kk + i = ops.length ∧ True) ∧ Aside0 (Below WM.heap.size WM W_))
  case atStart => exact ⟨0, rfl, ⟨⟨by omega, trivial⟩⟩, ⟨Below.refl _ _⟩⟩
  case round =>
    obtain ⟨i, rfl, hki, hBW⟩ := hrel
    cases gk with
    | succ j =>
      have hi : Aside0 (i < ops.length) := ⟨by have := hki.out.1; omega⟩
      have hlt : decide ((i : Int) < (ops.length : Int)) = true := decide_eq_true (by have := hi.out; omega)
      have hlt2 : i < ops.length := hi.out
      have hi0 : decide (0 ≤ (i : Int)) = true := decide_eq_true (by omega)
      have hi64 : (i : Int) ≤ 64 := by have := hn64.out; omega
      obtain ⟨ad, e9, hop7⟩ := op_cells7 (Kd.C_below (Kd.C_below hC3.out hBM.out) hBW.out) (i : Int) (by omega) (by omega)
      cases e9
      obtain ⟨px, hpx⟩ : ∃ x, x = rd_T65 ops (i : Int) := ⟨_, rfl⟩
      rw [← hpx] at hop7
      obtain ⟨o0, o1, o2, o3, o4, o5, o6⟩ := hop7 wr (Below.refl _ _)
      simp only [Int.toNat_natCast] at o0 o1 o2 o3 o4 o5 o6
      replace hop7 := Aside0.mk hop7
      have hbz := hself.out i hi.out
      rw [← hpx] at hbz
      replace hbz : Aside0 (hist_Before.f px.f0 px.f1 px.f2 px.f3 px.f4 px.f5 px.f6 px.f0 px.f1 px.f2 px.f3 px.f4 px.f5 px.f6 = some false) := ⟨by rw [← hbz]; exact hist_bef px px⟩
      clear hpx
      go_wp2_with (first | (go_at_call 38; (with_reducible refine (hist_Before.calls px.f0 px.f1 px.f2 px.f3 px.f4 px.f5 px.f6 px.f0 px.f1 px.f2 px.f3 px.f4 px.f5 px.f6 false _ hbz.out).mono ?_); rintro e W8 ⟨rfl, hB8⟩; replace hB8 := Aside0.mk hB8))
      go_roundg j
      case measure => omega
      case rel => exact ⟨i + 1, by simp, ⟨⟨by have := hki.out.1; omega, trivial⟩⟩, ⟨below_step (below_step hBW.out (below_alloc (Below.refl _ _) _)) hB8.out⟩⟩
    | zero =>
      obtain rfl : i = ops.length := by have := hki.out.1; omega
      have hlt0 : decide ((ops.length : Int) < (ops.length : Int)) = false := decide_eq_false (by omega)
      obtain ⟨WX, hWX⟩ : ∃ x : World, x = wr := ⟨_, rfl⟩
      rw [← hWX] at hBW ⊢
      clear hWX
      have hC3r := Aside0.mk (Kd.C_below (Kd.C_below hC3.out hBM.out) hBW.out)
      go_wp2
      refine region_by (fun b us W_ => NewC WX gm fuel budget ops b us W_) (by kernel_rfl) (by kernel_rfl) ⟨fun _ => undef, NewC.start WX gm fuel budget ops _⟩ ?_
      iterate 4 (refine rb_want (fun us => rfl) ?_; apply Exists.intro; apply And.intro; (focus (apply rb_pure; (focus (intro b us w h; exact h.off (by decide) (by decide) (by decide) (by decide) (by decide) (by decide) (by decide) (by decide))); intro b us W_ hC; go_simp; rfl)); apply Exists.intro; apply And.intro; (focus (intro us; simp only [Act.put, List.setIfInBounds_toArray, List.set_cons_zero, List.set_cons_succ]; rfl)))
      (refine rb_open (fun us => rfl) (rb_callo (f := 65) (args := fun us => #[.slice A3 ops.length c3]) (fun us W_ => ?_) (fun b us W_ hb hon hC => ?_)) ?_; (focus (exact rb_enters Try.func65 (by kernel_rfl) rfl (by rfl) W_)); (focus (refine (lin_CloneOp A3 c3 ops _ (Kd.C_below hC3r.out hC.hB) (by have := hn64.out; omega)).mono ?_; rintro e w1 ⟨v, rfl, hR, hbw⟩; exact ⟨v, rfl, (hC.came hbw).new4 hb (Kd.R_lower hR hC.hB.size)⟩)); apply Exists.intro; apply And.intro; (focus (intro us; simp only [Act.put, List.setIfInBounds_toArray, List.set_cons_zero, List.set_cons_succ]; rfl)))
      iterate 2 (refine rb_want (fun us => rfl) ?_; apply Exists.intro; apply And.intro; (focus (apply rb_pure; (focus (intro b us w h; exact h.off (by decide) (by decide) (by decide) (by decide) (by decide) (by decide) (by decide) (by decide))); intro b us W_ hC; go_simp; rfl)); apply Exists.intro; apply And.intro; (focus (intro us; simp only [Act.put, List.setIfInBounds_toArray, List.set_cons_zero, List.set_cons_succ]; rfl)))
      (refine rb_open (fun us => rfl) (rb_new (fun b us W_ hb hon hC => ?_)) ?_; (focus (refine ⟨.slice (some ⟨W_.heap.size, 0, none⟩) ops.length ops.length, W_.alloc (.cells (madeCells #[.int .u64 0] ops.length) 83), ?_, (hC.came (below_alloc (Below.refl _ _) _)).new7 hb (Kd.R_of_own (own_made' W_ WX.heap.size 83 .u64 ops.length hC.hB.size (by have := hn64.out; omega)) (fun _ _ => trivial))⟩; have y := lin_make W_ ops.length (by have := hn64.out; omega); first | (go_simp; done) | (go_simp; rfl))); apply Exists.intro; apply And.intro; (focus (intro us; simp only [Act.put, List.setIfInBounds_toArray, List.set_cons_zero, List.set_cons_succ]; rfl)))
      (refine rb_open (fun us => rfl) (rb_new (fun b us W_ hb hon hC => ?_)) ?_; (focus (refine ⟨.map (some W_.heap.size), W_.alloc (.map #[] 0), ?_, (hC.came (below_alloc (Below.refl _ _) _)).new8 hb hC.hB.size ⟨#[], 0, blk_new _ _, rfl⟩⟩; have y := @run_makeMap Try.prog; first | (go_simp; done) | (go_simp; rfl))); apply Exists.intro; apply And.intro; (focus (intro us; simp only [Act.put, List.setIfInBounds_toArray, List.set_cons_zero, List.set_cons_succ]; rfl)))
      (refine rb_want (fun us => rfl) ?_; apply Exists.intro; apply And.intro; (focus (apply rb_pure; (focus (intro b us w h; exact h.off (by decide) (by decide) (by decide) (by decide) (by decide) (by decide) (by decide) (by decide))); intro b us W_ hC; go_simp; rfl)); apply Exists.intro; apply And.intro; (focus (intro us; simp only [Act.put, List.setIfInBounds_toArray, List.set_cons_zero, List.set_cons_succ]; rfl)))
      (refine rb_want (fun us => rfl) ⟨undef, rb_store (fun b us W_ hb hon hC => ?_), ?_⟩; (focus (obtain ⟨bm, e8, hg, hS⟩ := hC.c8 (hon 8 (by decide) (by decide)); rw [if_neg (by simp [hb])] at hS; obtain ⟨W1, hrun, hS1, hg1, _⟩ := put_ps hS (by simp) ((0, [0, 0, 0, 0]) : Ps) rfl (by simp); refine ⟨W1, ?_, hC.put10 hb (hon 8 (by decide) (by decide)) e8 hg hS hg1 hS1⟩; have y : (Instr.mapUpdate 84 (.map (some bm)) (.agg #[.int .u64 0, .int .i64 0, .int .i64 0, .int .i64 0, .int .i64 0]) (.bool true)).run Try.prog W_ = .ok () W1 := hrun; rw [e8]; clear hrun; first | (go_simp; done) | (go_simp; rfl))); apply Exists.intro; apply And.intro; (focus (intro us; simp only [Act.put, List.setIfInBounds_toArray, List.set_cons_zero, List.set_cons_succ]; rfl)))
      (refine rb_open (fun us => rfl) (rb_new (fun b us W_ hb hon hC => ?_)) ?_; (focus (exact ⟨us 8, W_, (by first | rfl | (go_simp; done) | (go_simp; rfl)), hC.new11 hb (hon 8 (by decide) (by decide))⟩)); apply Exists.intro; apply And.intro; (focus (intro us; simp only [Act.put, List.setIfInBounds_toArray, List.set_cons_zero, List.set_cons_succ]; rfl)))
      (refine rb_open (fun us => rfl) (rb_new (fun b us W_ hb hon hC => ?_)) ?_; (focus (obtain ⟨A4, c4_, e4⟩ := Kd.R_slice (hC.c4 (hon 4 (by decide) (by decide))); obtain ⟨A7, c7_, e7⟩ := Kd.R_slice (hC.c7 (hon 7 (by decide) (by decide))); obtain ⟨_, e11⟩ := hC.c11 (hon 11 (by decide) (by decide)); obtain ⟨bm, e8, _, _⟩ := hC.c8 (hC.c11 (hon 11 (by decide) (by decide))).1; refine ⟨.agg #[.pointer (some ⟨gm, 0, none⟩), .int .i64 fuel, .int .i64 budget, us 4, us 7, .int .u64 0, us 11, .slice none 0 0, .slice none 0 0, .int .i64 0, .bool false, .int .i64 0], W_, ?_, hC.new12 hb (hon 4 (by decide) (by decide)) (hon 7 (by decide) (by decide)) (hon 11 (by decide) (by decide))⟩; rw [e4, e7, e11, e8]; first | (go_simp; done) | (go_simp; rfl))); apply Exists.intro; apply And.intro; (focus (intro us; simp only [Act.put, List.setIfInBounds_toArray, List.set_cons_zero, List.set_cons_succ]; rfl)))
      (refine rb_open (fun us => rfl) (rb_new (fun b us W_ hb hon hC => ?_)) ?_; (focus (obtain ⟨_, _, _, e12⟩ := hC.c12 (hon 12 (by decide) (by decide)); refine ⟨.pointer (some ⟨W_.heap.size, 0, none⟩), W_.alloc (.cells #[.pointer (some ⟨gm, 0, none⟩), .int .i64 fuel, .int .i64 budget, us 4, us 7, .int .u64 0, us 11, .slice none 0 0, .slice none 0 0, .int .i64 0, .bool false, .int .i64 0] 87), ?_, hC.new13 hb (hon 12 (by decide) (by decide))⟩; rw [e12]; first | (go_simp; done) | (go_simp; rfl))); apply Exists.intro; apply And.intro; (focus (intro us; simp only [Act.put, List.setIfInBounds_toArray, List.set_cons_zero, List.set_cons_succ]; rfl)))
      (refine rb_open (fun us => rfl) (rb_new (fun b us W_ hb hon hC => ?_)) ?_; (focus (exact ⟨us 13, W_, (by first | rfl | (go_simp; done) | (go_simp; rfl)), hC.new14 (hon 13 (by decide) (by decide))⟩)); apply Exists.intro; apply And.intro; (focus (intro us; simp only [Act.put, List.setIfInBounds_toArray, List.set_cons_zero, List.set_cons_succ]; rfl)))
      refine rb_done (fun b us W14 hall hC => ?_)
      obtain ⟨x14, e14⟩ := hC.c14 (hall 14 (by decide))
      obtain ⟨x13, g, e13, hgg, hgk⟩ := hC.c13 (hall 13 (by decide))
      obtain ⟨bm, e8, hgb, hS⟩ := hC.c8 (hall 8 (by decide))
      rw [if_pos (hall 10 (by decide))] at hS
      have hR4 := hC.c4 (hall 4 (by decide))
      have hR7 := hC.c7 (hall 7 (by decide))
      obtain ⟨x11, e11⟩ := hC.c11 (hall 11 (by decide))
      rw [e11, e8] at hgk
      have hB14 := hC.hB
      try dsimp only
      rw [e14, e13]
      try rw [e8]
      generalize us 4 = u4 at *
      generalize us 7 = u7 at *
      generalize us 8 = u8 at *
      generalize us 11 = u11 at *
      generalize us 12 = u12 at *
      clear hC hall e14 e13 e11 x14 x13 x11 e8
      clear us b
      have hLB : Aside0 (LinB w W14 ⟨L, fuel, budget, ops⟩ g gm bm vM u4 u7 (maskZ (fun k => (rd_T65 ops (k : Int)).f3) 0) (alZ ops 0 0)) := ⟨⟨below_step (below_step hBM.out hBW.out) hB14, Nat.le_trans (below_step hBM.out hBW.out).size hgg, hgk, (hM.out.came hBW.out).came hB14, Kd.R_lower hR4 (below_step hBM.out hBW.out).size, by rw [alZ_0]; exact Kd.R_lower hR7 (below_step hBM.out hBW.out).size, Nat.le_trans (below_step hBM.out hBW.out).size hgb, hS⟩⟩
      have hC14 := Aside0.mk (Kd.C_below hC3r.out hB14)
      clear hB14 hgg hgk hR4 hR7 hgb hS hlt0
      go_wp2
      go_loopg [72] ops.length (fun kk v72 W_ => ∃ (i : Nat), v72 = .int .i64 i ∧ Aside0 (kk + i = ops.length) ∧ Aside0 (Below w.heap.size w W_) ∧ Aside0 (LinB w W_ ⟨L, fuel, budget, ops⟩ g gm bm vM u4 u7 (maskZ (fun k => (rd_T65 ops (k : Int)).f3) i) (alZ ops i 0)))
      case atStart => exact ⟨0, rfl, ⟨by omega⟩, ⟨hLB.out.hB⟩, hLB⟩
      case round =>
        obtain ⟨i, rfl, hki, hBi, hB⟩ := hrel
        cases gk with
        | succ j =>
          have hi : Aside0 (i < ops.length) := ⟨by have := hki.out; omega⟩
          have hlt : decide ((i : Int) < (ops.length : Int)) = true := decide_eq_true (by have := hi.out; omega)
          have hlt2 : i < ops.length := hi.out
          have hi0 : decide (0 ≤ (i : Int)) = true := decide_eq_true (by omega)
          have hi64 : (i : Int) ≤ 64 := by have := hn64.out; omega
          obtain ⟨ad, e9, hop7⟩ := op_cells7 (Kd.C_below hC3.out hBi.out) (i : Int) (by omega) (by omega)
          cases e9
          obtain ⟨px, hpx⟩ : ∃ x, x = rd_T65 ops (i : Int) := ⟨_, rfl⟩
          rw [← hpx] at hop7
          obtain ⟨o0, o1, o2, o3, o4, o5, o6⟩ := hop7 wr (Below.refl _ _)
          simp only [Int.toNat_natCast] at o0 o1 o2 o3 o4 o5 o6
          clear hop7
          obtain ⟨mz, hmz⟩ : ∃ z : Nat, z = maskZ (fun k => (rd_T65 ops (k : Int)).f3) i := ⟨_, rfl⟩
          obtain ⟨z, hz⟩ : ∃ z : Nat, z = maskZ (fun k => (rd_T65 ops (k : Int)).f3) (i + 1) := ⟨_, rfl⟩
          rw [← hmz] at hB
          obtain ⟨t, ht2⟩ : ∃ t : Nat, t = 2 ^ i := ⟨_, rfl⟩
          have hi63 : i < 64 := Nat.lt_of_lt_of_le hi.out hn64.out
          have hsh : Aside0 (IntKind.u64.wrap (2 ^ i) = (t : Int)) := ⟨by rw [ht2]; exact u_pow i hi63⟩
          have hor2 : Aside0 (px.f3 = true → bits .or .u64 (mz : Int) (t : Int) = (z : Int)) := ⟨fun e => by rw [ht2, hz, hmz, maskZ, if_pos (by rw [← hpx]; exact e)]; exact u_or _ _ (mask_lt64 _ (Nat.le_of_lt hi63)) (Nat.pow_lt_pow_right (by decide) hi63)⟩
          have hno : Aside0 (px.f3 = false → z = mz) := ⟨fun e => by rw [hz, hmz, maskZ, if_neg (by rw [← hpx, e]; decide)]⟩
          replace hmz := Aside0.mk hmz
          replace hz := Aside0.mk hz
          replace hpx := Aside0.mk hpx
          clear ht2
          cases hdn : px.f3 with
          | true =>
            have hor3 := Aside0.mk (hor2.out hdn)
            go_wp2
            refine vm_gen _ (fun W_ => LinB w W_ ⟨L, fuel, budget, ops⟩ g gm bm vM u4 u7 mz (alZ ops i 0) ∧ W_.heap[wr.heap.size]? = some (opO px)) ⟨hB.out.came (below_alloc (Below.refl _ _) _), by rw [← hdn]; exact blk_new _ _⟩ ?_
            rintro W5 ⟨hN5, hx5⟩
            have c5 := (hN5.came (below_drew (Below.refl _ _))).cells W5.drew (Below.refl _ _)
            obtain ⟨_, c5, z5⟩ := c5
            replace hN5 := Aside0.mk hN5
            replace hx5 := Aside0.mk hx5
            refine region_by (fun b us W_ => StC W5.drew (W5.drew.setCell ⟨g, 5, none⟩ (.int .u64 (z : Int))) 9 [3] b us W_) (by kernel_rfl) (by kernel_rfl) ⟨fun _ => undef, StC.start _ _ _ _ _⟩ ?_
            iterate 3 (refine rb_want (fun us => rfl) ?_; apply Exists.intro; apply And.intro; (focus (apply rb_pure; (focus (intro b us w h; exact h.off (by decide))); intro b us W_ hC; go_simp; rfl)); apply Exists.intro; apply And.intro; (focus (intro us; simp only [Act.put, List.setIfInBounds_toArray, List.set_cons_zero, List.set_cons_succ]; rfl)))
            (refine rb_want (fun us => rfl) ?_; apply Exists.intro; apply And.intro; (focus (apply rb_read; (focus (intro b us w h; exact h.off (by decide))); intro b us W_ hb hon hC; have e := hC.read (j := 3) (by decide) hb; subst e; first | (go_simp; done) | (go_simp; rfl))); apply Exists.intro; apply And.intro; (focus (intro us; simp only [Act.put, List.setIfInBounds_toArray, List.set_cons_zero, List.set_cons_succ]; rfl)))
            (refine rb_want (fun us => rfl) ?_; apply Exists.intro; apply And.intro; (focus (apply rb_pure; (focus (intro b us w h; exact h.off (by decide))); intro b us W_ hC; go_simp; rfl)); apply Exists.intro; apply And.intro; (focus (intro us; simp only [Act.put, List.setIfInBounds_toArray, List.set_cons_zero, List.set_cons_succ]; rfl)))
            (refine rb_want (fun us => rfl) ?_; apply Exists.intro; apply And.intro; (focus (apply rb_pure; (focus (intro b us w h; exact h.off (by decide))); intro b us W_ hC; have y1 := hsh.out; have y2 := hi64; go_simp; rfl)); apply Exists.intro; apply And.intro; (focus (intro us; simp only [Act.put, List.setIfInBounds_toArray, List.set_cons_zero, List.set_cons_succ]; rfl)))
            (refine rb_want (fun us => rfl) ?_; apply Exists.intro; apply And.intro; (focus (apply rb_pure; (focus (intro b us w h; exact h.off (by decide))); intro b us W_ hC; have y1 := hor3.out; go_simp; rfl)); apply Exists.intro; apply And.intro; (focus (intro us; simp only [Act.put, List.setIfInBounds_toArray, List.set_cons_zero, List.set_cons_succ]; rfl)))
            iterate 2 (refine rb_want (fun us => rfl) ?_; apply Exists.intro; apply And.intro; (focus (apply rb_pure; (focus (intro b us w h; exact h.off (by decide))); intro b us W_ hC; go_simp; rfl)); apply Exists.intro; apply And.intro; (focus (intro us; simp only [Act.put, List.setIfInBounds_toArray, List.set_cons_zero, List.set_cons_succ]; rfl)))
            (refine rb_want (fun us => rfl) ⟨undef, rb_store (fun b us W_ hb hon hC => ?_), ?_⟩; (focus (have e := hC.at hb; subst e; refine ⟨W5.drew.setCell ⟨g, 5, none⟩ (.int .u64 (z : Int)), ?_, hC.put (fun j hj => by simp at hj; subst hj; exact hon 3 (by decide) (by decide))⟩; first | (go_simp; done) | (go_simp; rfl))); apply Exists.intro; apply And.intro; (focus (intro us; simp only [Act.put, List.setIfInBounds_toArray, List.set_cons_zero, List.set_cons_succ]; rfl)))
            refine rb_done (fun b us W_ hall hC => ?_)
            have hW_ := hC.done (hall 9 (by decide))
            subst hW_
            clear hC hall
            clear us b
            have hN6 := Aside0.mk ((hN5.out.came (below_drew (Below.refl _ _))).setMust z)
            have hx6 : Aside0 ((W5.drew.setCell ⟨g, 5, none⟩ (.int .u64 (z : Int))).heap[wr.heap.size]? = some (opO px)) := ⟨(Below.heap_setCell _ _ _ _ (blk_ne (show W5.drew.heap[wr.heap.size]? = _ from hx5.out) (hN5.out.came (below_drew (Below.refl _ _))).hk (by decide))).trans hx5.out⟩
            clear hN5 hx5 c5 z5
            go_wp2
            refine vm_gen _ (fun W_ => LinB w W_ ⟨L, fuel, budget, ops⟩ g gm bm vM u4 u7 z (alZ ops i 0) ∧ W_.heap[wr.heap.size]? = some (opO px)) ⟨hN6.out, hx6.out⟩ ?_
            rintro W6 ⟨hN6, hx6⟩
            replace hN6 := Aside0.mk hN6
            replace hx6 := Aside0.mk hx6
            obtain ⟨B16, hB16⟩ : ∃ x, x = wr.heap.size := ⟨_, rfl⟩
            rw [← hB16] at hx6 ⊢
            clear hB16 o0 o1 o2 o3 o4 o5 o6 hB hsh hor2 hno hdn
            go_loopg [90] ops.length (fun kk v90 W_ => ∃ (k : Nat), v90 = .int .i64 k ∧ Aside0 (kk + k = ops.length) ∧ Aside0 (Below w.heap.size w W_) ∧ Aside0 (LinB w W_ ⟨L, fuel, budget, ops⟩ g gm bm vM u4 u7 z (alZ ops i k)) ∧ Aside0 (W_.heap[B16]? = some (opO px)))
            case atStart => exact ⟨0, rfl, ⟨by omega⟩, ⟨hN6.out.hB⟩, hN6, hx6⟩
            case round =>
              obtain ⟨k, rfl, hkk, hBk, hK, hxk⟩ := hrel
              cases gk with
              | zero =>
                obtain rfl : k = ops.length := by have := hkk.out; omega
                have hlt2 : decide ((ops.length : Int) < (ops.length : Int)) = false := decide_eq_false (by omega)
                go_wp2
                go_roundg j
                case measure => omega
                case rel => exact ⟨i + 1, by simp, ⟨by have := hki.out; omega⟩, hBk, ⟨by have y := hK.out; rw [alZ_next, hz.out] at y; exact y⟩⟩
              | succ j2 =>
                have hk9 : Aside0 (k < ops.length) := ⟨by have := hkk.out; omega⟩
                have hlt3 : decide ((k : Int) < (ops.length : Int)) = true := decide_eq_true (by have := hk9.out; omega)
                have hlt4 : k < ops.length := hk9.out
                have hk0 : decide (0 ≤ (k : Int)) = true := decide_eq_true (by omega)
                have hk64 : (k : Int) ≤ 64 := by have := hn64.out; omega
                obtain ⟨ad_, e9, hop7⟩ := op_cells7 (Kd.C_below hC3.out hBk.out) (k : Int) (by omega) (by omega)
                cases e9
                obtain ⟨py, hpy⟩ : ∃ x, x = rd_T65 ops (k : Int) := ⟨_, rfl⟩
                rw [← hpy] at hop7
                obtain ⟨o0, o1, o2, o3, o4, o5, o6⟩ := hop7 wr (Below.refl _ _)
                simp only [Int.toNat_natCast] at o0 o1 o2 o3 o4 o5 o6
                have hxc : ∀ X : Obj, (wr.alloc X).cell? ⟨B16, 0, none⟩ = some (.int .i64 px.f0) ∧ (wr.alloc X).cell? ⟨B16, 1, none⟩ = some (.int .i64 px.f1) ∧ (wr.alloc X).cell? ⟨B16, 2, none⟩ = some (.int .i64 px.f2) ∧ (wr.alloc X).cell? ⟨B16, 3, none⟩ = some (.bool px.f3) ∧ (wr.alloc X).cell? ⟨B16, 4, none⟩ = some (.int .i64 px.f4) ∧ (wr.alloc X).cell? ⟨B16, 5, none⟩ = some (.int .i64 px.f5) ∧ (wr.alloc X).cell? ⟨B16, 6, none⟩ = some (.int .i64 px.f6) := fun X => by
                  have h2 := blk_alloc hxk.out X
                  exact ⟨blk_cell h2 0, blk_cell h2 1, blk_cell h2 2, blk_cell h2 3, blk_cell h2 4, blk_cell h2 5, blk_cell h2 6⟩
                have x0 := fun X => (hxc X).1
                have x1 := fun X => (hxc X).2.1
                have x2 := fun X => (hxc X).2.2.1
                have x3 := fun X => (hxc X).2.2.2.1
                have x4 := fun X => (hxc X).2.2.2.2.1
                have x5 := fun X => (hxc X).2.2.2.2.2.1
                have x6 := fun X => (hxc X).2.2.2.2.2.2
                have hbe : Aside0 (befZ py px = befZ (rd_T65 ops (k : Int)) (rd_T65 ops (i : Int))) := ⟨by rw [hpy, hpx.out]⟩
                replace hpy := Aside0.mk hpy
                clear hop7 hxc
                cases hbz : befZ py px with
                | false =>
                  have hkeep : Aside0 (alZ ops i (k + 1) = alZ ops i k) := ⟨alZ_keep ops i k (by rw [← hbe.out]; exact hbz)⟩
                  replace hbz : Aside0 (hist_Before.f py.f0 py.f1 py.f2 py.f3 py.f4 py.f5 py.f6 px.f0 px.f1 px.f2 px.f3 px.f4 px.f5 px.f6 = some false) := ⟨by rw [← hbz]; exact hist_bef py px⟩
                  go_wp2_with (first | (go_at_call 38; (with_reducible refine (hist_Before.calls py.f0 py.f1 py.f2 py.f3 py.f4 py.f5 py.f6 px.f0 px.f1 px.f2 px.f3 px.f4 px.f5 px.f6 false _ hbz.out).mono ?_); rintro e W8 ⟨rfl, hB8⟩; replace hB8 := Aside0.mk hB8))
                  go_roundg j2
                  case measure => omega
                  case rel => exact ⟨k + 1, by simp, ⟨by have := hkk.out; omega⟩, ⟨below_step (below_step hBk.out (below_alloc (Below.refl _ _) _)) hB8.out⟩, ⟨by rw [hkeep.out]; exact (hK.out.came (below_alloc (Below.refl _ _) _)).came hB8.out⟩, ⟨blk_below (blk_alloc hxk.out _) hB8.out⟩⟩
                | true =>
                  obtain ⟨ba, cA, e9, _, _, _⟩ := Kd.R_form hK.out.hA (by rw [alZ_len]; omega)
                  rw [alZ_len] at e9
                  subst e9
                  obtain ⟨mk, hmk⟩ : ∃ z : Nat, z = maskZ (fun k => befZ (rd_T65 ops (k : Int)) (rd_T65 ops (i : Int))) k := ⟨_, rfl⟩
                  obtain ⟨z2, hz2⟩ : ∃ z : Nat, z = maskZ (fun k => befZ (rd_T65 ops (k : Int)) (rd_T65 ops (i : Int))) (k + 1) := ⟨_, rfl⟩
                  obtain ⟨t2, ht2⟩ : ∃ t : Nat, t = 2 ^ k := ⟨_, rfl⟩
                  have hk63 : k < 64 := Nat.lt_of_lt_of_le hk9.out hn64.out
                  have hsh2 : Aside0 (IntKind.u64.wrap (2 ^ k) = (t2 : Int)) := ⟨by rw [ht2]; exact u_pow k hk63⟩
                  have hor4 : Aside0 (bits .or .u64 (mk : Int) (t2 : Int) = (z2 : Int)) := ⟨by rw [ht2, hz2, hmk, maskZ, if_pos (by rw [← hbe.out]; exact hbz)]; exact u_or _ _ (mask_lt64 _ (Nat.le_of_lt hk63)) (Nat.pow_lt_pow_right (by decide) hk63)⟩
                  have hset : Aside0 ((alZ ops i k).set i (z2 : Int) = alZ ops i (k + 1)) := ⟨alZ_set ops i k _ (by rw [hz2])⟩
                  have hrd : Aside0 (rdOf 0 (alZ ops i k) (i : Int) = (mk : Int)) := ⟨by rw [hmk]; exact alZ_rd ops i k hi.out⟩
                  replace hmk := Aside0.mk hmk
                  replace hz2 := Aside0.mk hz2
                  have hk64a := Aside0.mk hk64
                  clear ht2
                  replace hbz : Aside0 (hist_Before.f py.f0 py.f1 py.f2 py.f3 py.f4 py.f5 py.f6 px.f0 px.f1 px.f2 px.f3 px.f4 px.f5 px.f6 = some true) := ⟨by rw [← hbz]; exact hist_bef py px⟩
                  go_wp2_with (first | (go_at_call 38; (with_reducible refine (hist_Before.calls py.f0 py.f1 py.f2 py.f3 py.f4 py.f5 py.f6 px.f0 px.f1 px.f2 px.f3 px.f4 px.f5 px.f6 true _ hbz.out).mono ?_); rintro e W8 ⟨rfl, hB8⟩; replace hB8 := Aside0.mk hB8))
                  have hK8 := Aside0.mk ((hK.out.came (below_alloc (Below.refl _ _) _)).came hB8.out)
                  have hx8 := Aside0.mk (blk_below (blk_alloc hxk.out _) hB8.out)
                  have hK9 := Aside0.mk (hK8.out.came (below_drew (Below.refl _ _)))
                  obtain ⟨c4, _, _⟩ := hK9.out.cells W8.drew (Below.refl _ _)
                  have hel := Kd.R_celln (0 : Int) hK9.out.hA (i : Int) (by omega) (by have := hi.out; omega)
                  rw [hrd.out] at hel
                  obtain ⟨he1, he2⟩ := hel
                  simp only [Int.toNat_natCast] at he1 he2
                  obtain ⟨cellsA, hcA⟩ := Kd.R_row hK9.out.hA ba rfl
                  have hbB : Aside0 (B16 ≠ ba) := ⟨blk_ne (show W8.drew.heap[B16]? = _ from hx8.out) hcA (by decide)⟩
                  clear x0 x1 x2 x3 x4 x5 x6 o0 o1 o2 o3 o4 o5 o6 hcA
                  refine region_by (fun b us W_ => StC W8.drew (W8.drew.setCell ⟨ba, i, none⟩ (.int .u64 (z2 : Int))) 11 [3, 6] b us W_) (by kernel_rfl) (by kernel_rfl) ⟨fun _ => undef, StC.start _ _ _ _ _⟩ ?_
                  iterate 3 (refine rb_want (fun us => rfl) ?_; apply Exists.intro; apply And.intro; (focus (apply rb_pure; (focus (intro b us w h; exact h.off (by decide))); intro b us W_ hC; go_simp; rfl)); apply Exists.intro; apply And.intro; (focus (intro us; simp only [Act.put, List.setIfInBounds_toArray, List.set_cons_zero, List.set_cons_succ]; rfl)))
                  (refine rb_want (fun us => rfl) ?_; apply Exists.intro; apply And.intro; (focus (apply rb_read; (focus (intro b us w h; exact h.off (by decide))); intro b us W_ hb hon hC; have e := hC.read (j := 3) (by decide) hb; subst e; first | (go_simp; done) | (go_simp; rfl))); apply Exists.intro; apply And.intro; (focus (intro us; simp only [Act.put, List.setIfInBounds_toArray, List.set_cons_zero, List.set_cons_succ]; rfl)))
                  iterate 2 (refine rb_want (fun us => rfl) ?_; apply Exists.intro; apply And.intro; (focus (apply rb_pure; (focus (intro b us w h; exact h.off (by decide))); intro b us W_ hC; go_simp; rfl)); apply Exists.intro; apply And.intro; (focus (intro us; simp only [Act.put, List.setIfInBounds_toArray, List.set_cons_zero, List.set_cons_succ]; rfl)))
                  (refine rb_want (fun us => rfl) ?_; apply Exists.intro; apply And.intro; (focus (apply rb_read; (focus (intro b us w h; exact h.off (by decide))); intro b us W_ hb hon hC; have e := hC.read (j := 6) (by decide) hb; subst e; first | (go_simp; done) | (go_simp; rfl))); apply Exists.intro; apply And.intro; (focus (intro us; simp only [Act.put, List.setIfInBounds_toArray, List.set_cons_zero, List.set_cons_succ]; rfl)))
                  (refine rb_want (fun us => rfl) ?_; apply Exists.intro; apply And.intro; (focus (apply rb_pure; (focus (intro b us w h; exact h.off (by decide))); intro b us W_ hC; go_simp; rfl)); apply Exists.intro; apply And.intro; (focus (intro us; simp only [Act.put, List.setIfInBounds_toArray, List.set_cons_zero, List.set_cons_succ]; rfl)))
                  (refine rb_want (fun us => rfl) ?_; apply Exists.intro; apply And.intro; (focus (apply rb_pure; (focus (intro b us w h; exact h.off (by decide))); intro b us W_ hC; have y1 := hsh2.out; have y2 := hk64a.out; go_simp; rfl)); apply Exists.intro; apply And.intro; (focus (intro us; simp only [Act.put, List.setIfInBounds_toArray, List.set_cons_zero, List.set_cons_succ]; rfl)))
                  (refine rb_want (fun us => rfl) ?_; apply Exists.intro; apply And.intro; (focus (apply rb_pure; (focus (intro b us w h; exact h.off (by decide))); intro b us W_ hC; have y1 := hor4.out; go_simp; rfl)); apply Exists.intro; apply And.intro; (focus (intro us; simp only [Act.put, List.setIfInBounds_toArray, List.set_cons_zero, List.set_cons_succ]; rfl)))
                  (refine rb_want (fun us => rfl) ?_; apply Exists.intro; apply And.intro; (focus (apply rb_pure; (focus (intro b us w h; exact h.off (by decide))); intro b us W_ hC; go_simp; rfl)); apply Exists.intro; apply And.intro; (focus (intro us; simp only [Act.put, List.setIfInBounds_toArray, List.set_cons_zero, List.set_cons_succ]; rfl)))
                  (refine rb_want (fun us => rfl) ⟨undef, rb_store (fun b us W_ hb hon hC => ?_), ?_⟩; (focus (have e := hC.at hb; subst e; refine ⟨W8.drew.setCell ⟨ba, i, none⟩ (.int .u64 (z2 : Int)), ?_, hC.put (fun j hj => by simp at hj; rcases hj with rfl | rfl; exact hon 3 (by decide) (by decide); exact hon 6 (by decide) (by decide))⟩; first | (go_simp; done) | (go_simp; rfl))); apply Exists.intro; apply And.intro; (focus (intro us; simp only [Act.put, List.setIfInBounds_toArray, List.set_cons_zero, List.set_cons_succ]; rfl)))
                  refine rb_done (fun b us W_ hall hC => ?_)
                  have hW_ := hC.done (hall 11 (by decide))
                  subst hW_
                  clear hC hall
                  clear us b
                  have hK10 := Aside0.mk (hK9.out.putA i (z2 : Int))
                  rw [hset.out] at hK10
                  go_wp2
                  go_roundg j2
                  case measure => omega
                  case rel => exact ⟨k + 1, by simp, ⟨by have := hkk.out; omega⟩, ⟨hK10.out.hB⟩, hK10, ⟨(Below.heap_setCell _ _ _ _ hbB.out).trans hx8.out⟩⟩
          | false =>
            go_wp2
            refine vm_gen _ (fun W_ => LinB w W_ ⟨L, fuel, budget, ops⟩ g gm bm vM u4 u7 z (alZ ops i 0) ∧ W_.heap[wr.heap.size]? = some (opO px)) ⟨by rw [hno.out hdn]; exact hB.out.came (below_alloc (Below.refl _ _) _), by rw [← hdn]; exact blk_new _ _⟩ ?_
            rintro W6 ⟨hN6, hx6⟩
            replace hN6 := Aside0.mk hN6
            replace hx6 := Aside0.mk hx6
            obtain ⟨B16, hB16⟩ : ∃ x, x = wr.heap.size := ⟨_, rfl⟩
            rw [← hB16] at hx6 ⊢
            clear hB16 o0 o1 o2 o3 o4 o5 o6 hB hsh hor2 hno hdn
            go_loopg [90] ops.length (fun kk v90 W_ => ∃ (k : Nat), v90 = .int .i64 k ∧ Aside0 (kk + k = ops.length) ∧ Aside0 (Below w.heap.size w W_) ∧ Aside0 (LinB w W_ ⟨L, fuel, budget, ops⟩ g gm bm vM u4 u7 z (alZ ops i k)) ∧ Aside0 (W_.heap[B16]? = some (opO px)))
            case atStart => exact ⟨0, rfl, ⟨by omega⟩, ⟨hN6.out.hB⟩, hN6, hx6⟩
            case round =>
              obtain ⟨k, rfl, hkk, hBk, hK, hxk⟩ := hrel
              cases gk with
              | zero =>
                obtain rfl : k = ops.length := by have := hkk.out; omega
                have hlt2 : decide ((ops.length : Int) < (ops.length : Int)) = false := decide_eq_false (by omega)
                go_wp2
                go_roundg j
                case measure => omega
                case rel => exact ⟨i + 1, by simp, ⟨by have := hki.out; omega⟩, hBk, ⟨by have y := hK.out; rw [alZ_next, hz.out] at y; exact y⟩⟩
              | succ j2 =>
                have hk9 : Aside0 (k < ops.length) := ⟨by have := hkk.out; omega⟩
                have hlt3 : decide ((k : Int) < (ops.length : Int)) = true := decide_eq_true (by have := hk9.out; omega)
                have hlt4 : k < ops.length := hk9.out
                have hk0 : decide (0 ≤ (k : Int)) = true := decide_eq_true (by omega)
                have hk64 : (k : Int) ≤ 64 := by have := hn64.out; omega
                obtain ⟨ad_, e9, hop7⟩ := op_cells7 (Kd.C_below hC3.out hBk.out) (k : Int) (by omega) (by omega)
                cases e9
                obtain ⟨py, hpy⟩ : ∃ x, x = rd_T65 ops (k : Int) := ⟨_, rfl⟩
                rw [← hpy] at hop7
                obtain ⟨o0, o1, o2, o3, o4, o5, o6⟩ := hop7 wr (Below.refl _ _)
                simp only [Int.toNat_natCast] at o0 o1 o2 o3 o4 o5 o6
                have hxc : ∀ X : Obj, (wr.alloc X).cell? ⟨B16, 0, none⟩ = some (.int .i64 px.f0) ∧ (wr.alloc X).cell? ⟨B16, 1, none⟩ = some (.int .i64 px.f1) ∧ (wr.alloc X).cell? ⟨B16, 2, none⟩ = some (.int .i64 px.f2) ∧ (wr.alloc X).cell? ⟨B16, 3, none⟩ = some (.bool px.f3) ∧ (wr.alloc X).cell? ⟨B16, 4, none⟩ = some (.int .i64 px.f4) ∧ (wr.alloc X).cell? ⟨B16, 5, none⟩ = some (.int .i64 px.f5) ∧ (wr.alloc X).cell? ⟨B16, 6, none⟩ = some (.int .i64 px.f6) := fun X => by
                  have h2 := blk_alloc hxk.out X
                  exact ⟨blk_cell h2 0, blk_cell h2 1, blk_cell h2 2, blk_cell h2 3, blk_cell h2 4, blk_cell h2 5, blk_cell h2 6⟩
                have x0 := fun X => (hxc X).1
                have x1 := fun X => (hxc X).2.1
                have x2 := fun X => (hxc X).2.2.1
                have x3 := fun X => (hxc X).2.2.2.1
                have x4 := fun X => (hxc X).2.2.2.2.1
                have x5 := fun X => (hxc X).2.2.2.2.2.1
                have x6 := fun X => (hxc X).2.2.2.2.2.2
                have hbe : Aside0 (befZ py px = befZ (rd_T65 ops (k : Int)) (rd_T65 ops (i : Int))) := ⟨by rw [hpy, hpx.out]⟩
                replace hpy := Aside0.mk hpy
                clear hop7 hxc
                cases hbz : befZ py px with
                | false =>
                  have hkeep : Aside0 (alZ ops i (k + 1) = alZ ops i k) := ⟨alZ_keep ops i k (by rw [← hbe.out]; exact hbz)⟩
                  replace hbz : Aside0 (hist_Before.f py.f0 py.f1 py.f2 py.f3 py.f4 py.f5 py.f6 px.f0 px.f1 px.f2 px.f3 px.f4 px.f5 px.f6 = some false) := ⟨by rw [← hbz]; exact hist_bef py px⟩
                  go_wp2_with (first | (go_at_call 38; (with_reducible refine (hist_Before.calls py.f0 py.f1 py.f2 py.f3 py.f4 py.f5 py.f6 px.f0 px.f1 px.f2 px.f3 px.f4 px.f5 px.f6 false _ hbz.out).mono ?_); rintro e W8 ⟨rfl, hB8⟩; replace hB8 := Aside0.mk hB8))
                  go_roundg j2
                  case measure => omega
                  case rel => exact ⟨k + 1, by simp, ⟨by have := hkk.out; omega⟩, ⟨below_step (below_step hBk.out (below_alloc (Below.refl _ _) _)) hB8.out⟩, ⟨by rw [hkeep.out]; exact (hK.out.came (below_alloc (Below.refl _ _) _)).came hB8.out⟩, ⟨blk_below (blk_alloc hxk.out _) hB8.out⟩⟩
                | true =>
                  obtain ⟨ba, cA, e9, _, _, _⟩ := Kd.R_form hK.out.hA (by rw [alZ_len]; omega)
                  rw [alZ_len] at e9
                  subst e9
                  obtain ⟨mk, hmk⟩ : ∃ z : Nat, z = maskZ (fun k => befZ (rd_T65 ops (k : Int)) (rd_T65 ops (i : Int))) k := ⟨_, rfl⟩
                  obtain ⟨z2, hz2⟩ : ∃ z : Nat, z = maskZ (fun k => befZ (rd_T65 ops (k : Int)) (rd_T65 ops (i : Int))) (k + 1) := ⟨_, rfl⟩
                  obtain ⟨t2, ht2⟩ : ∃ t : Nat, t = 2 ^ k := ⟨_, rfl⟩
                  have hk63 : k < 64 := Nat.lt_of_lt_of_le hk9.out hn64.out
                  have hsh2 : Aside0 (IntKind.u64.wrap (2 ^ k) = (t2 : Int)) := ⟨by rw [ht2]; exact u_pow k hk63⟩
                  have hor4 : Aside0 (bits .or .u64 (mk : Int) (t2 : Int) = (z2 : Int)) := ⟨by rw [ht2, hz2, hmk, maskZ, if_pos (by rw [← hbe.out]; exact hbz)]; exact u_or _ _ (mask_lt64 _ (Nat.le_of_lt hk63)) (Nat.pow_lt_pow_right (by decide) hk63)⟩
                  have hset : Aside0 ((alZ ops i k).set i (z2 : Int) = alZ ops i (k + 1)) := ⟨alZ_set ops i k _ (by rw [hz2])⟩
                  have hrd : Aside0 (rdOf 0 (alZ ops i k) (i : Int) = (mk : Int)) := ⟨by rw [hmk]; exact alZ_rd ops i k hi.out⟩
                  replace hmk := Aside0.mk hmk
                  replace hz2 := Aside0.mk hz2
                  have hk64a := Aside0.mk hk64
                  clear ht2
                  replace hbz : Aside0 (hist_Before.f py.f0 py.f1 py.f2 py.f3 py.f4 py.f5 py.f6 px.f0 px.f1 px.f2 px.f3 px.f4 px.f5 px.f6 = some true) := ⟨by rw [← hbz]; exact hist_bef py px⟩
                  go_wp2_with (first | (go_at_call 38; (with_reducible refine (hist_Before.calls py.f0 py.f1 py.f2 py.f3 py.f4 py.f5 py.f6 px.f0 px.f1 px.f2 px.f3 px.f4 px.f5 px.f6 true _ hbz.out).mono ?_); rintro e W8 ⟨rfl, hB8⟩; replace hB8 := Aside0.mk hB8))
                  have hK8 := Aside0.mk ((hK.out.came (below_alloc (Below.refl _ _) _)).came hB8.out)
                  have hx8 := Aside0.mk (blk_below (blk_alloc hxk.out _) hB8.out)
                  have hK9 := Aside0.mk (hK8.out.came (below_drew (Below.refl _ _)))
                  obtain ⟨c4, _, _⟩ := hK9.out.cells W8.drew (Below.refl _ _)
                  have hel := Kd.R_celln (0 : Int) hK9.out.hA (i : Int) (by omega) (by have := hi.out; omega)
                  rw [hrd.out] at hel
                  obtain ⟨he1, he2⟩ := hel
                  simp only [Int.toNat_natCast] at he1 he2
                  obtain ⟨cellsA, hcA⟩ := Kd.R_row hK9.out.hA ba rfl
                  have hbB : Aside0 (B16 ≠ ba) := ⟨blk_ne (show W8.drew.heap[B16]? = _ from hx8.out) hcA (by decide)⟩
                  clear x0 x1 x2 x3 x4 x5 x6 o0 o1 o2 o3 o4 o5 o6 hcA
                  refine region_by (fun b us W_ => StC W8.drew (W8.drew.setCell ⟨ba, i, none⟩ (.int .u64 (z2 : Int))) 11 [3, 6] b us W_) (by kernel_rfl) (by kernel_rfl) ⟨fun _ => undef, StC.start _ _ _ _ _⟩ ?_
                  iterate 3 (refine rb_want (fun us => rfl) ?_; apply Exists.intro; apply And.intro; (focus (apply rb_pure; (focus (intro b us w h; exact h.off (by decide))); intro b us W_ hC; go_simp; rfl)); apply Exists.intro; apply And.intro; (focus (intro us; simp only [Act.put, List.setIfInBounds_toArray, List.set_cons_zero, List.set_cons_succ]; rfl)))
                  (refine rb_want (fun us => rfl) ?_; apply Exists.intro; apply And.intro; (focus (apply rb_read; (focus (intro b us w h; exact h.off (by decide))); intro b us W_ hb hon hC; have e := hC.read (j := 3) (by decide) hb; subst e; first | (go_simp; done) | (go_simp; rfl))); apply Exists.intro; apply And.intro; (focus (intro us; simp only [Act.put, List.setIfInBounds_toArray, List.set_cons_zero, List.set_cons_succ]; rfl)))
                  iterate 2 (refine rb_want (fun us => rfl) ?_; apply Exists.intro; apply And.intro; (focus (apply rb_pure; (focus (intro b us w h; exact h.off (by decide))); intro b us W_ hC; go_simp; rfl)); apply Exists.intro; apply And.intro; (focus (intro us; simp only [Act.put, List.setIfInBounds_toArray, List.set_cons_zero, List.set_cons_succ]; rfl)))
                  (refine rb_want (fun us => rfl) ?_; apply Exists.intro; apply And.intro; (focus (apply rb_read; (focus (intro b us w h; exact h.off (by decide))); intro b us W_ hb hon hC; have e := hC.read (j := 6) (by decide) hb; subst e; first | (go_simp; done) | (go_simp; rfl))); apply Exists.intro; apply And.intro; (focus (intro us; simp only [Act.put, List.setIfInBounds_toArray, List.set_cons_zero, List.set_cons_succ]; rfl)))
                  (refine rb_want (fun us => rfl) ?_; apply Exists.intro; apply And.intro; (focus (apply rb_pure; (focus (intro b us w h; exact h.off (by decide))); intro b us W_ hC; go_simp; rfl)); apply Exists.intro; apply And.intro; (focus (intro us; simp only [Act.put, List.setIfInBounds_toArray, List.set_cons_zero, List.set_cons_succ]; rfl)))
                  (refine rb_want (fun us => rfl) ?_; apply Exists.intro; apply And.intro; (focus (apply rb_pure; (focus (intro b us w h; exact h.off (by decide))); intro b us W_ hC; have y1 := hsh2.out; have y2 := hk64a.out; go_simp; rfl)); apply Exists.intro; apply And.intro; (focus (intro us; simp only [Act.put, List.setIfInBounds_toArray, List.set_cons_zero, List.set_cons_succ]; rfl)))
                  (refine rb_want (fun us => rfl) ?_; apply Exists.intro; apply And.intro; (focus (apply rb_pure; (focus (intro b us w h; exact h.off (by decide))); intro b us W_ hC; have y1 := hor4.out; go_simp; rfl)); apply Exists.intro; apply And.intro; (focus (intro us; simp only [Act.put, List.setIfInBounds_toArray, List.set_cons_zero, List.set_cons_succ]; rfl)))
                  (refine rb_want (fun us => rfl) ?_; apply Exists.intro; apply And.intro; (focus (apply rb_pure; (focus (intro b us w h; exact h.off (by decide))); intro b us W_ hC; go_simp; rfl)); apply Exists.intro; apply And.intro; (focus (intro us; simp only [Act.put, List.setIfInBounds_toArray, List.set_cons_zero, List.set_cons_succ]; rfl)))
                  (refine rb_want (fun us => rfl) ⟨undef, rb_store (fun b us W_ hb hon hC => ?_), ?_⟩; (focus (have e := hC.at hb; subst e; refine ⟨W8.drew.setCell ⟨ba, i, none⟩ (.int .u64 (z2 : Int)), ?_, hC.put (fun j hj => by simp at hj; rcases hj with rfl | rfl; exact hon 3 (by decide) (by decide); exact hon 6 (by decide) (by decide))⟩; first | (go_simp; done) | (go_simp; rfl))); apply Exists.intro; apply And.intro; (focus (intro us; simp only [Act.put, List.setIfInBounds_toArray, List.set_cons_zero, List.set_cons_succ]; rfl)))
                  refine rb_done (fun b us W_ hall hC => ?_)
                  have hW_ := hC.done (hall 11 (by decide))
                  subst hW_
                  clear hC hall
                  clear us b
                  have hK10 := Aside0.mk (hK9.out.putA i (z2 : Int))
                  rw [hset.out] at hK10
                  go_wp2
                  go_roundg j2
                  case measure => omega
                  case rel => exact ⟨k + 1, by simp, ⟨by have := hkk.out; omega⟩, ⟨hK10.out.hB⟩, hK10, ⟨(Below.heap_setCell _ _ _ _ hbB.out).trans hx8.out⟩⟩
        | zero =>
          obtain rfl : i = ops.length := by have := hki.out; omega
          have hlt : decide ((ops.length : Int) < (ops.length : Int)) = false := decide_eq_false (by omega)
          have hN : Aside0 (LinM w wr ⟨L, fuel, budget, ops⟩ g gm bm vM u4 u7 (.slice none 0 0) (.slice none 0 0) ⟨[((0, [0, 0, 0, 0]) : Ps)], [], [], 0, false, 0⟩) := ⟨by
            have y := hB.out
            rw [alZ_all] at y
            exact LinB.done y⟩
          have hfb1 : Aside0 (fuel ≤ 9223372036854775807) := ⟨by have := hfb.out; omega⟩
          have hWb : Aside0 (LinW ⟨L, fuel, budget, ops⟩ (begZ ⟨L, fuel, budget, ops⟩)) := ⟨LinW.beg hn64.out hfb.out.2.2.1 hfb.out.2.2.2⟩
          clear hB
          go_wp2_with (first | (go_at_call 66; (with_reducible refine (lin_enter0 (hN.out.came (by repeat (first | exact Below.refl _ _ | apply pw_below_drewN))) hn64.out).mono ?_); rintro e W9 ⟨rfl, vL9, hM9⟩; have hM9b : Aside0 (LinT w W9 ⟨L, fuel, budget, ops⟩ g (begZ ⟨L, fuel, budget, ops⟩)) := ⟨_, _, _, _, _, _, _, hM9⟩; clear hM9) | (go_at_call 42; (with_reducible refine (lin_Go hM9b.out hWb.out ht.out hfb1.out 0 (by decide) (by decide)).mono ?_); rintro e W10 ⟨rfl, hM10⟩; replace hM10 := Aside0.mk hM10))
          go_ret2
          exact ⟨g, rfl, hM10.out⟩
end Go.Proofs.Ytddkoimaghcbeaa.PVmSteps
