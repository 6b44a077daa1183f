/- A part of what the law LinTells stands on, only as far as it is needed (the words and walks were printed or written in this seat; this text was cut by a program of this session, wip/bin/trim.py). No condition beyond what each theorem says. -/
import Derived.StillTailTactics
import Derived.RegionTactic
import Derived.Deep.RegionHeld3
import Derived.Test.YtddkoimaghcbeaaZLTPVmStepsx0
import Derived.Test.YtddkoimaghcbeaaZLTPVmStepsx2
import Derived.Test.YtddkoimaghcbeaaZLTPVmStepsx3
import Derived.Test.YtddkoimaghcbeaaZLTPVmStepsx4
import Derived.Test.YtddkoimaghcbeaaZLTPVmStepsx5
import Derived.Test.YtddkoimaghcbeaaZLTPVmStepsx6
import Derived.Test.YtddkoimaghcbeaaZLTTmpvmf
namespace Go.Proofs.Ytddkoimaghcbeaa.PVmSteps
open Go.RowKit Go.Proofs.YtddkoimaghcbeaaW.PrintWords Go.Proofs.YtddkoimaghcbeaaW.PrintLast Go.Proofs.YtddkoimaghcbeaaW.PrintMore
set_option linter.unusedVariables false
set_option linter.unusedSimpArgs false
/-- The run: L the code, c0 the state that came in; f: the fuel that is left, u: what is used. -/
def vgo (L : List S36) (kind arg : Int) (c0 : List Int) : Nat → Int → VR → Option (Int × List Int × Int × Int)
  | f, u, r => if r.en = 0 then
      (match f with
       | 0 => some (3, c0, 0, u)
       | f + 1 => if 0 ≤ r.at_ ∧ r.at_ < (L.length : Int) ∧ r.st.length ≤ 900 ∧ 0 ≤ (rd_T36 L r.at_).f0 ∧ (rd_T36 L r.at_).f0 ≤ 19 then
           (match vdo (rd_T36 L r.at_).f0 (rd_T36 L r.at_).f1 kind arg r with
            | none => none
            | some none => some (2, c0, 0, u + 1)
            | some (some r') => vgo L kind arg c0 f (u + 1) r')
         else none)
    else if r.en = 2 then some (2, c0, 0, u) else some (1, r.cs, r.rt, u)
/-- A step: kind, state, answer, fuel used. -/
def vstep (L : List S36) (c0 : List Int) (kind arg fuel : Int) : Option (Int × List Int × Int × Int) := vgo L kind arg c0 fuel.toNat 0 ⟨c0, [], 0, 0, 0⟩
theorem vm_out7 {W : World} {b T : Nat} {z0 z1 z2 z3 z4 z5 z6 v0 v1 v2 v3 v4 v5 v6 : Value} (h : W.heap[b]? = some (.cells #[z0, z1, z2, z3, z4, z5, z6] T (0, 0))) :
    (((((((W.setCell ⟨b, 0, none⟩ v0).setCell ⟨b, 1, none⟩ v1).setCell ⟨b, 2, none⟩ v2).setCell ⟨b, 3, none⟩ v3).setCell ⟨b, 4, none⟩ v4).setCell ⟨b, 5, none⟩ v5).setCell ⟨b, 6, none⟩ v6).heap[b]? = some (.cells #[v0, v1, v2, v3, v4, v5, v6] T (0, 0)) := by
  have h7 := blk_set (blk_set (blk_set (blk_set (blk_set (blk_set (blk_set h 0 v0) 1 v1) 2 v2) 3 v3) 4 v4) 5 v5) 6 v6
  simpa using h7
theorem vm_bel7 {w W : World} {b : Nat} {v0 v1 v2 v3 v4 v5 v6 : Value} (h : Below w.heap.size w W) (hb : w.heap.size ≤ b) :
    Below w.heap.size w (((((((W.setCell ⟨b, 0, none⟩ v0).setCell ⟨b, 1, none⟩ v1).setCell ⟨b, 2, none⟩ v2).setCell ⟨b, 3, none⟩ v3).setCell ⟨b, 4, none⟩ v4).setCell ⟨b, 5, none⟩ v5).setCell ⟨b, 6, none⟩ v6) :=
  below_set (below_set (below_set (below_set (below_set (below_set (below_set h hb) hb) hb) hb) hb) hb) hb
theorem vgo_0 {L : List S36} {kind arg : Int} {c0 : List Int} {u : Int} {r : VR} (h : r.en = 0) : vgo L kind arg c0 0 u r = some (3, c0, 0, u) := by unfold vgo; rw [if_pos h]
theorem vgo_2 {L : List S36} {kind arg : Int} {c0 : List Int} {f : Nat} {u : Int} {r : VR} (h : r.en = 2) : vgo L kind arg c0 f u r = some (2, c0, 0, u) := by unfold vgo; rw [if_neg (by omega), if_pos h]
theorem vgo_1 {L : List S36} {kind arg : Int} {c0 : List Int} {f : Nat} {u : Int} {r : VR} (h : ¬ r.en = 0) (h2 : ¬ r.en = 2) : vgo L kind arg c0 f u r = some (1, r.cs, r.rt, u) := by unfold vgo; rw [if_neg h, if_neg h2]
theorem vgo_s {L : List S36} {kind arg : Int} {c0 : List Int} {f : Nat} {u : Int} {r : VR} {x : Int × List Int × Int × Int} (h : r.en = 0) (hv : vgo L kind arg c0 (f + 1) u r = some x) :
    (0 ≤ r.at_ ∧ r.at_ < (L.length : Int) ∧ r.st.length ≤ 900 ∧ 0 ≤ (rd_T36 L r.at_).f0 ∧ (rd_T36 L r.at_).f0 ≤ 19) ∧ vdo (rd_T36 L r.at_).f0 (rd_T36 L r.at_).f1 kind arg r ≠ none ∧
    ∀ r', vsub (rd_T36 L r.at_).f0 (rd_T36 L r.at_).f1 kind arg r r' → vgo L kind arg c0 f (u + 1) r' = some x := by
  unfold vgo at hv
  rw [if_pos h] at hv
  dsimp only at hv
  by_cases hg : 0 ≤ r.at_ ∧ r.at_ < (L.length : Int) ∧ r.st.length ≤ 900 ∧ 0 ≤ (rd_T36 L r.at_).f0 ∧ (rd_T36 L r.at_).f0 ≤ 19
  · rw [if_pos hg] at hv
    refine ⟨hg, ?_, ?_⟩
    · intro e; rw [e] at hv; cases hv
    · rintro r' (e | ⟨e, e2⟩)
      · rw [e] at hv; exact hv
      · rw [e] at hv; rw [vgo_2 e2]; exact hv
  · rw [if_neg hg] at hv; cases hv
theorem vm_row0 {W : World} {base b : Nat} {P : Nat → Prop} (hb : base ≤ b) (hk : W.heap[b]? = some (.cells #[.int .i64 0, .int .i64 0, .int .i64 0, .int .i64 0, .int .i64 0, .int .i64 0, .int .i64 0, .int .i64 0, .int .i64 0] 2)) (hP : P b) : (Kd.int .i64).R 2 W base P (.slice (some ⟨b, 0, none⟩) 0 9) [] :=
  ⟨fun k hk => by simp [Value.ownBlock] at hk; subst hk; exact hP, [], ⟨rfl, .inr ⟨b, 9, _, rfl, hb, hk, by decide, by decide, by decide, by simp⟩⟩, Reps.none _ _⟩
theorem vmA_start (w : World) (cs : List Int) (h4 : cs.length = 4) : VrB w (((((w.alloc (.cells #[.int .i64 (rdOf 0 cs 0), .int .i64 (rdOf 0 cs 1), .int .i64 (rdOf 0 cs 2), .int .i64 (rdOf 0 cs 3)] 24)).alloc (.cells #[.int .i64 0, .int .i64 0, .int .i64 0, .int .i64 0, .int .i64 0, .int .i64 0, .int .i64 0] 38)).alloc (.cells #[.int .i64 0, .int .i64 0, .int .i64 0, .int .i64 0, .int .i64 0, .int .i64 0, .int .i64 0, .int .i64 0, .int .i64 0] 2)).alloc (.cells #[.int .i64 (rdOf 0 cs 0), .int .i64 (rdOf 0 cs 1), .int .i64 (rdOf 0 cs 2), .int .i64 (rdOf 0 cs 3), .slice (some ⟨w.heap.size + 1 + 1, 0, none⟩) 0 9, .int .i64 0, .int .i64 0, .int .i64 0] 101)).drew) [(w.heap.size, (.cells #[.int .i64 (rdOf 0 cs 0), .int .i64 (rdOf 0 cs 1), .int .i64 (rdOf 0 cs 2), .int .i64 (rdOf 0 cs 3)] 24)), (w.heap.size + 1, (.cells #[.int .i64 0, .int .i64 0, .int .i64 0, .int .i64 0, .int .i64 0, .int .i64 0, .int .i64 0] 38))] (w.heap.size + 1 + 1 + 1) ⟨cs, [], 0, 0, 0⟩ := by
  have z1 : (w.alloc (.cells #[.int .i64 (rdOf 0 cs 0), .int .i64 (rdOf 0 cs 1), .int .i64 (rdOf 0 cs 2), .int .i64 (rdOf 0 cs 3)] 24)).heap.size = w.heap.size + 1 := by simp
  have z2 : ((w.alloc (.cells #[.int .i64 (rdOf 0 cs 0), .int .i64 (rdOf 0 cs 1), .int .i64 (rdOf 0 cs 2), .int .i64 (rdOf 0 cs 3)] 24)).alloc (.cells #[.int .i64 0, .int .i64 0, .int .i64 0, .int .i64 0, .int .i64 0, .int .i64 0, .int .i64 0] 38)).heap.size = w.heap.size + 1 + 1 := by simp
  have z3 : (((w.alloc (.cells #[.int .i64 (rdOf 0 cs 0), .int .i64 (rdOf 0 cs 1), .int .i64 (rdOf 0 cs 2), .int .i64 (rdOf 0 cs 3)] 24)).alloc (.cells #[.int .i64 0, .int .i64 0, .int .i64 0, .int .i64 0, .int .i64 0, .int .i64 0, .int .i64 0] 38)).alloc (.cells #[.int .i64 0, .int .i64 0, .int .i64 0, .int .i64 0, .int .i64 0, .int .i64 0, .int .i64 0, .int .i64 0, .int .i64 0] 2)).heap.size = w.heap.size + 1 + 1 + 1 := by simp
  have k0 := blk_new w (.cells #[.int .i64 (rdOf 0 cs 0), .int .i64 (rdOf 0 cs 1), .int .i64 (rdOf 0 cs 2), .int .i64 (rdOf 0 cs 3)] 24)
  have k1 := blk_new (w.alloc (.cells #[.int .i64 (rdOf 0 cs 0), .int .i64 (rdOf 0 cs 1), .int .i64 (rdOf 0 cs 2), .int .i64 (rdOf 0 cs 3)] 24)) (.cells #[.int .i64 0, .int .i64 0, .int .i64 0, .int .i64 0, .int .i64 0, .int .i64 0, .int .i64 0] 38)
  have k2 := blk_new ((w.alloc (.cells #[.int .i64 (rdOf 0 cs 0), .int .i64 (rdOf 0 cs 1), .int .i64 (rdOf 0 cs 2), .int .i64 (rdOf 0 cs 3)] 24)).alloc (.cells #[.int .i64 0, .int .i64 0, .int .i64 0, .int .i64 0, .int .i64 0, .int .i64 0, .int .i64 0] 38)) (.cells #[.int .i64 0, .int .i64 0, .int .i64 0, .int .i64 0, .int .i64 0, .int .i64 0, .int .i64 0, .int .i64 0, .int .i64 0] 2)
  have k3 := blk_new (((w.alloc (.cells #[.int .i64 (rdOf 0 cs 0), .int .i64 (rdOf 0 cs 1), .int .i64 (rdOf 0 cs 2), .int .i64 (rdOf 0 cs 3)] 24)).alloc (.cells #[.int .i64 0, .int .i64 0, .int .i64 0, .int .i64 0, .int .i64 0, .int .i64 0, .int .i64 0] 38)).alloc (.cells #[.int .i64 0, .int .i64 0, .int .i64 0, .int .i64 0, .int .i64 0, .int .i64 0, .int .i64 0, .int .i64 0, .int .i64 0] 2)) (.cells #[.int .i64 (rdOf 0 cs 0), .int .i64 (rdOf 0 cs 1), .int .i64 (rdOf 0 cs 2), .int .i64 (rdOf 0 cs 3), .slice (some ⟨w.heap.size + 1 + 1, 0, none⟩) 0 9, .int .i64 0, .int .i64 0, .int .i64 0] 101)
  rw [z1] at k1
  rw [z2] at k2
  rw [z3] at k3
  refine ⟨_, ?_, by omega, h4, blk_drew k3, vm_row0 (by omega) (blk_drew (blk_alloc k2 _)) ⟨by omega, fun q hq => ?_⟩, fun q hq => ?_⟩
  · exact below_drew (below_alloc (below_alloc (below_alloc (below_alloc (Below.refl _ _) _) _) _) _)
  · simp only [List.mem_cons, List.not_mem_nil, or_false] at hq
    rcases hq with rfl | rfl <;> (simp only; omega)
  · simp only [List.mem_cons, List.not_mem_nil, or_false] at hq
    rcases hq with rfl | rfl
    · exact ⟨blk_drew (blk_alloc (blk_alloc (blk_alloc k0 _) _) _), by simp only; omega⟩
    · exact ⟨blk_drew (blk_alloc (blk_alloc k1 _) _), by simp only; omega⟩
theorem vmB_start (w : World) (cs : List Int) (h4 : cs.length = 4) : VrB w (((((w.alloc (.cells #[.int .i64 (rdOf 0 cs 0), .int .i64 (rdOf 0 cs 1), .int .i64 (rdOf 0 cs 2), .int .i64 (rdOf 0 cs 3)] 24)).alloc (.cells #[.int .i64 0, .int .i64 0, .int .i64 0, .int .i64 0, .int .i64 0, .int .i64 0, .int .i64 0] 38)).alloc (.cells #[.int .i64 (rdOf 0 cs 0), .int .i64 (rdOf 0 cs 1), .int .i64 (rdOf 0 cs 2), .int .i64 (rdOf 0 cs 3), .slice (some ⟨w.heap.size + 1 + 1 + 1, 0, none⟩) 0 9, .int .i64 0, .int .i64 0, .int .i64 0] 101)).alloc (.cells #[.int .i64 0, .int .i64 0, .int .i64 0, .int .i64 0, .int .i64 0, .int .i64 0, .int .i64 0, .int .i64 0, .int .i64 0] 2)).drew) [(w.heap.size, (.cells #[.int .i64 (rdOf 0 cs 0), .int .i64 (rdOf 0 cs 1), .int .i64 (rdOf 0 cs 2), .int .i64 (rdOf 0 cs 3)] 24)), (w.heap.size + 1, (.cells #[.int .i64 0, .int .i64 0, .int .i64 0, .int .i64 0, .int .i64 0, .int .i64 0, .int .i64 0] 38))] (w.heap.size + 1 + 1) ⟨cs, [], 0, 0, 0⟩ := by
  have z1 : (w.alloc (.cells #[.int .i64 (rdOf 0 cs 0), .int .i64 (rdOf 0 cs 1), .int .i64 (rdOf 0 cs 2), .int .i64 (rdOf 0 cs 3)] 24)).heap.size = w.heap.size + 1 := by simp
  have z2 : ((w.alloc (.cells #[.int .i64 (rdOf 0 cs 0), .int .i64 (rdOf 0 cs 1), .int .i64 (rdOf 0 cs 2), .int .i64 (rdOf 0 cs 3)] 24)).alloc (.cells #[.int .i64 0, .int .i64 0, .int .i64 0, .int .i64 0, .int .i64 0, .int .i64 0, .int .i64 0] 38)).heap.size = w.heap.size + 1 + 1 := by simp
  have z3 : (((w.alloc (.cells #[.int .i64 (rdOf 0 cs 0), .int .i64 (rdOf 0 cs 1), .int .i64 (rdOf 0 cs 2), .int .i64 (rdOf 0 cs 3)] 24)).alloc (.cells #[.int .i64 0, .int .i64 0, .int .i64 0, .int .i64 0, .int .i64 0, .int .i64 0, .int .i64 0] 38)).alloc (.cells #[.int .i64 (rdOf 0 cs 0), .int .i64 (rdOf 0 cs 1), .int .i64 (rdOf 0 cs 2), .int .i64 (rdOf 0 cs 3), .slice (some ⟨w.heap.size + 1 + 1 + 1, 0, none⟩) 0 9, .int .i64 0, .int .i64 0, .int .i64 0] 101)).heap.size = w.heap.size + 1 + 1 + 1 := by simp
  have k0 := blk_new w (.cells #[.int .i64 (rdOf 0 cs 0), .int .i64 (rdOf 0 cs 1), .int .i64 (rdOf 0 cs 2), .int .i64 (rdOf 0 cs 3)] 24)
  have k1 := blk_new (w.alloc (.cells #[.int .i64 (rdOf 0 cs 0), .int .i64 (rdOf 0 cs 1), .int .i64 (rdOf 0 cs 2), .int .i64 (rdOf 0 cs 3)] 24)) (.cells #[.int .i64 0, .int .i64 0, .int .i64 0, .int .i64 0, .int .i64 0, .int .i64 0, .int .i64 0] 38)
  have k2 := blk_new ((w.alloc (.cells #[.int .i64 (rdOf 0 cs 0), .int .i64 (rdOf 0 cs 1), .int .i64 (rdOf 0 cs 2), .int .i64 (rdOf 0 cs 3)] 24)).alloc (.cells #[.int .i64 0, .int .i64 0, .int .i64 0, .int .i64 0, .int .i64 0, .int .i64 0, .int .i64 0] 38)) (.cells #[.int .i64 (rdOf 0 cs 0), .int .i64 (rdOf 0 cs 1), .int .i64 (rdOf 0 cs 2), .int .i64 (rdOf 0 cs 3), .slice (some ⟨w.heap.size + 1 + 1 + 1, 0, none⟩) 0 9, .int .i64 0, .int .i64 0, .int .i64 0] 101)
  have k3 := blk_new (((w.alloc (.cells #[.int .i64 (rdOf 0 cs 0), .int .i64 (rdOf 0 cs 1), .int .i64 (rdOf 0 cs 2), .int .i64 (rdOf 0 cs 3)] 24)).alloc (.cells #[.int .i64 0, .int .i64 0, .int .i64 0, .int .i64 0, .int .i64 0, .int .i64 0, .int .i64 0] 38)).alloc (.cells #[.int .i64 (rdOf 0 cs 0), .int .i64 (rdOf 0 cs 1), .int .i64 (rdOf 0 cs 2), .int .i64 (rdOf 0 cs 3), .slice (some ⟨w.heap.size + 1 + 1 + 1, 0, none⟩) 0 9, .int .i64 0, .int .i64 0, .int .i64 0] 101)) (.cells #[.int .i64 0, .int .i64 0, .int .i64 0, .int .i64 0, .int .i64 0, .int .i64 0, .int .i64 0, .int .i64 0, .int .i64 0] 2)
  rw [z1] at k1
  rw [z2] at k2
  rw [z3] at k3
  refine ⟨_, ?_, by omega, h4, blk_drew (blk_alloc k2 _), vm_row0 (by omega) (blk_drew k3) ⟨by omega, fun q hq => ?_⟩, fun q hq => ?_⟩
  · exact below_drew (below_alloc (below_alloc (below_alloc (below_alloc (Below.refl _ _) _) _) _) _)
  · simp only [List.mem_cons, List.not_mem_nil, or_false] at hq
    rcases hq with rfl | rfl <;> (simp only; omega)
  · simp only [List.mem_cons, List.not_mem_nil, or_false] at hq
    rcases hq with rfl | rfl
    · exact ⟨blk_drew (blk_alloc (blk_alloc (blk_alloc k0 _) _) _), by simp only; omega⟩
    · exact ⟨blk_drew (blk_alloc (blk_alloc k1 _) _), by simp only; omega⟩
set_option maxRecDepth 100000 in
set_option maxHeartbeats 1000000 in
theorem vm_Step {base : Nat} {w : World} {gm : Nat} {L : List S36} {v : Value} (hM : VmM base w gm L v) (cs : List Int) (h4 : cs.length = 4) (kind arg fuel : Int) (rk : Int) (rs : List Int) (rr ru : Int) (hL : 0 < L.length) (hbo : base ≤ w.heap.size)
    (hv : vstep L cs kind arg fuel = some (rk, rs, rr, ru)) (hf : fuel ≤ 9223372036854775807) :
    Calls Try.prog 26 #[.pointer (some ⟨gm, 0, none⟩), stateV cs, .int .i64 kind, .int .i64 arg, .int .i64 fuel] w fun e w' => e = .returned (stepV rk rs rr ru) ∧ Below w.heap.size w w' := by
  obtain ⟨A, c, rfl⟩ := Kd.R_slice hM.hR
  have hgl := blk_lt hM.hk
  have n1 : gm ≠ w.heap.size := Nat.ne_of_lt hgl
  have n2 : gm ≠ w.heap.size + 1 := by omega
  have m0 := blk_cell hM.hk 0
  simp only [List.getElem?_toArray, List.getElem?_cons_zero, List.getElem?_cons_succ] at m0
  have hLb : ((L.length : Int) == 0) = false := beq_eq_false_iff_ne.mpr (by omega)
  have hM' := Aside0.mk hM
  have hv' := Aside0.mk hv
  clear hM hv
  have hmk : ∀ w : World, (Instr.makeSlice 99 (.int .i64 0) (.int .i64 9)).run Try.prog w = .ok (.slice (some ⟨w.heap.size, 0, none⟩) 0 9) (w.alloc (.cells #[.int .i64 0, .int .i64 0, .int .i64 0, .int .i64 0, .int .i64 0, .int .i64 0, .int .i64 0, .int .i64 0, .int .i64 0] 2)) := by intro w; kernel_rfl
  unfold stateV
  go_enter Try.func26, Try.ntmps26
  go_wp2
  go_region
  all_goals go_wp2
  · refine vm_gen _ (fun W => VrB w W [(w.heap.size, (.cells #[.int .i64 (rdOf 0 cs 0), .int .i64 (rdOf 0 cs 1), .int .i64 (rdOf 0 cs 2), .int .i64 (rdOf 0 cs 3)] 24)), (w.heap.size + 1, (.cells #[.int .i64 0, .int .i64 0, .int .i64 0, .int .i64 0, .int .i64 0, .int .i64 0, .int .i64 0] 38))] (w.heap.size + 1 + 1 + 1) ⟨cs, [], 0, 0, 0⟩) (vmA_start w cs h4) ?_
    intro W0 hW0
    replace hW0 := Aside0.mk hW0
    go_loopg [12] fuel.toNat (fun kk v12 W => ∃ (u : Int) (r : VR), v12 = .int .i64 u ∧ Aside0 (0 ≤ u ∧ u + kk = (fuel.toNat : Int)) ∧ Aside0 (VrB w W [(w.heap.size, (.cells #[.int .i64 (rdOf 0 cs 0), .int .i64 (rdOf 0 cs 1), .int .i64 (rdOf 0 cs 2), .int .i64 (rdOf 0 cs 3)] 24)), (w.heap.size + 1, (.cells #[.int .i64 0, .int .i64 0, .int .i64 0, .int .i64 0, .int .i64 0, .int .i64 0, .int .i64 0] 38))] (w.heap.size + 1 + 1 + 1) r) ∧ Aside0 (vgo L kind arg cs kk u r = some (rk, rs, rr, ru)))
    case atStart => exact ⟨0, _, rfl, ⟨by omega⟩, hW0, hv'⟩
    case round =>
      obtain ⟨u, r, rfl, hu, hV, hgo⟩ := hrel
      obtain ⟨vS, q⟩ := hV.out
      have d0 := blk_cell q.hk 0
      have d1 := blk_cell q.hk 1
      have d2 := blk_cell q.hk 2
      have d3 := blk_cell q.hk 3
      have d5 := blk_cell q.hk 5
      have d6 := blk_cell q.hk 6
      have d7 := blk_cell q.hk 7
      have b0 := (q.kept _ List.mem_cons_self).1
      have b1 := (q.kept _ (List.mem_cons_of_mem _ List.mem_cons_self)).1
      have s0 := blk_cell b0 0
      have s1 := blk_cell b0 1
      have s2 := blk_cell b0 2
      have s3 := blk_cell b0 3
      simp only [List.getElem?_toArray, List.getElem?_cons_zero, List.getElem?_cons_succ] at d0 d1 d2 d3 d5 d6 d7 s0 s1 s2 s3
      have hbel : Aside0 (Below w.heap.size w wr) := ⟨q.hB⟩
      have t0 := blk_cell b1 0
      have y0 := blk_frozen b1 0
      have t1 := blk_cell b1 1
      have y1 := blk_frozen b1 1
      have t2 := blk_cell b1 2
      have y2 := blk_frozen b1 2
      have t3 := blk_cell b1 3
      have y3 := blk_frozen b1 3
      have t4 := blk_cell b1 4
      have y4 := blk_frozen b1 4
      have t5 := blk_cell b1 5
      have y5 := blk_frozen b1 5
      have t6 := blk_cell b1 6
      have y6 := blk_frozen b1 6
      simp only [List.getElem?_toArray, List.getElem?_cons_zero, List.getElem?_cons_succ] at t0 t1 t2 t3 t4 t5 t6
      replace b0 := Aside0.mk b0
      replace b1 := Aside0.mk b1
      clear q
      by_cases he : r.en = 0
      · rw [he] at d6
        cases gk with
        | zero =>
          have hle : decide (fuel ≤ u) = true := decide_eq_true (by have := hu.out; omega)
          have hx := hgo.out
          rw [vgo_0 he] at hx
          cases hx
          go_wp2
          refine vm_gen _ (fun W => W.heap[w.heap.size + 1]? = some (.cells #[.int .i64 3, .int .i64 (rdOf 0 cs 0), .int .i64 (rdOf 0 cs 1), .int .i64 (rdOf 0 cs 2), .int .i64 (rdOf 0 cs 3), .int .i64 0, .int .i64 ru] 38 (0, 0)) ∧ Below w.heap.size w W) ⟨vm_out7 b1.out, vm_bel7 hbel.out (Nat.le_succ _)⟩ ?_
          clear b0 b1 d0 d1 d2 d3 d5 d6 d7 s0 s1 s2 s3 t0 t1 t2 t3 t4 t5 t6 y0 y1 y2 y3 y4 y5 y6 hbel hV hgo
          rintro W9 ⟨b9, hb9⟩
          have f0 := blk_cell b9 0
          have f1 := blk_cell b9 1
          have f2 := blk_cell b9 2
          have f3 := blk_cell b9 3
          have f4 := blk_cell b9 4
          have f5 := blk_cell b9 5
          have f6 := blk_cell b9 6
          simp only [List.getElem?_toArray, List.getElem?_cons_zero, List.getElem?_cons_succ] at f0 f1 f2 f3 f4 f5 f6
          exact bodyPost_ret (v := stepV 3 cs 0 ru) (by simp [results, Try.results26, go_sem, stepV, f0, f1, f2, f3, f4, f5, f6]) rfl ⟨rfl, hb9⟩
        | succ f =>
          have hle : decide (fuel ≤ u) = false := decide_eq_false (by have := hu.out; omega)
          have p0 : 0 ≤ u := by have := hu.out; omega
          have p1 : u < 9223372036854775807 := by have := hu.out; omega
          obtain ⟨⟨g0, g1, g2, g3, g4⟩, gd, gs⟩ := vgo_s he hgo.out
          replace gs := Aside0.mk gs
          have hMr := hM'.out.came hbel.out
          obtain ⟨_, _, hC⟩ := Kd.R_reads' hMr.hR
          obtain ⟨ad, ea, x0, x1⟩ := at_T36 hC r.at_ g0 g1
          have mw := blk_cell hMr.hk 0
          simp only [List.getElem?_toArray, List.getElem?_cons_zero, List.getElem?_cons_succ] at mw
          subst ea
          clear hMr hC
          go_wp2
          go_still_tail 10, (by kernel_rfl)
          refine vm_gen _ (fun W => VrB w W [(w.heap.size, (.cells #[.int .i64 (rdOf 0 cs 0), .int .i64 (rdOf 0 cs 1), .int .i64 (rdOf 0 cs 2), .int .i64 (rdOf 0 cs 3)] 24)), (w.heap.size + 1, (.cells #[.int .i64 0, .int .i64 0, .int .i64 0, .int .i64 0, .int .i64 0, .int .i64 0, .int .i64 0] 38))] (w.heap.size + 1 + 1 + 1) r) hV.out.drew ?_
          clear b0 b1 d0 d1 d2 d3 d5 d6 d7 s0 s1 s2 s3 t0 t1 t2 t3 t4 t5 t6 y0 y1 y2 y3 y4 y5 y6 hbel hV hgo
          intro W5 hV5
          replace hV5 := Aside0.mk hV5
          replace gd := Aside0.mk gd
          go_wp2_with (go_at_call 57; (with_reducible refine (vm_does hV5.out (Nat.le_trans g2 (by decide)) ⟨g3, g4⟩ gd.out).mono ?_); rintro e W6 ⟨rfl, r6, hs6, hV6⟩; replace hV6 := Aside0.mk hV6; replace hs6 := Aside0.mk hs6)
          go_roundg f
          case measure => omega
          case rel => exact ⟨u + 1, r6, by go_num, ⟨by have := hu.out; omega⟩, hV6, ⟨gs.out r6 hs6.out⟩⟩
      · by_cases he2 : r.en = 2
        · have hx := hgo.out
          rw [vgo_2 he2] at hx
          cases hx
          rw [he2] at d6
          clear he
          go_wp2
          refine vm_gen _ (fun W => W.heap[w.heap.size + 1]? = some (.cells #[.int .i64 2, .int .i64 (rdOf 0 cs 0), .int .i64 (rdOf 0 cs 1), .int .i64 (rdOf 0 cs 2), .int .i64 (rdOf 0 cs 3), .int .i64 0, .int .i64 ru] 38 (0, 0)) ∧ Below w.heap.size w W) ⟨vm_out7 b1.out, vm_bel7 hbel.out (Nat.le_succ _)⟩ ?_
          clear b0 b1 d0 d1 d2 d3 d5 d6 d7 s0 s1 s2 s3 t0 t1 t2 t3 t4 t5 t6 y0 y1 y2 y3 y4 y5 y6 hbel hV hgo
          rintro W9 ⟨b9, hb9⟩
          have f0 := blk_cell b9 0
          have f1 := blk_cell b9 1
          have f2 := blk_cell b9 2
          have f3 := blk_cell b9 3
          have f4 := blk_cell b9 4
          have f5 := blk_cell b9 5
          have f6 := blk_cell b9 6
          simp only [List.getElem?_toArray, List.getElem?_cons_zero, List.getElem?_cons_succ] at f0 f1 f2 f3 f4 f5 f6
          exact bodyPost_ret (v := stepV 2 cs 0 ru) (by simp [results, Try.results26, go_sem, stepV, f0, f1, f2, f3, f4, f5, f6]) rfl ⟨rfl, hb9⟩
        · have hx := hgo.out
          rw [vgo_1 he he2] at hx
          cases hx
          have heb : (r.en == 0) = false := beq_eq_false_iff_ne.mpr he
          have heb2 : (r.en == 2) = false := beq_eq_false_iff_ne.mpr he2
          clear he he2
          go_wp2
          refine vm_gen _ (fun W => W.heap[w.heap.size + 1]? = some (.cells #[.int .i64 1, .int .i64 (rdOf 0 r.cs 0), .int .i64 (rdOf 0 r.cs 1), .int .i64 (rdOf 0 r.cs 2), .int .i64 (rdOf 0 r.cs 3), .int .i64 r.rt, .int .i64 ru] 38 (0, 0)) ∧ Below w.heap.size w W) ⟨vm_out7 b1.out, vm_bel7 hbel.out (Nat.le_succ _)⟩ ?_
          clear b0 b1 d0 d1 d2 d3 d5 d6 d7 s0 s1 s2 s3 t0 t1 t2 t3 t4 t5 t6 y0 y1 y2 y3 y4 y5 y6 hbel hV hgo
          rintro W9 ⟨b9, hb9⟩
          have f0 := blk_cell b9 0
          have f1 := blk_cell b9 1
          have f2 := blk_cell b9 2
          have f3 := blk_cell b9 3
          have f4 := blk_cell b9 4
          have f5 := blk_cell b9 5
          have f6 := blk_cell b9 6
          simp only [List.getElem?_toArray, List.getElem?_cons_zero, List.getElem?_cons_succ] at f0 f1 f2 f3 f4 f5 f6
          exact bodyPost_ret (v := stepV 1 r.cs r.rt ru) (by simp [results, Try.results26, go_sem, stepV, f0, f1, f2, f3, f4, f5, f6]) rfl ⟨rfl, hb9⟩
  · refine vm_gen _ (fun W => VrB w W [(w.heap.size, (.cells #[.int .i64 (rdOf 0 cs 0), .int .i64 (rdOf 0 cs 1), .int .i64 (rdOf 0 cs 2), .int .i64 (rdOf 0 cs 3)] 24)), (w.heap.size + 1, (.cells #[.int .i64 0, .int .i64 0, .int .i64 0, .int .i64 0, .int .i64 0, .int .i64 0, .int .i64 0] 38))] (w.heap.size + 1 + 1) ⟨cs, [], 0, 0, 0⟩) (vmB_start w cs h4) ?_
    intro W0 hW0
    replace hW0 := Aside0.mk hW0
    go_loopg [12] fuel.toNat (fun kk v12 W => ∃ (u : Int) (r : VR), v12 = .int .i64 u ∧ Aside0 (0 ≤ u ∧ u + kk = (fuel.toNat : Int)) ∧ Aside0 (VrB w W [(w.heap.size, (.cells #[.int .i64 (rdOf 0 cs 0), .int .i64 (rdOf 0 cs 1), .int .i64 (rdOf 0 cs 2), .int .i64 (rdOf 0 cs 3)] 24)), (w.heap.size + 1, (.cells #[.int .i64 0, .int .i64 0, .int .i64 0, .int .i64 0, .int .i64 0, .int .i64 0, .int .i64 0] 38))] (w.heap.size + 1 + 1) r) ∧ Aside0 (vgo L kind arg cs kk u r = some (rk, rs, rr, ru)))
    case atStart => exact ⟨0, _, rfl, ⟨by omega⟩, hW0, hv'⟩
    case round =>
      obtain ⟨u, r, rfl, hu, hV, hgo⟩ := hrel
      obtain ⟨vS, q⟩ := hV.out
      have d0 := blk_cell q.hk 0
      have d1 := blk_cell q.hk 1
      have d2 := blk_cell q.hk 2
      have d3 := blk_cell q.hk 3
      have d5 := blk_cell q.hk 5
      have d6 := blk_cell q.hk 6
      have d7 := blk_cell q.hk 7
      have b0 := (q.kept _ List.mem_cons_self).1
      have b1 := (q.kept _ (List.mem_cons_of_mem _ List.mem_cons_self)).1
      have s0 := blk_cell b0 0
      have s1 := blk_cell b0 1
      have s2 := blk_cell b0 2
      have s3 := blk_cell b0 3
      simp only [List.getElem?_toArray, List.getElem?_cons_zero, List.getElem?_cons_succ] at d0 d1 d2 d3 d5 d6 d7 s0 s1 s2 s3
      have hbel : Aside0 (Below w.heap.size w wr) := ⟨q.hB⟩
      have t0 := blk_cell b1 0
      have y0 := blk_frozen b1 0
      have t1 := blk_cell b1 1
      have y1 := blk_frozen b1 1
      have t2 := blk_cell b1 2
      have y2 := blk_frozen b1 2
      have t3 := blk_cell b1 3
      have y3 := blk_frozen b1 3
      have t4 := blk_cell b1 4
      have y4 := blk_frozen b1 4
      have t5 := blk_cell b1 5
      have y5 := blk_frozen b1 5
      have t6 := blk_cell b1 6
      have y6 := blk_frozen b1 6
      simp only [List.getElem?_toArray, List.getElem?_cons_zero, List.getElem?_cons_succ] at t0 t1 t2 t3 t4 t5 t6
      replace b0 := Aside0.mk b0
      replace b1 := Aside0.mk b1
      clear q
      by_cases he : r.en = 0
      · rw [he] at d6
        cases gk with
        | zero =>
          have hle : decide (fuel ≤ u) = true := decide_eq_true (by have := hu.out; omega)
          have hx := hgo.out
          rw [vgo_0 he] at hx
          cases hx
          go_wp2
          refine vm_gen _ (fun W => W.heap[w.heap.size + 1]? = some (.cells #[.int .i64 3, .int .i64 (rdOf 0 cs 0), .int .i64 (rdOf 0 cs 1), .int .i64 (rdOf 0 cs 2), .int .i64 (rdOf 0 cs 3), .int .i64 0, .int .i64 ru] 38 (0, 0)) ∧ Below w.heap.size w W) ⟨vm_out7 b1.out, vm_bel7 hbel.out (Nat.le_succ _)⟩ ?_
          clear b0 b1 d0 d1 d2 d3 d5 d6 d7 s0 s1 s2 s3 t0 t1 t2 t3 t4 t5 t6 y0 y1 y2 y3 y4 y5 y6 hbel hV hgo
          rintro W9 ⟨b9, hb9⟩
          have f0 := blk_cell b9 0
          have f1 := blk_cell b9 1
          have f2 := blk_cell b9 2
          have f3 := blk_cell b9 3
          have f4 := blk_cell b9 4
          have f5 := blk_cell b9 5
          have f6 := blk_cell b9 6
          simp only [List.getElem?_toArray, List.getElem?_cons_zero, List.getElem?_cons_succ] at f0 f1 f2 f3 f4 f5 f6
          exact bodyPost_ret (v := stepV 3 cs 0 ru) (by simp [results, Try.results26, go_sem, stepV, f0, f1, f2, f3, f4, f5, f6]) rfl ⟨rfl, hb9⟩
        | succ f =>
          have hle : decide (fuel ≤ u) = false := decide_eq_false (by have := hu.out; omega)
          have p0 : 0 ≤ u := by have := hu.out; omega
          have p1 : u < 9223372036854775807 := by have := hu.out; omega
          obtain ⟨⟨g0, g1, g2, g3, g4⟩, gd, gs⟩ := vgo_s he hgo.out
          replace gs := Aside0.mk gs
          have hMr := hM'.out.came hbel.out
          obtain ⟨_, _, hC⟩ := Kd.R_reads' hMr.hR
          obtain ⟨ad, ea, x0, x1⟩ := at_T36 hC r.at_ g0 g1
          have mw := blk_cell hMr.hk 0
          simp only [List.getElem?_toArray, List.getElem?_cons_zero, List.getElem?_cons_succ] at mw
          subst ea
          clear hMr hC
          go_wp2
          go_still_tail 10, (by kernel_rfl)
          refine vm_gen _ (fun W => VrB w W [(w.heap.size, (.cells #[.int .i64 (rdOf 0 cs 0), .int .i64 (rdOf 0 cs 1), .int .i64 (rdOf 0 cs 2), .int .i64 (rdOf 0 cs 3)] 24)), (w.heap.size + 1, (.cells #[.int .i64 0, .int .i64 0, .int .i64 0, .int .i64 0, .int .i64 0, .int .i64 0, .int .i64 0] 38))] (w.heap.size + 1 + 1) r) hV.out.drew ?_
          clear b0 b1 d0 d1 d2 d3 d5 d6 d7 s0 s1 s2 s3 t0 t1 t2 t3 t4 t5 t6 y0 y1 y2 y3 y4 y5 y6 hbel hV hgo
          intro W5 hV5
          replace hV5 := Aside0.mk hV5
          replace gd := Aside0.mk gd
          go_wp2_with (go_at_call 57; (with_reducible refine (vm_does hV5.out (Nat.le_trans g2 (by decide)) ⟨g3, g4⟩ gd.out).mono ?_); rintro e W6 ⟨rfl, r6, hs6, hV6⟩; replace hV6 := Aside0.mk hV6; replace hs6 := Aside0.mk hs6)
          go_roundg f
          case measure => omega
          case rel => exact ⟨u + 1, r6, by go_num, ⟨by have := hu.out; omega⟩, hV6, ⟨gs.out r6 hs6.out⟩⟩
      · by_cases he2 : r.en = 2
        · have hx := hgo.out
          rw [vgo_2 he2] at hx
          cases hx
          rw [he2] at d6
          clear he
          go_wp2
          refine vm_gen _ (fun W => W.heap[w.heap.size + 1]? = some (.cells #[.int .i64 2, .int .i64 (rdOf 0 cs 0), .int .i64 (rdOf 0 cs 1), .int .i64 (rdOf 0 cs 2), .int .i64 (rdOf 0 cs 3), .int .i64 0, .int .i64 ru] 38 (0, 0)) ∧ Below w.heap.size w W) ⟨vm_out7 b1.out, vm_bel7 hbel.out (Nat.le_succ _)⟩ ?_
          clear b0 b1 d0 d1 d2 d3 d5 d6 d7 s0 s1 s2 s3 t0 t1 t2 t3 t4 t5 t6 y0 y1 y2 y3 y4 y5 y6 hbel hV hgo
          rintro W9 ⟨b9, hb9⟩
          have f0 := blk_cell b9 0
          have f1 := blk_cell b9 1
          have f2 := blk_cell b9 2
          have f3 := blk_cell b9 3
          have f4 := blk_cell b9 4
          have f5 := blk_cell b9 5
          have f6 := blk_cell b9 6
          simp only [List.getElem?_toArray, List.getElem?_cons_zero, List.getElem?_cons_succ] at f0 f1 f2 f3 f4 f5 f6
          exact bodyPost_ret (v := stepV 2 cs 0 ru) (by simp [results, Try.results26, go_sem, stepV, f0, f1, f2, f3, f4, f5, f6]) rfl ⟨rfl, hb9⟩
        · have hx := hgo.out
          rw [vgo_1 he he2] at hx
          cases hx
          have heb : (r.en == 0) = false := beq_eq_false_iff_ne.mpr he
          have heb2 : (r.en == 2) = false := beq_eq_false_iff_ne.mpr he2
          clear he he2
          go_wp2
          refine vm_gen _ (fun W => W.heap[w.heap.size + 1]? = some (.cells #[.int .i64 1, .int .i64 (rdOf 0 r.cs 0), .int .i64 (rdOf 0 r.cs 1), .int .i64 (rdOf 0 r.cs 2), .int .i64 (rdOf 0 r.cs 3), .int .i64 r.rt, .int .i64 ru] 38 (0, 0)) ∧ Below w.heap.size w W) ⟨vm_out7 b1.out, vm_bel7 hbel.out (Nat.le_succ _)⟩ ?_
          clear b0 b1 d0 d1 d2 d3 d5 d6 d7 s0 s1 s2 s3 t0 t1 t2 t3 t4 t5 t6 y0 y1 y2 y3 y4 y5 y6 hbel hV hgo
          rintro W9 ⟨b9, hb9⟩
          have f0 := blk_cell b9 0
          have f1 := blk_cell b9 1
          have f2 := blk_cell b9 2
          have f3 := blk_cell b9 3
          have f4 := blk_cell b9 4
          have f5 := blk_cell b9 5
          have f6 := blk_cell b9 6
          simp only [List.getElem?_toArray, List.getElem?_cons_zero, List.getElem?_cons_succ] at f0 f1 f2 f3 f4 f5 f6
          exact bodyPost_ret (v := stepV 1 r.cs r.rt ru) (by simp [results, Try.results26, go_sem, stepV, f0, f1, f2, f3, f4, f5, f6]) rfl ⟨rfl, hb9⟩
end Go.Proofs.Ytddkoimaghcbeaa.PVmSteps
