/- A part of what the law LinTells stands on, only as far as it is needed (the words and walks were printed or written in this seat; this text was cut by a program of this session, wip/bin/trim.py). No condition beyond what each theorem says. -/
import Derived.Test.YtddkoimaghcbeaaZLTPVmStepsx0
import Derived.Test.YtddkoimaghcbeaaZLTPVmStepsx2
import Derived.Test.YtddkoimaghcbeaaZLTPVmStepsx3
import Derived.Test.YtddkoimaghcbeaaZLTPVmStepsx4
import Derived.Test.YtddkoimaghcbeaaZLTPVmStepsx5
import Derived.Test.YtddkoimaghcbeaaZLTPVmStepsx6
import Derived.Test.YtddkoimaghcbeaaZLTTmplte
import Derived.Test.YtddkoimaghcbeaaZLTTmpljb
namespace Go.Proofs.Ytddkoimaghcbeaa.PVmSteps
open Go.RowKit Go.Proofs.YtddkoimaghcbeaaW.PrintWords Go.Proofs.YtddkoimaghcbeaaW.PrintLast Go.Proofs.YtddkoimaghcbeaaW.PrintMore
set_option linter.unusedVariables false
set_option linter.unusedSimpArgs false
theorem results_c1 {P : Program} {fn : Func} {p : Tmp} {ty : TypeId} (h : fn.results = #[.cell p ty]) (tmps : Array Value) (w : World) (g : Nat) (t : TypeId) (cs : Array Value) (fr : Nat × Nat) (d : TypeDesc)
    (hp : tmps.getD p undef = .pointer (some ⟨g, 0, none⟩)) (hg : w.heap[g]? = some (.cells cs t fr))
    (hu : P.underlying ty = some d) (hd : (match d with | .struct _ | .array _ _ => true | _ => false) = true) (hi : (P.info? ty).map (·.size) = some cs.size) :
    (results fn tmps).run P w = .ok (.agg cs) w := by
  have hp' : tmps[p]?.getD undef = .pointer (some ⟨g, 0, none⟩) := by simpa using hp
  simp [results, h, hp', asAddr, run_loadVar_row w g t ty cs fr d hg hu hd hi]
theorem bl_make (W : World) (base n : Nat) (hb : base ≤ W.heap.size) (hn : n ≤ 1000) : ∃ cs, (Instr.makeSlice 123 (.int .i64 (n : Int)) (.int .i64 (n : Int))).run Try.prog W = .ok (.slice (some ⟨W.heap.size, 0, none⟩) n n) (W.alloc (.cells cs 4)) ∧
    Kd.bool.R 4 (W.alloc (.cells cs 4)) base (fun _ => True) (.slice (some ⟨W.heap.size, 0, none⟩) n n) (List.replicate n false) := by
  obtain ⟨i0, hi, hzz⟩ := Option.map_eq_some_iff.1 bool_info
  simp only [Prod.mk.injEq] at hzz
  obtain ⟨hz0, hz1, hz2⟩ := hzz
  have hr := run_make (P := Try.prog) W 123 4 i0 (.bool false) (by kernel_rfl) hi hz0 .i64 .i64 (n : Int) (n : Int) (by omega) (by omega) (by rw [hz2]; omega) (by omega)
  simp only [Int.toNat_natCast] at hr
  rw [hz1] at hr
  refine ⟨_, hr, fun _ _ => trivial, _, ?_, Kd.reps_made (R := Kd.bool.M (W.alloc (.cells (madeCells (Value.cells (.bool false)) (n * 1)) 4)) base (fun _ => True)) (z := .bool false) (size := 1) (z0 := false) rfl (by decide) rfl n⟩
  rw [List.length_replicate]
  have h2 := World.ownsRow_lit (base := base) (e := 4) (size := 1) W (madeCells (Value.cells (.bool false)) (n * 1)) n hb (by unfold maxLen; omega) (by simp [madeCells])
  exact h2
theorem bits_0 (n : Nat) : List.replicate n false = bitsZ n 0 := by
  apply List.ext_getElem (by simp [bitsZ])
  intro k h1 h2
  simp [bitsZ]
theorem sea_bld (w : World) (A0 A3 : Option Addr) (n0 c0 n3 c3 : Nat) (f b : Int) : (Instr.build 121 #[(0, .slice A0 n0 c0), (1, .int .i64 f), (2, .int .i64 b), (3, .slice A3 n3 c3)]).run Try.prog w = .ok (.agg #[.slice A0 n0 c0, .int .i64 f, .int .i64 b, .slice A3 n3 c3, .slice none 0 0, .int .i64 0, .slice none 0 0, .int .i64 0]) w := by kernel_rfl
set_option maxRecDepth 100000 in
set_option maxHeartbeats 8000000 in
theorem r18_Verdict (A0 A3 : Option Addr) (c0 c3 : Nat) (L : List S36) (fuel budget : Int) (ops : List S65) (w : World) (hC0 : Kd.C k36 w A0 L.length L) (hc0 : L.length ≤ c0) (hL : L.length ≤ 300) (hC3 : Kd.C k65 w A3 ops.length ops) (h : newE L fuel budget ops = 0) (hco : ∀ i : Int, 0 ≤ i → i < (L.length : Int) → inR (rd_T36 L i).f1) (hop : ∀ i : Int, 0 ≤ i → i < (ops.length : Int) → inR (rd_T65 ops i).f1 ∧ inR (rd_T65 ops i).f2) :
    Calls Try.prog 46 #[.slice A0 L.length c0, .int .i64 fuel, .int .i64 budget, .slice A3 ops.length c3] w fun e w' => ∃ v, e = .returned (.agg #[.int .i64 (rVer ⟨L, fuel, budget, ops⟩).1, v, .int .i64 ((rVer ⟨L, fuel, budget, ops⟩).2.2 : Int)]) ∧ Kd.R (Kd.int .i64) 3 w' w.heap.size (fun _ => True) v (rVer ⟨L, fuel, budget, ops⟩).2.1 ∧ Below w.heap.size w w' := by
  obtain ⟨hthr, ⟨hf0, hf1, hb0, hb1⟩, hn64, _⟩ := newE_0 h
  have hQ : GoQ (w.alloc (.cells #[.int .i64 0, .slice none 0 0, .int .i64 0] 75)) ⟨L, fuel, budget, ops⟩ A0 A3 c0 c3 := ⟨Kd.C_alloc hC0 _, hc0, hL, Kd.C_alloc hC3 _, hn64, hthr, by show fuel ≤ _; omega, hb1, hco, hop⟩
  have hgs := fun g => r18_goes (g := g) hQ (ops.length + 1) r0Z [] ⟨[], 0, []⟩
  obtain ⟨r9, hr9⟩ : ∃ r, r = rgo ⟨L, fuel, budget, ops⟩ (ops.length + 1) r0Z [] ⟨[], 0, []⟩ := ⟨_, rfl⟩
  unfold rVer
  dsimp only
  rw [← hr9]
  rw [← hr9] at hgs
  obtain ⟨kd, s9⟩ := r9
  dsimp only
  obtain ⟨cs, hmk, hRm⟩ := bl_make ((w.alloc (.cells #[.int .i64 0, .slice none 0 0, .int .i64 0] 75)).alloc (.cells #[.slice A0 L.length c0, .int .i64 fuel, .int .i64 budget, .slice A3 ops.length c3, .slice none 0 0, .int .i64 0, .slice none 0 0, .int .i64 0] 121)) (w.alloc (.cells #[.int .i64 0, .slice none 0 0, .int .i64 0] 75)).heap.size ops.length (below_alloc (Below.refl _ _) _).size (by omega)
  have hbld0 := pl_bld0
  have hbldS := sea_bld
  have hzw1 : (w.alloc (.cells #[.int .i64 0, .slice none 0 0, .int .i64 0] 75)).heap.size = w.heap.size + 1 := by simp only [World.alloc, Array.size_push]
  have hzw2 : ((w.alloc (.cells #[.int .i64 0, .slice none 0 0, .int .i64 0] 75)).alloc (.cells #[.slice A0 L.length c0, .int .i64 fuel, .int .i64 budget, .slice A3 ops.length c3, .slice none 0 0, .int .i64 0, .slice none 0 0, .int .i64 0] 121)).heap.size = w.heap.size + 2 := by simp only [World.alloc, Array.size_push]
  have hng : w.heap.size ≠ w.heap.size + 1 := by omega
  have hng2 : w.heap.size + 1 ≠ w.heap.size := by omega
  have hgw : w.heap.size ≤ w.heap.size + 1 := by omega
  have hgoes : Aside0 (∀ W_ : World, Below (((w.alloc (.cells #[.int .i64 0, .slice none 0 0, .int .i64 0] 75)).alloc (.cells #[.slice A0 L.length c0, .int .i64 fuel, .int .i64 budget, .slice A3 ops.length c3, .slice none 0 0, .int .i64 0, .slice none 0 0, .int .i64 0] 121)).alloc (.cells cs 4)).heap.size (((w.alloc (.cells #[.int .i64 0, .slice none 0 0, .int .i64 0] 75)).alloc (.cells #[.slice A0 L.length c0, .int .i64 fuel, .int .i64 budget, .slice A3 ops.length c3, .slice none 0 0, .int .i64 0, .slice none 0 0, .int .i64 0] 121)).alloc (.cells cs 4)) W_ → Calls Try.prog 72 #[.pointer (some ⟨w.heap.size + 1, 0, none⟩), .agg #[.slice (some ⟨w.heap.size + 2, 0, none⟩) ops.length ops.length, .int .i64 0, .int .i64 0, .int .i64 0, .int .i64 0], .slice none 0 0] W_ fun e w' => e = .returned (.int .i64 kd) ∧ GoR (w.alloc (.cells #[.int .i64 0, .slice none 0 0, .int .i64 0] 75)) W_ w' ⟨L, fuel, budget, ops⟩ (w.heap.size + 1) (.slice A0 L.length c0) (.slice A3 ops.length c3) (.slice none 0 0) (kd, s9) 0) := ⟨fun W_ hb => by
    rw [← hzw1, ← hzw2]
    have hS : SeM (w.alloc (.cells #[.int .i64 0, .slice none 0 0, .int .i64 0] 75)) W_ ⟨L, fuel, budget, ops⟩ (w.alloc (.cells #[.int .i64 0, .slice none 0 0, .int .i64 0] 75)).heap.size (.slice A0 L.length c0) (.slice A3 ops.length c3) (.slice none 0 0) (.slice none 0 0) ⟨[], 0, []⟩ := ⟨below_step (below_alloc (below_alloc (Below.refl _ _) _) _) hb, Nat.le_refl _, blk_below (blk_alloc (blk_new (w.alloc (.cells #[.int .i64 0, .slice none 0 0, .int .i64 0] 75)) _) _) hb, Kd.R_nil _ _ _ _ _, Kd.R_nil _ _ _ _ _⟩
    have hRm2 := Kd.R_below hRm hb
    rw [bits_0] at hRm2
    have y := hgs (w.alloc (.cells #[.int .i64 0, .slice none 0 0, .int .i64 0] 75)).heap.size W_ (.slice none 0 0) (.slice none 0 0) (.slice (some ⟨((w.alloc (.cells #[.int .i64 0, .slice none 0 0, .int .i64 0] 75)).alloc (.cells #[.slice A0 L.length c0, .int .i64 fuel, .int .i64 budget, .slice A3 ops.length c3, .slice none 0 0, .int .i64 0, .slice none 0 0, .int .i64 0] 121)).heap.size, 0, none⟩) ops.length ops.length) (.slice none 0 0) hS ⟨Nat.pow_pos (by decide), rfl, by intro x hx; simp only [r0Z, List.mem_cons, List.not_mem_nil, or_false, or_self] at hx; subst hx; simp [inR], hRm2, Kd.R_nil _ _ _ _ _, Nat.le_refl _⟩ ⟨Nat.le_refl _, fun x hx => (by cases hx), hb0⟩ (by show remZ ops.length 0 0 < _; rw [cnt_full]; omega)
    exact y⟩
  clear hgs hQ hRm hr9 hco hop hthr hf0 hf1 hb0 hb1 h
  rw [hzw2] at hmk
  clear hzw1 hzw2
  replace hn64 := Aside0.mk hn64
  by_cases ck : kd = 0
  · have ckb : (kd == 0) = true := by simpa using ck
    rw [if_pos ck]
    clear ck
    go_enter Try.func46, Try.ntmps46
    go_wp2_with (first | (go_at_call 72; (with_reducible refine (hgoes.out _ (by repeat (first | exact Below.refl _ _ | apply pw_below_drewN))).mono ?_); rintro e W4 ⟨rfl, hres⟩; obtain ⟨vW9, vR9, hS9, hF9⟩ := hres.ex; obtain ⟨AR, cR, rfl⟩ := Kd.R_slice hS9.hR; have k5 := blk_cell hS9.hk 5; have k6 := blk_cell hS9.hk 6; have k7 := blk_cell hS9.hk 7; have z5 := blk_frozen hS9.hk 5; simp only [List.getElem?_toArray, List.getElem?_cons_zero, List.getElem?_cons_succ] at k5 k6 k7; have hv := blk_below (blk_new w _) hS9.hB; have v0 := blk_cell hv 0; have v1 := blk_cell hv 1; have v2 := blk_cell hv 2; have u0 := blk_frozen hv 0; have u1 := blk_frozen hv 1; have u2 := blk_frozen hv 2; simp only [List.getElem?_toArray, List.getElem?_cons_zero, List.getElem?_cons_succ] at v0 v1 v2; replace hv := Aside0.mk hv; replace hS9 := Aside0.mk hS9; clear hres hF9))
    have a0 := blk_put hS9.out.hk 5 (.int .i64 2) rfl
    have b0 := blk_far (p := ⟨(w.heap.size + 1), 5, none⟩) hv.out hng (.int .i64 2)
    have b3 : ((((W4.setCell ⟨(w.heap.size + 1), 5, none⟩ (.int .i64 2)).setCell ⟨w.heap.size, 0, none⟩ (.int .i64 2)).setCell ⟨w.heap.size, 1, none⟩ (.slice AR s9.ord.length cR)).setCell ⟨w.heap.size, 2, none⟩ (.int .i64 (s9.tries : Int))).heap[w.heap.size]? = some (Obj.cells #[.int .i64 2, .slice AR s9.ord.length cR, .int .i64 (s9.tries : Int)] 75 (0, 0)) := by
      simpa using blk_set (blk_set (blk_set b0 0 (.int .i64 2)) 1 (.slice AR s9.ord.length cR)) 2 (.int .i64 (s9.tries : Int))
    refine bodyPost_ret (results_c1 Try.results46 _ _ w.heap.size _ _ _ _ rfl b3 Try.underlying75 rfl (by kernel_rfl)) rfl ?_
    have hle : w.heap.size ≤ (w.heap.size + 1) := hgw
    have r1 := Kd.R_set hS9.out.hR hS9.out.hk (by decide) 5 (.int .i64 2)
    have r2 := Kd.R_set r1 b0 (by decide) 0 (.int .i64 2)
    have r3 := Kd.R_set r2 (blk_set b0 0 (.int .i64 2)) (by decide) 1 (.slice AR s9.ord.length cR)
    have r4 := Kd.R_set r3 (blk_set (blk_set b0 0 (.int .i64 2)) 1 (.slice AR s9.ord.length cR)) (by decide) 2 (.int .i64 (s9.tries : Int))
    refine ⟨_, ?_, Kd.R_lower r4 (below_alloc (Below.refl _ _) _).size, below_set (below_set (below_set (below_set (below_step (below_alloc (Below.refl _ _) _) hS9.out.hB) hle) (Nat.le_refl _)) (Nat.le_refl _)) (Nat.le_refl _)⟩
    rfl
  · have ckb : (kd == 0) = false := by simpa using ck
    rw [if_neg ck]
    clear ck
    go_enter Try.func46, Try.ntmps46
    go_wp2_with (first | (go_at_call 72; (with_reducible refine (hgoes.out _ (by repeat (first | exact Below.refl _ _ | apply pw_below_drewN))).mono ?_); rintro e W4 ⟨rfl, hres⟩; obtain ⟨vW9, vR9, hS9, hF9⟩ := hres.ex; obtain ⟨AR, cR, rfl⟩ := Kd.R_slice hS9.hR; have k5 := blk_cell hS9.hk 5; have k6 := blk_cell hS9.hk 6; have k7 := blk_cell hS9.hk 7; have z5 := blk_frozen hS9.hk 5; simp only [List.getElem?_toArray, List.getElem?_cons_zero, List.getElem?_cons_succ] at k5 k6 k7; have hv := blk_below (blk_new w _) hS9.hB; have v0 := blk_cell hv 0; have v1 := blk_cell hv 1; have v2 := blk_cell hv 2; have u0 := blk_frozen hv 0; have u1 := blk_frozen hv 1; have u2 := blk_frozen hv 2; simp only [List.getElem?_toArray, List.getElem?_cons_zero, List.getElem?_cons_succ] at v0 v1 v2; replace hv := Aside0.mk hv; replace hS9 := Aside0.mk hS9; clear hres hF9))
    have a0 := blk_put hS9.out.hk 5 (.int .i64 kd) rfl
    have b0 := blk_far (p := ⟨(w.heap.size + 1), 5, none⟩) hv.out hng (.int .i64 kd)
    have b3 : ((((W4.setCell ⟨(w.heap.size + 1), 5, none⟩ (.int .i64 kd)).setCell ⟨w.heap.size, 0, none⟩ (.int .i64 kd)).setCell ⟨w.heap.size, 1, none⟩ (.slice AR s9.ord.length cR)).setCell ⟨w.heap.size, 2, none⟩ (.int .i64 (s9.tries : Int))).heap[w.heap.size]? = some (Obj.cells #[.int .i64 kd, .slice AR s9.ord.length cR, .int .i64 (s9.tries : Int)] 75 (0, 0)) := by
      simpa using blk_set (blk_set (blk_set b0 0 (.int .i64 kd)) 1 (.slice AR s9.ord.length cR)) 2 (.int .i64 (s9.tries : Int))
    refine bodyPost_ret (results_c1 Try.results46 _ _ w.heap.size _ _ _ _ rfl b3 Try.underlying75 rfl (by kernel_rfl)) rfl ?_
    have hle : w.heap.size ≤ (w.heap.size + 1) := hgw
    have r1 := Kd.R_set hS9.out.hR hS9.out.hk (by decide) 5 (.int .i64 kd)
    have r2 := Kd.R_set r1 b0 (by decide) 0 (.int .i64 kd)
    have r3 := Kd.R_set r2 (blk_set b0 0 (.int .i64 kd)) (by decide) 1 (.slice AR s9.ord.length cR)
    have r4 := Kd.R_set r3 (blk_set (blk_set b0 0 (.int .i64 kd)) 1 (.slice AR s9.ord.length cR)) (by decide) 2 (.int .i64 (s9.tries : Int))
    refine ⟨_, ?_, Kd.R_lower r4 (below_alloc (Below.refl _ _) _).size, below_set (below_set (below_set (below_set (below_step (below_alloc (Below.refl _ _) _) hS9.out.hB) hle) (Nat.le_refl _)) (Nat.le_refl _)) (Nat.le_refl _)⟩
    rfl
end Go.Proofs.Ytddkoimaghcbeaa.PVmSteps
