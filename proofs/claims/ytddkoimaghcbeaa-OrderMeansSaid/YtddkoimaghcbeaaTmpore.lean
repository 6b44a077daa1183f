/- A part of the proofs about layers 16 to 18 (vm, order, lin) and their references: contracts and plain lemmas that the laws stand on. No condition beyond what each theorem says. -/
import Derived.Test.YtddkoimaghcbeaaPVmStepsx1
import Derived.Test.YtddkoimaghcbeaaPVmStepsx2
import Derived.Test.YtddkoimaghcbeaaPVmStepsx3
import Derived.Test.YtddkoimaghcbeaaPVmStepsx4
import Derived.Test.YtddkoimaghcbeaaPVmStepsx5
import Derived.Test.YtddkoimaghcbeaaPVmStepsx6
import Derived.Test.YtddkoimaghcbeaaTmpord
namespace Go.Proofs.Ytddkoimaghcbeaa.PVmSteps
open Go.RowKit Go.Proofs.YtddkoimaghcbeaaW.PrintWords Go.Proofs.YtddkoimaghcbeaaW.PrintLast Go.Proofs.YtddkoimaghcbeaaW.PrintMore
set_option linter.unusedVariables false
set_option linter.unusedSimpArgs false
theorem or_info3 : (Try.prog.info? 3).map (fun i => (i.zero, i.size, i.bytes)) = some (some (.int .i64 0), 1, 8) := by kernel_rfl
/-- At most so many numbers, in memory of their own. -/
theorem ord_Ints (A : Option Addr) (c : Nat) (l : List Int) (n : Int) (w : World) (hC : Kd.C (Kd.int .i64) w A l.length l) (hc : l.length ≤ c) (h0 : 0 ≤ n) (h1 : n ≤ 1000) :
    Calls Try.prog 32 #[.slice A l.length c, .int .i64 n] w fun e w' => ∃ v, e = .returned v ∧ Kd.R (Kd.int .i64) 3 w' w.heap.size (fun _ => True) v (l.take n.toNat) ∧ Below w.heap.size w w' := by
  by_cases hn : (l.length : Int) > n
  · obtain ⟨i0, hi0, _, hsz, _⟩ := info_parts or_info3
    have hcut := cut_to (P := Try.prog) 56 3 .i64 Try.underlying56 hi0 A l.length c n h0 (by omega) hc
    obtain ⟨y, hy⟩ : ∃ y : List Int, y = l.take n.toNat := ⟨_, rfl⟩
    have hr := Kd.C_take (m := n.toNat) hC (by omega)
    have hyl : y.length = n.toNat := by rw [hy, List.length_take]; omega
    rw [← hy] at hr ⊢
    rw [← hyl] at hcut
    have hb0 : decide (n < (l.length : Int)) = true := decide_eq_true (by omega)
    replace hr := Aside0.mk hr
    have hyn := Aside0.mk (show y.length ≤ 1000 by omega)
    have q0 : 0 ≤ n := h0
    have q1 : n ≤ (l.length : Int) := by omega
    clear hC hy hn hi0 hsz hyl
    go_enter Try.func32, Try.ntmps32
    go_wp2_with (first | ((with_reducible refine gate_builtin (b := .append) (xs := #[.tmp 13, .tmp 14]) rfl ?_); at_builtin; refine Kd.R_append_rows (Kd.int .i64) (w0 := w) w.heap.size rfl (.tmp 13) (.tmp 14) 56 3 (.int .i64 0) 8 rfl Try.underlying56 or_info3 rfl (by decide) (by omega) (.slice none 0 0) ([] : List Int) y _ _ _ (fun _ => True) (fun _ => False) rfl rfl (Kd.R_nil _ _ _ _ (fun _ => True)) hr.out (fun _ _ h => h) (fun _ h => h.elim) (fun _ _ => trivial) (Below.refl _ w) (Nat.le_refl _) (by have := hyn.out; simp; omega) ?_; intro v1 w1 hR hB hg hat; rw [List.nil_append] at hR; replace hR := Aside0.mk hR; replace hB := Aside0.mk hB; clear hg hat))
    go_ret
    exact ⟨_, rfl, hR.out, hB.out⟩
  · rw [List.take_of_length_le (by omega)]
    have hb0 : decide (n < (l.length : Int)) = false := decide_eq_false (by omega)
    have hl := Aside0.mk (show l.length ≤ 1000 by omega)
    replace hC := Aside0.mk hC
    clear hn
    go_enter Try.func32, Try.ntmps32
    go_wp2_with (first | ((with_reducible refine gate_builtin (b := .append) (xs := #[.tmp 13, .tmp 14]) rfl ?_); at_builtin; refine Kd.R_append_rows (Kd.int .i64) (w0 := w) w.heap.size rfl (.tmp 13) (.tmp 14) 56 3 (.int .i64 0) 8 rfl Try.underlying56 or_info3 rfl (by decide) (by omega) (.slice none 0 0) ([] : List Int) l _ _ _ (fun _ => True) (fun _ => False) rfl rfl (Kd.R_nil _ _ _ _ (fun _ => True)) hC.out (fun _ _ h => h) (fun _ h => h.elim) (fun _ _ => trivial) (Below.refl _ w) (Nat.le_refl _) (by have := hl.out; simp; omega) ?_; intro v1 w1 hR hB hg hat; rw [List.nil_append] at hR; replace hR := Aside0.mk hR; replace hB := Aside0.mk hB; clear hg hat))
    exact bodyPost_ret (v := v1) (by simp [results, Try.results32, go_sem]) rfl ⟨_, rfl, hR.out, hB.out⟩
def getZ : List S36 := [⟨6, 0⟩, ⟨17, 4⟩, ⟨6, 0⟩, ⟨5, 0⟩, ⟨4, 0⟩, ⟨18, 0⟩]
theorem or_lit6 (w : World) (a b c d a' b' c' d' a2 b2 c2 d2 : Int) : (Instr.buildSlice 22 6 #[(0, .agg #[.int .i64 a, .int .i64 b]), (1, .agg #[.int .i64 c, .int .i64 d]), (2, .agg #[.int .i64 a', .int .i64 b']), (3, .agg #[.int .i64 c', .int .i64 d']), (4, .agg #[.int .i64 a2, .int .i64 b2]), (5, .agg #[.int .i64 c2, .int .i64 d2])]).run Try.prog w = .ok (.slice (some ⟨w.heap.size, 0, none⟩) 6 6) (w.alloc (.cells #[.int .i64 a, .int .i64 b, .int .i64 c, .int .i64 d, .int .i64 a', .int .i64 b', .int .i64 c', .int .i64 d', .int .i64 a2, .int .i64 b2, .int .i64 c2, .int .i64 d2] 36)) := by kernel_rfl
theorem ord_get (w : World) : Calls Try.prog 64 #[] w fun e w' => ∃ ad, e = .returned (.slice (some ad) 6 6) ∧ Kd.C k36 w' (some ad) getZ.length getZ ∧ Below w.heap.size w w' := by
  have hlit := fun w => or_lit6 w 6 0 17 4 6 0 5 0 4 0 18 0
  go_enter Try.func64, Try.ntmps64
  go_wp2
  go_ret
  refine ⟨_, rfl, ?_, below_alloc (Below.refl _ _) _⟩
  exact vm_litR (l := getZ) (cs := [.int .i64 6, .int .i64 0, .int .i64 17, .int .i64 4, .int .i64 6, .int .i64 0, .int .i64 5, .int .i64 0, .int .i64 4, .int .i64 0, .int .i64 18, .int .i64 0]) w (fun W base ok => ((((((Reps.none _ _).snoc (k36_mkM W base ok ⟨6, 0⟩) rfl).snoc (k36_mkM W base ok ⟨17, 4⟩) rfl).snoc (k36_mkM W base ok ⟨6, 0⟩) rfl).snoc (k36_mkM W base ok ⟨5, 0⟩) rfl).snoc (k36_mkM W base ok ⟨4, 0⟩) rfl).snoc (k36_mkM W base ok ⟨18, 0⟩) rfl) (by decide)
theorem or_litO (w : World) : (Instr.buildSlice 55 1 #[(0, .agg #[.int .i64 0, .int .i64 0, .int .i64 0, .bool true, .int .i64 3, .int .i64 0, .int .i64 1])]).run Try.prog w = .ok (.slice (some ⟨w.heap.size, 0, none⟩) 1 1) (w.alloc (.cells #[.int .i64 0, .int .i64 0, .int .i64 0, .bool true, .int .i64 3, .int .i64 0, .int .i64 1] 65)) := by kernel_rfl
theorem or_litI (w : World) : (Instr.buildSlice 56 1 #[(0, .int .i64 0)]).run Try.prog w = .ok (.slice (some ⟨w.heap.size, 0, none⟩) 1 1) (w.alloc (.cells #[.int .i64 0] 3)) := by kernel_rfl
theorem or_litOC (w : World) : Kd.C k65 (w.alloc (.cells #[.int .i64 0, .int .i64 0, .int .i64 0, .bool true, .int .i64 3, .int .i64 0, .int .i64 1] 65)) (some ⟨w.heap.size, 0, none⟩) 1 [⟨0, 0, 0, true, 3, 0, 1⟩] := by
  have h : Kd.R k65 65 (w.alloc (.cells #[.int .i64 0, .int .i64 0, .int .i64 0, .bool true, .int .i64 3, .int .i64 0, .int .i64 1] 65)) w.heap.size (fun _ => True) (.slice (some ⟨w.heap.size, 0, none⟩) 1 1) [⟨0, 0, 0, true, 3, 0, 1⟩] := ⟨fun _ _ => trivial, OwnRow.lit w w.heap.size ((Reps.none _ _).snoc (k65_mkM _ _ _ ⟨0, 0, 0, true, 3, 0, 1⟩) rfl) (Nat.le_refl _) (by decide)⟩
  exact (Kd.R_reads' h).2.2
theorem or_litIC (w : World) : Kd.C (Kd.int .i64) (w.alloc (.cells #[.int .i64 0] 3)) (some ⟨w.heap.size, 0, none⟩) 1 [0] := by
  have h : Kd.R (Kd.int .i64) 3 (w.alloc (.cells #[.int .i64 0] 3)) w.heap.size (fun _ => True) (.slice (some ⟨w.heap.size, 0, none⟩) 1 1) [0] := ⟨fun _ _ => trivial, OwnRow.lit w w.heap.size ((Reps.none _ _).snoc (show (Kd.int .i64).M _ _ _ 0 [.int .i64 0] from rfl) rfl) (Nat.le_refl _) (by decide)⟩
  exact (Kd.R_reads' h).2.2
theorem or_litICn (w : World) (n : Nat) (hn : w.heap.size = n) : Kd.C (Kd.int .i64) (w.alloc (.cells #[.int .i64 0] 3)) (some ⟨n, 0, none⟩) 1 [0] := by subst hn; exact or_litIC w
theorem or_lz : ordC getZ 9 [⟨0, 0, 0, true, 3, 0, 1⟩] [0] = 19 := by decide +kernel
theorem or_lchk (a0 : Addr) (A2 A3 : Option Addr) (w : World) (hC : Kd.C k36 w (some a0) getZ.length getZ) (h2 : Kd.C k65 w A2 1 [⟨0, 0, 0, true, 3, 0, 1⟩]) (h3 : Kd.C (Kd.int .i64) w A3 1 [0]) :
    Calls Try.prog 33 #[.slice (some a0) 6 6, .int .i64 9, .slice A2 1 1, .slice A3 1 1] w fun e w' => e = .returned (.int .i64 19) ∧ Below w.heap.size w w' := by
  have h := ord_Check (some a0) A2 A3 6 1 1 getZ 9 [⟨0, 0, 0, true, 3, 0, 1⟩] [0] w hC (by decide) (by decide) h2 (by decide) h3 (by decide) (by decide)
  rw [or_lz] at h
  exact h
set_option maxRecDepth 100000 in
set_option maxHeartbeats 400000 in
theorem ord_lives (w : World) : Calls Try.prog 37 #[] w fun e w' => e = .returned (.bool true) ∧ Below w.heap.size w w' := by
  have hO := or_litO
  have hI := or_litI
  go_enter Try.func37, Try.ntmps37
  go_wp2_with (first | (go_at_call 64; (with_reducible refine (ord_get _).mono ?_); rintro e W1 ⟨ad, rfl, hC, hB1⟩; replace hC := Aside0.mk hC; replace hB1 := Aside0.mk hB1) | (go_at_call 33; (with_reducible refine (or_lchk ad _ _ _ (Kd.C_alloc (Kd.C_alloc hC.out _) _) (Kd.C_alloc (or_litOC _) _) (or_litICn _ _ ?hsz)).mono ?_); (case hsz => simp); rintro e W2 ⟨rfl, hB2⟩; replace hB2 := Aside0.mk hB2))
  go_ret
  exact ⟨rfl, below_step hB1.out (below_step (below_alloc (below_alloc (Below.refl _ _) _) _) hB2.out)⟩

end Go.Proofs.Ytddkoimaghcbeaa.PVmSteps
