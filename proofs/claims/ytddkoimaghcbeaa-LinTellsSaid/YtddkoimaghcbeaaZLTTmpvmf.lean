/- A part of what the law LinTells stands on, only as far as it is needed (the words and walks were printed or written in this seat; this text was cut by a program of this session, wip/bin/trim.py). No condition beyond what each theorem says. -/
import Derived.WalkSpells
import Derived.Lib.LazyBuf
import Derived.Test.YtddkoimaghcbeaaZLTPVmStepsx0
import Derived.Test.YtddkoimaghcbeaaZLTPVmStepsx2
import Derived.Test.YtddkoimaghcbeaaZLTPVmStepsx3
import Derived.Test.YtddkoimaghcbeaaZLTPVmStepsx4
import Derived.Test.YtddkoimaghcbeaaZLTPVmStepsx5
import Derived.Test.YtddkoimaghcbeaaZLTPVmStepsx6
import Derived.Test.YtddkoimaghcbeaaZLTTmpvme
section
namespace Go.Proofs.Ytddkoimaghcbeaa.PVmSteps
open Go.RowKit Go.Proofs.YtddkoimaghcbeaaW.PrintWords Go.Proofs.YtddkoimaghcbeaaW.PrintLast Go.Proofs.YtddkoimaghcbeaaW.PrintMore
set_option linter.unusedVariables false
set_option linter.unusedSimpArgs false
set_option maxRecDepth 100000 in
theorem vm_Clone (ad : Addr) (c : Nat) (l : List S36) (w : World) (hC : Kd.C k36 w (some ad) l.length l) (hl : l.length ≤ 1000) :
    Calls Try.prog 55 #[.slice (some ad) l.length c] w fun e w' => ∃ v, e = .returned v ∧ Kd.R k36 36 w' w.heap.size (fun _ => True) v l ∧ Below w.heap.size w w' := by
  have hC' := Aside0.mk hC
  clear hC
  obtain ⟨i0, hi0, hz0, hs0, hb0⟩ := info_parts info36
  have heq : ∀ w : World, (binOp .eql 22 (.slice (some ad) l.length c) (.slice none 0 0)).run Try.prog w = .ok (.bool false) w := fun w => Lib.run_eql_slice_nil w _ 36 (some ad) _ _ 0 0 Try.underlying22
  have hbs : ∀ w : World, (Instr.buildSlice 22 0 #[]).run Try.prog w = .ok (.slice (some ⟨w.heap.size, 0, none⟩) 0 0) (w.alloc (.cells #[] 36)) := by intro w; simp [Instr.buildSlice, run_underlying Try.underlying22, sizeOf, typeInfo, hi0, Instr.fill, newRow, show Array.range 0 = #[] from rfl]
  go_enter Try.func55, Try.ntmps55
  have hR0 : Aside0 (Kd.R k36 36 (w.alloc (.cells #[] 36)) w.heap.size (fun _ => True) (.slice (some ⟨w.heap.size, 0, none⟩) 0 0) ([] : List S36)) := ⟨⟨fun _ _ => trivial, OwnRow.lit w w.heap.size (Reps.none _ _) (Nat.le_refl _) (by simp)⟩⟩
  go_wp2_with (first | ((with_reducible refine gate_builtin (b := .append) (xs := #[.tmp 5, .tmp 6]) rfl ?_); at_builtin; refine Kd.R_append_rows k36 (w0 := w) w.heap.size rfl (.tmp 5) (.tmp 6) 22 36 (.agg #[(.int .i64 0), (.int .i64 0)]) 16 rfl Try.underlying22 info36 rfl (by decide) (by omega) _ ([] : List S36) l _ _ _ (fun _ => True) (fun _ => False) rfl rfl hR0.out (Kd.C_alloc hC'.out _) (fun _ _ h => h) (fun _ h => h.elim) (fun _ _ => trivial) (below_alloc (Below.refl _ w) _) (by simp) (by simp; omega) ?_; intro v1 w1 hR hB hg hat; rw [List.nil_append] at hR; replace hR := Aside0.mk hR; replace hB := Aside0.mk hB; clear hg hat))
  exact bodyPost_ret (v := v1) (by simp [results, Try.results55, go_sem]) rfl ⟨_, rfl, hR.out, hB.out⟩
/-- A machine in memory: block g, its code. -/
structure VmM (base : Nat) (W : World) (g : Nat) (L : List S36) (v : Value) : Prop where
  hk : W.heap[g]? = some (.cells #[v] 53 (0, 0))
  hR : Kd.R k36 36 W base (fun _ => True) v L
  hg : base ≤ g
theorem VmM.came {base : Nat} {W W' : World} {g : Nat} {L : List S36} {v : Value} (h : VmM base W g L v) (hb : Below W.heap.size W W') : VmM base W' g L v := ⟨blk_below h.hk hb, Kd.R_below h.hR hb, h.hg⟩
theorem vm_New_bad (k : Nat) (A : Option Addr) (c : Nat) (l : List S36) (r1 r2 : Int) (w : World) (hr : Kd.C k36 w A l.length l) (hc : l.length ≤ c) (h : code_Check.f k l = some (r1, r2)) (hne : r2 ≠ 0) :
    Calls Try.prog 23 #[.slice A l.length c] w fun e w' => e = .returned (.tuple #[.pointer none, .int .i64 r2]) ∧ Below w.heap.size w w' := by
  have hr' := Aside0.mk hr
  have hb0 : (r2 != 0) = true := by simpa using hne
  have h' := Aside0.mk h
  clear hr h hne
  go_enter Try.func23, Try.ntmps23
  go_wp2_with (first | (go_at_call 54; (with_reducible refine (code_Check.calls k A c l r1 r2 _ hr'.out hc h'.out).mono ?_); rintro e w' ⟨rfl, hb⟩; replace hb := Aside0.mk hb))
  go_ret2
  exact ⟨rfl, hb.out⟩
set_option maxRecDepth 100000 in
theorem vm_New_ok (k : Nat) (ad : Addr) (c : Nat) (l : List S36) (r1 : Int) (w : World) (hr : Kd.C k36 w (some ad) l.length l) (hc : l.length ≤ c) (h : code_Check.f k l = some (r1, 0)) (hl : l.length ≤ 1000) :
    Calls Try.prog 23 #[.slice (some ad) l.length c] w fun e w' => ∃ g v, e = .returned (.tuple #[.pointer (some ⟨g, 0, none⟩), .int .i64 0]) ∧ VmM w.heap.size w' g l v ∧ Below w.heap.size w w' := by
  have hr' := Aside0.mk hr
  have h' := Aside0.mk h
  clear hr h
  have hu := Try.underlying53
  go_enter Try.func23, Try.ntmps23
  go_wp2_with (first | (go_at_call 54; (with_reducible refine (code_Check.calls k (some ad) c l r1 0 _ hr'.out hc h'.out).mono ?_); rintro e w1 ⟨rfl, hb⟩; replace hb := Aside0.mk hb) | (go_at_call 55; (with_reducible refine (vm_Clone ad c l _ (Kd.C_below hr'.out hb.out) hl).mono ?_); rintro e w2 ⟨v, rfl, hR, hb2⟩; obtain ⟨A1, c1, rfl⟩ := Kd.R_slice hR; replace hR := Aside0.mk hR; replace hb2 := Aside0.mk hb2))
  go_ret2
  exact ⟨_, _, rfl, ⟨blk_new _ _, Kd.R_alloc (Kd.R_lower hR.out hb.out.size) _, (below_step hb.out hb2.out).size⟩, below_alloc (below_step hb.out hb2.out) _⟩
end Go.Proofs.Ytddkoimaghcbeaa.PVmSteps
end
section
namespace Go.Proofs.Ytddkoimaghcbeaa.PVmSteps
open Go.RowKit Go.Proofs.YtddkoimaghcbeaaW.PrintWords Go.Proofs.YtddkoimaghcbeaaW.PrintLast Go.Proofs.YtddkoimaghcbeaaW.PrintMore
set_option linter.unusedVariables false
set_option linter.unusedSimpArgs false
/-- A step's answer. -/
def stepV (k : Int) (cs : List Int) (ret used : Int) : Value := .agg #[.int .i64 k, .int .i64 (rdOf 0 cs 0), .int .i64 (rdOf 0 cs 1), .int .i64 (rdOf 0 cs 2), .int .i64 (rdOf 0 cs 3), .int .i64 ret, .int .i64 used]
def stateV (cs : List Int) : Value := .agg #[.int .i64 (rdOf 0 cs 0), .int .i64 (rdOf 0 cs 1), .int .i64 (rdOf 0 cs 2), .int .i64 (rdOf 0 cs 3)]
end Go.Proofs.Ytddkoimaghcbeaa.PVmSteps
end
