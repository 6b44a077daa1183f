/- A part of what the law LinTells stands on, only as far as it is needed (the words and walks were printed or written in this seat; this text was cut by a program of this session, wip/bin/trim.py). No condition beyond what each theorem says. -/
import Derived.Test.YtddkoimaghcbeaaZLTPVmStepsx0
import Derived.Test.YtddkoimaghcbeaaZLTPVmStepsx2
import Derived.Test.YtddkoimaghcbeaaZLTPVmStepsx3
import Derived.Test.YtddkoimaghcbeaaZLTPVmStepsx4
import Derived.Test.YtddkoimaghcbeaaZLTPVmStepsx5
import Derived.Test.YtddkoimaghcbeaaZLTPVmStepsx6
import Derived.Test.YtddkoimaghcbeaaZLTTmpvmq
namespace Go.Proofs.Ytddkoimaghcbeaa.PVmSteps
open Go.RowKit Go.Proofs.YtddkoimaghcbeaaW.PrintWords Go.Proofs.YtddkoimaghcbeaaW.PrintLast Go.Proofs.YtddkoimaghcbeaaW.PrintMore
set_option linter.unusedVariables false
set_option linter.unusedSimpArgs false
theorem vm_mk (k : Nat) (A : Option Addr) (c : Nat) (l : List S36) (w : World) (hr : Kd.C k36 w A l.length l) (h0 : 0 < l.length) : ∃ ad, A = some ad := by
  obtain ⟨ad, e, _⟩ := at_T36 hr 0 (by omega) (by omega)
  exact ⟨ad, e⟩
theorem chk_k (l : List S36) (hl : l.length ≤ 300) : ∃ k, code_Check.f k l = some ((thru l).2.1, (thru l).2.2) := Ev.rounds (code_Check_ev l hl)
/-- New, of code that fits together, and of other code. -/
theorem vm_New_e (A : Option Addr) (c : Nat) (l : List S36) (w : World) (hr : Kd.C k36 w A l.length l) (hc : l.length ≤ c) (hl : l.length ≤ 300) (h : (thru l).2.2 ≠ 0) :
    Calls Try.prog 23 #[.slice A l.length c] w fun e w' => e = .returned (.tuple #[.pointer none, .int .i64 (thru l).2.2]) ∧ Below w.heap.size w w' := by
  obtain ⟨k, hk⟩ := chk_k l hl
  exact vm_New_bad k A c l _ _ w hr hc hk h
theorem vm_New_k (A : Option Addr) (c : Nat) (l : List S36) (w : World) (hr : Kd.C k36 w A l.length l) (hc : l.length ≤ c) (hl : l.length ≤ 300) (h : (thru l).2.2 = 0) :
    Calls Try.prog 23 #[.slice A l.length c] w fun e w' => ∃ g v, e = .returned (.tuple #[.pointer (some ⟨g, 0, none⟩), .int .i64 0]) ∧ VmM w.heap.size w' g l v ∧ Below w.heap.size w w' := by
  obtain ⟨k, hk⟩ := chk_k l hl
  rw [h] at hk
  obtain ⟨ad, rfl⟩ := vm_mk k A c l w hr (thru_good l h).pos
  exact vm_New_ok k ad c l _ w hr hc hk (by omega)
theorem vm_Step4 {base : Nat} {w : World} {gm : Nat} {L : List S36} {v : Value} (hM : VmM base w gm L v) (hbo : base ≤ w.heap.size) (hL : 0 < L.length) (c0 c1 c2 c3 kind arg fuel rk d0 d1 d2 d3 rr ru : Int)
    (hv : vstep L [c0, c1, c2, c3] kind arg fuel = some (rk, [d0, d1, d2, d3], rr, ru)) (hf : fuel ≤ 9223372036854775807) :
    Calls Try.prog 26 #[.pointer (some ⟨gm, 0, none⟩), .agg #[.int .i64 c0, .int .i64 c1, .int .i64 c2, .int .i64 c3], .int .i64 kind, .int .i64 arg, .int .i64 fuel] w fun e w' => e = .returned (.agg #[.int .i64 rk, .int .i64 d0, .int .i64 d1, .int .i64 d2, .int .i64 d3, .int .i64 rr, .int .i64 ru]) ∧ Below w.heap.size w w' :=
  vm_Step hM [c0, c1, c2, c3] rfl kind arg fuel rk [d0, d1, d2, d3] rr ru hL hbo hv hf
/-- A literal of two instructions, and of four. -/
theorem vm_lit2 (w : World) (a b c d : Int) : (Instr.buildSlice 22 2 #[(0, .agg #[.int .i64 a, .int .i64 b]), (1, .agg #[.int .i64 c, .int .i64 d])]).run Try.prog w = .ok (.slice (some ⟨w.heap.size, 0, none⟩) 2 2) (w.alloc (.cells #[.int .i64 a, .int .i64 b, .int .i64 c, .int .i64 d] 36)) := by kernel_rfl
theorem vm_litR {l : List S36} {cs : List Value} (w : World) (hr : ∀ (W : World) (base : Nat) (ok : Nat → Prop), Reps (k36.M W base ok) k36.sz l cs) (hl : l.length ≤ 1000) : Kd.C k36 (w.alloc (.cells cs.toArray 36)) (some ⟨w.heap.size, 0, none⟩) l.length l := by
  have h : Kd.R k36 36 (w.alloc (.cells cs.toArray 36)) w.heap.size (fun _ => True) (.slice (some ⟨w.heap.size, 0, none⟩) l.length l.length) l := ⟨fun _ _ => trivial, OwnRow.lit w w.heap.size (hr _ _ _) (Nat.le_refl _) (by omega)⟩
  exact (Kd.R_reads' h).2.2
theorem vm_litC2 (w : World) (a b c d : Int) : Kd.C k36 (w.alloc (.cells #[.int .i64 a, .int .i64 b, .int .i64 c, .int .i64 d] 36)) (some ⟨w.heap.size, 0, none⟩) ([⟨a, b⟩, ⟨c, d⟩] : List S36).length [⟨a, b⟩, ⟨c, d⟩] :=
  vm_litR (l := [⟨a, b⟩, ⟨c, d⟩]) (cs := [.int .i64 a, .int .i64 b, .int .i64 c, .int .i64 d]) w (fun W base ok => ((Reps.none _ _).snoc (k36_mkM W base ok ⟨a, b⟩) rfl).snoc (k36_mkM W base ok ⟨c, d⟩) rfl) (by simp)
end Go.Proofs.Ytddkoimaghcbeaa.PVmSteps
