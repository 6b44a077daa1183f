/- A part of what the law VmAgain stands on, only as far as it is needed (the words and walks were printed or written in this seat; this text was cut by a program of this session, wip/bin/trim.py). No condition beyond what each theorem says. -/
import Derived.Test.YtddkoimaghcbeaaZVAPVmStepsx0
import Derived.Test.YtddkoimaghcbeaaZVAPVmStepsx2
import Derived.Test.YtddkoimaghcbeaaZVAPVmStepsx3
import Derived.Test.YtddkoimaghcbeaaZVAPVmStepsx4
import Derived.Test.YtddkoimaghcbeaaZVAPVmStepsx5
import Derived.Test.YtddkoimaghcbeaaZVATmpvmq
namespace Go.Proofs.Ytddkoimaghcbeaa.PVmSteps
open Go.RowKit Go.Proofs.YtddkoimaghcbeaaW.PrintWords Go.Proofs.YtddkoimaghcbeaaW.PrintLast Go.Proofs.YtddkoimaghcbeaaW.PrintMore
set_option linter.unusedVariables false
set_option linter.unusedSimpArgs false
theorem vm_mk (k : Nat) (A : Option Addr) (c : Nat) (l : List S36) (w : World) (hr : Kd.C k36 w A l.length l) (h0 : 0 < l.length) : ∃ ad, A = some ad := by
  obtain ⟨ad, e, _⟩ := at_T36 hr 0 (by omega) (by omega)
  exact ⟨ad, e⟩
theorem chk_k (l : List S36) (hl : l.length ≤ 300) : ∃ k, code_Check.f k l = some ((thru l).2.1, (thru l).2.2) := Ev.rounds (code_Check_ev l hl)
/-- New, of code that fits together, and of other code. -/
theorem vm_New_e (A : Option Addr) (c : Nat) (l : List S36) (w : World) (hr : Kd.C k36 w A l.length l) (hc : l.length ≤ c) (hl : l.length ≤ 300) (h : (thru l).2.2 ≠ 0) :
    Calls Try.prog 23 #[.slice A l.length c] w fun e w' => e = .returned (.tuple #[.pointer none, .int .i64 (thru l).2.2]) ∧ Below w.heap.size w w' := by
  obtain ⟨k, hk⟩ := chk_k l hl
  exact vm_New_bad k A c l _ _ w hr hc hk h
theorem vm_New_k (A : Option Addr) (c : Nat) (l : List S36) (w : World) (hr : Kd.C k36 w A l.length l) (hc : l.length ≤ c) (hl : l.length ≤ 300) (h : (thru l).2.2 = 0) :
    Calls Try.prog 23 #[.slice A l.length c] w fun e w' => ∃ g v, e = .returned (.tuple #[.pointer (some ⟨g, 0, none⟩), .int .i64 0]) ∧ VmM w.heap.size w' g l v ∧ Below w.heap.size w w' := by
  obtain ⟨k, hk⟩ := chk_k l hl
  rw [h] at hk
  obtain ⟨ad, rfl⟩ := vm_mk k A c l w hr (thru_good l h).pos
  exact vm_New_ok k ad c l _ w hr hc hk (by omega)
theorem vm_New_kn (A : Option Addr) (n c : Nat) (l : List S36) (w : World) (hn : n = l.length) (hr : Kd.C k36 w A l.length l) (hc : l.length ≤ c) (hl : l.length ≤ 300) (h : (thru l).2.2 = 0) :
    Calls Try.prog 23 #[.slice A n c] w fun e w' => ∃ g v, e = .returned (.tuple #[.pointer (some ⟨g, 0, none⟩), .int .i64 0]) ∧ VmM w.heap.size w' g l v ∧ Below w.heap.size w w' := by
  subst hn; exact vm_New_k A c l w hr hc hl h
theorem vm_Step4 {base : Nat} {w : World} {gm : Nat} {L : List S36} {v : Value} (hM : VmM base w gm L v) (hbo : base ≤ w.heap.size) (hL : 0 < L.length) (c0 c1 c2 c3 kind arg fuel rk d0 d1 d2 d3 rr ru : Int)
    (hv : vstep L [c0, c1, c2, c3] kind arg fuel = some (rk, [d0, d1, d2, d3], rr, ru)) (hf : fuel ≤ 9223372036854775807) :
    Calls Try.prog 26 #[.pointer (some ⟨gm, 0, none⟩), .agg #[.int .i64 c0, .int .i64 c1, .int .i64 c2, .int .i64 c3], .int .i64 kind, .int .i64 arg, .int .i64 fuel] w fun e w' => e = .returned (.agg #[.int .i64 rk, .int .i64 d0, .int .i64 d1, .int .i64 d2, .int .i64 d3, .int .i64 rr, .int .i64 ru]) ∧ Below w.heap.size w w' :=
  vm_Step hM [c0, c1, c2, c3] rfl kind arg fuel rk [d0, d1, d2, d3] rr ru hL hbo hv hf
/-- A literal of two instructions, and of four. -/
theorem vm_lit2 (w : World) (a b c d : Int) : (Instr.buildSlice 22 2 #[(0, .agg #[.int .i64 a, .int .i64 b]), (1, .agg #[.int .i64 c, .int .i64 d])]).run Try.prog w = .ok (.slice (some ⟨w.heap.size, 0, none⟩) 2 2) (w.alloc (.cells #[.int .i64 a, .int .i64 b, .int .i64 c, .int .i64 d] 36)) := by kernel_rfl
theorem vm_litR {l : List S36} {cs : List Value} (w : World) (hr : ∀ (W : World) (base : Nat) (ok : Nat → Prop), Reps (k36.M W base ok) k36.sz l cs) (hl : l.length ≤ 1000) : Kd.C k36 (w.alloc (.cells cs.toArray 36)) (some ⟨w.heap.size, 0, none⟩) l.length l := by
  have h : Kd.R k36 36 (w.alloc (.cells cs.toArray 36)) w.heap.size (fun _ => True) (.slice (some ⟨w.heap.size, 0, none⟩) l.length l.length) l := ⟨fun _ _ => trivial, OwnRow.lit w w.heap.size (hr _ _ _) (Nat.le_refl _) (by omega)⟩
  exact (Kd.R_reads' h).2.2
theorem vm_litC2 (w : World) (a b c d : Int) : Kd.C k36 (w.alloc (.cells #[.int .i64 a, .int .i64 b, .int .i64 c, .int .i64 d] 36)) (some ⟨w.heap.size, 0, none⟩) ([⟨a, b⟩, ⟨c, d⟩] : List S36).length [⟨a, b⟩, ⟨c, d⟩] :=
  vm_litR (l := [⟨a, b⟩, ⟨c, d⟩]) (cs := [.int .i64 a, .int .i64 b, .int .i64 c, .int .i64 d]) w (fun W base ok => ((Reps.none _ _).snoc (k36_mkM W base ok ⟨a, b⟩) rfl).snoc (k36_mkM W base ok ⟨c, d⟩) rfl) (by simp)
/-- What any fuel is cut to. -/
def fuelZ (f : Int) : Int := if f < -3 then -3 else if f > 3000 then 3000 else f
def callV (cs : List Int) (kind fuel arg : Int) : Value := .agg #[.int .i64 (rdOf 0 cs 0), .int .i64 (rdOf 0 cs 1), .int .i64 (rdOf 0 cs 2), .int .i64 (rdOf 0 cs 3), .int .i64 kind, .int .i64 fuel, .int .i64 arg]
theorem vm_fuel (cs : List Int) (kind fuel arg : Int) (w : World) :
    Calls Try.prog 27 #[callV cs kind fuel arg] w fun e w' => e = .returned (.int .i64 (fuelZ fuel)) ∧ Below w.heap.size w w' := by
  unfold callV
  have hl : inquestref01_Least.f fuel (-3) 3000 = some (fuelZ fuel) := by
    unfold inquestref01_Least.f fuelZ
    by_cases c : fuel < -3
    · rw [if_pos c, if_pos c]
    · rw [if_neg c, if_neg c]
      by_cases d : fuel > 3000
      · rw [if_pos d, if_pos d]
      · rw [if_neg d, if_neg d]
  replace hl := Aside0.mk hl
  go_enter Try.func27, Try.ntmps27
  go_wp2_with (go_at_call 30; (with_reducible refine (inquestref01_Least.calls fuel (-3) 3000 _ _ hl.out).mono ?_); rintro e W1 ⟨rfl, ⟨nd, rfl⟩⟩)
  go_ret
  exact ⟨rfl, pw_below_drewN (below_alloc (Below.refl _ _) _) _⟩
theorem vm_fRet (v0 v1 v2 v3 v4 v5 v6 : Value) (W : World) : (Instr.field 38 (.agg #[v0, v1, v2, v3, v4, v5, v6]) 2).run Try.prog W = .ok v5 W := by kernel_rfl
set_option maxRecDepth 100000 in
theorem vm_lives (w : World) : Calls Try.prog 29 #[] w fun e w' => e = .returned (.bool true) ∧ Below w.heap.size w w' := by
  have hlit := fun w => vm_lit2 w 6 0 18 0
  have hfd := vm_fRet
  have ht : Aside0 ((thru ([⟨6, 0⟩, ⟨18, 0⟩] : List S36)).2.2 = 0) := ⟨by decide +kernel⟩
  have hv : Aside0 (vstep [⟨6, 0⟩, ⟨18, 0⟩] [0, 0, 0, 0] 0 7 5 = some (1, [0, 0, 0, 0], 7, 2)) := ⟨by decide +kernel⟩
  go_enter Try.func29, Try.ntmps29
  go_wp2_with (first | (go_at_call 23; (with_reducible refine (vm_New_kn _ 2 2 [⟨6, 0⟩, ⟨18, 0⟩] _ rfl (vm_litC2 w 6 0 18 0) (by decide) (by decide) ht.out).mono ?_); rintro e W1 ⟨g, v, rfl, hM, hB1⟩; replace hM := Aside0.mk hM; replace hB1 := Aside0.mk hB1) | (go_at_call 26; (with_reducible refine (vm_Step4 hM.out hB1.out.size (by decide) 0 0 0 0 0 7 5 1 0 0 0 0 7 2 hv.out (by decide)).mono ?_); rintro e W2 ⟨rfl, hB2⟩; replace hB2 := Aside0.mk hB2))
  go_ret
  exact ⟨rfl, below_step (below_step (below_alloc (Below.refl _ _) _) hB1.out) hB2.out⟩
end Go.Proofs.Ytddkoimaghcbeaa.PVmSteps
