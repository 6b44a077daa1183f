/- A part of what the law LinTells stands on, only as far as it is needed (the words and walks were printed or written in this seat; this text was cut by a program of this session, wip/bin/trim.py). No condition beyond what each theorem says. -/
import Derived.Test.YtddkoimaghcbeaaZLTPVmStepsx0
import Derived.Test.YtddkoimaghcbeaaZLTPVmStepsx2
import Derived.Test.YtddkoimaghcbeaaZLTPVmStepsx3
import Derived.Test.YtddkoimaghcbeaaZLTPVmStepsx4
import Derived.Test.YtddkoimaghcbeaaZLTPVmStepsx5
import Derived.Test.YtddkoimaghcbeaaZLTPVmStepsx6
import Derived.Test.YtddkoimaghcbeaaZLTTmpvmu
import Derived.Test.YtddkoimaghcbeaaZLTTmprfd
namespace Go.Proofs.Ytddkoimaghcbeaa.PVmSteps
open Go.RowKit Go.Proofs.YtddkoimaghcbeaaW.PrintWords Go.Proofs.YtddkoimaghcbeaaW.PrintLast Go.Proofs.YtddkoimaghcbeaaW.PrintMore
set_option linter.unusedVariables false
set_option linter.unusedSimpArgs false
theorem rf_Step4 (A : Option Addr) (c : Nat) (L : List S36) (w : World) (hC : Kd.C k36 w A L.length L) (hc : L.length ≤ c) (r1 : Int) (hchk : inquestref15_Check.f L = some (r1, 0)) (c0 c1 c2 c3 kind arg fuel rk d0 d1 d2 d3 rr ru : Int)
    (h0 : inR c0) (h1 : inR c1) (h2 : inR c2) (h3 : inR c3) (hki : inR kind) (har : inR arg) (hco : ∀ i : Int, 0 ≤ i → i < (L.length : Int) → inR (rd_T36 L i).f1)
    (hv : vstep L [c0, c1, c2, c3] kind arg fuel = some (rk, [d0, d1, d2, d3], rr, ru)) (hf : fuel ≤ 9223372036854775807) :
    Calls Try.prog 28 #[.slice A L.length c, .agg #[.int .i64 c0, .int .i64 c1, .int .i64 c2, .int .i64 c3], .int .i64 kind, .int .i64 arg, .int .i64 fuel] w fun e w' => e = .returned (.agg #[.int .i64 rk, .int .i64 d0, .int .i64 d1, .int .i64 d2, .int .i64 d3, .int .i64 rr, .int .i64 ru]) ∧ Below w.heap.size w w' :=
  rf_Step A c L w hC hc r1 hchk [c0, c1, c2, c3] rfl (fun x hx => by simp only [List.mem_cons, List.not_mem_nil, or_false] at hx; rcases hx with rfl | rfl | rfl | rfl <;> assumption) kind arg fuel hki har hco rk [d0, d1, d2, d3] rr ru hv hf
theorem inR_wf {a : Int} (h : (Lit.int .i64 a).wf = true) : inR a := wf_i64 h
theorem rd_in (L : List S36) (h : ∀ x ∈ L, (Lit.int .i64 x.f0).wf = true ∧ (Lit.int .i64 x.f1).wf = true) (i : Int) (h0 : 0 ≤ i) (h1 : i < (L.length : Int)) : inR (rd_T36 L i).f1 := by
  have hm : rd_T36 L i ∈ L := by
    unfold rd_T36
    rw [List.getD_eq_getElem?_getD, List.getElem?_eq_getElem (by omega)]
    exact List.getElem_mem _
  exact wf_i64 (h _ hm).2
end Go.Proofs.Ytddkoimaghcbeaa.PVmSteps
