/- The law VmAgain answers true at every input: a machine has no memory. No condition. -/
import Derived.Test.YtddkoimaghcbeaaRows
import Derived.WalkKit
import Derived.ProofKit
import Derived.OpenShut
import Derived.ShutString
import Derived.ChangeOld
import Derived.Below
import Derived.SizedLaws
import Derived.Deep.Slices
import Derived.Deep.Fields
import Derived.ChangeSame
import Derived.ChangeArms
import Derived.Lib.SmallJoins
import Derived.Laws.IdiomArrays
import Derived.ChangeSlices
import Derived.Test.YtddkoimaghcbeaaZVATmpvah
namespace Go.Proofs.Ytddkoimaghcbeaa.vmAgain
open Go.ChangeShapes Go.WideShapes Go.ChangeAt Go.RowKit
open Go.ChangeMaps (open_string shut_string)
set_option linter.unusedVariables false
theorem own : ownKnob Try.prog.godebug = none := by kernel_rfl
theorem laidOut : laidOutB Try.prog = true := by kernel_rfl
open Go.Proofs.Ytddkoimaghcbeaa.PVmSteps Go.Proofs.YtddkoimaghcbeaaW.PrintWords Go.Proofs.YtddkoimaghcbeaaW.PrintLast Go.Proofs.YtddkoimaghcbeaaW.PrintMore
theorem list_of {α : Type} {P : Nat → α → Prop} : ∀ n, (∀ i, i < n → ∃ p, P i p) → ∃ l : List α, l.length = n ∧ ∀ j p, l[j]? = some p → P j p
  | 0, _ => ⟨[], rfl, fun j p h => by simp at h⟩
  | n + 1, h => by
    obtain ⟨l, h1, h2⟩ := list_of n (fun i hi => h i (by omega))
    obtain ⟨q, hq⟩ := h n (by omega)
    refine ⟨l ++ [q], by simp [h1], fun j p hj => ?_⟩
    by_cases c : j < l.length
    · rw [List.getElem?_append_left c] at hj; exact h2 j p hj
    · rw [List.getElem?_append_right (by omega)] at hj
      by_cases d : j - l.length = 0
      · rw [d] at hj; have e : q = p := by simpa using hj
        subst e; rw [show j = n from by omega]; exact hq
      · have : ([q] : List α)[j - l.length]? = none := List.getElem?_eq_none (by simp; omega)
        rw [this] at hj; simp at hj
set_option maxRecDepth 100000 in
theorem open_ins {H : Type} {enc : TypeId × Value → H} {W : World} {base : Nat} {spare : Nat → Bool} {held : Bool} {a : Option Addr} {len cap : Nat} {d : DataW H} {ps : List MemPlace} (h : DataW.Trod enc Try.prog W base spare held 22 (.slice a len cap) d ps) : ∃ l : List S36, len = l.length ∧ Kd.C k36 W a l.length l ∧ l.length ≤ maxLen ∧ (∀ x ∈ l, (Lit.int .i64 x.f0).wf = true ∧ (Lit.int .i64 x.f1).wf = true) ∧ l.length ≤ cap := by
  obtain ⟨fuel, hf⟩ := h
  rcases Go.Deep.open_slice Try.underlying22 hf with ⟨hcs, _⟩ | ⟨x, l, c, m, nn, D, Pl, hcs, _, hl, hm, hmm, _, hi⟩
  · simp [Value.cells] at hcs
    obtain ⟨rfl, rfl, rfl⟩ := hcs
    exact ⟨[], rfl, Kd.C_nil _ _, by simp, by simp, by simp⟩
  · simp [Value.cells] at hcs
    obtain ⟨rfl, rfl, rfl⟩ := hcs
    have hlm : len ≤ m := by rw [hmm]; split <;> omega
    have hC : Try.prog.cellsOf 36 = 2 := by kernel_rfl
    have hC_int : Try.prog.cellsOf 3 = 1 := by kernel_rfl
    have hC_int64 : Try.prog.cellsOf 2 = 1 := by kernel_rfl
    have each : ∀ i, i < len → ∃ p : S36, (∀ (j : Nat) (u : Value), ([.int .i64 p.f0, .int .i64 p.f1] : List Value)[j]? = some u → W.cell? (x.add (i * 2 + j)) = some u) ∧ (Lit.int .i64 p.f0).wf = true ∧ (Lit.int .i64 p.f1).wf = true := by
      intro i hi'
      obtain ⟨cs, hc, ht⟩ := hi i (by omega)
      rw [hC] at hc
      obtain ⟨ys, n', _, _, _, hyl, hfld⟩ := DataW.trod_struct Try.underlying36 ht
      obtain ⟨_, hcl, hat⟩ := World.cells?_some hc
      have hyl : ys.length = 2 := hyl
      match cs, hcl, hat, hfld with
      | [v0, v1], _, hat, hfld =>
      obtain ⟨y0, hy0⟩ : ∃ y, ys[0]? = some y := ⟨_, List.getElem?_eq_getElem (by omega)⟩
      have t0 : DataW.trod enc Try.prog W base spare held n' 3 (([v0, v1].drop 0).take (Try.prog.cellsOf 3)) = some y0 := (hfld 0 _ rfl).trans hy0
      rw [hC_int] at t0
      have c0 := hat 0 (by omega)
      rw [Go.Deep.add_add] at c0
      obtain ⟨y1, hy1⟩ : ∃ y, ys[1]? = some y := ⟨_, List.getElem?_eq_getElem (by omega)⟩
      have t1 : DataW.trod enc Try.prog W base spare held n' 2 (([v0, v1].drop 1).take (Try.prog.cellsOf 2)) = some y1 := (hfld 1 _ rfl).trans hy1
      rw [hC_int64] at t1
      have c1 := hat 1 (by omega)
      rw [Go.Deep.add_add] at c1
      obtain ⟨n0, e0, _, w0⟩ := DataW.trod_int Try.underlying3 t0
      obtain rfl := (List.cons.inj e0).1
      obtain ⟨n1, e1, _, w1⟩ := DataW.trod_int Try.underlying2 t1
      obtain rfl := (List.cons.inj e1).1
      refine ⟨⟨n0, n1⟩, fun j u hu => ?_, ⟨w0, w1⟩⟩
      match j, hu with
      | 0, hu => cases hu; exact c0
      | 1, hu => cases hu; exact c1
      | j + 2, hu => simp at hu
    obtain ⟨l, hl1, hl2⟩ := list_of len each
    have hmx : maxLen ≤ 9223372036854775807 := by decide
    subst hl1
    refine ⟨l, rfl, ⟨rfl, by omega, fun _ => ⟨x, rfl, fun j p hj => ⟨[.int .i64 p.f0, .int .i64 p.f1], rfl, k36_mk _ _, (hl2 j p hj).1⟩⟩⟩, by omega, fun p hp => ?_, by omega⟩
    obtain ⟨j, hj⟩ := List.getElem?_of_mem hp
    exact (hl2 j p hj).2
set_option maxRecDepth 100000 in
theorem open_stateL {H : Type} {enc : TypeId × Value → H} {W : World} {base : Nat} {spare : Nat → Bool} {held : Bool} {n : Nat} {cs : List Value} {x : DataW H × List MemPlace} (hl : cs.length = 4) (h : DataW.trod enc Try.prog W base spare held n 24 cs = some x) :
    ∃ a b c d : Int, cs = [.int .i64 a, .int .i64 b, .int .i64 c, .int .i64 d] ∧ (Lit.int .i64 a).wf = true ∧ (Lit.int .i64 b).wf = true ∧ (Lit.int .i64 c).wf = true ∧ (Lit.int .i64 d).wf = true := by
  have hc : Try.prog.cellsOf 2 = 1 := by kernel_rfl
  match cs, hl with
  | [v0, v1, v2, v3], _ =>
    obtain ⟨y0, y1, y2, y3, m, _, h0, h1, h2, h3⟩ := trod_array4 Try.underlying24 hc h
    obtain ⟨a, ea, _, wa⟩ := DataW.trod_int Try.underlying2 h0
    obtain ⟨b, eb, _, wb⟩ := DataW.trod_int Try.underlying2 h1
    obtain ⟨c, ec, _, wc⟩ := DataW.trod_int Try.underlying2 h2
    obtain ⟨d, ed, _, wd⟩ := DataW.trod_int Try.underlying2 h3
    obtain rfl := (List.cons.inj ea).1
    obtain rfl := (List.cons.inj eb).1
    obtain rfl := (List.cons.inj ec).1
    obtain rfl := (List.cons.inj ed).1
    exact ⟨a, b, c, d, rfl, wa, wb, wc, wd⟩
set_option maxRecDepth 100000 in
theorem open_callL {H : Type} {enc : TypeId × Value → H} {W : World} {base : Nat} {spare : Nat → Bool} {held : Bool} {n : Nat} {cs : List Value} {x : DataW H × List MemPlace} (hl : cs.length = 7) (h : DataW.trod enc Try.prog W base spare held n 26 cs = some x) :
    ∃ a b c d k f g : Int, cs = [.int .i64 a, .int .i64 b, .int .i64 c, .int .i64 d, .int .i64 k, .int .i64 f, .int .i64 g] ∧ (Lit.int .i64 a).wf = true ∧ (Lit.int .i64 b).wf = true ∧ (Lit.int .i64 c).wf = true ∧ (Lit.int .i64 d).wf = true ∧ (Lit.int .i64 k).wf = true ∧ (Lit.int .i64 f).wf = true ∧ (Lit.int .i64 g).wf = true := by
  have hS : Try.prog.cellsOf 24 = 4 := by kernel_rfl
  have h3 : Try.prog.cellsOf 3 = 1 := by kernel_rfl
  have h2 : Try.prog.cellsOf 2 = 1 := by kernel_rfl
  match cs, hl with
  | [v0, v1, v2, v3, v4, v5, v6], _ =>
    obtain ⟨y0, y1, y2, y3, m, _, _, t0, t1, t2, t3⟩ := Go.Joins.trod_struct4 Try.underlying26 h
    have t0' : DataW.trod enc Try.prog W base spare held m 24 (([v0, v1, v2, v3, v4, v5, v6].drop 0).take (Try.prog.cellsOf 24)) = some y0 := t0
    have t1' : DataW.trod enc Try.prog W base spare held m 3 (([v0, v1, v2, v3, v4, v5, v6].drop 4).take (Try.prog.cellsOf 3)) = some y1 := t1
    have t2' : DataW.trod enc Try.prog W base spare held m 3 (([v0, v1, v2, v3, v4, v5, v6].drop 5).take (Try.prog.cellsOf 3)) = some y2 := t2
    have t3' : DataW.trod enc Try.prog W base spare held m 2 (([v0, v1, v2, v3, v4, v5, v6].drop 6).take (Try.prog.cellsOf 2)) = some y3 := t3
    rw [hS] at t0'
    rw [h3] at t1' t2'
    rw [h2] at t3'
    obtain ⟨a, b, c, d, e, wa, wb, wc, wd⟩ := open_stateL (by simp) t0'
    obtain ⟨k, ek, _, wk⟩ := DataW.trod_int Try.underlying3 t1'
    obtain ⟨f, ef, _, wf⟩ := DataW.trod_int Try.underlying3 t2'
    obtain ⟨g, eg, _, wg⟩ := DataW.trod_int Try.underlying2 t3'
    simp at e ek ef eg
    obtain ⟨rfl, rfl, rfl, rfl⟩ := e
    subst ek ef eg
    exact ⟨a, b, c, d, k, f, g, rfl, wa, wb, wc, wd, wk, wf, wg⟩
set_option maxRecDepth 100000 in
theorem open_calls {H : Type} {enc : TypeId × Value → H} {W : World} {base : Nat} {spare : Nat → Bool} {held : Bool} {a : Option Addr} {len cap : Nat} {d : DataW H} {ps : List MemPlace} (h : DataW.Trod enc Try.prog W base spare held 46 (.slice a len cap) d ps) : ∃ l : List ClZ, len = l.length ∧ Kd.C kCl W a l.length l ∧ l.length ≤ maxLen ∧ (∀ p ∈ l, (Lit.int .i64 p.s0).wf = true ∧ (Lit.int .i64 p.s1).wf = true ∧ (Lit.int .i64 p.s2).wf = true ∧ (Lit.int .i64 p.s3).wf = true ∧ (Lit.int .i64 p.kd).wf = true ∧ (Lit.int .i64 p.fu).wf = true ∧ (Lit.int .i64 p.ar).wf = true) ∧ l.length ≤ cap := by
  obtain ⟨fuel, hf⟩ := h
  rcases Go.Deep.open_slice Try.underlying46 hf with ⟨hcs, _⟩ | ⟨x, l, c, m, nn, D, Pl, hcs, _, hl, hm, hmm, _, hi⟩
  · simp [Value.cells] at hcs
    obtain ⟨rfl, rfl, rfl⟩ := hcs
    exact ⟨[], rfl, Kd.C_nil _ _, by simp, by simp, by simp⟩
  · simp [Value.cells] at hcs
    obtain ⟨rfl, rfl, rfl⟩ := hcs
    have hlm : len ≤ m := by rw [hmm]; split <;> omega
    have hC : Try.prog.cellsOf 26 = 7 := by kernel_rfl
    have each : ∀ i, i < len → ∃ p : ClZ, (∀ (j : Nat) (u : Value), (clC p)[j]? = some u → W.cell? (x.add (i * 7 + j)) = some u) ∧ (Lit.int .i64 p.s0).wf = true ∧ (Lit.int .i64 p.s1).wf = true ∧ (Lit.int .i64 p.s2).wf = true ∧ (Lit.int .i64 p.s3).wf = true ∧ (Lit.int .i64 p.kd).wf = true ∧ (Lit.int .i64 p.fu).wf = true ∧ (Lit.int .i64 p.ar).wf = true := by
      intro i hi'
      obtain ⟨cs, hc, ht⟩ := hi i (by omega)
      rw [hC] at hc
      obtain ⟨_, hcl, hat⟩ := World.cells?_some hc
      obtain ⟨e0, e1, e2, e3, e4, e5, e6, rfl, w⟩ := open_callL hcl ht
      refine ⟨⟨e0, e1, e2, e3, e4, e5, e6⟩, fun j u hu => ?_, w⟩
      have hj : j < 7 := by
        have y := (List.getElem?_eq_some_iff.mp hu).1
        simpa [clC] using y
      have y := hat j (by simpa using hj)
      rw [Go.Deep.add_add] at y
      exact y.trans hu
    obtain ⟨l, hl1, hl2⟩ := list_of len each
    have hmx : maxLen ≤ 9223372036854775807 := by decide
    subst hl1
    refine ⟨l, rfl, ⟨rfl, by omega, fun _ => ⟨x, rfl, fun j p hj => ⟨clC p, rfl, rfl, (hl2 j p hj).1⟩⟩⟩, by omega, fun p hp => ?_, by omega⟩
    obtain ⟨j, hj⟩ := List.getElem?_of_mem hp
    exact (hl2 j p hj).2
set_option maxRecDepth 100000 in
theorem lifted (os : Os) (started : os.Started) (H : Type) (enc : TypeId × Value → H) :
    ReturnsInHanded {} Try.checked os 5 .any (Rows.vmAgainSpec.pre6 enc Try.prog Try.f5 Rows.vmAgainRow.domain false) (Rows.vmAgainSpec.post enc Try.prog Try.f5 false true false false) := by
  refine returnsInHanded_of_change_sized (C := Try.checked) own started (by kernel_rfl) Try.func5
    (ChangeSpec.witness6 (enc := enc) (C := Try.checked) false ⟨#[], #[.slice none 0 0, .slice none 0 0], []⟩ 8 (by kernel_rfl) (by kernel_rfl) (by kernel_rfl) (by kernel_rfl)) ?_
  intro W base args ds gs before hval0 hW hcnd hsz0 _
  have hsz : (DataW.weightsEach Try.prog (Try.f5.params.toList ++ Rows.vmAgainSpec.plain.varTypes Try.prog) (ds ++ gs)).all (· ≤ reachBytes) = true := hsz0
  have hval : ∀ (j : Nat) t v, Try.f5.params[j]? = some t → args[j]? = some v → Value.okWide Try.prog W .any base t v := hval0
  have hW' := hW
  obtain ⟨p, q, hA0, hV, rfl, hfz, hnd⟩ := hW
  have hA : DataW.TrodAll enc Try.prog W 0 (fun _ => true) true Try.f5.params.toList args.toList ds p := hA0
  rw [Try.params5] at hA hval hsz
  obtain ⟨v0, vs0, d0, ds0, p0, q0, hargs, rfl, rfl, h0, r0⟩ := trodAll_cons hA
  obtain ⟨v1, vs1, d1, ds1, p1, q1, rfl, rfl, rfl, h1, r1⟩ := trodAll_cons r0
  obtain ⟨rfl, rfl, rfl⟩ := trodAll_nil r1
  obtain rfl : args = #[v0, v1] := by cases args; simp_all
  obtain ⟨rfl, rfl⟩ := trodVars_none hV
  have k0 := h0
  have lt0 : ∀ x ∈ p0, x.block < W.heap.size := by obtain ⟨m, hm⟩ := k0; exact DataW.trod_lt m _ _ _ hm
  obtain ⟨a0, len0, cap0, rfl⟩ := okWide_slice Try.underlying22 (hval 0 22 v0 rfl rfl)
  obtain ⟨l0, rfl, hr0, hm0, hw0, hc0⟩ := open_ins h0
  have k1 := h1
  have lt1 : ∀ x ∈ p1, x.block < W.heap.size := by obtain ⟨m, hm⟩ := k1; exact DataW.trod_lt m _ _ _ hm
  obtain ⟨a1, len1, cap1, rfl⟩ := okWide_slice Try.underlying46 (hval 1 46 v1 rfl rfl)
  obtain ⟨l1, rfl, hr1, hm1, hw1, hc1⟩ := open_calls h1
  clear hA0 hval0 hsz0 hsz
  refine (inquestlaw16_VmAgain.any a0 cap0 l0 a1 cap1 l1 W hr0 hc0 hm0 hw0 hr1 hc1 hm1 hw1).mono fun e W' ⟨he, bel⟩ => ?_
  subst he
  exact ⟨_, rfl, _, _, _, [], _, [], hW', trodAll_mk1 (shut_bool Try.underlying4 _), (trodAll_cons_mk (Below.trod laidOut (by kernel_rfl) (of_decide_eq_true (by kernel_rfl)) k0 bel lt0) (trodAll_cons_mk (Below.trod laidOut (by kernel_rfl) (of_decide_eq_true (by kernel_rfl)) k1 bel lt1) trodAll_mk0)), rfl, bel.frame _, fun h => by cases h⟩
set_option maxRecDepth 100000 in
theorem over : Rows.vmAgainRow.holds Try.pinned (OpenSpec.ofChange Rows.vmAgainSpec) :=
  OpenClaim.holds_of_wide 5 Try.f5 rfl rfl rfl rfl rfl rfl rfl ⟨rfl, rfl, rfl, rfl, rfl⟩ rfl rfl rfl rfl rfl (by kernel_rfl) Try.func5 (by kernel_rfl)
    (of_decide_eq_true (by kernel_rfl)) (by unfold Func.isWrapper; first | (rw [if_pos (by decide +kernel)]; kernel_rfl) | (rw [if_neg (by decide +kernel)]; exact ⟨rfl, rfl⟩))
    (fun os started H enc _ => lifted os started H enc)
theorem proved : Rows.VmAgainSaid := over
end Go.Proofs.Ytddkoimaghcbeaa.vmAgain
namespace Go.Proofs.Ytddkoimaghcbeaa
/-- The row, under a short name, for the claim. -/
theorem vmAgain_holds : Rows.VmAgainSaid := vmAgain.proved
end Go.Proofs.Ytddkoimaghcbeaa
