/- The law LinTells answers true at every input: what any search tells, or why there is none, is what the document says. No condition. -/
import Derived.Test.YtddkoimaghcbeaaRows
import Derived.WalkKit
import Derived.ProofKit
import Derived.OpenShut
import Derived.ShutString
import Derived.ChangeOld
import Derived.Below
import Derived.SizedLaws
import Derived.Deep.Slices
import Derived.Deep.Fields
import Derived.ChangeSame
import Derived.ChangeArms
import Derived.Lib.SmallJoins
import Derived.Laws.IdiomArrays
import Derived.ChangeSlices
import Derived.Test.YtddkoimaghcbeaaZLTTmpltg
namespace Go.Proofs.Ytddkoimaghcbeaa.linTells
open Go.ChangeShapes Go.WideShapes Go.ChangeAt Go.RowKit
open Go.ChangeMaps (open_string shut_string)
set_option linter.unusedVariables false
theorem own : ownKnob Try.prog.godebug = none := by kernel_rfl
theorem laidOut : laidOutB Try.prog = true := by kernel_rfl
open Go.Proofs.Ytddkoimaghcbeaa.PVmSteps Go.Proofs.YtddkoimaghcbeaaW.PrintWords Go.Proofs.YtddkoimaghcbeaaW.PrintLast Go.Proofs.YtddkoimaghcbeaaW.PrintMore
theorem list_of {α : Type} {P : Nat → α → Prop} : ∀ n, (∀ i, i < n → ∃ p, P i p) → ∃ l : List α, l.length = n ∧ ∀ j p, l[j]? = some p → P j p
  | 0, _ => ⟨[], rfl, fun j p h => by simp at h⟩
  | n + 1, h => by
    obtain ⟨l, h1, h2⟩ := list_of n (fun i hi => h i (by omega))
    obtain ⟨q, hq⟩ := h n (by omega)
    refine ⟨l ++ [q], by simp [h1], fun j p hj => ?_⟩
    by_cases c : j < l.length
    · rw [List.getElem?_append_left c] at hj; exact h2 j p hj
    · rw [List.getElem?_append_right (by omega)] at hj
      by_cases d : j - l.length = 0
      · rw [d] at hj; have e : q = p := by simpa using hj
        subst e; rw [show j = n from by omega]; exact hq
      · have : ([q] : List α)[j - l.length]? = none := List.getElem?_eq_none (by simp; omega)
        rw [this] at hj; simp at hj
set_option maxRecDepth 100000 in
theorem open_ins {H : Type} {enc : TypeId × Value → H} {W : World} {base : Nat} {spare : Nat → Bool} {held : Bool} {a : Option Addr} {len cap : Nat} {d : DataW H} {ps : List MemPlace} (h : DataW.Trod enc Try.prog W base spare held 22 (.slice a len cap) d ps) : ∃ l : List S36, len = l.length ∧ Kd.C k36 W a l.length l ∧ l.length ≤ maxLen ∧ (∀ x ∈ l, (Lit.int .i64 x.f0).wf = true ∧ (Lit.int .i64 x.f1).wf = true) ∧ l.length ≤ cap := by
  obtain ⟨fuel, hf⟩ := h
  rcases Go.Deep.open_slice Try.underlying22 hf with ⟨hcs, _⟩ | ⟨x, l, c, m, nn, D, Pl, hcs, _, hl, hm, hmm, _, hi⟩
  · simp [Value.cells] at hcs
    obtain ⟨rfl, rfl, rfl⟩ := hcs
    exact ⟨[], rfl, Kd.C_nil _ _, by simp, by simp, by simp⟩
  · simp [Value.cells] at hcs
    obtain ⟨rfl, rfl, rfl⟩ := hcs
    have hlm : len ≤ m := by rw [hmm]; split <;> omega
    have hC : Try.prog.cellsOf 36 = 2 := by kernel_rfl
    have hC_int : Try.prog.cellsOf 3 = 1 := by kernel_rfl
    have hC_int64 : Try.prog.cellsOf 2 = 1 := by kernel_rfl
    have each : ∀ i, i < len → ∃ p : S36, (∀ (j : Nat) (u : Value), ([.int .i64 p.f0, .int .i64 p.f1] : List Value)[j]? = some u → W.cell? (x.add (i * 2 + j)) = some u) ∧ (Lit.int .i64 p.f0).wf = true ∧ (Lit.int .i64 p.f1).wf = true := by
      intro i hi'
      obtain ⟨cs, hc, ht⟩ := hi i (by omega)
      rw [hC] at hc
      obtain ⟨ys, n', _, _, _, hyl, hfld⟩ := DataW.trod_struct Try.underlying36 ht
      obtain ⟨_, hcl, hat⟩ := World.cells?_some hc
      have hyl : ys.length = 2 := hyl
      match cs, hcl, hat, hfld with
      | [v0, v1], _, hat, hfld =>
      obtain ⟨y0, hy0⟩ : ∃ y, ys[0]? = some y := ⟨_, List.getElem?_eq_getElem (by omega)⟩
      have t0 : DataW.trod enc Try.prog W base spare held n' 3 (([v0, v1].drop 0).take (Try.prog.cellsOf 3)) = some y0 := (hfld 0 _ rfl).trans hy0
      rw [hC_int] at t0
      have c0 := hat 0 (by omega)
      rw [Go.Deep.add_add] at c0
      obtain ⟨y1, hy1⟩ : ∃ y, ys[1]? = some y := ⟨_, List.getElem?_eq_getElem (by omega)⟩
      have t1 : DataW.trod enc Try.prog W base spare held n' 2 (([v0, v1].drop 1).take (Try.prog.cellsOf 2)) = some y1 := (hfld 1 _ rfl).trans hy1
      rw [hC_int64] at t1
      have c1 := hat 1 (by omega)
      rw [Go.Deep.add_add] at c1
      obtain ⟨n0, e0, _, w0⟩ := DataW.trod_int Try.underlying3 t0
      obtain rfl := (List.cons.inj e0).1
      obtain ⟨n1, e1, _, w1⟩ := DataW.trod_int Try.underlying2 t1
      obtain rfl := (List.cons.inj e1).1
      refine ⟨⟨n0, n1⟩, fun j u hu => ?_, ⟨w0, w1⟩⟩
      match j, hu with
      | 0, hu => cases hu; exact c0
      | 1, hu => cases hu; exact c1
      | j + 2, hu => simp at hu
    obtain ⟨l, hl1, hl2⟩ := list_of len each
    have hmx : maxLen ≤ 9223372036854775807 := by decide
    subst hl1
    refine ⟨l, rfl, ⟨rfl, by omega, fun _ => ⟨x, rfl, fun j p hj => ⟨[.int .i64 p.f0, .int .i64 p.f1], rfl, k36_mk _ _, (hl2 j p hj).1⟩⟩⟩, by omega, fun p hp => ?_, by omega⟩
    obtain ⟨j, hj⟩ := List.getElem?_of_mem hp
    exact (hl2 j p hj).2
set_option maxRecDepth 100000 in
theorem open_ops {H : Type} {enc : TypeId × Value → H} {W : World} {base : Nat} {spare : Nat → Bool} {held : Bool} {a : Option Addr} {len cap : Nat} {d : DataW H} {ps : List MemPlace} (h : DataW.Trod enc Try.prog W base spare held 55 (.slice a len cap) d ps) : ∃ l : List S65, len = l.length ∧ Kd.C k65 W a l.length l ∧ l.length ≤ maxLen ∧ (∀ x ∈ l, (Lit.int .i64 x.f0).wf = true ∧ (Lit.int .i64 x.f1).wf = true ∧ (Lit.int .i64 x.f2).wf = true ∧ (Lit.int .i64 x.f4).wf = true ∧ (Lit.int .i64 x.f5).wf = true ∧ (Lit.int .i64 x.f6).wf = true) ∧ l.length ≤ cap := by
  obtain ⟨fuel, hf⟩ := h
  rcases Go.Deep.open_slice Try.underlying55 hf with ⟨hcs, _⟩ | ⟨x, l, c, m, nn, D, Pl, hcs, _, hl, hm, hmm, _, hi⟩
  · simp [Value.cells] at hcs
    obtain ⟨rfl, rfl, rfl⟩ := hcs
    exact ⟨[], rfl, Kd.C_nil _ _, by simp, by simp, by simp⟩
  · simp [Value.cells] at hcs
    obtain ⟨rfl, rfl, rfl⟩ := hcs
    have hlm : len ≤ m := by rw [hmm]; split <;> omega
    have hC : Try.prog.cellsOf 65 = 7 := by kernel_rfl
    have hC_bool : Try.prog.cellsOf 4 = 1 := by kernel_rfl
    have hC_int : Try.prog.cellsOf 3 = 1 := by kernel_rfl
    have hC_int64 : Try.prog.cellsOf 2 = 1 := by kernel_rfl
    have each : ∀ i, i < len → ∃ p : S65, (∀ (j : Nat) (u : Value), ([.int .i64 p.f0, .int .i64 p.f1, .int .i64 p.f2, .bool p.f3, .int .i64 p.f4, .int .i64 p.f5, .int .i64 p.f6] : List Value)[j]? = some u → W.cell? (x.add (i * 7 + j)) = some u) ∧ (Lit.int .i64 p.f0).wf = true ∧ (Lit.int .i64 p.f1).wf = true ∧ (Lit.int .i64 p.f2).wf = true ∧ (Lit.int .i64 p.f4).wf = true ∧ (Lit.int .i64 p.f5).wf = true ∧ (Lit.int .i64 p.f6).wf = true := by
      intro i hi'
      obtain ⟨cs, hc, ht⟩ := hi i (by omega)
      rw [hC] at hc
      obtain ⟨ys, n', _, _, _, hyl, hfld⟩ := DataW.trod_struct Try.underlying65 ht
      obtain ⟨_, hcl, hat⟩ := World.cells?_some hc
      have hyl : ys.length = 7 := hyl
      match cs, hcl, hat, hfld with
      | [v0, v1, v2, v3, v4, v5, v6], _, hat, hfld =>
      obtain ⟨y0, hy0⟩ : ∃ y, ys[0]? = some y := ⟨_, List.getElem?_eq_getElem (by omega)⟩
      have t0 : DataW.trod enc Try.prog W base spare held n' 3 (([v0, v1, v2, v3, v4, v5, v6].drop 0).take (Try.prog.cellsOf 3)) = some y0 := (hfld 0 _ rfl).trans hy0
      rw [hC_int] at t0
      have c0 := hat 0 (by omega)
      rw [Go.Deep.add_add] at c0
      obtain ⟨y1, hy1⟩ : ∃ y, ys[1]? = some y := ⟨_, List.getElem?_eq_getElem (by omega)⟩
      have t1 : DataW.trod enc Try.prog W base spare held n' 3 (([v0, v1, v2, v3, v4, v5, v6].drop 1).take (Try.prog.cellsOf 3)) = some y1 := (hfld 1 _ rfl).trans hy1
      rw [hC_int] at t1
      have c1 := hat 1 (by omega)
      rw [Go.Deep.add_add] at c1
      obtain ⟨y2, hy2⟩ : ∃ y, ys[2]? = some y := ⟨_, List.getElem?_eq_getElem (by omega)⟩
      have t2 : DataW.trod enc Try.prog W base spare held n' 2 (([v0, v1, v2, v3, v4, v5, v6].drop 2).take (Try.prog.cellsOf 2)) = some y2 := (hfld 2 _ rfl).trans hy2
      rw [hC_int64] at t2
      have c2 := hat 2 (by omega)
      rw [Go.Deep.add_add] at c2
      obtain ⟨y3, hy3⟩ : ∃ y, ys[3]? = some y := ⟨_, List.getElem?_eq_getElem (by omega)⟩
      have t3 : DataW.trod enc Try.prog W base spare held n' 4 (([v0, v1, v2, v3, v4, v5, v6].drop 3).take (Try.prog.cellsOf 4)) = some y3 := (hfld 3 _ rfl).trans hy3
      rw [hC_bool] at t3
      have c3 := hat 3 (by omega)
      rw [Go.Deep.add_add] at c3
      obtain ⟨y4, hy4⟩ : ∃ y, ys[4]? = some y := ⟨_, List.getElem?_eq_getElem (by omega)⟩
      have t4 : DataW.trod enc Try.prog W base spare held n' 2 (([v0, v1, v2, v3, v4, v5, v6].drop 4).take (Try.prog.cellsOf 2)) = some y4 := (hfld 4 _ rfl).trans hy4
      rw [hC_int64] at t4
      have c4 := hat 4 (by omega)
      rw [Go.Deep.add_add] at c4
      obtain ⟨y5, hy5⟩ : ∃ y, ys[5]? = some y := ⟨_, List.getElem?_eq_getElem (by omega)⟩
      have t5 : DataW.trod enc Try.prog W base spare held n' 3 (([v0, v1, v2, v3, v4, v5, v6].drop 5).take (Try.prog.cellsOf 3)) = some y5 := (hfld 5 _ rfl).trans hy5
      rw [hC_int] at t5
      have c5 := hat 5 (by omega)
      rw [Go.Deep.add_add] at c5
      obtain ⟨y6, hy6⟩ : ∃ y, ys[6]? = some y := ⟨_, List.getElem?_eq_getElem (by omega)⟩
      have t6 : DataW.trod enc Try.prog W base spare held n' 3 (([v0, v1, v2, v3, v4, v5, v6].drop 6).take (Try.prog.cellsOf 3)) = some y6 := (hfld 6 _ rfl).trans hy6
      rw [hC_int] at t6
      have c6 := hat 6 (by omega)
      rw [Go.Deep.add_add] at c6
      obtain ⟨n0, e0, _, w0⟩ := DataW.trod_int Try.underlying3 t0
      obtain rfl := (List.cons.inj e0).1
      obtain ⟨n1, e1, _, w1⟩ := DataW.trod_int Try.underlying3 t1
      obtain rfl := (List.cons.inj e1).1
      obtain ⟨n2, e2, _, w2⟩ := DataW.trod_int Try.underlying2 t2
      obtain rfl := (List.cons.inj e2).1
      obtain ⟨n3, e3, _⟩ := DataW.trod_bool Try.underlying4 t3
      obtain rfl := (List.cons.inj e3).1
      obtain ⟨n4, e4, _, w4⟩ := DataW.trod_int Try.underlying2 t4
      obtain rfl := (List.cons.inj e4).1
      obtain ⟨n5, e5, _, w5⟩ := DataW.trod_int Try.underlying3 t5
      obtain rfl := (List.cons.inj e5).1
      obtain ⟨n6, e6, _, w6⟩ := DataW.trod_int Try.underlying3 t6
      obtain rfl := (List.cons.inj e6).1
      refine ⟨⟨n0, n1, n2, n3, n4, n5, n6⟩, fun j u hu => ?_, ⟨w0, w1, w2, w4, w5, w6⟩⟩
      match j, hu with
      | 0, hu => cases hu; exact c0
      | 1, hu => cases hu; exact c1
      | 2, hu => cases hu; exact c2
      | 3, hu => cases hu; exact c3
      | 4, hu => cases hu; exact c4
      | 5, hu => cases hu; exact c5
      | 6, hu => cases hu; exact c6
      | j + 7, hu => simp at hu
    obtain ⟨l, hl1, hl2⟩ := list_of len each
    have hmx : maxLen ≤ 9223372036854775807 := by decide
    subst hl1
    refine ⟨l, rfl, ⟨rfl, by omega, fun _ => ⟨x, rfl, fun j p hj => ⟨[.int .i64 p.f0, .int .i64 p.f1, .int .i64 p.f2, .bool p.f3, .int .i64 p.f4, .int .i64 p.f5, .int .i64 p.f6], rfl, k65_mk _ _, (hl2 j p hj).1⟩⟩⟩, by omega, fun p hp => ?_, by omega⟩
    obtain ⟨j, hj⟩ := List.getElem?_of_mem hp
    exact (hl2 j p hj).2
set_option maxRecDepth 100000 in
theorem lifted (os : Os) (started : os.Started) (H : Type) (enc : TypeId × Value → H) :
    ReturnsInHanded {} Try.checked os 14 .any (Rows.linTellsSpec.pre6 enc Try.prog Try.f14 Rows.linTellsRow.domain false) (Rows.linTellsSpec.post enc Try.prog Try.f14 false true false false) := by
  refine returnsInHanded_of_change_sized (C := Try.checked) own started (by kernel_rfl) Try.func14
    (ChangeSpec.witness6 (enc := enc) (C := Try.checked) false ⟨#[], #[.slice none 0 0, .int .i64 0, .int .i64 0, .slice none 0 0], []⟩ 8 (by kernel_rfl) (by kernel_rfl) (by kernel_rfl) (by kernel_rfl)) ?_
  intro W base args ds gs before hval0 hW hcnd hsz0 _
  have hsz : (DataW.weightsEach Try.prog (Try.f14.params.toList ++ Rows.linTellsSpec.plain.varTypes Try.prog) (ds ++ gs)).all (· ≤ reachBytes) = true := hsz0
  have hval : ∀ (j : Nat) t v, Try.f14.params[j]? = some t → args[j]? = some v → Value.okWide Try.prog W .any base t v := hval0
  have hW' := hW
  obtain ⟨p, q, hA0, hV, rfl, hfz, hnd⟩ := hW
  have hA : DataW.TrodAll enc Try.prog W 0 (fun _ => true) true Try.f14.params.toList args.toList ds p := hA0
  rw [Try.params14] at hA hval hsz
  obtain ⟨v0, vs0, d0, ds0, p0, q0, hargs, rfl, rfl, h0, r0⟩ := trodAll_cons hA
  obtain ⟨v1, vs1, d1, ds1, p1, q1, rfl, rfl, rfl, h1, r1⟩ := trodAll_cons r0
  obtain ⟨v2, vs2, d2, ds2, p2, q2, rfl, rfl, rfl, h2, r2⟩ := trodAll_cons r1
  obtain ⟨v3, vs3, d3, ds3, p3, q3, rfl, rfl, rfl, h3, r3⟩ := trodAll_cons r2
  obtain ⟨rfl, rfl, rfl⟩ := trodAll_nil r3
  obtain rfl : args = #[v0, v1, v2, v3] := by cases args; simp_all
  obtain ⟨rfl, rfl⟩ := trodVars_none hV
  have k0 := h0
  have lt0 : ∀ x ∈ p0, x.block < W.heap.size := by obtain ⟨m, hm⟩ := k0; exact DataW.trod_lt m _ _ _ hm
  obtain ⟨a0, len0, cap0, rfl⟩ := okWide_slice Try.underlying22 (hval 0 22 v0 rfl rfl)
  obtain ⟨l0, rfl, hr0, hm0, hw0, hc0⟩ := open_ins h0
  obtain ⟨a1, rfl, rfl, rfl, w1⟩ := open_int Try.underlying3 (hval 1 3 v1 rfl rfl) h1
  obtain ⟨a2, rfl, rfl, rfl, w2⟩ := open_int Try.underlying3 (hval 2 3 v2 rfl rfl) h2
  have k3 := h3
  have lt3 : ∀ x ∈ p3, x.block < W.heap.size := by obtain ⟨m, hm⟩ := k3; exact DataW.trod_lt m _ _ _ hm
  obtain ⟨a3, len3, cap3, rfl⟩ := okWide_slice Try.underlying55 (hval 3 55 v3 rfl rfl)
  obtain ⟨l3, rfl, hr3, hm3, hw3, hc3⟩ := open_ops h3
  clear hA0 hval0 hsz0 hsz
  refine (inquestlaw18_LinTells.any a0 cap0 l0 a1 a2 a3 cap3 l3 W hr0 hc0 hm0 hw0 w1 w2 hr3 hc3 hm3 hw3).mono fun e W' ⟨he, bel⟩ => ?_
  subst he
  exact ⟨_, rfl, _, _, _, [], _, [], hW', trodAll_mk1 (shut_bool Try.underlying4 _), (trodAll_cons_mk (Below.trod laidOut (by kernel_rfl) (of_decide_eq_true (by kernel_rfl)) k0 bel lt0) (trodAll_cons_mk (shut_int Try.underlying3 w1) (trodAll_cons_mk (shut_int Try.underlying3 w2) (trodAll_cons_mk (Below.trod laidOut (by kernel_rfl) (of_decide_eq_true (by kernel_rfl)) k3 bel lt3) trodAll_mk0)))), rfl, bel.frame _, fun h => by cases h⟩
set_option maxRecDepth 100000 in
theorem over : Rows.linTellsRow.holds Try.pinned (OpenSpec.ofChange Rows.linTellsSpec) :=
  OpenClaim.holds_of_wide 14 Try.f14 rfl rfl rfl rfl rfl rfl rfl ⟨rfl, rfl, rfl, rfl, rfl⟩ rfl rfl rfl rfl rfl (by kernel_rfl) Try.func14 (by kernel_rfl)
    (of_decide_eq_true (by kernel_rfl)) (by unfold Func.isWrapper; first | (rw [if_pos (by decide +kernel)]; kernel_rfl) | (rw [if_neg (by decide +kernel)]; exact ⟨rfl, rfl⟩))
    (fun os started H enc _ => lifted os started H enc)
theorem proved : Rows.LinTellsSaid := over
end Go.Proofs.Ytddkoimaghcbeaa.linTells
namespace Go.Proofs.Ytddkoimaghcbeaa
/-- The row, under a short name, for the claim. -/
theorem linTells_holds : Rows.LinTellsSaid := linTells.proved
end Go.Proofs.Ytddkoimaghcbeaa
