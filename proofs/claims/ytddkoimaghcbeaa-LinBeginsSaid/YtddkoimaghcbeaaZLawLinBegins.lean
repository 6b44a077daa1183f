/- The law LinBegins answers true at every input: a beginning of a history that fits fits, or lacks fuel. No condition. -/
import Derived.Test.YtddkoimaghcbeaaRows
import Derived.WalkKit
import Derived.ProofKit
import Derived.OpenShut
import Derived.ShutString
import Derived.ChangeOld
import Derived.Below
import Derived.SizedLaws
import Derived.Deep.Slices
import Derived.Deep.Fields
import Derived.ChangeSame
import Derived.ChangeArms
import Derived.Lib.SmallJoins
import Derived.Laws.IdiomArrays
import Derived.ChangeSlices
import Derived.Test.YtddkoimaghcbeaaZLGTmplcc
namespace Go.Proofs.Ytddkoimaghcbeaa.linBegins
open Go.ChangeShapes Go.WideShapes Go.ChangeAt Go.RowKit
open Go.ChangeMaps (open_string shut_string)
set_option linter.unusedVariables false
theorem own : ownKnob Try.prog.godebug = none := by kernel_rfl
theorem laidOut : laidOutB Try.prog = true := by kernel_rfl
open Go.Proofs.Ytddkoimaghcbeaa.PVmSteps Go.Proofs.YtddkoimaghcbeaaW.PrintWords Go.Proofs.YtddkoimaghcbeaaW.PrintLast Go.Proofs.YtddkoimaghcbeaaW.PrintMore
theorem list_of {α : Type} {P : Nat → α → Prop} : ∀ n, (∀ i, i < n → ∃ p, P i p) → ∃ l : List α, l.length = n ∧ ∀ j p, l[j]? = some p → P j p
  | 0, _ => ⟨[], rfl, fun j p h => by simp at h⟩
  | n + 1, h => by
    obtain ⟨l, h1, h2⟩ := list_of n (fun i hi => h i (by omega))
    obtain ⟨q, hq⟩ := h n (by omega)
    refine ⟨l ++ [q], by simp [h1], fun j p hj => ?_⟩
    by_cases c : j < l.length
    · rw [List.getElem?_append_left c] at hj; exact h2 j p hj
    · rw [List.getElem?_append_right (by omega)] at hj
      by_cases d : j - l.length = 0
      · rw [d] at hj; have e : q = p := by simpa using hj
        subst e; rw [show j = n from by omega]; exact hq
      · have : ([q] : List α)[j - l.length]? = none := List.getElem?_eq_none (by simp; omega)
        rw [this] at hj; simp at hj
set_option maxRecDepth 100000 in
theorem open_ins {H : Type} {enc : TypeId × Value → H} {W : World} {base : Nat} {spare : Nat → Bool} {held : Bool} {a : Option Addr} {len cap : Nat} {d : DataW H} {ps : List MemPlace} (h : DataW.Trod enc Try.prog W base spare held 22 (.slice a len cap) d ps) : ∃ l : List S36, len = l.length ∧ Kd.C k36 W a l.length l ∧ l.length ≤ maxLen ∧ (∀ x ∈ l, (Lit.int .i64 x.f0).wf = true ∧ (Lit.int .i64 x.f1).wf = true) ∧ l.length ≤ cap := by
  obtain ⟨fuel, hf⟩ := h
  rcases Go.Deep.open_slice Try.underlying22 hf with ⟨hcs, _⟩ | ⟨x, l, c, m, nn, D, Pl, hcs, _, hl, hm, hmm, _, hi⟩
  · simp [Value.cells] at hcs
    obtain ⟨rfl, rfl, rfl⟩ := hcs
    exact ⟨[], rfl, Kd.C_nil _ _, by simp, by simp, by simp⟩
  · simp [Value.cells] at hcs
    obtain ⟨rfl, rfl, rfl⟩ := hcs
    have hlm : len ≤ m := by rw [hmm]; split <;> omega
    have hC : Try.prog.cellsOf 36 = 2 := by kernel_rfl
    have hC_int : Try.prog.cellsOf 3 = 1 := by kernel_rfl
    have hC_int64 : Try.prog.cellsOf 2 = 1 := by kernel_rfl
    have each : ∀ i, i < len → ∃ p : S36, (∀ (j : Nat) (u : Value), ([.int .i64 p.f0, .int .i64 p.f1] : List Value)[j]? = some u → W.cell? (x.add (i * 2 + j)) = some u) ∧ (Lit.int .i64 p.f0).wf = true ∧ (Lit.int .i64 p.f1).wf = true := by
      intro i hi'
      obtain ⟨cs, hc, ht⟩ := hi i (by omega)
      rw [hC] at hc
      obtain ⟨ys, n', _, _, _, hyl, hfld⟩ := DataW.trod_struct Try.underlying36 ht
      obtain ⟨_, hcl, hat⟩ := World.cells?_some hc
      have hyl : ys.length = 2 := hyl
      match cs, hcl, hat, hfld with
      | [v0, v1], _, hat, hfld =>
      obtain ⟨y0, hy0⟩ : ∃ y, ys[0]? = some y := ⟨_, List.getElem?_eq_getElem (by omega)⟩
      have t0 : DataW.trod enc Try.prog W base spare held n' 3 (([v0, v1].drop 0).take (Try.prog.cellsOf 3)) = some y0 := (hfld 0 _ rfl).trans hy0
      rw [hC_int] at t0
      have c0 := hat 0 (by omega)
      rw [Go.Deep.add_add] at c0
      obtain ⟨y1, hy1⟩ : ∃ y, ys[1]? = some y := ⟨_, List.getElem?_eq_getElem (by omega)⟩
      have t1 : DataW.trod enc Try.prog W base spare held n' 2 (([v0, v1].drop 1).take (Try.prog.cellsOf 2)) = some y1 := (hfld 1 _ rfl).trans hy1
      rw [hC_int64] at t1
      have c1 := hat 1 (by omega)
      rw [Go.Deep.add_add] at c1
      obtain ⟨n0, e0, _, w0⟩ := DataW.trod_int Try.underlying3 t0
      obtain rfl := (List.cons.inj e0).1
      obtain ⟨n1, e1, _, w1⟩ := DataW.trod_int Try.underlying2 t1
      obtain rfl := (List.cons.inj e1).1
      refine ⟨⟨n0, n1⟩, fun j u hu => ?_, ⟨w0, w1⟩⟩
      match j, hu with
      | 0, hu => cases hu; exact c0
      | 1, hu => cases hu; exact c1
      | j + 2, hu => simp at hu
    obtain ⟨l, hl1, hl2⟩ := list_of len each
    have hmx : maxLen ≤ 9223372036854775807 := by decide
    subst hl1
    refine ⟨l, rfl, ⟨rfl, by omega, fun _ => ⟨x, rfl, fun j p hj => ⟨[.int .i64 p.f0, .int .i64 p.f1], rfl, k36_mk _ _, (hl2 j p hj).1⟩⟩⟩, by omega, fun p hp => ?_, by omega⟩
    obtain ⟨j, hj⟩ := List.getElem?_of_mem hp
    exact (hl2 j p hj).2
set_option maxRecDepth 100000 in
theorem open_events {H : Type} {enc : TypeId × Value → H} {W : World} {base : Nat} {spare : Nat → Bool} {held : Bool} {a : Option Addr} {len cap : Nat} {d : DataW H} {ps : List MemPlace} (h : DataW.Trod enc Try.prog W base spare held 89 (.slice a len cap) d ps) : ∃ l : List S129, len = l.length ∧ Kd.C k129 W a l.length l ∧ l.length ≤ maxLen ∧ (∀ x ∈ l, (Lit.int .i64 x.f0).wf = true ∧ (Lit.int .i64 x.f2).wf = true ∧ (Lit.int .i64 x.f3).wf = true) ∧ l.length ≤ cap := by
  obtain ⟨fuel, hf⟩ := h
  rcases Go.Deep.open_slice Try.underlying89 hf with ⟨hcs, _⟩ | ⟨x, l, c, m, nn, D, Pl, hcs, _, hl, hm, hmm, _, hi⟩
  · simp [Value.cells] at hcs
    obtain ⟨rfl, rfl, rfl⟩ := hcs
    exact ⟨[], rfl, Kd.C_nil _ _, by simp, by simp, by simp⟩
  · simp [Value.cells] at hcs
    obtain ⟨rfl, rfl, rfl⟩ := hcs
    have hlm : len ≤ m := by rw [hmm]; split <;> omega
    have hC : Try.prog.cellsOf 129 = 4 := by kernel_rfl
    have hC_bool : Try.prog.cellsOf 4 = 1 := by kernel_rfl
    have hC_int : Try.prog.cellsOf 3 = 1 := by kernel_rfl
    have hC_int64 : Try.prog.cellsOf 2 = 1 := by kernel_rfl
    have each : ∀ i, i < len → ∃ p : S129, (∀ (j : Nat) (u : Value), ([.int .i64 p.f0, .bool p.f1, .int .i64 p.f2, .int .i64 p.f3] : List Value)[j]? = some u → W.cell? (x.add (i * 4 + j)) = some u) ∧ (Lit.int .i64 p.f0).wf = true ∧ (Lit.int .i64 p.f2).wf = true ∧ (Lit.int .i64 p.f3).wf = true := by
      intro i hi'
      obtain ⟨cs, hc, ht⟩ := hi i (by omega)
      rw [hC] at hc
      obtain ⟨ys, n', _, _, _, hyl, hfld⟩ := DataW.trod_struct Try.underlying129 ht
      obtain ⟨_, hcl, hat⟩ := World.cells?_some hc
      have hyl : ys.length = 4 := hyl
      match cs, hcl, hat, hfld with
      | [v0, v1, v2, v3], _, hat, hfld =>
      obtain ⟨y0, hy0⟩ : ∃ y, ys[0]? = some y := ⟨_, List.getElem?_eq_getElem (by omega)⟩
      have t0 : DataW.trod enc Try.prog W base spare held n' 3 (([v0, v1, v2, v3].drop 0).take (Try.prog.cellsOf 3)) = some y0 := (hfld 0 _ rfl).trans hy0
      rw [hC_int] at t0
      have c0 := hat 0 (by omega)
      rw [Go.Deep.add_add] at c0
      obtain ⟨y1, hy1⟩ : ∃ y, ys[1]? = some y := ⟨_, List.getElem?_eq_getElem (by omega)⟩
      have t1 : DataW.trod enc Try.prog W base spare held n' 4 (([v0, v1, v2, v3].drop 1).take (Try.prog.cellsOf 4)) = some y1 := (hfld 1 _ rfl).trans hy1
      rw [hC_bool] at t1
      have c1 := hat 1 (by omega)
      rw [Go.Deep.add_add] at c1
      obtain ⟨y2, hy2⟩ : ∃ y, ys[2]? = some y := ⟨_, List.getElem?_eq_getElem (by omega)⟩
      have t2 : DataW.trod enc Try.prog W base spare held n' 3 (([v0, v1, v2, v3].drop 2).take (Try.prog.cellsOf 3)) = some y2 := (hfld 2 _ rfl).trans hy2
      rw [hC_int] at t2
      have c2 := hat 2 (by omega)
      rw [Go.Deep.add_add] at c2
      obtain ⟨y3, hy3⟩ : ∃ y, ys[3]? = some y := ⟨_, List.getElem?_eq_getElem (by omega)⟩
      have t3 : DataW.trod enc Try.prog W base spare held n' 2 (([v0, v1, v2, v3].drop 3).take (Try.prog.cellsOf 2)) = some y3 := (hfld 3 _ rfl).trans hy3
      rw [hC_int64] at t3
      have c3 := hat 3 (by omega)
      rw [Go.Deep.add_add] at c3
      obtain ⟨n0, e0, _, w0⟩ := DataW.trod_int Try.underlying3 t0
      obtain rfl := (List.cons.inj e0).1
      obtain ⟨n1, e1, _⟩ := DataW.trod_bool Try.underlying4 t1
      obtain rfl := (List.cons.inj e1).1
      obtain ⟨n2, e2, _, w2⟩ := DataW.trod_int Try.underlying3 t2
      obtain rfl := (List.cons.inj e2).1
      obtain ⟨n3, e3, _, w3⟩ := DataW.trod_int Try.underlying2 t3
      obtain rfl := (List.cons.inj e3).1
      refine ⟨⟨n0, n1, n2, n3⟩, fun j u hu => ?_, ⟨w0, w2, w3⟩⟩
      match j, hu with
      | 0, hu => cases hu; exact c0
      | 1, hu => cases hu; exact c1
      | 2, hu => cases hu; exact c2
      | 3, hu => cases hu; exact c3
      | j + 4, hu => simp at hu
    obtain ⟨l, hl1, hl2⟩ := list_of len each
    have hmx : maxLen ≤ 9223372036854775807 := by decide
    subst hl1
    refine ⟨l, rfl, ⟨rfl, by omega, fun _ => ⟨x, rfl, fun j p hj => ⟨[.int .i64 p.f0, .bool p.f1, .int .i64 p.f2, .int .i64 p.f3], rfl, k129_mk _ _, (hl2 j p hj).1⟩⟩⟩, by omega, fun p hp => ?_, by omega⟩
    obtain ⟨j, hj⟩ := List.getElem?_of_mem hp
    exact (hl2 j p hj).2
set_option maxRecDepth 100000 in
theorem lifted (os : Os) (started : os.Started) (H : Type) (enc : TypeId × Value → H) :
    ReturnsInHanded {} Try.checked os 19 .any (Rows.linBeginsSpec.pre6 enc Try.prog Try.f19 Rows.linBeginsRow.domain false) (Rows.linBeginsSpec.post enc Try.prog Try.f19 false true false false) := by
  refine returnsInHanded_of_change_sized (C := Try.checked) own started (by kernel_rfl) Try.func19
    (ChangeSpec.witness6 (enc := enc) (C := Try.checked) false ⟨#[], #[.slice none 0 0, .int .i64 0, .slice none 0 0, .int .i64 0], []⟩ 8 (by kernel_rfl) (by kernel_rfl) (by kernel_rfl) (by kernel_rfl)) ?_
  intro W base args ds gs before hval0 hW hcnd hsz0 _
  have hsz : (DataW.weightsEach Try.prog (Try.f19.params.toList ++ Rows.linBeginsSpec.plain.varTypes Try.prog) (ds ++ gs)).all (· ≤ reachBytes) = true := hsz0
  have hval : ∀ (j : Nat) t v, Try.f19.params[j]? = some t → args[j]? = some v → Value.okWide Try.prog W .any base t v := hval0
  have hW' := hW
  obtain ⟨p, q, hA0, hV, rfl, hfz, hnd⟩ := hW
  have hA : DataW.TrodAll enc Try.prog W 0 (fun _ => true) true Try.f19.params.toList args.toList ds p := hA0
  rw [Try.params19] at hA hval hsz
  obtain ⟨v0, vs0, d0, ds0, p0, q0, hargs, rfl, rfl, h0, r0⟩ := trodAll_cons hA
  obtain ⟨v1, vs1, d1, ds1, p1, q1, rfl, rfl, rfl, h1, r1⟩ := trodAll_cons r0
  obtain ⟨v2, vs2, d2, ds2, p2, q2, rfl, rfl, rfl, h2, r2⟩ := trodAll_cons r1
  obtain ⟨v3, vs3, d3, ds3, p3, q3, rfl, rfl, rfl, h3, r3⟩ := trodAll_cons r2
  obtain ⟨rfl, rfl, rfl⟩ := trodAll_nil r3
  obtain rfl : args = #[v0, v1, v2, v3] := by cases args; simp_all
  obtain ⟨rfl, rfl⟩ := trodVars_none hV
  have k0 := h0
  have lt0 : ∀ x ∈ p0, x.block < W.heap.size := by obtain ⟨m, hm⟩ := k0; exact DataW.trod_lt m _ _ _ hm
  obtain ⟨a0, len0, cap0, rfl⟩ := okWide_slice Try.underlying22 (hval 0 22 v0 rfl rfl)
  obtain ⟨l0, rfl, hr0, hm0, hw0, hc0⟩ := open_ins h0
  obtain ⟨a1, rfl, rfl, rfl, w1⟩ := open_int Try.underlying3 (hval 1 3 v1 rfl rfl) h1
  have k2 := h2
  have lt2 : ∀ x ∈ p2, x.block < W.heap.size := by obtain ⟨m, hm⟩ := k2; exact DataW.trod_lt m _ _ _ hm
  obtain ⟨a2, len2, cap2, rfl⟩ := okWide_slice Try.underlying89 (hval 2 89 v2 rfl rfl)
  obtain ⟨l2, rfl, hr2, hm2, hw2, hc2⟩ := open_events h2
  obtain ⟨a3, rfl, rfl, rfl, w3⟩ := open_int Try.underlying3 (hval 3 3 v3 rfl rfl) h3
  clear hA0 hval0 hsz0 hsz
  refine (inquestlaw18_LinBegins.any a0 cap0 l0 a1 a2 cap2 l2 a3 W hr0 hc0 hm0 hw0 w1 hr2 hc2 hm2 hw2 w3).mono fun e W' ⟨he, bel⟩ => ?_
  subst he
  exact ⟨_, rfl, _, _, _, [], _, [], hW', trodAll_mk1 (shut_bool Try.underlying4 _), (trodAll_cons_mk (Below.trod laidOut (by kernel_rfl) (of_decide_eq_true (by kernel_rfl)) k0 bel lt0) (trodAll_cons_mk (shut_int Try.underlying3 w1) (trodAll_cons_mk (Below.trod laidOut (by kernel_rfl) (of_decide_eq_true (by kernel_rfl)) k2 bel lt2) (trodAll_cons_mk (shut_int Try.underlying3 w3) trodAll_mk0)))), rfl, bel.frame _, fun h => by cases h⟩
set_option maxRecDepth 100000 in
theorem over : Rows.linBeginsRow.holds Try.pinned (OpenSpec.ofChange Rows.linBeginsSpec) :=
  OpenClaim.holds_of_wide 19 Try.f19 rfl rfl rfl rfl rfl rfl rfl ⟨rfl, rfl, rfl, rfl, rfl⟩ rfl rfl rfl rfl rfl (by kernel_rfl) Try.func19 (by kernel_rfl)
    (of_decide_eq_true (by kernel_rfl)) (by unfold Func.isWrapper; first | (rw [if_pos (by decide +kernel)]; kernel_rfl) | (rw [if_neg (by decide +kernel)]; exact ⟨rfl, rfl⟩))
    (fun os started H enc _ => lifted os started H enc)
theorem proved : Rows.LinBeginsSaid := over
end Go.Proofs.Ytddkoimaghcbeaa.linBegins
namespace Go.Proofs.Ytddkoimaghcbeaa
/-- The row, under a short name, for the claim. -/
theorem linBegins_holds : Rows.LinBeginsSaid := linBegins.proved
end Go.Proofs.Ytddkoimaghcbeaa
