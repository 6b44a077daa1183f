-- Written by a program of this session (wip/bin/patch_print.py): a turned copy of the kit's printer. Not trusted: Lean checks it.
import Derived.Test.YtofhghpahmeolaaRows
import Derived.Test.YtofhghpahmeolaaPHistWholex2
import Derived.Test.YtofhghpahmeolaaPureHistWhole
import Derived.WalkKit
import Derived.ProofKit
import Derived.OpenShut
import Derived.ShutString
import Derived.ChangeOld
import Derived.Below
import Derived.SizedLaws
import Derived.Test.YtofhghpahmeolaaWSized
import Derived.Deep.Slices
import Derived.Deep.Fields
import Derived.ChangeSame
import Derived.ChangeArms
namespace Go.Proofs.Ytofhghpahmeolaa.histWhole
open Go.ChangeShapes Go.WideShapes Go.ChangeAt Go.RowKit
open Go.ChangeMaps (open_string shut_string)
set_option linter.unusedVariables false
theorem own : ownKnob Try.prog.godebug = none := by kernel_rfl
theorem laidOut : laidOutB Try.prog = true := by kernel_rfl
def IsRow (k : IntKind) (w : World) (a : Option Addr) (len cap : Nat) (zs : List Int) : Prop :=
  (a = none ∧ len = 0 ∧ cap = 0 ∧ zs = []) ∨
  ∃ x, a = some x ∧ len ≤ cap ∧ cap ≤ maxLen ∧ zs.length = cap ∧ (∀ i, i < zs.length → w.cell? (x.add i) = some (.int k (zs.getD i 0))) ∧ ∀ n ∈ zs, (Lit.int k n).wf = true
open Go.Proofs.Ytofhghpahmeolaa.PHistWhole Go.Proofs.YtofhghpahmeolaaW.PrintWords Go.Proofs.YtofhghpahmeolaaW.PrintLast Go.Proofs.YtofhghpahmeolaaW.PrintMore
theorem list_of {α : Type} {P : Nat → α → Prop} : ∀ n, (∀ i, i < n → ∃ p, P i p) → ∃ l : List α, l.length = n ∧ ∀ j p, l[j]? = some p → P j p
  | 0, _ => ⟨[], rfl, fun j p h => by simp at h⟩
  | n + 1, h => by
    obtain ⟨l, h1, h2⟩ := list_of n (fun i hi => h i (by omega))
    obtain ⟨q, hq⟩ := h n (by omega)
    refine ⟨l ++ [q], by simp [h1], fun j p hj => ?_⟩
    by_cases c : j < l.length
    · rw [List.getElem?_append_left c] at hj; exact h2 j p hj
    · rw [List.getElem?_append_right (by omega)] at hj
      by_cases d : j - l.length = 0
      · rw [d] at hj; have e : q = p := by simpa using hj
        subst e; rw [show j = n from by omega]; exact hq
      · have : ([q] : List α)[j - l.length]? = none := List.getElem?_eq_none (by simp; omega)
        rw [this] at hj; simp at hj
theorem open_t22 {H : Type} {enc : TypeId × Value → H} {W : World} {base : Nat} {spare : Nat → Bool} {held : Bool} {a : Option Addr} {len cap : Nat} {d : DataW H} {ps : List MemPlace} (h : DataW.Trod enc Try.prog W base spare held 22 (.slice a len cap) d ps) : ∃ l : List S44, len = l.length ∧ Kd.C k44 W a l.length l ∧ l.length ≤ maxLen ∧ (∀ x ∈ l, (Lit.int .i64 x.f0).wf = true ∧ (Lit.int .i64 x.f2).wf = true ∧ (Lit.int .i64 x.f3).wf = true) ∧ l.length ≤ cap := by
  obtain ⟨fuel, hf⟩ := h
  rcases Go.Deep.open_slice Try.underlying22 hf with ⟨hcs, _⟩ | ⟨x, l, c, m, nn, D, Pl, hcs, _, hl, hm, hmm, _, hi⟩
  · simp [Value.cells] at hcs
    obtain ⟨rfl, rfl, rfl⟩ := hcs
    exact ⟨[], rfl, Kd.C_nil _ _, by simp, by simp, by simp⟩
  · simp [Value.cells] at hcs
    obtain ⟨rfl, rfl, rfl⟩ := hcs
    have hlm : len ≤ m := by rw [hmm]; split <;> omega
    have hC : Try.prog.cellsOf 44 = 4 := by kernel_rfl
    have hC2 : Try.prog.cellsOf 2 = 1 := by kernel_rfl
    have hC3 : Try.prog.cellsOf 3 = 1 := by kernel_rfl
    have hC4 : Try.prog.cellsOf 4 = 1 := by kernel_rfl
    have each : ∀ i, i < len → ∃ p : S44, (∀ (j : Nat) (u : Value), ([.int .i64 p.f0, .bool p.f1, .int .i64 p.f2, .int .i64 p.f3] : List Value)[j]? = some u → W.cell? (x.add (i * 4 + j)) = some u) ∧ (Lit.int .i64 p.f0).wf = true ∧ (Lit.int .i64 p.f2).wf = true ∧ (Lit.int .i64 p.f3).wf = true := by
      intro i hi'
      obtain ⟨cs, hc, ht⟩ := hi i (by omega)
      rw [hC] at hc
      obtain ⟨ys, n', _, _, _, hyl, hfld⟩ := DataW.trod_struct Try.underlying44 ht
      obtain ⟨_, hcl, hat⟩ := World.cells?_some hc
      have hyl : ys.length = 4 := hyl
      match cs, hcl, hat, hfld with
      | [v0, v1, v2, v3], _, hat, hfld =>
      obtain ⟨y0, hy0⟩ : ∃ y, ys[0]? = some y := ⟨_, List.getElem?_eq_getElem (by omega)⟩
      have t0 : DataW.trod enc Try.prog W base spare held n' 3 (([v0, v1, v2, v3].drop 0).take (Try.prog.cellsOf 3)) = some y0 := (hfld 0 _ rfl).trans hy0
      rw [hC3] at t0
      have c0 := hat 0 (by omega)
      rw [Go.Deep.add_add] at c0
      obtain ⟨y1, hy1⟩ : ∃ y, ys[1]? = some y := ⟨_, List.getElem?_eq_getElem (by omega)⟩
      have t1 : DataW.trod enc Try.prog W base spare held n' 4 (([v0, v1, v2, v3].drop 1).take (Try.prog.cellsOf 4)) = some y1 := (hfld 1 _ rfl).trans hy1
      rw [hC4] at t1
      have c1 := hat 1 (by omega)
      rw [Go.Deep.add_add] at c1
      obtain ⟨y2, hy2⟩ : ∃ y, ys[2]? = some y := ⟨_, List.getElem?_eq_getElem (by omega)⟩
      have t2 : DataW.trod enc Try.prog W base spare held n' 3 (([v0, v1, v2, v3].drop 2).take (Try.prog.cellsOf 3)) = some y2 := (hfld 2 _ rfl).trans hy2
      rw [hC3] at t2
      have c2 := hat 2 (by omega)
      rw [Go.Deep.add_add] at c2
      obtain ⟨y3, hy3⟩ : ∃ y, ys[3]? = some y := ⟨_, List.getElem?_eq_getElem (by omega)⟩
      have t3 : DataW.trod enc Try.prog W base spare held n' 2 (([v0, v1, v2, v3].drop 3).take (Try.prog.cellsOf 2)) = some y3 := (hfld 3 _ rfl).trans hy3
      rw [hC2] at t3
      have c3 := hat 3 (by omega)
      rw [Go.Deep.add_add] at c3
      obtain ⟨n0, e0, _, w0⟩ := DataW.trod_int Try.underlying3 t0
      obtain rfl := (List.cons.inj e0).1
      obtain ⟨n1, e1, _⟩ := DataW.trod_bool Try.underlying4 t1
      obtain rfl := (List.cons.inj e1).1
      obtain ⟨n2, e2, _, w2⟩ := DataW.trod_int Try.underlying3 t2
      obtain rfl := (List.cons.inj e2).1
      obtain ⟨n3, e3, _, w3⟩ := DataW.trod_int Try.underlying2 t3
      obtain rfl := (List.cons.inj e3).1
      refine ⟨⟨n0, n1, n2, n3⟩, fun j u hu => ?_, ⟨w0, w2, w3⟩⟩
      match j, hu with
      | 0, hu => cases hu; exact c0
      | 1, hu => cases hu; exact c1
      | 2, hu => cases hu; exact c2
      | 3, hu => cases hu; exact c3
      | j + 4, hu => simp at hu
    obtain ⟨l, hl1, hl2⟩ := list_of len each
    have hmx : maxLen ≤ 9223372036854775807 := by decide
    subst hl1
    refine ⟨l, rfl, ⟨rfl, by omega, fun _ => ⟨x, rfl, fun j p hj => ⟨[.int .i64 p.f0, .bool p.f1, .int .i64 p.f2, .int .i64 p.f3], rfl, k44_mk _ _, (hl2 j p hj).1⟩⟩⟩, by omega, fun p hp => ?_, by omega⟩
    obtain ⟨j, hj⟩ := List.getElem?_of_mem hp
    exact (hl2 j p hj).2
set_option maxRecDepth 100000 in
theorem lifted (os : Os) (started : os.Started) (H : Type) (enc : TypeId × Value → H) :
    ReturnsInHanded {} Try.checked os 6 .any (Rows.histWholeSpec.pre6 enc Try.prog Try.f6 Rows.histWholeRow.domain false) (Rows.histWholeSpec.post enc Try.prog Try.f6 false true false false) := by
  refine returnsInHanded_of_change_sized (C := Try.checked) own started (by kernel_rfl) Try.func6
    (ChangeSpec.witness6 (enc := enc) (C := Try.checked) false ⟨#[], #[.slice none 0 0], []⟩ 8 (by kernel_rfl) (by kernel_rfl) (by kernel_rfl) (by kernel_rfl)) ?_
  intro W base args ds gs before hval0 hW hcnd hsz0 _
  have hsz : (DataW.weightsEach Try.prog (Try.f6.params.toList ++ Rows.histWholeSpec.plain.varTypes Try.prog) (ds ++ gs)).all (· ≤ reachBytes) = true := hsz0
  have hval : ∀ (j : Nat) t v, Try.f6.params[j]? = some t → args[j]? = some v → Value.okWide Try.prog W .any base t v := hval0
  have hW' := hW
  obtain ⟨p, q, hA0, hV, rfl, hfz, hnd⟩ := hW
  have hA : DataW.TrodAll enc Try.prog W 0 (fun _ => true) true Try.f6.params.toList args.toList ds p := hA0
  rw [Try.params6] at hA hval hsz
  obtain ⟨v0, vs0, d0, ds0, p0, q0, hargs, rfl, rfl, h0, r0⟩ := trodAll_cons hA
  obtain ⟨rfl, rfl, rfl⟩ := trodAll_nil r0
  obtain rfl : args = #[v0] := by cases args; simp_all
  obtain ⟨rfl, rfl⟩ := trodVars_none hV
  obtain ⟨a0, len0, cap0, rfl⟩ := okWide_slice Try.underlying22 (hval 0 22 v0 rfl rfl)
  have k0 := h0
  have lt0 : ∀ x ∈ p0, x.block < W.heap.size := by obtain ⟨m, hm⟩ := k0; exact DataW.trod_lt m _ _ _ hm
  obtain ⟨l0, rfl, hr0, hm0, hw0, hc0⟩ := open_t22 h0
  clear hA0 hval0 hsz0 hsz
  refine (PHistWhole.inquestlaw14_HistWhole.walk Pure.HistWhole a0 cap0 l0 W hr0 hc0 hm0 hw0).mono fun e W' ⟨he, bel⟩ => ?_
  subst he
  exact ⟨_, rfl, _, _, _, [], _, [], hW', trodAll_mk1 (shut_bool Try.underlying4 _), (trodAll_cons_mk (Below.trod laidOut (by kernel_rfl) (of_decide_eq_true (by kernel_rfl)) k0 bel lt0) trodAll_mk0), rfl, bel.frame _, fun h => by cases h⟩
theorem over : Rows.histWholeRow.holds Try.pinned (OpenSpec.ofChange Rows.histWholeSpec) :=
  OpenClaim.holds_of_wide 6 Try.f6 rfl rfl rfl rfl rfl rfl rfl ⟨rfl, rfl, rfl, rfl, rfl⟩ rfl rfl rfl rfl rfl (by kernel_rfl) Try.func6 (by kernel_rfl)
    (of_decide_eq_true (by kernel_rfl)) (by unfold Func.isWrapper; first | (rw [if_pos (by decide +kernel)]; kernel_rfl) | (rw [if_neg (by decide +kernel)]; exact ⟨rfl, rfl⟩))
    (fun os started H enc _ => lifted os started H enc)
theorem proved : Rows.HistWholeSaid := over
#print axioms proved
end Go.Proofs.Ytofhghpahmeolaa.histWhole
namespace Go.Proofs.Ytofhghpahmeolaa
/-- The row, under a short name, for the claim. -/
theorem histWhole_holds : Rows.HistWholeSaid := histWhole.proved
end Go.Proofs.Ytofhghpahmeolaa
