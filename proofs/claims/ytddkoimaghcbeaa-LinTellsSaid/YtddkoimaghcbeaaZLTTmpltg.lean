/- A part of what the law LinTells stands on, only as far as it is needed (the words and walks were printed or written in this seat; this text was cut by a program of this session, wip/bin/trim.py). No condition beyond what each theorem says. -/
import Derived.Test.YtddkoimaghcbeaaZLTPVmStepsx0
import Derived.Test.YtddkoimaghcbeaaZLTPVmStepsx2
import Derived.Test.YtddkoimaghcbeaaZLTPVmStepsx3
import Derived.Test.YtddkoimaghcbeaaZLTPVmStepsx4
import Derived.Test.YtddkoimaghcbeaaZLTPVmStepsx5
import Derived.Test.YtddkoimaghcbeaaZLTPVmStepsx6
import Derived.Test.YtddkoimaghcbeaaZLTTmpltf
import Derived.Test.YtddkoimaghcbeaaZLTTmplbs
namespace Go.Proofs.Ytddkoimaghcbeaa.PVmSteps
open Go.RowKit Go.Proofs.YtddkoimaghcbeaaW.PrintWords Go.Proofs.YtddkoimaghcbeaaW.PrintLast Go.Proofs.YtddkoimaghcbeaaW.PrintMore
set_option linter.unusedVariables false
set_option linter.unusedSimpArgs false
def cutW (W : World) (n : Nat) : World := { W with heap := W.heap.extract 0 n }
theorem cut_get (W : World) {n k : Nat} (hk : k < n) : (cutW W n).heap[k]? = W.heap[k]? := by
  show (W.heap.extract 0 n)[k]? = _
  rw [Array.getElem?_extract]
  simp only [Nat.zero_add, Nat.sub_zero]
  by_cases c : k < W.heap.size
  · rw [if_pos (by omega)]
  · rw [if_neg (by omega), Array.getElem?_eq_none (by omega)]
theorem cut_size {W : World} {n : Nat} (h : n ≤ W.heap.size) : (cutW W n).heap.size = n := by
  show (W.heap.extract 0 n).size = n
  rw [Array.size_extract]; omega
theorem cut_below {W : World} {n : Nat} (h : n ≤ W.heap.size) : Below (cutW W n).heap.size (cutW W n) W := ⟨rfl, rfl, rfl, by rw [cut_size h]; exact h, fun i hi => (cut_get W (by rw [cut_size h] at hi; exact hi)).symm⟩
theorem cut_of {w W : World} {n : Nat} (h : n ≤ W.heap.size) (hw : w.heap.size ≤ n) (hb : Below w.heap.size w W) : Below w.heap.size w (cutW W n) := ⟨hb.os, hb.tape, hb.output, by rw [cut_size h]; exact hw, fun i hi => (cut_get W (by omega)).trans (hb.block i hi)⟩
theorem VmM.keepL {base : Nat} {W W' : World} {g : Nat} {L : List S36} {v : Value} (h : VmM base W g L v) (hm : ∀ k, base ≤ k → k < W.heap.size → W'.heap[k]? = W.heap[k]?) : VmM base W' g L v :=
  ⟨(hm g h.hg (blk_lt h.hk)).trans h.hk, Kd.R_mono (Kd.R_step (Kd.R_mono (Kd.R_bound h.hR) (fun k hk => hk.2.1)) hm) (fun _ _ => trivial), h.hg⟩
theorem Kd.R_keepB' {α : Type} {d : Kd α} {e base : Nat} {W W' : World} {v : Value} {xs : List α} (h : d.R e W base (fun _ => True) v xs) (hm : ∀ k, base ≤ k → k < W.heap.size → W'.heap[k]? = W.heap[k]?) : d.R e W' base (fun _ => True) v xs :=
  Kd.R_mono (Kd.R_step (Kd.R_mono (Kd.R_bound h) (fun k hk => hk.2.1)) hm) (fun _ _ => trivial)
theorem row_keepL {α : Type} {d : Kd α} {e base : Nat} {W W' : World} {A : Option Addr} {n c : Nat} {xs : List α} (h : d.R e W base (fun _ => True) (.slice A n c) xs) (hm : ∀ k, k < W.heap.size → W'.heap[k]? = W.heap[k]?) : d.C W' A xs.length xs :=
  (Kd.R_reads' (Kd.R_step (Kd.R_mono (Kd.R_bound h) (fun k hk => hk.2.2.1)) (fun k hk _ => hm k hk))).2.2
theorem LinT.keep {w0 W W' : World} {q : LinQ} {g : Nat} {st : LinS} (h : LinT w0 W q g st) (hs : W.heap.size ≤ W'.heap.size) (hm : ∀ k, w0.heap.size ≤ k → k < W.heap.size → W'.heap[k]? = W.heap[k]?) : LinT (cutW W' w0.heap.size) W' q g st := by
  have hsz := cut_size (W := W') (n := w0.heap.size) (Nat.le_trans h.below.size hs)
  obtain ⟨gm, bm, vM, vO, vA, vL, vR, h⟩ := h
  refine ⟨gm, bm, vM, vO, vA, vL, vR, ⟨cut_below (Nat.le_trans h.hB.size hs), by rw [hsz]; exact h.bg, (hm g h.bg (blk_lt h.hk)).trans h.hk, by rw [hsz]; exact VmM.keepL h.hM hm, by rw [hsz]; exact Kd.R_keepB' h.hO hm, by rw [hsz]; exact Kd.R_keepB' h.hA hm, by rw [hsz]; exact h.bb, h.hS.same (hm bm h.bb h.hS.lt), by rw [hsz]; exact Kd.R_keepB' h.hL hm, by rw [hsz]; exact Kd.R_keepB' h.hR hm⟩⟩
structure TelC (WX : World) (kd td : Int) (od : List Int) (b : Nat → Bool) (us : Nat → Value) (W : World) : Prop where
  hB : Below WX.heap.size WX W
  v : b 14 = true → ∃ A c, us 14 = .agg #[.int .i64 kd, .slice A od.length c, .int .i64 td] ∧ od.length ≤ c ∧ Kd.C (Kd.int .i64) W A od.length od
theorem TelC.start (WX : World) (kd td : Int) (od : List Int) (us : Nat → Value) : TelC WX kd td od (fun _ => false) us WX.drew := ⟨below_drew (Below.refl _ _), fun h => by cases h⟩
theorem TelC.off {WX W : World} {kd td : Int} {od : List Int} {b : Nat → Bool} {us : Nat → Value} {k : Nat} (h : TelC WX kd td od b us W) (hk : 14 ≠ k) : TelC WX kd td od (up b k) us W := ⟨h.hB, fun e => h.v (by rwa [up_off hk] at e)⟩
theorem TelC.came {WX W W' : World} {kd td : Int} {od : List Int} {b : Nat → Bool} {us : Nat → Value} (h : TelC WX kd td od b us W) (hb : Below W.heap.size W W') : TelC WX kd td od b us W' := ⟨below_step h.hB hb, fun e => by
  obtain ⟨A, c, h1, h2, h3⟩ := h.v e
  exact ⟨A, c, h1, h2, Kd.C_below h3 hb⟩⟩
theorem TelC.put {WX W W' : World} {kd td : Int} {od : List Int} {b : Nat → Bool} {us : Nat → Value} (h : TelC WX kd td od b us W) (hb : Below W.heap.size W W') {A : Option Addr} {c : Nat} (hc : od.length ≤ c) (hC : Kd.C (Kd.int .i64) W' A od.length od) : TelC WX kd td od (up b 14) (usUp us 14 (.agg #[.int .i64 kd, .slice A od.length c, .int .i64 td])) W' := ⟨below_step h.hB hb, fun _ => ⟨A, c, by simp [usUp], hc, hC⟩⟩
theorem op_bld0 (w : World) : (Instr.build 65 #[]).run Try.prog w = .ok (.agg #[.int .i64 0, .int .i64 0, .int .i64 0, .bool false, .int .i64 0, .int .i64 0, .int .i64 0]) w := by kernel_rfl
theorem op_blk {W : World} {base n c : Nat} {ok : Nat → Prop} {A : Option Addr} {xs : List S65} (h : Kd.R k65 65 W base ok (.slice A n c) xs) : ∃ gG, base ≤ gG ∧ (0 < n → A = some ⟨gG, 0, none⟩ ∧ ∃ cur, W.heap[gG]? = some (.cells cur 65 (0, 0)) ∧ 7 * n ≤ cur.size) := by
  have hn := (Kd.R_reads' h).1
  obtain ⟨inner, h1, h2⟩ := Kd.R_own h
  rcases h2 with ⟨_, h0⟩ | ⟨g, cap, cur, e, hg, hk, hn2, hm, hs, _⟩
  · exact ⟨base, Nat.le_refl _, fun h => by omega⟩
  · injection e with e1 e2 e3
    refine ⟨g, hg, fun _ => ⟨e1, cur, hk, ?_⟩⟩
    rw [hs]
    have e : k65.sz = 7 := rfl
    rw [e]; omega
set_option maxRecDepth 100000 in
set_option maxHeartbeats 16000000 in
theorem inquestlaw18_LinTells.any (A : Option Addr) (cap : Nat) (l : List S36) (fuel budget : Int) (A2 : Option Addr) (c2 : Nat) (ops0 : List S65) (w : World) (hr : Kd.C k36 w A l.length l) (hc : l.length ≤ cap) (hm : l.length ≤ maxLen) (hw : ∀ x ∈ l, (Lit.int .i64 x.f0).wf = true ∧ (Lit.int .i64 x.f1).wf = true) {P1 : Prop} (_ : P1) {P2 : Prop} (_ : P2) (hr2 : Kd.C k65 w A2 ops0.length ops0) (hc2 : ops0.length ≤ c2) {P3 : Prop} (_ : P3) (hw2 : ∀ x ∈ ops0, (Lit.int .i64 x.f0).wf = true ∧ (Lit.int .i64 x.f1).wf = true ∧ (Lit.int .i64 x.f2).wf = true ∧ (Lit.int .i64 x.f4).wf = true ∧ (Lit.int .i64 x.f5).wf = true ∧ (Lit.int .i64 x.f6).wf = true) :
    Calls Try.prog 14 #[.slice A l.length cap, .int .i64 fuel, .int .i64 budget, .slice A2 ops0.length c2] w fun e w' => e = .returned (.bool true) ∧ Below w.heap.size w w' := by
  have hF := Aside0.mk (few15 l hm)
  have hF2 := Aside0.mk (few17 ops0 70 (by decide) (by decide))
  have hL2 : (l.take 210).length ≤ 210 := by rw [List.length_take]; omega
  have hP2 : (ops0.take (70 : Int).toNat).length ≤ 70 := by rw [List.length_take]; exact Nat.min_le_left _ _
  have hco := rd_in (l.take 210) (fun x hx => hw x (List.mem_of_mem_take hx))
  have hop := op_in (ops0.take (70 : Int).toNat) (fun x hx => hw2 x (List.mem_of_mem_take hx))
  clear hw hw2
  generalize l.take 210 = L at *
  generalize ops0.take (70 : Int).toNat = ops at *
  have hFb : Aside0 (inquestref15_Few.f L = some L) := ⟨by have h := few15 L (by unfold maxLen; omega); rwa [List.take_of_length_le hL2] at h⟩
  have hF2b : Aside0 (inquestref17_Few.f ops 70 = some ops) := ⟨by have h := few17 ops 70 (by decide) (by decide); rwa [List.take_of_length_le (show ops.length ≤ (70 : Int).toNat from hP2)] at h⟩
  have hL3 : Aside0 (L.length ≤ 300) := ⟨by omega⟩
  have hP3 := Aside0.mk hP2
  obtain ⟨ks, hks⟩ := Ev.rounds (same15_t L L (by omega) rfl)
  obtain ⟨ka, hka⟩ := alike_ex ops (by omega)
  replace hks := Aside0.mk hks
  replace hka := Aside0.mk hka
  replace hr := Aside0.mk hr
  replace hr2 := Aside0.mk hr2
  clear hL2 hP2 hm
  have hthree : ∀ x lo hi : Int, ∃ f : Int, (decide (lo < x) = false ∧ f = x) ∨ (decide (lo < x) = true ∧ decide (x ≤ hi) = false ∧ f = x) ∨ (decide (lo < x) = true ∧ decide (x ≤ hi) = true ∧ f = lo) := fun x lo hi => by
    by_cases h1 : lo < x
    · by_cases h2 : x ≤ hi
      · exact ⟨lo, .inr (.inr ⟨decide_eq_true h1, decide_eq_true h2, rfl⟩)⟩
      · exact ⟨x, .inr (.inl ⟨decide_eq_true h1, decide_eq_false h2, rfl⟩)⟩
    · exact ⟨x, .inl ⟨decide_eq_false h1, rfl⟩⟩
  obtain ⟨f, hF3⟩ := hthree fuel 300 10000
  obtain ⟨b, hB3⟩ := hthree budget 400 1073741824
  clear hthree
  have hchk0 : ∀ (A0 A3 : Option Addr) (c0 c3 : Nat) (W : World), Kd.C k36 W A0 L.length L → L.length ≤ c0 → Kd.C k65 W A3 ops.length ops → Calls Try.prog 40 #[.slice A0 L.length c0, .int .i64 f, .int .i64 b, .slice A3 ops.length c3] W fun e w' => e = .returned (.int .i64 (newE L f b ops)) ∧ Below W.heap.size W w' := fun A0 A3 c0 c3 W h1 h2 h3 => r18_Check A0 A3 c0 c3 L f b ops W h1 h2 hL3.out h3
  obtain ⟨E, hE⟩ : ∃ E, E = newE L f b ops := ⟨_, rfl⟩
  rw [← hE] at hchk0
  replace hchk := Aside0.mk hchk0
  clear hchk0
  by_cases hE0 : E = 0
  rotate_left
  · have hnew : Aside0 (∀ (A0 A3 : Option Addr) (c0 c3 : Nat) (W : World), Kd.C k36 W A0 L.length L → L.length ≤ c0 → Kd.C k65 W A3 ops.length ops → ops.length ≤ c3 → Calls Try.prog 39 #[.slice A0 L.length c0, .int .i64 f, .int .i64 b, .slice A3 ops.length c3] W fun e w' => e = .returned (.tuple #[.pointer none, .int .i64 E]) ∧ Below W.heap.size W w') := ⟨fun A0 A3 c0 c3 W h1 h2 h3 h4 => by rw [hE]; exact lin_New_n A0 A3 c0 c3 L f b ops W h1 h2 hL3.out h3 h4 (by rw [← hE]; exact hE0)⟩
    have hEb : (E != 0) = true := by simpa using hE0
    clear hE hE0 hco hop
    rcases hF3 with ⟨f1, hfe⟩ | ⟨f1, f2, hfe⟩ | ⟨f1, f2, hfe⟩ <;> rcases hB3 with ⟨b1, hbe⟩ | ⟨b1, b2, hbe⟩ | ⟨b1, b2, hbe⟩
    all_goals
      replace hfe := Aside0.mk hfe
      replace hbe := Aside0.mk hbe
      go_enter Try.func14, Try.ntmps14
      go_upto_region 6 with (first | (go_at_call 22; (with_reducible refine (inquestref15_Few.calls A cap l L _ hr.out hc hF.out).mono ?_); rintro e W1 ⟨vF, rfl, hRF, hB1⟩; obtain ⟨AF, cF, rfl⟩ := Kd.R_slice hRF; obtain ⟨_, hcF, hCF⟩ := Kd.R_reads' hRF; replace hCF := Aside0.mk hCF; replace hB1 := Aside0.mk hB1; replace hcF := Aside0.mk hcF; replace hRF := Aside0.mk hRF) | (go_at_call 31; (with_reducible refine (inquestref17_Few.calls A2 c2 ops0 70 ops _ (Kd.C_below hr2.out hB1.out) hc2 hF2.out).mono ?_); rintro e W2 ⟨vG, rfl, hRG, hB2⟩; obtain ⟨AG, cG, rfl⟩ := Kd.R_slice hRG; obtain ⟨_, hcG, hCG⟩ := Kd.R_reads' hRG; have hCF2_ := Aside0.mk (Kd.C_below hCF.out hB2); replace hCG := Aside0.mk hCG; have hB02 := Aside0.mk (below_step hB1.out hB2); replace hB2 := Aside0.mk hB2; replace hcG := Aside0.mk hcG; replace hRG := Aside0.mk hRG))
      rw [← hfe.out]
      rw [← hbe.out]
      go_wp2_with (first | (go_at_call 22; (with_reducible refine (inquestref15_Few.calls AF cF L L _ (Kd.C_below hCF2_.out (by repeat (first | exact Below.refl _ _ | apply pw_below_drewN))) hcF.out hFb.out).mono ?_); rintro e W4 ⟨vF2, rfl, hRF2, hB4⟩; replace hB4 : Below W2.heap.size W2 W4 := below_step (by repeat (first | exact Below.refl _ _ | apply pw_below_drewN)) hB4; obtain ⟨BF, dF, rfl⟩ := Kd.R_slice hRF2; obtain ⟨_, hdF, hCF2⟩ := Kd.R_reads' hRF2; replace hCF2 := Aside0.mk hCF2; replace hB4 := Aside0.mk hB4; replace hdF := Aside0.mk hdF; clear hRF2) | (go_at_call 31; (with_reducible refine (inquestref17_Few.calls AG cG ops 70 ops _ (Kd.C_below hCG.out hB4.out) hcG.out hF2b.out).mono ?_); rintro e W5 ⟨vG2, rfl, hRG2, hB5⟩; obtain ⟨BG, dG, rfl⟩ := Kd.R_slice hRG2; obtain ⟨_, hdG, hCG2⟩ := Kd.R_reads' hRG2; have hB05 := Aside0.mk (below_step (below_step hB02.out hB4.out) hB5); have k1 := Aside0.mk (Kd.C_below (Kd.C_below hCF2_.out hB4.out) hB5); have k2 := Aside0.mk (Kd.C_below (Kd.C_below hCG.out hB4.out) hB5); have k4 := Aside0.mk (Kd.C_below hCF2.out hB5); replace hCG2 := Aside0.mk hCG2; replace hB5 := Aside0.mk hB5; replace hdG := Aside0.mk hdG; replace hRG2 := Aside0.mk hRG2) | (go_at_call 39; (with_reducible refine (hnew.out BF BG dF dG _ (Kd.C_below k4.out (by repeat (first | exact Below.refl _ _ | apply pw_below_drewN))) hdF.out (Kd.C_below hCG2.out (by repeat (first | exact Below.refl _ _ | apply pw_below_drewN))) hdG.out).mono ?_); rintro e W6 ⟨rfl, hB6⟩; replace hB6 : Below W5.heap.size W5 W6 := below_step (by repeat (first | exact Below.refl _ _ | apply pw_below_drewN)) hB6; replace hB6 := Aside0.mk hB6) | (go_at_call 40; (with_reducible refine (hchk.out AF AG cF cG _ (Kd.C_below (Kd.C_below k1.out hB6.out) (by repeat (first | exact Below.refl _ _ | apply pw_below_drewN))) hcF.out (Kd.C_below (Kd.C_below k2.out hB6.out) (by repeat (first | exact Below.refl _ _ | apply pw_below_drewN)))).mono ?_); rintro e W7 ⟨rfl, hB7⟩; replace hB7 : Below W6.heap.size W6 W7 := below_step (by repeat (first | exact Below.refl _ _ | apply pw_below_drewN)) hB7; replace hB7 := Aside0.mk hB7) | (go_at_call 25; (with_reducible refine (inquestref15_Same.calls ks BF dF L AF cF L true _ (Kd.C_below (Kd.C_below (Kd.C_below k4.out hB6.out) hB7.out) (by repeat (first | exact Below.refl _ _ | apply pw_below_drewN))) hdF.out (Kd.C_below (Kd.C_below (Kd.C_below k1.out hB6.out) hB7.out) (by repeat (first | exact Below.refl _ _ | apply pw_below_drewN))) hcF.out hks.out).mono ?_); rintro e WS ⟨rfl, ⟨n1, rfl⟩⟩) | (go_at_call 35; (with_reducible refine (inquestref14_Alike.calls ka BG dG ops AG cG ops true _ (Kd.C_below (Kd.C_below (Kd.C_below hCG2.out hB6.out) hB7.out) (by repeat (first | exact Below.refl _ _ | apply pw_below_drewN))) hdG.out (Kd.C_below (Kd.C_below (Kd.C_below k2.out hB6.out) hB7.out) (by repeat (first | exact Below.refl _ _ | apply pw_below_drewN))) hcG.out hka.out).mono ?_); rintro e WT ⟨rfl, ⟨n2, rfl⟩⟩) | (go_at_call 41; (with_reducible refine (lin_lives _).mono ?_); rintro e WZ ⟨rfl, hBZ⟩; replace hBZ : Below W7.heap.size W7 WZ := below_step (by repeat (first | exact Below.refl _ _ | apply pw_below_drewN)) hBZ; replace hBZ := Aside0.mk hBZ))
      go_ret
      exact ⟨rfl, below_step (below_step (below_step hB05.out hB6.out) hB7.out) hBZ.out⟩
  subst hE0
  have hE1 := hE.symm
  have hE2 := newE_0 hE1
  obtain ⟨S, hSe⟩ : ∃ S, S = fullZ ⟨L, f, b, ops⟩ := ⟨_, rfl⟩
  have hov := fullZ_over hE1
  have hWS := newE_W hE1
  have hWF := fullZ_W hE1
  rw [← hSe] at hov hWF
  have hgoS : goZ ⟨L, f, b, ops⟩ 2147483648 (newZ ⟨L, f, b, ops⟩) = S := hSe.symm
  obtain ⟨od, hod⟩ : ∃ od, od = (if S.kind = 1 then S.order else []) := ⟨_, rfl⟩
  obtain ⟨kd, hkd⟩ : ∃ k, k = S.kind := ⟨_, rfl⟩
  obtain ⟨td, htd⟩ : ∃ t : Int, t = (S.tries : Int) := ⟨_, rfl⟩
  have hol : S.order.length ≤ 1073741824 := by
    have y1 := hWF.ol
    have y2 : (S.tries : Int) ≤ b := hWF.tb
    have := hE2.2.1.2.2.2
    omega
  have hodl : Aside0 (od.length ≤ 1073741825) := ⟨by rw [hod]; split; exact Nat.le_succ_of_le hol; exact Nat.zero_le _⟩
  have hnew : Aside0 (∀ (A0 A3 : Option Addr) (c0 c3 : Nat) (W : World), Kd.C k36 W A0 L.length L → L.length ≤ c0 → Kd.C k65 W A3 ops.length ops → ops.length ≤ c3 → Calls Try.prog 39 #[.slice A0 L.length c0, .int .i64 f, .int .i64 b, .slice A3 ops.length c3] W fun e w' => ∃ g, e = .returned (.tuple #[.pointer (some ⟨g, 0, none⟩), .int .i64 0]) ∧ LinT W w' ⟨L, f, b, ops⟩ g (newZ ⟨L, f, b, ops⟩)) := ⟨fun A0 A3 c0 c3 W h1 h2 h3 h4 => lin_New_y A0 A3 c0 c3 L f b ops W h1 h2 hL3.out h3 h4 hE1⟩
  have hgo : Aside0 (∀ (w0 W : World) (g : Nat), LinT w0 W ⟨L, f, b, ops⟩ g (newZ ⟨L, f, b, ops⟩) → Calls Try.prog 42 #[.pointer (some ⟨g, 0, none⟩), .int .i64 2147483648] W fun e w' => e = .returned (.bool true) ∧ LinT w0 w' ⟨L, f, b, ops⟩ g S) := ⟨fun w0 W g hT => by
    have y := lin_Go hT hWS hE2.1 (by show f ≤ _; have := hE2.2.1; omega) 2147483648 (by decide) (by decide)
    rw [show (2147483648 : Int).toNat = 2147483648 from rfl, hgoS, hov] at y
    exact y⟩
  have hver : Aside0 (∀ (w0 W : World) (g : Nat), LinT w0 W ⟨L, f, b, ops⟩ g S → Calls Try.prog 43 #[.pointer (some ⟨g, 0, none⟩)] W fun e w' => ∃ v, e = .returned (.tuple #[.agg #[.int .i64 kd, v, .int .i64 td], .bool true]) ∧ Kd.R (Kd.int .i64) 3 w' W.heap.size (fun _ => True) v od ∧ Below W.heap.size W w') := ⟨fun w0 W g hT => by
    have y := lin_Verdict hT hol
    rw [if_pos hov, if_pos hov, hov] at y
    have e1 : (if true = true ∧ S.kind = 1 then S.order else []) = od := by rw [hod]; simp
    rw [e1, ← hkd, ← htd] at y
    exact y⟩
  have hovr : Aside0 (∀ (w0 W : World) (g : Nat), LinT w0 W ⟨L, f, b, ops⟩ g S → Calls Try.prog 44 #[.pointer (some ⟨g, 0, none⟩)] W fun e w' => e = .returned (.bool true) ∧ Below W.heap.size W w') := ⟨fun w0 W g hT => by
    have y := lin_Over hT
    rw [hov] at y
    exact y⟩
  have htri : Aside0 (∀ (w0 W : World) (g : Nat), LinT w0 W ⟨L, f, b, ops⟩ g S → Calls Try.prog 47 #[.pointer (some ⟨g, 0, none⟩)] W fun e w' => e = .returned (.int .i64 td) ∧ Below W.heap.size W w') := ⟨fun w0 W g hT => by
    have y := lin_Tries hT
    rw [← htd] at y
    exact y⟩
  have hrv : Aside0 (∀ (A0 A3 : Option Addr) (c0 c3 : Nat) (W : World), Kd.C k36 W A0 L.length L → L.length ≤ c0 → Kd.C k65 W A3 ops.length ops → Calls Try.prog 46 #[.slice A0 L.length c0, .int .i64 f, .int .i64 b, .slice A3 ops.length c3] W fun e w' => ∃ v, e = .returned (.agg #[.int .i64 kd, v, .int .i64 td]) ∧ Kd.R (Kd.int .i64) 3 w' W.heap.size (fun _ => True) v od ∧ Below W.heap.size W w') := ⟨fun A0 A3 c0 c3 W h1 h2 h3 => by
    have y := r18_Verdict A0 A3 c0 c3 L f b ops W h1 h2 hL3.out h3 hE1 hco hop
    obtain ⟨a1, a2, a3⟩ := rVer_is hE1
    rw [← a1, ← a2, ← a3, ← hSe, ← hod, ← hkd, ← htd] at y
    exact y⟩
  have hbld0 := op_bld0
  clear hE hE1 hE2 hSe hov hWS hWF hgoS hod hkd htd hol hco hop
  rcases hF3 with ⟨f1, hfe⟩ | ⟨f1, f2, hfe⟩ | ⟨f1, f2, hfe⟩ <;> rcases hB3 with ⟨b1, hbe⟩ | ⟨b1, b2, hbe⟩ | ⟨b1, b2, hbe⟩
  all_goals
    replace hfe := Aside0.mk hfe
    replace hbe := Aside0.mk hbe
    go_enter Try.func14, Try.ntmps14
    go_upto_region 6 with (first | (go_at_call 22; (with_reducible refine (inquestref15_Few.calls A cap l L _ hr.out hc hF.out).mono ?_); rintro e W1 ⟨vF, rfl, hRF, hB1⟩; obtain ⟨AF, cF, rfl⟩ := Kd.R_slice hRF; obtain ⟨_, hcF, hCF⟩ := Kd.R_reads' hRF; replace hCF := Aside0.mk hCF; replace hB1 := Aside0.mk hB1; replace hcF := Aside0.mk hcF; replace hRF := Aside0.mk hRF) | (go_at_call 31; (with_reducible refine (inquestref17_Few.calls A2 c2 ops0 70 ops _ (Kd.C_below hr2.out hB1.out) hc2 hF2.out).mono ?_); rintro e W2 ⟨vG, rfl, hRG, hB2⟩; obtain ⟨AG, cG, rfl⟩ := Kd.R_slice hRG; obtain ⟨_, hcG, hCG⟩ := Kd.R_reads' hRG; have hCF2_ := Aside0.mk (Kd.C_below hCF.out hB2); replace hCG := Aside0.mk hCG; have hB02 := Aside0.mk (below_step hB1.out hB2); replace hB2 := Aside0.mk hB2; replace hcG := Aside0.mk hcG; replace hRG := Aside0.mk hRG))
    rw [← hfe.out]
    rw [← hbe.out]
    go_wp2_with (first | (go_at_call 22; (with_reducible refine (inquestref15_Few.calls AF cF L L _ (Kd.C_below hCF2_.out (by repeat (first | exact Below.refl _ _ | apply pw_below_drewN))) hcF.out hFb.out).mono ?_); rintro e W4 ⟨vF2, rfl, hRF2, hB4⟩; replace hB4 : Below W2.heap.size W2 W4 := below_step (by repeat (first | exact Below.refl _ _ | apply pw_below_drewN)) hB4; obtain ⟨BF, dF, rfl⟩ := Kd.R_slice hRF2; obtain ⟨_, hdF, hCF2⟩ := Kd.R_reads' hRF2; replace hCF2 := Aside0.mk hCF2; replace hB4 := Aside0.mk hB4; replace hdF := Aside0.mk hdF; clear hRF2) | (go_at_call 31; (with_reducible refine (inquestref17_Few.calls AG cG ops 70 ops _ (Kd.C_below hCG.out hB4.out) hcG.out hF2b.out).mono ?_); rintro e W5 ⟨vG2, rfl, hRG2, hB5⟩; obtain ⟨BG, dG, rfl⟩ := Kd.R_slice hRG2; obtain ⟨_, hdG, hCG2⟩ := Kd.R_reads' hRG2; have hB05 := Aside0.mk (below_step (below_step hB02.out hB4.out) hB5); have k1 := Aside0.mk (Kd.C_below (Kd.C_below hCF2_.out hB4.out) hB5); have k2 := Aside0.mk (Kd.C_below (Kd.C_below hCG.out hB4.out) hB5); have k4 := Aside0.mk (Kd.C_below hCF2.out hB5); replace hCG2 := Aside0.mk hCG2; replace hB5 := Aside0.mk hB5; replace hdG := Aside0.mk hdG; replace hRG2 := Aside0.mk hRG2) | (go_at_call 39; (with_reducible refine (hnew.out BF BG dF dG _ (Kd.C_below k4.out (by repeat (first | exact Below.refl _ _ | apply pw_below_drewN))) hdF.out (Kd.C_below hCG2.out (by repeat (first | exact Below.refl _ _ | apply pw_below_drewN))) hdG.out).mono ?_); rintro e W6 ⟨gt, rfl, hT6⟩; have hB6 : Aside0 (Below W5.heap.size W5 W6) := ⟨below_step (by repeat (first | exact Below.refl _ _ | apply pw_below_drewN)) hT6.below⟩; replace hT6 := Aside0.mk hT6) | (go_at_call 40; (with_reducible refine (hchk.out AF AG cF cG _ (Kd.C_below (Kd.C_below k1.out hB6.out) (by repeat (first | exact Below.refl _ _ | apply pw_below_drewN))) hcF.out (Kd.C_below (Kd.C_below k2.out hB6.out) (by repeat (first | exact Below.refl _ _ | apply pw_below_drewN)))).mono ?_); rintro e W7 ⟨rfl, hB7⟩; replace hB7 : Below W6.heap.size W6 W7 := below_step (by repeat (first | exact Below.refl _ _ | apply pw_below_drewN)) hB7; replace hB7 := Aside0.mk hB7) | (go_at_call 25; (with_reducible refine (inquestref15_Same.calls ks BF dF L AF cF L true _ (Kd.C_below (Kd.C_below (Kd.C_below k4.out hB6.out) hB7.out) (by repeat (first | exact Below.refl _ _ | apply pw_below_drewN))) hdF.out (Kd.C_below (Kd.C_below (Kd.C_below k1.out hB6.out) hB7.out) (by repeat (first | exact Below.refl _ _ | apply pw_below_drewN))) hcF.out hks.out).mono ?_); rintro e WS ⟨rfl, ⟨n1, rfl⟩⟩) | (go_at_call 35; (with_reducible refine (inquestref14_Alike.calls ka BG dG ops AG cG ops true _ (Kd.C_below (Kd.C_below (Kd.C_below hCG2.out hB6.out) hB7.out) (by repeat (first | exact Below.refl _ _ | apply pw_below_drewN))) hdG.out (Kd.C_below (Kd.C_below (Kd.C_below k2.out hB6.out) hB7.out) (by repeat (first | exact Below.refl _ _ | apply pw_below_drewN))) hcG.out hka.out).mono ?_); rintro e WT ⟨rfl, ⟨n2, rfl⟩⟩))
    obtain ⟨bg, hbg, hbk⟩ := op_blk hRG2.out
    refine vm_gen _ (fun W_ => Below W7.heap.size W7 W_) (by repeat (first | exact Below.refl _ _ | apply pw_below_drewN)) ?_
    intro W9 hB9
    have hB59 : Below W5.heap.size W5 W9 := below_step (below_step hB6.out hB7.out) hB9
    have hbk9 : Aside0 (0 < ops.length → BG = some ⟨bg, 0, none⟩ ∧ bg < W5.heap.size ∧ ∃ cur, W9.heap[bg]? = some (.cells cur 65 (0, 0)) ∧ 7 * ops.length ≤ cur.size) := ⟨fun h => by
      obtain ⟨z1, cur, z2, z3⟩ := hbk h
      exact ⟨z1, blk_lt z2, cur, blk_below z2 hB59, z3⟩⟩
    have hT9 := Aside0.mk (hT6.out.came (below_step hB7.out hB9))
    have hbw : Aside0 (w.heap.size ≤ bg) := ⟨Nat.le_trans (Nat.le_trans hB02.out.size hB4.out.size) hbg⟩
    have hb09 : Aside0 (Below w.heap.size w W9) := ⟨below_step hB05.out hB59⟩
    replace hbg := Aside0.mk hbg
    replace hB59 := Aside0.mk hB59
    clear hbk hB9
    go_loopg [14] ops.length (fun kk v14 W_ => ∃ i : Nat, v14 = .int .i64 i ∧ Aside0 (kk + i = ops.length) ∧ Aside0 (KeepBut W9 W_ bg none ∧ (ops.length = 0 → W_ = W9)) ∧ Aside0 (Below w.heap.size w W_) ∧ Aside0 (0 < ops.length → ∃ cur, W_.heap[bg]? = some (.cells cur 65 (0, 0)) ∧ 7 * ops.length ≤ cur.size))
    case atStart => exact ⟨0, rfl, ⟨by omega⟩, ⟨KeepBut.refl _ _ _, fun _ => rfl⟩, hb09, ⟨fun h => (hbk9.out h).2.2⟩⟩
    case round =>
      obtain ⟨i, rfl, hki, hKB, hwr, hcu⟩ := hrel
      cases gk with
      | succ j =>
        have hi : Aside0 (i < ops.length) := ⟨by have := hki.out; omega⟩
        have hlt : decide ((i : Int) < (ops.length : Int)) = true := decide_eq_true (by have := hi.out; omega)
        have hltn : i < ops.length := hi.out
        have p0 : (0 : Int) ≤ (i : Int) := Int.natCast_nonneg i
        have p1 : (i : Int) < (ops.length : Int) := by have := hi.out; omega
        obtain ⟨rfl, _, _⟩ := hbk9.out (by omega)
        obtain ⟨cur, hcur, hcs⟩ := hcu.out (by omega)
        obtain ⟨u0, hu0⟩ : ∃ u, cur[i * 7]? = some u := ⟨_, Array.getElem?_eq_getElem (by omega)⟩
        have x0 := (blk_cell hcur (i * 7)).trans hu0
        have y0 := blk_frozen hcur (i * 7)
        clear hu0
        obtain ⟨u1, hu1⟩ : ∃ u, cur[i * 7 + 1]? = some u := ⟨_, Array.getElem?_eq_getElem (by omega)⟩
        have x1 := (blk_cell hcur (i * 7 + 1)).trans hu1
        have y1 := blk_frozen hcur (i * 7 + 1)
        clear hu1
        obtain ⟨u2, hu2⟩ : ∃ u, cur[i * 7 + 2]? = some u := ⟨_, Array.getElem?_eq_getElem (by omega)⟩
        have x2 := (blk_cell hcur (i * 7 + 2)).trans hu2
        have y2 := blk_frozen hcur (i * 7 + 2)
        clear hu2
        obtain ⟨u3, hu3⟩ : ∃ u, cur[i * 7 + 3]? = some u := ⟨_, Array.getElem?_eq_getElem (by omega)⟩
        have x3 := (blk_cell hcur (i * 7 + 3)).trans hu3
        have y3 := blk_frozen hcur (i * 7 + 3)
        clear hu3
        obtain ⟨u4, hu4⟩ : ∃ u, cur[i * 7 + 4]? = some u := ⟨_, Array.getElem?_eq_getElem (by omega)⟩
        have x4 := (blk_cell hcur (i * 7 + 4)).trans hu4
        have y4 := blk_frozen hcur (i * 7 + 4)
        clear hu4
        obtain ⟨u5, hu5⟩ : ∃ u, cur[i * 7 + 5]? = some u := ⟨_, Array.getElem?_eq_getElem (by omega)⟩
        have x5 := (blk_cell hcur (i * 7 + 5)).trans hu5
        have y5 := blk_frozen hcur (i * 7 + 5)
        clear hu5
        obtain ⟨u6, hu6⟩ : ∃ u, cur[i * 7 + 6]? = some u := ⟨_, Array.getElem?_eq_getElem (by omega)⟩
        have x6 := (blk_cell hcur (i * 7 + 6)).trans hu6
        have y6 := blk_frozen hcur (i * 7 + 6)
        clear hu6
        have hnx : Aside0 ((((((((wr.setCell ⟨bg, i * 7, none⟩ (.int .i64 0)).setCell ⟨bg, i * 7 + 1, none⟩ (.int .i64 0)).setCell ⟨bg, i * 7 + 2, none⟩ (.int .i64 0)).setCell ⟨bg, i * 7 + 3, none⟩ (.bool false)).setCell ⟨bg, i * 7 + 4, none⟩ (.int .i64 0)).setCell ⟨bg, i * 7 + 5, none⟩ (.int .i64 0)).setCell ⟨bg, i * 7 + 6, none⟩ (.int .i64 0)).heap[bg]? = some (.cells ((((((((cur).setIfInBounds (i * 7) (.int .i64 0)).setIfInBounds (i * 7 + 1) (.int .i64 0)).setIfInBounds (i * 7 + 2) (.int .i64 0)).setIfInBounds (i * 7 + 3) (.bool false)).setIfInBounds (i * 7 + 4) (.int .i64 0)).setIfInBounds (i * 7 + 5) (.int .i64 0)).setIfInBounds (i * 7 + 6) (.int .i64 0)) 65 (0, 0))) := ⟨blk_set (blk_set (blk_set (blk_set (blk_set (blk_set (blk_set (hcur) _ _) _ _) _ _) _ _) _ _) _ _) _ _⟩
        replace hcs := Aside0.mk hcs
        replace hcur := Aside0.mk hcur
        go_wp2
        go_roundg j
        case measure => omega
        case rel => exact ⟨i + 1, by rw [w64 (by have := hi.out; have := hP3.out; omega) (by have := hi.out; have := hP3.out; omega)]; simp, ⟨by have := hki.out; omega⟩, ⟨(((((((hKB.out.1).set_ _ _).set_ _ _).set_ _ _).set_ _ _).set_ _ _).set_ _ _).set_ _ _, fun h => by have := hi.out; omega⟩, ⟨below_set (below_set (below_set (below_set (below_set (below_set (below_set (hwr.out) hbw.out) hbw.out) hbw.out) hbw.out) hbw.out) hbw.out) hbw.out⟩, ⟨fun _ => ⟨_, hnx.out, by simp; exact hcs.out⟩⟩⟩
      | zero =>
        obtain rfl : i = ops.length := by have := hki.out; omega
        have hlt : decide ((ops.length : Int) < (ops.length : Int)) = false := decide_eq_false (by omega)
        obtain ⟨WR, hWR⟩ : ∃ x, x = wr := ⟨_, rfl⟩
        have hsz5 : W5.heap.size ≤ wr.heap.size := Nat.le_trans hB59.out.size hKB.out.1.1
        have hm9 : ∀ k, (k < W4.heap.size ∨ W5.heap.size ≤ k) → k < W9.heap.size → wr.heap[k]? = W9.heap[k]? := fun k hk hk9 => by
          by_cases h0 : ops.length = 0
          · rw [hKB.out.2 h0]
          · have hb5 := (hbk9.out (by omega)).2.1
            exact hKB.out.1.2 k hk9 (fun e => by have := hbg.out; omega) (by simp)
        have hT1 := Aside0.mk (hT9.out.keep hKB.out.1.1 (fun k h1 h2 => hm9 k (.inr h1) h2))
        have hx1 : ∀ (Wx : World), Below Wx.heap.size Wx W5 → Wx.heap.size ≤ W4.heap.size → ∀ k, k < Wx.heap.size → (cutW wr W5.heap.size).heap[k]? = Wx.heap[k]? := fun Wx hbx h4 k hk => by
          have hk5 : k < W5.heap.size := Nat.lt_of_lt_of_le hk hbx.size
          exact (cut_get wr hk5).trans ((hm9 k (.inl (Nat.lt_of_lt_of_le hk h4)) (Nat.lt_of_lt_of_le hk5 hB59.out.size)).trans ((hB59.out.block k hk5).trans (hbx.block k hk)))
        have hFC := Aside0.mk (row_keepL hRF.out (hx1 W1 (below_step (below_step hB2.out hB4.out) hB5.out) (Nat.le_trans hB2.out.size hB4.out.size)))
        have hGC := Aside0.mk (row_keepL hRG.out (hx1 W2 (below_step hB4.out hB5.out) hB4.out.size))
        have hw1 := Aside0.mk (cut_of hsz5 hB05.out.size hwr.out)
        generalize cutW wr W5.heap.size = w1 at *
        clear hm9 hx1 hsz5 hWR hKB hcu
        go_wp2_with (first | (go_at_call 42; (with_reducible refine (hgo.out w1 _ gt (hT1.out.came (by repeat (first | exact Below.refl _ _ | apply pw_below_drewN)))).mono ?_); rintro e W10 ⟨rfl, hT10⟩; replace hT10 := Aside0.mk hT10) | (go_at_call 43; (with_reducible refine (hver.out w1 _ gt (hT10.out.came (by repeat (first | exact Below.refl _ _ | apply pw_below_drewN)))).mono ?_); rintro e W11 ⟨v11, rfl, hv11, hB11⟩; obtain ⟨A11, c11, rfl⟩ := Kd.R_slice hv11; replace hB11 : Below W10.heap.size W10 W11 := below_step (by repeat (first | exact Below.refl _ _ | apply pw_below_drewN)) hB11; replace hB11 := Aside0.mk hB11; replace hv11 := Aside0.mk hv11))
        refine vm_gen _ (fun W_ => Below W10.heap.size W10 W_ ∧ W_.heap[W11.heap.size]? = some (Obj.cells #[.int .i64 kd, .slice A11 od.length c11, .int .i64 td] 75 (0, 0)) ∧ Kd.C (Kd.int .i64) W_ A11 od.length od) ⟨below_alloc hB11.out _, blk_new _ _, Kd.C_alloc (Kd.R_reads' hv11.out).2.2 _⟩ ?_
        rintro WX ⟨hBX, hbX, hCX⟩
        obtain ⟨gv, hgv⟩ : ∃ g, g = W11.heap.size := ⟨_, rfl⟩
        rw [← hgv] at hbX
        rw [← hgv]
        have hodc : Aside0 (od.length ≤ c11) := ⟨(Kd.R_reads' hv11.out).2.1⟩
        have hvc : Aside0 (∀ W_ : World, Below WX.heap.size WX W_ → W_.cell? ⟨gv, 0, none⟩ = some (.int .i64 kd) ∧ W_.cell? ⟨gv, 1, none⟩ = some (.slice A11 od.length c11) ∧ W_.cell? ⟨gv, 2, none⟩ = some (.int .i64 td)) := ⟨fun W_ h => by
          have h2 := blk_below hbX h
          exact ⟨blk_cell h2 0, blk_cell h2 1, blk_cell h2 2⟩⟩
        have hTX := Aside0.mk (hT10.out.came hBX)
        have hFX := Aside0.mk (Kd.C_below hFC.out hTX.out.below)
        have hGX := Aside0.mk (Kd.C_below hGC.out hTX.out.below)
        have hwX : Aside0 (Below w.heap.size w WX) := ⟨below_step hw1.out hTX.out.below⟩
        replace hCX := Aside0.mk hCX
        clear hBX hbX hgv
        refine region_by (fun b us W_ => TelC WX kd td od b us W_) (by kernel_rfl) (by kernel_rfl) ⟨fun _ => undef, TelC.start _ _ _ _ _⟩ ?_
        iterate 6 (refine rb_want (fun us => rfl) ?_; apply Exists.intro; apply And.intro; (focus (apply rb_pure; (focus (intro b us w h; exact h.off (by decide))); intro b us W_ hC; go_simp; rfl)); apply Exists.intro; apply And.intro; (focus (intro us; simp only [Act.put, List.setIfInBounds_toArray, List.set_cons_zero, List.set_cons_succ]; rfl)))
        (refine rb_want (fun us => rfl) ⟨.bool true, rb_call (f := 44) (args := fun us => #[.pointer (some ⟨gt, 0, none⟩)]) (fun us W_ => ?_) (fun b us W_ hb hon hC => ?_), ?_⟩; (focus (exact rb_enters Try.func44 (by kernel_rfl) rfl (by rfl) W_)); (focus (refine (hovr.out w1 W_ gt (hTX.out.came hC.hB)).mono ?_; rintro e w1_ ⟨rfl, hbw⟩; exact ⟨rfl, (hC.came hbw).off (by decide)⟩)); apply Exists.intro; apply And.intro; (focus (intro us; simp only [Act.put, List.setIfInBounds_toArray, List.set_cons_zero, List.set_cons_succ]; rfl)))
        iterate 2 (refine rb_want (fun us => rfl) ?_; apply Exists.intro; apply And.intro; (focus (apply rb_pure; (focus (intro b us w h; exact h.off (by decide))); intro b us W_ hC; go_simp; rfl)); apply Exists.intro; apply And.intro; (focus (intro us; simp only [Act.put, List.setIfInBounds_toArray, List.set_cons_zero, List.set_cons_succ]; rfl)))
        (refine rb_want (fun us => rfl) ?_; apply Exists.intro; apply And.intro; (focus (apply rb_pure; (focus (intro b us w h; exact h.off (by decide))); intro b us W_ hC; have y := hvc.out W_ hC.hB; obtain ⟨y0, y1, y2⟩ := y; go_simp; rfl)); apply Exists.intro; apply And.intro; (focus (intro us; simp only [Act.put, List.setIfInBounds_toArray, List.set_cons_zero, List.set_cons_succ]; rfl)))
        iterate 4 (refine rb_want (fun us => rfl) ?_; apply Exists.intro; apply And.intro; (focus (apply rb_pure; (focus (intro b us w h; exact h.off (by decide))); intro b us W_ hC; go_simp; rfl)); apply Exists.intro; apply And.intro; (focus (intro us; simp only [Act.put, List.setIfInBounds_toArray, List.set_cons_zero, List.set_cons_succ]; rfl)))
        (refine rb_open (fun us => rfl) (rb_callo (f := 46) (args := fun us => #[.slice AF L.length cF, .int .i64 f, .int .i64 b, .slice AG ops.length cG]) (fun us W_ => ?_) (fun b us W_ hb hon hC => ?_)) ?_; (focus (exact rb_enters Try.func46 (by kernel_rfl) rfl (by rfl) W_)); (focus (refine (hrv.out AF AG cF cG W_ (Kd.C_below hFX.out hC.hB) hcF.out (Kd.C_below hGX.out hC.hB)).mono ?_; rintro e w1_ ⟨v, rfl, hv, hbw⟩; obtain ⟨A7, c7, rfl⟩ := Kd.R_slice hv; obtain ⟨_, hc7, hC7⟩ := Kd.R_reads' hv; exact ⟨_, rfl, hC.put hbw hc7 hC7⟩)); apply Exists.intro; apply And.intro; (focus (intro us; simp only [Act.put, List.setIfInBounds_toArray, List.set_cons_zero, List.set_cons_succ]; rfl)))
        (refine rb_want (fun us => rfl) ⟨.bool true, rb_call (f := 45) (args := fun us => #[.agg #[.int .i64 kd, .slice A11 od.length c11, .int .i64 td], us 14]) (fun us W_ => ?_) (fun b us W_ hb hon hC => ?_), ?_⟩; (focus (exact rb_enters Try.func45 (by kernel_rfl) rfl (by rfl) W_)); (focus (obtain ⟨A7, c7, e7, hc7, hC7⟩ := hC.v (hon 14 (by decide) (by decide)); rw [e7]; refine (r18_Same_self kd td od A11 A7 c11 c7 W_ (Kd.C_below hCX.out hC.hB) hodc.out hC7 hc7 hodl.out).mono ?_; rintro e w1_ ⟨rfl, hbw⟩; exact ⟨rfl, (hC.came hbw).off (by decide)⟩)); apply Exists.intro; apply And.intro; (focus (intro us; simp only [Act.put, List.setIfInBounds_toArray, List.set_cons_zero, List.set_cons_succ]; rfl)))
        iterate 3 (refine rb_want (fun us => rfl) ?_; apply Exists.intro; apply And.intro; (focus (apply rb_pure; (focus (intro b us w h; exact h.off (by decide))); intro b us W_ hC; go_simp; rfl)); apply Exists.intro; apply And.intro; (focus (intro us; simp only [Act.put, List.setIfInBounds_toArray, List.set_cons_zero, List.set_cons_succ]; rfl)))
        (refine rb_want (fun us => rfl) ⟨.int .i64 td, rb_call (f := 47) (args := fun us => #[.pointer (some ⟨gt, 0, none⟩)]) (fun us W_ => ?_) (fun b us W_ hb hon hC => ?_), ?_⟩; (focus (exact rb_enters Try.func47 (by kernel_rfl) rfl (by rfl) W_)); (focus (refine (htri.out w1 W_ gt (hTX.out.came hC.hB)).mono ?_; rintro e w1_ ⟨rfl, hbw⟩; exact ⟨rfl, (hC.came hbw).off (by decide)⟩)); apply Exists.intro; apply And.intro; (focus (intro us; simp only [Act.put, List.setIfInBounds_toArray, List.set_cons_zero, List.set_cons_succ]; rfl)))
        (refine rb_want (fun us => rfl) ?_; apply Exists.intro; apply And.intro; (focus (apply rb_pure; (focus (intro b us w h; exact h.off (by decide))); intro b us W_ hC; go_simp; rfl)); apply Exists.intro; apply And.intro; (focus (intro us; simp only [Act.put, List.setIfInBounds_toArray, List.set_cons_zero, List.set_cons_succ]; rfl)))
        (refine rb_want (fun us => rfl) ?_; apply Exists.intro; apply And.intro; (focus (apply rb_pure; (focus (intro b us w h; exact h.off (by decide))); intro b us W_ hC; have y := hvc.out W_ hC.hB; obtain ⟨y0, y1, y2⟩ := y; go_simp; rfl)); apply Exists.intro; apply And.intro; (focus (intro us; simp only [Act.put, List.setIfInBounds_toArray, List.set_cons_zero, List.set_cons_succ]; rfl)))
        iterate 3 (refine rb_want (fun us => rfl) ?_; apply Exists.intro; apply And.intro; (focus (apply rb_pure; (focus (intro b us w h; exact h.off (by decide))); intro b us W_ hC; go_simp; rfl)); apply Exists.intro; apply And.intro; (focus (intro us; simp only [Act.put, List.setIfInBounds_toArray, List.set_cons_zero, List.set_cons_succ]; rfl)))
        (refine rb_want (fun us => rfl) ⟨.bool true, rb_call (f := 41) (args := fun us => #[]) (fun us W_ => ?_) (fun b us W_ hb hon hC => ?_), ?_⟩; (focus (exact rb_enters Try.func41 (by kernel_rfl) rfl (by rfl) W_)); (focus (refine (lin_lives W_).mono ?_; rintro e w1_ ⟨rfl, hbw⟩; exact ⟨rfl, (hC.came hbw).off (by decide)⟩)); apply Exists.intro; apply And.intro; (focus (intro us; simp only [Act.put, List.setIfInBounds_toArray, List.set_cons_zero, List.set_cons_succ]; rfl)))
        iterate 2 (refine rb_want (fun us => rfl) ?_; apply Exists.intro; apply And.intro; (focus (apply rb_pure; (focus (intro b us w h; exact h.off (by decide))); intro b us W_ hC; go_simp; rfl)); apply Exists.intro; apply And.intro; (focus (intro us; simp only [Act.put, List.setIfInBounds_toArray, List.set_cons_zero, List.set_cons_succ]; rfl)))
        refine rb_done (fun b us W8_ hall hC => ?_)
        have hB8 := Aside0.mk hC.hB
        clear hC hall
        try dsimp only
        generalize us 14 = v14 at *
        clear us b
        go_wp2
        go_ret
        exact ⟨rfl, below_step hwX.out hB8.out⟩
end Go.Proofs.Ytddkoimaghcbeaa.PVmSteps
