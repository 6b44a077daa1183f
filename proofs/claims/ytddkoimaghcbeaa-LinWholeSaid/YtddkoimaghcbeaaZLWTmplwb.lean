/- A part of what the law LinWhole stands on, only as far as it is needed (the words and walks were printed or written in this seat; this text was cut by a program of this session, wip/bin/trim.py). No condition beyond what each theorem says. -/
import Derived.Test.YtddkoimaghcbeaaZLWPVmStepsx0
import Derived.Test.YtddkoimaghcbeaaZLWPVmStepsx2
import Derived.Test.YtddkoimaghcbeaaZLWPVmStepsx3
import Derived.Test.YtddkoimaghcbeaaZLWPVmStepsx4
import Derived.Test.YtddkoimaghcbeaaZLWPVmStepsx5
import Derived.Test.YtddkoimaghcbeaaZLWTmplwa
namespace Go.Proofs.Ytddkoimaghcbeaa.PVmSteps
open Go.RowKit Go.Proofs.YtddkoimaghcbeaaW.PrintWords Go.Proofs.YtddkoimaghcbeaaW.PrintLast Go.Proofs.YtddkoimaghcbeaaW.PrintMore
set_option linter.unusedVariables false
set_option linter.unusedSimpArgs false
theorem lit_one (w : World) (a : Int) : (Instr.buildSlice 56 1 #[(0, .int .i64 a)]).run Try.prog w = .ok (.slice (some ⟨w.heap.size, 0, none⟩) 1 1) (w.alloc (.cells #[.int .i64 a] 3)) := by kernel_rfl
theorem lit_oneC (w : World) (a : Int) : Kd.C (Kd.int .i64) (w.alloc (.cells #[.int .i64 a] 3)) (some ⟨w.heap.size, 0, none⟩) [a].length [a] := by
  have h : Kd.R (Kd.int .i64) 3 (w.alloc (.cells [.int .i64 a].toArray 3)) w.heap.size (fun _ => True) (.slice (some ⟨w.heap.size, 0, none⟩) [a].length [a].length) [a] := ⟨fun _ _ => trivial, OwnRow.lit w w.heap.size ((Reps.none _ _).snoc rfl rfl) (Nat.le_refl _) (by simp)⟩
  exact (Kd.R_reads' h).2.2
set_option maxRecDepth 100000 in
set_option maxHeartbeats 8000000 in
theorem r18_orders_step (A0 A2 : Option Addr) (c0 c2 : Nat) (L : List S36) (f : Int) (ops : List S65) (hc0 : L.length ≤ c0) (hL : L.length ≤ 300) (hc2 : ops.length ≤ c2) (hn : ops.length ≤ 64) (d : Nat) (ih : Aside0 (∀ d', d' < d → ∀ o : List Int, DstZ ops.length o → o.length + d' = ops.length → ∀ (A3 : Option Addr) (c3 : Nat) (w : World), Kd.C k36 w A0 L.length L → Kd.C k65 w A2 ops.length ops → Kd.C (Kd.int .i64) w A3 o.length o → o.length ≤ c3 → Calls Try.prog 53 #[.slice A0 L.length c0, .int .i64 f, .slice A2 ops.length c2, .slice A3 o.length c3] w fun e w' => e = .returned (.bool (ordB (fun o => decide (ordC L f ops o = 0)) ops.length d' o)) ∧ Below w.heap.size w w'))
    (o : List Int) (hD : Aside0 (DstZ ops.length o)) (hod : Aside0 (o.length + d = ops.length)) (A3 : Option Addr) (c3 : Nat) (w : World) (hC0 : Kd.C k36 w A0 L.length L) (hC2 : Kd.C k65 w A2 ops.length ops) (hC3 : Kd.C (Kd.int .i64) w A3 o.length o) (hc3 : o.length ≤ c3) :
    Calls Try.prog 53 #[.slice A0 L.length c0, .int .i64 f, .slice A2 ops.length c2, .slice A3 o.length c3] w fun e w' => e = .returned (.bool (ordB (fun o => decide (ordC L f ops o = 0)) ops.length d o)) ∧ Below w.heap.size w w' := by
  replace hC0 := Aside0.mk hC0
  replace hC2 := Aside0.mk hC2
  replace hC3 := Aside0.mk hC3
  replace hL := Aside0.mk hL
  have hnn := Aside0.mk hn
  have ho : Aside0 (o.length ≤ 1000) := ⟨by have := hod.out; omega⟩
  have hol : Aside0 (o.length ≤ 64) := ⟨by have := hod.out; omega⟩
  clear hn
  obtain ⟨v, hv⟩ : ∃ v, v = ordC L f ops o := ⟨_, rfl⟩
  by_cases hv0 : v = 0
  · have hb : (v == 0) = true := by simpa using hv0
    rw [ordB_t (d := d) (by rw [← hv, hv0]; rfl)]
    replace hv := Aside0.mk hv
    clear hv0
    go_enter Try.func53, Try.ntmps53
    go_wp2_with (first | (go_at_call 33; (with_reducible refine (ord_Check A0 A2 A3 c0 c2 c3 L f ops o _ hC0.out hc0 hL.out hC2.out hc2 hC3.out hc3 ho.out).mono ?_); rw [← hv.out]; rintro e W1 ⟨rfl, hB1⟩; replace hB1 := Aside0.mk hB1))
    go_ret
    exact ⟨rfl, hB1.out⟩
  have hb : (v == 0) = false := by simpa using hv0
  have hany0 := ordB_any (C := fun o => decide (ordC L f ops o = 0)) hD.out hod.out (decide_eq_false (by rw [← hv]; exact hv0))
  generalize hRe : ordB (fun o => decide (ordC L f ops o = 0)) ops.length d o = R at hany0
  replace hany0 := Aside0.mk hany0
  replace hv := Aside0.mk hv
  clear hv0 hRe
  have hlit := lit_one
  go_enter Try.func53, Try.ntmps53
  go_wp2_with (first | (go_at_call 33; (with_reducible refine (ord_Check A0 A2 A3 c0 c2 c3 L f ops o _ hC0.out hc0 hL.out hC2.out hc2 hC3.out hc3 ho.out).mono ?_); rw [← hv.out]; rintro e W1 ⟨rfl, hB1⟩; replace hB1 := Aside0.mk hB1))
  go_loopg [9] ops.length (fun kk v9 W_ => ∃ (i : Nat), v9 = .int .i64 i ∧ Aside0 (kk + i = ops.length) ∧ Aside0 (anyB (fun i => !(o.contains (i : Int)) && ordB (fun o => decide (ordC L f ops o = 0)) ops.length (d - 1) (o ++ [(i : Int)])) (ops.length - i) i = R) ∧ Aside0 (Below w.heap.size w W_))
  case atStart => exact ⟨0, rfl, ⟨by omega⟩, ⟨hany0.out.symm⟩, hB1⟩
  case round =>
    obtain ⟨i, rfl, hki, hany, hBW⟩ := hrel
    have hC0r := Aside0.mk (Kd.C_below hC0.out hBW.out)
    have hC2r := Aside0.mk (Kd.C_below hC2.out hBW.out)
    have hC3r := Aside0.mk (Kd.C_below hC3.out hBW.out)
    obtain ⟨WR, hWRe⟩ : ∃ x, x = wr := ⟨_, rfl⟩
    subst hWRe
    cases gk with
    | zero =>
      obtain rfl : i = ops.length := by have := hki.out; omega
      have hlt : decide ((ops.length : Int) < (ops.length : Int)) = false := decide_eq_false (by omega)
      have hR1 : R = false := by rw [← hany.out, Nat.sub_self]; rfl
      subst hR1
      go_wp2
      go_ret
      exact ⟨rfl, hBW.out⟩
    | succ j =>
      have hi : Aside0 (i < ops.length) := ⟨by have := hki.out; omega⟩
      have hlt : decide ((i : Int) < (ops.length : Int)) = true := decide_eq_true (by have := hi.out; omega)
      have hltn : i < ops.length := hi.out
      go_wp2
      go_loopg [10, 11] o.length (fun kk v10 v11 W_ => ∃ (k : Nat), v10 = .bool ((o.take k).contains (i : Int)) ∧ v11 = .int .i64 k ∧ Aside0 (kk + k = o.length) ∧ W_ = WR)
      case atStart => exact ⟨0, rfl, rfl, ⟨by omega⟩, rfl⟩
      case round =>
        obtain ⟨k, rfl, rfl, hkk, rfl⟩ := hrel
        cases gk with
        | succ j2 =>
          have hk : Aside0 (k < o.length) := ⟨by have := hkk.out; omega⟩
          have hlt2 : decide ((k : Int) < (o.length : Int)) = true := decide_eq_true (by have := hk.out; omega)
          have hltk : k < o.length := hk.out
          obtain ⟨ad3, e3, hc3a⟩ := Kd.at_int hC3r.out (k : Int) (by omega) (by have := hk.out; omega)
          have q2 : 0 ≤ (k : Int) := by omega
          have q3 : (k : Int) < (o.length : Int) := by have := hk.out; omega
          simp only [Int.toNat_natCast] at hc3a
          cases e3
          have hth := Aside0.mk (take_has o k hk.out (i : Int))
          obtain ⟨b, hbb⟩ : ∃ b, b = (o.take k).contains (i : Int) := ⟨_, rfl⟩
          obtain ⟨p, hp⟩ : ∃ p, p = rd o (k : Int) := ⟨_, rfl⟩
          obtain ⟨b2, hb2⟩ : ∃ b2, b2 = (p == (i : Int)) := ⟨_, rfl⟩
          rw [← hbb, ← hp, ← hb2] at hth
          rw [← hp] at hc3a
          rw [← hbb]
          replace hb2 := hb2.symm
          clear hbb hp
          cases b with
          | true =>
            go_wp2
            go_roundg j2
            case measure => omega
            case rel => exact ⟨k + 1, by rw [hth.out]; rfl, by rw [w64 (by have := hk.out; have := hol.out; omega) (by have := hk.out; have := hol.out; omega)]; simp, ⟨by have := hkk.out; omega⟩, rfl⟩
          | false =>
            go_wp2
            go_roundg j2
            case measure => omega
            case rel => exact ⟨k + 1, by rw [hth.out]; rfl, by rw [w64 (by have := hk.out; have := hol.out; omega) (by have := hk.out; have := hol.out; omega)]; simp, ⟨by have := hkk.out; omega⟩, rfl⟩
        | zero =>
          obtain rfl : k = o.length := by have := hkk.out; omega
          rw [List.take_length]
          have hlt2 : decide ((o.length : Int) < (o.length : Int)) = false := decide_eq_false (by omega)
          have hstep : anyB (fun i => !(o.contains (i : Int)) && ordB (fun o => decide (ordC L f ops o = 0)) ops.length (d - 1) (o ++ [(i : Int)])) (ops.length - i) i = ((fun i => !(o.contains (i : Int)) && ordB (fun o => decide (ordC L f ops o = 0)) ops.length (d - 1) (o ++ [(i : Int)])) i || anyB (fun i => !(o.contains (i : Int)) && ordB (fun o => decide (ordC L f ops o = 0)) ops.length (d - 1) (o ++ [(i : Int)])) (ops.length - (i + 1)) (i + 1)) := by
            rw [show ops.length - i = (ops.length - (i + 1)) + 1 by have := hi.out; omega]
            rfl
          cases hin : o.contains (i : Int) with
          | true =>
            have hnext : Aside0 (anyB (fun i => !(o.contains (i : Int)) && ordB (fun o => decide (ordC L f ops o = 0)) ops.length (d - 1) (o ++ [(i : Int)])) (ops.length - (i + 1)) (i + 1) = R) := ⟨by rw [← hany.out, hstep]; simp only [hin]; simp⟩
            clear hstep hin
            go_wp2
            go_roundg j
            case measure => omega
            case rel => exact ⟨i + 1, by rw [w64 (by have := hi.out; have := hnn.out; omega) (by have := hi.out; have := hnn.out; omega)]; simp, ⟨by have := hki.out; omega⟩, hnext, hBW⟩
          | false =>
            simp only [hin, Bool.not_false, Bool.true_and] at hstep
            have hd1 : ∃ d', d = d' + 1 := by
              have y := pig _ _ (hD.out.snoc (x := (i : Int)) (by omega) (by have := hi.out; omega) (by simpa using hin))
              simp at y
              have := hod.out
              exact ⟨d - 1, by omega⟩
            obtain ⟨oi, hoi⟩ : ∃ x, x = o ++ [(i : Int)] := ⟨_, rfl⟩
            rw [← hoi] at hstep
            have hrec : Aside0 (∀ (A9 : Option Addr) (c9 : Nat) (W : World), Kd.C k36 W A0 L.length L → Kd.C k65 W A2 ops.length ops → Kd.C (Kd.int .i64) W A9 oi.length oi → oi.length ≤ c9 → Calls Try.prog 53 #[.slice A0 L.length c0, .int .i64 f, .slice A2 ops.length c2, .slice A9 oi.length c9] W fun e w' => e = .returned (.bool (ordB (fun o => decide (ordC L f ops o = 0)) ops.length (d - 1) oi)) ∧ Below W.heap.size W w') := ⟨fun A9 c9 W h1 h2 h3 h4 => by
              obtain ⟨d', rfl⟩ := hd1
              exact ih.out d' (by omega) oi (by rw [hoi]; exact hD.out.snoc (by omega) (by have := hi.out; omega) (by simpa using hin)) (by rw [hoi]; simp; have := hod.out; omega) A9 c9 W h1 h2 h3 h4⟩
            obtain ⟨rr, hrr⟩ : ∃ r, r = ordB (fun o => decide (ordC L f ops o = 0)) ops.length (d - 1) oi := ⟨_, rfl⟩
            rw [← hrr] at hrec hstep
            replace hoi := Aside0.mk hoi
            clear hd1
            cases rr with
            | true =>
              have hR1 : R = true := by rw [← hany.out, hstep]; simp
              subst hR1
              clear hrr hstep hin
              go_wp2_with (first | ((with_reducible refine gate_builtin (b := .append) (xs := #[.tmp 41, .tmp 42]) rfl ?_); at_builtin; refine Kd.R_append_rows (Kd.int .i64) (w0 := wr) wr.heap.size rfl (.tmp 41) (.tmp 42) 56 3 (.int .i64 0) 8 rfl Try.underlying56 or_info3 rfl (by decide) (by omega) (.slice none 0 0) ([] : List Int) o _ _ _ (fun _ => True) (fun _ => False) rfl rfl (Kd.R_nil _ _ _ _ (fun _ => True)) hC3r.out (fun _ _ h => h) (fun _ h => h.elim) (fun _ _ => trivial) (Below.refl _ wr) (Nat.le_refl _) (by have := hol.out; simp; omega) ?_; intro v1 w1 hR hB hg hat; rw [List.nil_append] at hR; replace hR := Aside0.mk hR; replace hB := Aside0.mk hB; clear hg hat) | ((with_reducible refine gate_builtin (b := .append) (xs := #[.tmp 43, .tmp 45]) rfl ?_); at_builtin; refine Kd.R_append_rows (Kd.int .i64) (w0 := wr) wr.heap.size rfl (.tmp 43) (.tmp 45) 56 3 (.int .i64 0) 8 rfl Try.underlying56 or_info3 rfl (by decide) (by omega) _ o [(i : Int)] _ _ _ (fun _ => True) (fun _ => False) rfl rfl (Kd.R_alloc hR.out _) (lit_oneC w1 (i : Int)) (fun _ _ h => h) (fun _ h => h.elim) (fun _ _ => trivial) (below_alloc hB.out _) (by have := hB.out.size; simp; omega) (by have := hol.out; simp; omega) ?_; intro v2 w2 hR2 hB2 hg hat; rw [← hoi.out] at hR2; obtain ⟨A9, c9, rfl⟩ := Kd.R_slice hR2; obtain ⟨_, hc9, hC9⟩ := Kd.R_reads' hR2; replace hc9 := Aside0.mk hc9; replace hC9 := Aside0.mk hC9; replace hB2 := Aside0.mk hB2; clear hg hat hR2) | (go_at_call 53; (with_reducible refine (hrec.out _ _ _ (Kd.C_below hC0r.out hB2.out) (Kd.C_below hC2r.out hB2.out) hC9.out hc9.out).mono ?_); rintro e W5 ⟨rfl, hB5⟩; replace hB5 := Aside0.mk hB5))
              go_ret
              exact ⟨rfl, below_step (below_step hBW.out hB2.out) hB5.out⟩
            | false =>
              have hnext : Aside0 (anyB (fun i => !(o.contains (i : Int)) && ordB (fun o => decide (ordC L f ops o = 0)) ops.length (d - 1) (o ++ [(i : Int)])) (ops.length - (i + 1)) (i + 1) = R) := ⟨by rw [← hany.out, hstep]; simp⟩
              clear hrr hstep hin
              go_wp2_with (first | ((with_reducible refine gate_builtin (b := .append) (xs := #[.tmp 41, .tmp 42]) rfl ?_); at_builtin; refine Kd.R_append_rows (Kd.int .i64) (w0 := wr) wr.heap.size rfl (.tmp 41) (.tmp 42) 56 3 (.int .i64 0) 8 rfl Try.underlying56 or_info3 rfl (by decide) (by omega) (.slice none 0 0) ([] : List Int) o _ _ _ (fun _ => True) (fun _ => False) rfl rfl (Kd.R_nil _ _ _ _ (fun _ => True)) hC3r.out (fun _ _ h => h) (fun _ h => h.elim) (fun _ _ => trivial) (Below.refl _ wr) (Nat.le_refl _) (by have := hol.out; simp; omega) ?_; intro v1 w1 hR hB hg hat; rw [List.nil_append] at hR; replace hR := Aside0.mk hR; replace hB := Aside0.mk hB; clear hg hat) | ((with_reducible refine gate_builtin (b := .append) (xs := #[.tmp 43, .tmp 45]) rfl ?_); at_builtin; refine Kd.R_append_rows (Kd.int .i64) (w0 := wr) wr.heap.size rfl (.tmp 43) (.tmp 45) 56 3 (.int .i64 0) 8 rfl Try.underlying56 or_info3 rfl (by decide) (by omega) _ o [(i : Int)] _ _ _ (fun _ => True) (fun _ => False) rfl rfl (Kd.R_alloc hR.out _) (lit_oneC w1 (i : Int)) (fun _ _ h => h) (fun _ h => h.elim) (fun _ _ => trivial) (below_alloc hB.out _) (by have := hB.out.size; simp; omega) (by have := hol.out; simp; omega) ?_; intro v2 w2 hR2 hB2 hg hat; rw [← hoi.out] at hR2; obtain ⟨A9, c9, rfl⟩ := Kd.R_slice hR2; obtain ⟨_, hc9, hC9⟩ := Kd.R_reads' hR2; replace hc9 := Aside0.mk hc9; replace hC9 := Aside0.mk hC9; replace hB2 := Aside0.mk hB2; clear hg hat hR2) | (go_at_call 53; (with_reducible refine (hrec.out _ _ _ (Kd.C_below hC0r.out hB2.out) (Kd.C_below hC2r.out hB2.out) hC9.out hc9.out).mono ?_); rintro e W5 ⟨rfl, hB5⟩; replace hB5 := Aside0.mk hB5))
              go_roundg j
              case measure => omega
              case rel => exact ⟨i + 1, by rw [w64 (by have := hi.out; have := hnn.out; omega) (by have := hi.out; have := hnn.out; omega)]; simp, ⟨by have := hki.out; omega⟩, hnext, ⟨below_step (below_step hBW.out hB2.out) hB5.out⟩⟩
theorem r18_orders (A0 A2 : Option Addr) (c0 c2 : Nat) (L : List S36) (f : Int) (ops : List S65) (hc0 : L.length ≤ c0) (hL : L.length ≤ 300) (hc2 : ops.length ≤ c2) (hn : ops.length ≤ 64) : ∀ (d : Nat) (o : List Int), DstZ ops.length o → o.length + d = ops.length → ∀ (A3 : Option Addr) (c3 : Nat) (w : World), Kd.C k36 w A0 L.length L → Kd.C k65 w A2 ops.length ops → Kd.C (Kd.int .i64) w A3 o.length o → o.length ≤ c3 → Calls Try.prog 53 #[.slice A0 L.length c0, .int .i64 f, .slice A2 ops.length c2, .slice A3 o.length c3] w fun e w' => e = .returned (.bool (ordB (fun o => decide (ordC L f ops o = 0)) ops.length d o)) ∧ Below w.heap.size w w' := by
  intro d
  induction d using Nat.strongRecOn with
  | ind d ih =>
    intro o hD hod A3 c3 w h1 h2 h3 h4
    exact r18_orders_step A0 A2 c0 c2 L f ops hc0 hL hc2 hn d ⟨ih⟩ o ⟨hD⟩ ⟨hod⟩ A3 c3 w h1 h2 h3 h4
end Go.Proofs.Ytddkoimaghcbeaa.PVmSteps
