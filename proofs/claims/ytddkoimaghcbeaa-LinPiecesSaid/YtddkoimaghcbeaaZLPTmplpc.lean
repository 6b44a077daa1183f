/- A part of what the law LinPieces stands on, only as far as it is needed (the words and walks were printed or written in this seat; this text was cut by a program of this session, wip/bin/trim.py). No condition beyond what each theorem says. -/
import Derived.Test.YtddkoimaghcbeaaZLPPVmStepsx0
import Derived.Test.YtddkoimaghcbeaaZLPPVmStepsx2
import Derived.Test.YtddkoimaghcbeaaZLPPVmStepsx3
import Derived.Test.YtddkoimaghcbeaaZLPPVmStepsx4
import Derived.Test.YtddkoimaghcbeaaZLPPVmStepsx5
import Derived.Test.YtddkoimaghcbeaaZLPTmpljb
namespace Go.Proofs.Ytddkoimaghcbeaa.PVmSteps
open Go.RowKit Go.Proofs.YtddkoimaghcbeaaW.PrintWords Go.Proofs.YtddkoimaghcbeaaW.PrintLast Go.Proofs.YtddkoimaghcbeaaW.PrintMore
set_option linter.unusedVariables false
set_option linter.unusedSimpArgs false
/-- The greater one. -/
def maxP (x y : Int) : Int := if x < y then y else x
theorem max2_P (k k' : IntKind) (x y : Int) : Builtin.max2 (.int k x) (.int k' y) = pure (.int k (maxP x y)) := max2_int k k' x y
theorem maxP_is (a : Int) : maxP a 0 = (a.toNat : Int) := by unfold maxP; split <;> omega
attribute [local go_sem] max2_P max_two
theorem goZ_is (q : LinQ) : ∀ (n : Nat) (st : LinS), ∃ y, goZ q n st = (readyZ q y).1
  | 0, st => ⟨st, rfl⟩
  | n + 1, st => by
    rw [goZ]
    split
    · exact goZ_is q n _
    · exact ⟨st, rfl⟩
theorem goZ_stays {q : LinQ} {n : Nat} {st : LinS} (h : (goZ q n st).over = true) (m : Nat) : goZ q m (goZ q n st) = goZ q n st := by
  obtain ⟨y, e⟩ := goZ_is q n st
  rw [e] at h ⊢
  have h2 : (readyZ q y).2 = false := by
    cases c : (readyZ q y).2 with
    | false => rfl
    | true => exact no_ov h ((readyZ_tries q y).2.1 c)
  rw [goZ_ready]
  cases m with
  | zero => rfl
  | succ m => rw [goZ, if_neg (by simp [h2])]
theorem over_full {L : List S36} {f b : Int} {ops : List S65} {st : LinS} {N : Nat} (h : st.over = true) (e : st = goZ ⟨L, f, b, ops⟩ N (newZ ⟨L, f, b, ops⟩)) (hE : newE L f b ops = 0) : st = fullZ ⟨L, f, b, ops⟩ := by
  have ho := fullZ_over hE
  have h1 := goZ_stays (q := ⟨L, f, b, ops⟩) (e ▸ h) 2147483648
  have h2 := goZ_stays (q := ⟨L, f, b, ops⟩) (n := 2147483648) ho N
  rw [goZ_add] at h1 h2
  rw [e, ← h1, Nat.add_comm N, h2]
  rfl
theorem piece_facts {q : LinQ} (hc : (thru q.L).2.2 = 0) {st : LinS} (hW : LinW q st) {n : Int} (h0 : -1 ≤ n) (h1 : n ≤ 500) : ∃ t1 : Int, t1 = ((goZ q n.toNat st).tries : Int) ∧ decide (maxP n 0 < wrap64 (t1 - (st.tries : Int))) = false ∧ decide (t1 < (st.tries : Int)) = false ∧ ((goZ q n.toNat st).over = false → (wrap64 (t1 - (st.tries : Int)) != maxP n 0) = false) := by
  obtain ⟨a1, a2, a3⟩ := goZ_tries hc n.toNat hW
  have y1 := (LinW.go hc n.toNat hW).tb
  have y2 := hW.b1
  refine ⟨_, rfl, ?_, decide_eq_false (by omega), fun h => ?_⟩
  · rw [w64 (by omega) (by omega), maxP_is]; exact decide_eq_false (by omega)
  · rw [w64 (by omega) (by omega), maxP_is, a3 h, show ((st.tries + n.toNat : Nat) : Int) - (st.tries : Int) = (n.toNat : Int) by omega]; simp
set_option maxRecDepth 100000 in
set_option maxHeartbeats 16000000 in
theorem inquestlaw18_LinPieces.any (A : Option Addr) (cap : Nat) (l : List S36) (fuel budget : Int) (A2 : Option Addr) (c2 : Nat) (ops0 : List S65) (A3 : Option Addr) (c3 : Nat) (ps0 : List Int) (w : World) (hr : Kd.C k36 w A l.length l) (hc : l.length ≤ cap) (hm : l.length ≤ maxLen) {P0 : Prop} (_ : P0) {P1 : Prop} (_ : P1) {P2 : Prop} (_ : P2) (hr2 : Kd.C k65 w A2 ops0.length ops0) (hc2 : ops0.length ≤ c2) {P3 : Prop} (_ : P3) {P4 : Prop} (_ : P4) (hr3 : Kd.C (Kd.int .i64) w A3 ps0.length ps0) (hc3 : ps0.length ≤ c3) {P5 : Prop} (_ : P5) {P6 : Prop} (_ : P6) :
    Calls Try.prog 15 #[.slice A l.length cap, .int .i64 fuel, .int .i64 budget, .slice A2 ops0.length c2, .slice A3 ps0.length c3] w fun e w' => e = .returned (.bool true) ∧ Below w.heap.size w w' := by
  have hF := Aside0.mk (few15 l hm)
  have hF2 := Aside0.mk (few17 ops0 8 (by decide) (by decide))
  have hL2 : (l.take 210).length ≤ 210 := by rw [List.length_take]; omega
  generalize l.take 210 = L at *
  generalize ops0.take (8 : Int).toNat = ops at *
  have hL3 : Aside0 (L.length ≤ 300) := ⟨by omega⟩
  replace hr := Aside0.mk hr
  replace hr2 := Aside0.mk hr2
  obtain ⟨f, hf, hf0, hf1⟩ := least01 fuel 0 300 (by decide)
  obtain ⟨b, hb, hb0, hb1⟩ := least01 budget 0 400 (by decide)
  replace hf := Aside0.mk hf
  replace hb := Aside0.mk hb
  clear hL2 hm
  by_cases hE : newE L f b ops = 0
  rotate_left
  · have hwn : Aside0 (∀ (AF AG : Option Addr) (cF cG : Nat) (W : World), Kd.C k36 W AF L.length L → L.length ≤ cF → Kd.C k65 W AG ops.length ops → ops.length ≤ cG → Calls Try.prog 48 #[.slice AF L.length cF, .int .i64 f, .int .i64 b, .slice AG ops.length cG] W fun e w' => e = .returned (.tuple #[.agg #[.int .i64 0, .slice none 0 0, .int .i64 0], .bool false]) ∧ Below W.heap.size W w') := ⟨fun AF AG cF cG W h1 h2 h3 h4 => lin_whole_n AF AG cF cG L f b ops W h1 h2 hL3.out h3 h4 hE⟩
    obtain ⟨er, her⟩ : ∃ x, x = newE L f b ops := ⟨_, rfl⟩
    have hne : (er != 0) = true := by rw [her]; simpa using hE
    have hnn : Aside0 (∀ (AF AG : Option Addr) (cF cG : Nat) (W : World), Kd.C k36 W AF L.length L → L.length ≤ cF → Kd.C k65 W AG ops.length ops → ops.length ≤ cG → Calls Try.prog 39 #[.slice AF L.length cF, .int .i64 f, .int .i64 b, .slice AG ops.length cG] W fun e w' => e = .returned (.tuple #[.pointer none, .int .i64 er]) ∧ Below W.heap.size W w') := ⟨fun AF AG cF cG W h1 h2 h3 h4 => by rw [her]; exact lin_New_n AF AG cF cG L f b ops W h1 h2 hL3.out h3 h4 hE⟩
    clear hf0 hf1 hb0 hb1 hE her
    go_enter Try.func15, Try.ntmps15
    go_wp2_with (first | (go_at_call 22; (with_reducible refine (inquestref15_Few.calls A cap l L _ hr.out hc hF.out).mono ?_); rintro e W1 ⟨vF, rfl, hRF, hB1⟩; obtain ⟨AF, cF, rfl⟩ := Kd.R_slice hRF; obtain ⟨_, hcF, hCF⟩ := Kd.R_reads' hRF; replace hCF := Aside0.mk hCF; replace hB1 := Aside0.mk hB1; replace hcF := Aside0.mk hcF; clear hRF) | (go_at_call 31; (with_reducible refine (inquestref17_Few.calls A2 c2 ops0 8 ops _ (Kd.C_below hr2.out hB1.out) hc2 hF2.out).mono ?_); rintro e W2 ⟨vG, rfl, hRG, hB2⟩; obtain ⟨AG, cG, rfl⟩ := Kd.R_slice hRG; obtain ⟨_, hcG, hCG⟩ := Kd.R_reads' hRG; have hCF2 := Aside0.mk (Kd.C_below hCF.out hB2); have hB02 := Aside0.mk (below_step hB1.out hB2); replace hCG := Aside0.mk hCG; replace hcG := Aside0.mk hcG; clear hRG hB2) | (go_at_call 30; (with_reducible refine (inquestref01_Least.calls fuel 0 300 f _ hf.out).mono ?_); rintro e W3 ⟨rfl, ⟨nW3, rfl⟩⟩) | (go_at_call 30; (with_reducible refine (inquestref01_Least.calls budget 0 400 b _ hb.out).mono ?_); rintro e W4 ⟨rfl, ⟨nW4, rfl⟩⟩) | (go_at_call 48; (with_reducible refine (hwn.out _ _ _ _ _ (Kd.C_below hCF2.out (by (repeat (first | exact Below.refl _ _ | apply pw_below_drewN)); done)) hcF.out (Kd.C_below hCG.out (by (repeat (first | exact Below.refl _ _ | apply pw_below_drewN)); done)) hcG.out).mono ?_); rintro e W5 ⟨rfl, hB5⟩; have hCF5 := Aside0.mk (Kd.C_below (Kd.C_below hCF2.out (by (repeat (first | exact Below.refl _ _ | apply pw_below_drewN)); done)) hB5); have hCG5 := Aside0.mk (Kd.C_below (Kd.C_below hCG.out (by (repeat (first | exact Below.refl _ _ | apply pw_below_drewN)); done)) hB5); replace hB5 := Aside0.mk hB5) | (go_at_call 39; (with_reducible refine (hnn.out _ _ _ _ _ (Kd.C_alloc hCF5.out _) hcF.out (Kd.C_alloc hCG5.out _) hcG.out).mono ?_); rintro e W6 ⟨rfl, hB6⟩; replace hB6 := Aside0.mk hB6) | (go_at_call 41; (with_reducible refine (lin_lives _).mono ?_); rintro e WZ ⟨rfl, hBZ⟩; replace hBZ := Aside0.mk hBZ))
    go_ret
    exact ⟨rfl, below_step (below_step (below_alloc (below_step hB02.out (below_step (by (repeat (first | exact Below.refl _ _ | apply pw_below_drewN)); done) hB5.out)) _) hB6.out) hBZ.out⟩
  have hWf := fullZ_W hE
  have hth : Aside0 ((thru (LinQ.mk L f b ops).L).2.2 = 0) := ⟨(newE_0 hE).1⟩
  have hfu : Aside0 ((LinQ.mk L f b ops).fuel ≤ 9223372036854775807) := ⟨by show f ≤ _; omega⟩
  have hb500 : Aside0 (b < ((500 : Int).toNat : Int)) := ⟨by show b < 500; omega⟩
  have hWN : Aside0 (∀ st, (∃ N, st = goZ ⟨L, f, b, ops⟩ N (newZ ⟨L, f, b, ops⟩)) → LinW ⟨L, f, b, ops⟩ st) := ⟨fun st ⟨N, e⟩ => by rw [e]; exact LinW.go (newE_0 hE).1 N (newE_W hE)⟩
  have hov := fullZ_over hE
  have hny : Aside0 (∀ (AF AG : Option Addr) (cF cG : Nat) (W : World), Kd.C k36 W AF L.length L → L.length ≤ cF → Kd.C k65 W AG ops.length ops → ops.length ≤ cG → Calls Try.prog 39 #[.slice AF L.length cF, .int .i64 f, .int .i64 b, .slice AG ops.length cG] W fun e w' => ∃ g, e = .returned (.tuple #[.pointer (some ⟨g, 0, none⟩), .int .i64 0]) ∧ LinT W w' ⟨L, f, b, ops⟩ g (newZ ⟨L, f, b, ops⟩)) := ⟨fun AF AG cF cG W h1 h2 h3 h4 => lin_New_y AF AG cF cG L f b ops W h1 h2 hL3.out h3 h4 hE⟩
  obtain ⟨S, hS⟩ : ∃ S, S = fullZ ⟨L, f, b, ops⟩ := ⟨_, rfl⟩
  rw [← hS] at hWf hov
  obtain ⟨kd, hkd⟩ : ∃ k, k = S.kind := ⟨_, rfl⟩
  obtain ⟨td, htd⟩ : ∃ t : Int, t = (S.tries : Int) := ⟨_, rfl⟩
  obtain ⟨od, hod⟩ : ∃ od, od = (if kd = 1 then S.order else []) := ⟨_, rfl⟩
  have hol9 : S.order.length ≤ 1073741824 := by
    have y1 := hWf.ol
    have y2 := hWf.tb
    have y3 := hWf.b1
    omega
  have hol : Aside0 (od.length ≤ 1073741825) := ⟨by
    rw [hod]
    split
    · omega
    · simp⟩
  have hwy : Aside0 (∀ (AF AG : Option Addr) (cF cG : Nat) (W : World), Kd.C k36 W AF L.length L → L.length ≤ cF → Kd.C k65 W AG ops.length ops → ops.length ≤ cG → Calls Try.prog 48 #[.slice AF L.length cF, .int .i64 f, .int .i64 b, .slice AG ops.length cG] W fun e w' => ∃ v, e = .returned (.tuple #[.agg #[.int .i64 kd, v, .int .i64 td], .bool true]) ∧ Kd.R (Kd.int .i64) 3 w' W.heap.size (fun _ => True) v od ∧ Below W.heap.size W w') := ⟨fun AF AG cF cG W h1 h2 h3 h4 => by
    have y := lin_whole_y AF AG cF cG L f b ops W h1 h2 hL3.out h3 h4 hE
    rw [← hS, ← hkd, ← htd, ← hod] at y
    exact y⟩
  have hvf : Aside0 (∀ {w0 : World} {g : Nat} W, LinT w0 W ⟨L, f, b, ops⟩ g S → Calls Try.prog 43 #[.pointer (some ⟨g, 0, none⟩)] W fun e w' => ∃ v, e = .returned (.tuple #[.agg #[.int .i64 kd, v, .int .i64 td], .bool true]) ∧ Kd.R (Kd.int .i64) 3 w' W.heap.size (fun _ => True) v od ∧ Below W.heap.size W w') := ⟨fun {w0 g} W h => by
    have y := lin_Verdict h hol9
    rw [if_pos hov, if_pos hov, hov] at y
    have e1 : (if true = true ∧ S.kind = 1 then S.order else []) = od := by rw [hod, hkd]; simp
    rw [e1, ← hkd, ← htd] at y
    exact y⟩
  replace hS := Aside0.mk hS
  replace hE := Aside0.mk hE
  clear hf0 hf1 hb0 hb1 hWf hov hkd htd hod hol9
  have key : ∃ ps : List Int, ps.length ≤ 200 ∧ Kd.C (Kd.int .i64) w A3 ps.length ps ∧ ((decide (200 < (ps0.length : Int)) = false ∧ ps = ps0) ∨ (decide (200 < (ps0.length : Int)) = true ∧ (0 : Int) ≤ 200 ∧ (200 : Int) ≤ ps0.length ∧ ps.length = 200)) := by
    by_cases c : 200 < (ps0.length : Int)
    · have y := Kd.C_take (m := 200) hr3 (by omega)
      have e : (ps0.take 200).length = 200 := by rw [List.length_take]; omega
      exact ⟨ps0.take 200, by omega, by first | exact y | (rw [e]; exact y) | (rw [e] at y; exact y), .inr ⟨decide_eq_true c, by decide, by omega, e⟩⟩
    · exact ⟨ps0, by omega, hr3, .inl ⟨decide_eq_false c, rfl⟩⟩
  obtain ⟨ps, hp200, hrp, hcase⟩ := key
  replace hrp := Aside0.mk hrp
  replace hp200 := Aside0.mk hp200
  have hcp : Aside0 (ps.length ≤ c3) := ⟨by rcases hcase with ⟨_, rfl⟩ | ⟨_, _, h, h2⟩ <;> omega⟩
  obtain ⟨i0, hi0, hz0, hsz0, hby0⟩ := info_parts or_info3
  have hcut0 := cut_to (P := Try.prog) 56 3 .i64 Try.underlying56 hi0 A3 ps0.length c3 200 (by decide)
  clear hi0 hz0 hsz0 hby0
  rcases hcase with ⟨hgt, rfl⟩ | ⟨hgt, q0, q1, hpl⟩
  · clear hcut0
    replace hr3 := Aside0.mk hr3
    go_enter Try.func15, Try.ntmps15
    go_wp2_with (first | (go_at_call 22; (with_reducible refine (inquestref15_Few.calls A cap l L _ hr.out hc hF.out).mono ?_); rintro e W1 ⟨vF, rfl, hRF, hB1⟩; obtain ⟨AF, cF, rfl⟩ := Kd.R_slice hRF; obtain ⟨_, hcF, hCF⟩ := Kd.R_reads' hRF; replace hCF := Aside0.mk hCF; replace hB1 := Aside0.mk hB1; replace hcF := Aside0.mk hcF; clear hRF) | (go_at_call 31; (with_reducible refine (inquestref17_Few.calls A2 c2 ops0 8 ops _ (Kd.C_below hr2.out hB1.out) hc2 hF2.out).mono ?_); rintro e W2 ⟨vG, rfl, hRG, hB2⟩; obtain ⟨AG, cG, rfl⟩ := Kd.R_slice hRG; obtain ⟨_, hcG, hCG⟩ := Kd.R_reads' hRG; have hCF2 := Aside0.mk (Kd.C_below hCF.out hB2); have hB02 := Aside0.mk (below_step hB1.out hB2); replace hCG := Aside0.mk hCG; replace hcG := Aside0.mk hcG; clear hRG hB2) | (go_at_call 30; (with_reducible refine (inquestref01_Least.calls fuel 0 300 f _ hf.out).mono ?_); rintro e W3 ⟨rfl, ⟨nW3, rfl⟩⟩) | (go_at_call 30; (with_reducible refine (inquestref01_Least.calls budget 0 400 b _ hb.out).mono ?_); rintro e W4 ⟨rfl, ⟨nW4, rfl⟩⟩) | (go_at_call 48; (with_reducible refine (hwy.out _ _ _ _ _ (Kd.C_below hCF2.out (by (repeat (first | exact Below.refl _ _ | apply pw_below_drewN)); done)) hcF.out (Kd.C_below hCG.out (by (repeat (first | exact Below.refl _ _ | apply pw_below_drewN)); done)) hcG.out).mono ?_); rintro e W5 ⟨v, rfl, hv, hB5⟩; obtain ⟨A8, c8_, rfl⟩ := Kd.R_slice hv; obtain ⟨_, hc8, hC8⟩ := Kd.R_reads' hv; have hCF5 := Aside0.mk (Kd.C_below (Kd.C_below hCF2.out (by (repeat (first | exact Below.refl _ _ | apply pw_below_drewN)); done)) hB5); have hCG5 := Aside0.mk (Kd.C_below (Kd.C_below hCG.out (by (repeat (first | exact Below.refl _ _ | apply pw_below_drewN)); done)) hB5); replace hC8 := Aside0.mk hC8; replace hc8 := Aside0.mk hc8; replace hB5 := Aside0.mk hB5; clear hv) | (go_at_call 39; (with_reducible refine (hny.out _ _ _ _ _ (Kd.C_alloc hCF5.out _) hcF.out (Kd.C_alloc hCG5.out _) hcG.out).mono ?_); rintro e W6 ⟨g, rfl, hT6⟩; replace hT6 := Aside0.mk hT6))
    obtain ⟨w0, hw0⟩ : ∃ w0, w0 = (W5.alloc (.cells #[.int .i64 kd, .slice A8 od.length c8_, .int .i64 td] 75)) := ⟨_, rfl⟩
    have hBw : Aside0 (Below w.heap.size w w0) := ⟨by rw [hw0]; exact below_alloc (below_step hB02.out (below_step (by (repeat (first | exact Below.refl _ _ | apply pw_below_drewN)); done) hB5.out)) _⟩
    rw [← hw0] at hT6
    replace hw0 := Aside0.mk hw0
    have hp1 : Aside0 (∃ N, newZ ⟨L, f, b, ops⟩ = goZ ⟨L, f, b, ops⟩ N (newZ ⟨L, f, b, ops⟩)) := ⟨⟨0, by unfold newZ; rw [goZ_add]⟩⟩
    go_loopg [15] (ps.length + 1) (fun kk v15 W_ => ∃ (i : Nat) (st : LinS), v15 = .int .i64 i ∧ Aside0 (kk + i = ps.length + 1) ∧ Aside0 (i ≤ ps.length ∨ st.over = true) ∧ Aside0 (∃ N, st = goZ ⟨L, f, b, ops⟩ N (newZ ⟨L, f, b, ops⟩)) ∧ Aside0 (LinT w0 W_ ⟨L, f, b, ops⟩ g st))
    case atStart => exact ⟨0, _, rfl, ⟨by omega⟩, ⟨.inl (Nat.zero_le _)⟩, hp1, hT6⟩
    case round =>
      obtain ⟨i, st, rfl, hki, hov, hN, hT⟩ := hrel
      cases gk with
      | succ j =>
        have hi : Aside0 (i ≤ ps.length) := ⟨by have := hki.out; omega⟩
        have hle : decide ((i : Int) ≤ (ps.length : Int)) = true := decide_eq_true (by have := hi.out; omega)
        have hTr0 : Aside0 (∀ W, LinT w0 W ⟨L, f, b, ops⟩ g st → Calls Try.prog 47 #[.pointer (some ⟨g, 0, none⟩)] W fun e w' => e = .returned (.int .i64 (st.tries : Int)) ∧ Below W.heap.size W w') := ⟨fun W h => lin_Tries h⟩
        by_cases hil : i < ps.length
        · have hlt : decide ((i : Int) < (ps.length : Int)) = true := decide_eq_true (by omega)
          obtain ⟨ad3, e3, hc3a⟩ := Kd.at_int (Kd.C_below hrp.out (below_step hBw.out hT.out.below)) (i : Int) (by omega) (by omega)
          have q2 : 0 ≤ (i : Int) := by omega
          have q3 : (i : Int) < (ps.length : Int) := by omega
          simp only [Int.toNat_natCast] at hc3a
          cases e3
          obtain ⟨p, hp⟩ : ∃ p, p = rd ps (i : Int) := ⟨_, rfl⟩
          rw [← hp] at hc3a
          obtain ⟨n, hn, hn1, hn2⟩ := least01 p (-1) 500 (by decide)
          replace hn := Aside0.mk hn
          clear hp hil
          obtain ⟨t1, ht1, m1, m2, m3⟩ := piece_facts hth.out (hWN.out st hN.out) (n := n) (by first | decide | exact hn1) (by first | decide | exact hn2)
          have hgo0 : ∀ W, LinT w0 W ⟨L, f, b, ops⟩ g st → Calls Try.prog 42 #[.pointer (some ⟨g, 0, none⟩), .int .i64 n] W fun e w' => e = .returned (.bool (goZ ⟨L, f, b, ops⟩ (n : Int).toNat st).over) ∧ LinT w0 w' ⟨L, f, b, ops⟩ g (goZ ⟨L, f, b, ops⟩ (n : Int).toNat st) := fun W h => lin_Go h (hWN.out st hN.out) hth.out hfu.out n (by first | decide | omega) (by first | decide | omega)
          have hN1 : Aside0 (∃ N, goZ ⟨L, f, b, ops⟩ (n : Int).toNat st = goZ ⟨L, f, b, ops⟩ N (newZ ⟨L, f, b, ops⟩)) := ⟨by obtain ⟨N, e⟩ := hN.out; exact ⟨N + (n : Int).toNat, by rw [e, goZ_add]⟩⟩
          obtain ⟨S1, hS1⟩ : ∃ S1, S1 = goZ ⟨L, f, b, ops⟩ (n : Int).toNat st := ⟨_, rfl⟩
          rw [← hS1] at ht1 m3 hgo0 hN1
          have hW1 := hWN.out S1 hN1.out
          have hol1 : S1.order.length ≤ 1073741824 := by have y1 := hW1.ol; have y2 := hW1.tb; have y3 := hW1.b1; omega
          have hver0 : ∀ W, LinT w0 W ⟨L, f, b, ops⟩ g S1 → _ := fun W h => lin_Verdict h hol1
          have hOv0 : ∀ W, LinT w0 W ⟨L, f, b, ops⟩ g S1 → _ := fun W h => lin_Over h
          have hTr1 : Aside0 (∀ W, LinT w0 W ⟨L, f, b, ops⟩ g S1 → Calls Try.prog 47 #[.pointer (some ⟨g, 0, none⟩)] W fun e w' => e = .returned (.int .i64 t1) ∧ Below W.heap.size W w') := ⟨fun W h => by rw [ht1]; exact lin_Tries h⟩
          cases hov1 : S1.over with
          | true =>
            have hlast : Aside0 (i + 1 ≤ ps.length ∨ S1.over = true) := ⟨.inr hov1⟩
            have hgo : Aside0 (∀ W, LinT w0 W ⟨L, f, b, ops⟩ g st → Calls Try.prog 42 #[.pointer (some ⟨g, 0, none⟩), .int .i64 n] W fun e w' => e = .returned (.bool true) ∧ LinT w0 w' ⟨L, f, b, ops⟩ g S1) := ⟨fun W h => by have y := hgo0 W h; rw [hov1] at y; exact y⟩
            obtain ⟨kv, hkv⟩ : ∃ x, x = S1.kind := ⟨_, rfl⟩
            have hver : Aside0 (∀ W, LinT w0 W ⟨L, f, b, ops⟩ g S1 → Calls Try.prog 43 #[.pointer (some ⟨g, 0, none⟩)] W fun e w' => ∃ v, ∃ o8 : List Int, e = .returned (.tuple #[.agg #[.int .i64 kv, v, .int .i64 t1], .bool true]) ∧ Kd.R (Kd.int .i64) 3 w' W.heap.size (fun _ => True) v o8 ∧ Below W.heap.size W w') := ⟨fun W h => by have y := hver0 W h; rw [hov1] at y; simp only [if_true, ← hkv, ← ht1] at y; exact y.mono (fun e w' ⟨v, h1, h2, h3⟩ => ⟨v, _, h1, h2, h3⟩)⟩
            have hOv : Aside0 (∀ W, LinT w0 W ⟨L, f, b, ops⟩ g S1 → Calls Try.prog 44 #[.pointer (some ⟨g, 0, none⟩)] W fun e w' => e = .returned (.bool true) ∧ Below W.heap.size W w') := ⟨fun W h => by have y := hOv0 W h; rw [hov1] at y; exact y⟩
            clear hkv hver0 hOv0 hgo0 hol1 hW1 m3 hS1 ht1 hov1
            go_wp2_with (first | (go_at_call 30; (with_reducible refine (inquestref01_Least.calls p (-1) 500 n _ hn.out).mono ?_); rintro e WL ⟨rfl, ⟨nWL, rfl⟩⟩) | (go_at_call 42; (with_reducible refine (hgo.out _ hT6_.out).mono ?_); rintro e W7 ⟨rfl, hT7⟩; replace hT7 := Aside0.mk hT7) | (go_at_call 43; (with_reducible refine (hver.out _ hT7.out).mono ?_); rintro e W8 ⟨v8, o8, rfl, hv8, hB8⟩; obtain ⟨A18, c18, rfl⟩ := Kd.R_slice hv8; have hT8 := Aside0.mk (hT7.out.came hB8); clear hv8 hB8) | (go_at_call 44; (with_reducible refine (hOv.out _ (hT8.out.came (below_alloc (Below.refl _ _) _))).mono ?_); rintro e W9 ⟨rfl, hB9⟩; have hT9 := Aside0.mk ((hT8.out.came (below_alloc (Below.refl _ _) _)).came hB9); have hb9 := Aside0.mk (blk_below (blk_new W8 (.cells #[.int .i64 kv, .slice A18 o8.length c18, .int .i64 t1] 75)) hB9); clear hB9) | (go_at_call 47; (with_reducible refine (hTr1.out _ hT9.out).mono ?_); rintro e W10 ⟨rfl, hB_⟩; have hT10 := Aside0.mk (hT9.out.came hB_); have hb10 := blk_below hb9.out hB_; have s10 : W10.cell? ⟨W8.heap.size, 0, none⟩ = some (.int .i64 kv) := blk_cell hb10 0; replace hb10 := Aside0.mk hb10; clear hB_) | (go_at_call 47; (with_reducible refine (hTr1.out _ hT10.out).mono ?_); rintro e W11 ⟨rfl, hB_⟩; have hT11 := Aside0.mk (hT10.out.came hB_); have hb11 := blk_below hb10.out hB_; have s11 : W11.cell? ⟨W8.heap.size, 0, none⟩ = some (.int .i64 kv) := blk_cell hb11 0; replace hb11 := Aside0.mk hb11; clear hB_) | (go_at_call 47; (with_reducible refine (hTr0.out _ (hT.out.came (by (repeat (first | exact Below.refl _ _ | apply pw_below_drewN)); done))).mono ?_); rintro e W6_ ⟨rfl, hB6_⟩; have hT6_ := Aside0.mk ((hT.out.came (by (repeat (first | exact Below.refl _ _ | apply pw_below_drewN)); done)).came hB6_); clear hB6_))
            go_roundg j
            case measure => omega
            case rel => exact ⟨i + 1, S1, by rw [w64 (by have := hi.out; have := hp200.out; omega) (by have := hi.out; have := hp200.out; omega)]; simp, ⟨by have := hki.out; omega⟩, hlast, hN1, hT11⟩
          | false =>
            have hlast : Aside0 (i + 1 ≤ ps.length ∨ S1.over = true) := ⟨.inl (by have := hi.out; omega)⟩
            have hgo : Aside0 (∀ W, LinT w0 W ⟨L, f, b, ops⟩ g st → Calls Try.prog 42 #[.pointer (some ⟨g, 0, none⟩), .int .i64 n] W fun e w' => e = .returned (.bool false) ∧ LinT w0 w' ⟨L, f, b, ops⟩ g S1) := ⟨fun W h => by have y := hgo0 W h; rw [hov1] at y; exact y⟩
            have hver : Aside0 (∀ W, LinT w0 W ⟨L, f, b, ops⟩ g S1 → Calls Try.prog 43 #[.pointer (some ⟨g, 0, none⟩)] W fun e w' => ∃ v, ∃ o8 : List Int, e = .returned (.tuple #[.agg #[.int .i64 0, v, .int .i64 0], .bool false]) ∧ Kd.R (Kd.int .i64) 3 w' W.heap.size (fun _ => True) v o8 ∧ Below W.heap.size W w') := ⟨fun W h => by have y := hver0 W h; rw [hov1] at y; simp only [Bool.false_eq_true, if_false] at y; exact y.mono (fun e w' ⟨v, h1, h2, h3⟩ => ⟨v, _, h1, h2, h3⟩)⟩
            have hOv : Aside0 (∀ W, LinT w0 W ⟨L, f, b, ops⟩ g S1 → Calls Try.prog 44 #[.pointer (some ⟨g, 0, none⟩)] W fun e w' => e = .returned (.bool false) ∧ Below W.heap.size W w') := ⟨fun W h => by have y := hOv0 W h; rw [hov1] at y; exact y⟩
            have m4 := m3 hov1
            clear hver0 hOv0 hgo0 hol1 hW1 m3 hS1 ht1 hov1
            go_wp2_with (first | (go_at_call 30; (with_reducible refine (inquestref01_Least.calls p (-1) 500 n _ hn.out).mono ?_); rintro e WL ⟨rfl, ⟨nWL, rfl⟩⟩) | (go_at_call 42; (with_reducible refine (hgo.out _ hT6_.out).mono ?_); rintro e W7 ⟨rfl, hT7⟩; replace hT7 := Aside0.mk hT7) | (go_at_call 43; (with_reducible refine (hver.out _ hT7.out).mono ?_); rintro e W8 ⟨v8, o8, rfl, hv8, hB8⟩; obtain ⟨A18, c18, rfl⟩ := Kd.R_slice hv8; have hT8 := Aside0.mk (hT7.out.came hB8); clear hv8 hB8) | (go_at_call 44; (with_reducible refine (hOv.out _ (hT8.out.came (below_alloc (Below.refl _ _) _))).mono ?_); rintro e W9 ⟨rfl, hB9⟩; have hT9 := Aside0.mk ((hT8.out.came (below_alloc (Below.refl _ _) _)).came hB9); have hb9 := Aside0.mk (blk_below (blk_new W8 (.cells #[.int .i64 0, .slice A18 o8.length c18, .int .i64 0] 75)) hB9); clear hB9) | (go_at_call 47; (with_reducible refine (hTr1.out _ hT9.out).mono ?_); rintro e W10 ⟨rfl, hB_⟩; have hT10 := Aside0.mk (hT9.out.came hB_); have hb10 := blk_below hb9.out hB_; have s10 : W10.cell? ⟨W8.heap.size, 0, none⟩ = some (.int .i64 0) := blk_cell hb10 0; replace hb10 := Aside0.mk hb10; clear hB_) | (go_at_call 47; (with_reducible refine (hTr1.out _ hT10.out).mono ?_); rintro e W11 ⟨rfl, hB_⟩; have hT11 := Aside0.mk (hT10.out.came hB_); have hb11 := blk_below hb10.out hB_; have s11 : W11.cell? ⟨W8.heap.size, 0, none⟩ = some (.int .i64 0) := blk_cell hb11 0; replace hb11 := Aside0.mk hb11; clear hB_) | (go_at_call 47; (with_reducible refine (hTr1.out _ hT11.out).mono ?_); rintro e W12 ⟨rfl, hB_⟩; have hT12 := Aside0.mk (hT11.out.came hB_); have hb12 := blk_below hb11.out hB_; have s12 : W12.cell? ⟨W8.heap.size, 0, none⟩ = some (.int .i64 0) := blk_cell hb12 0; replace hb12 := Aside0.mk hb12; clear hB_) | (go_at_call 47; (with_reducible refine (hTr0.out _ (hT.out.came (by (repeat (first | exact Below.refl _ _ | apply pw_below_drewN)); done))).mono ?_); rintro e W6_ ⟨rfl, hB6_⟩; have hT6_ := Aside0.mk ((hT.out.came (by (repeat (first | exact Below.refl _ _ | apply pw_below_drewN)); done)).came hB6_); clear hB6_))
            go_roundg j
            case measure => omega
            case rel => exact ⟨i + 1, S1, by rw [w64 (by have := hi.out; have := hp200.out; omega) (by have := hi.out; have := hp200.out; omega)]; simp, ⟨by have := hki.out; omega⟩, hlast, hN1, hT12⟩
        · obtain rfl : i = ps.length := by have := hi.out; omega
          have hlt : decide ((ps.length : Int) < (ps.length : Int)) = false := decide_eq_false (by omega)
          clear hil
          obtain ⟨t1, ht1, m1, m2, m3⟩ := piece_facts hth.out (hWN.out st hN.out) (n := 500) (by first | decide | exact hn1) (by first | decide | exact hn2)
          have hgo0 : ∀ W, LinT w0 W ⟨L, f, b, ops⟩ g st → Calls Try.prog 42 #[.pointer (some ⟨g, 0, none⟩), .int .i64 500] W fun e w' => e = .returned (.bool (goZ ⟨L, f, b, ops⟩ (500 : Int).toNat st).over) ∧ LinT w0 w' ⟨L, f, b, ops⟩ g (goZ ⟨L, f, b, ops⟩ (500 : Int).toNat st) := fun W h => lin_Go h (hWN.out st hN.out) hth.out hfu.out 500 (by first | decide | omega) (by first | decide | omega)
          have hov5 : (goZ ⟨L, f, b, ops⟩ (500 : Int).toNat st).over = true := goZ_fin hth.out (hWN.out st hN.out) (by show b < _; exact hb500.out)
          have hN1 : Aside0 (∃ N, goZ ⟨L, f, b, ops⟩ (500 : Int).toNat st = goZ ⟨L, f, b, ops⟩ N (newZ ⟨L, f, b, ops⟩)) := ⟨by obtain ⟨N, e⟩ := hN.out; exact ⟨N + (500 : Int).toNat, by rw [e, goZ_add]⟩⟩
          obtain ⟨S1, hS1⟩ : ∃ S1, S1 = goZ ⟨L, f, b, ops⟩ (500 : Int).toNat st := ⟨_, rfl⟩
          rw [← hS1] at ht1 m3 hgo0 hN1 hov5
          have hW1 := hWN.out S1 hN1.out
          have hol1 : S1.order.length ≤ 1073741824 := by have y1 := hW1.ol; have y2 := hW1.tb; have y3 := hW1.b1; omega
          have hver0 : ∀ W, LinT w0 W ⟨L, f, b, ops⟩ g S1 → _ := fun W h => lin_Verdict h hol1
          have hOv0 : ∀ W, LinT w0 W ⟨L, f, b, ops⟩ g S1 → _ := fun W h => lin_Over h
          have hTr1 : Aside0 (∀ W, LinT w0 W ⟨L, f, b, ops⟩ g S1 → Calls Try.prog 47 #[.pointer (some ⟨g, 0, none⟩)] W fun e w' => e = .returned (.int .i64 t1) ∧ Below W.heap.size W w') := ⟨fun W h => by rw [ht1]; exact lin_Tries h⟩
          have hov1 := hov5
          clear hov5
          have hlast : Aside0 (ps.length + 1 ≤ ps.length ∨ S1.over = true) := ⟨.inr hov1⟩
          have hgo : Aside0 (∀ W, LinT w0 W ⟨L, f, b, ops⟩ g st → Calls Try.prog 42 #[.pointer (some ⟨g, 0, none⟩), .int .i64 500] W fun e w' => e = .returned (.bool true) ∧ LinT w0 w' ⟨L, f, b, ops⟩ g S1) := ⟨fun W h => by have y := hgo0 W h; rw [hov1] at y; exact y⟩
          obtain ⟨kv, hkv⟩ : ∃ x, x = S1.kind := ⟨_, rfl⟩
          have hver : Aside0 (∀ W, LinT w0 W ⟨L, f, b, ops⟩ g S1 → Calls Try.prog 43 #[.pointer (some ⟨g, 0, none⟩)] W fun e w' => ∃ v, ∃ o8 : List Int, e = .returned (.tuple #[.agg #[.int .i64 kv, v, .int .i64 t1], .bool true]) ∧ Kd.R (Kd.int .i64) 3 w' W.heap.size (fun _ => True) v o8 ∧ Below W.heap.size W w') := ⟨fun W h => by have y := hver0 W h; rw [hov1] at y; simp only [if_true, ← hkv, ← ht1] at y; exact y.mono (fun e w' ⟨v, h1, h2, h3⟩ => ⟨v, _, h1, h2, h3⟩)⟩
          have hOv : Aside0 (∀ W, LinT w0 W ⟨L, f, b, ops⟩ g S1 → Calls Try.prog 44 #[.pointer (some ⟨g, 0, none⟩)] W fun e w' => e = .returned (.bool true) ∧ Below W.heap.size W w') := ⟨fun W h => by have y := hOv0 W h; rw [hov1] at y; exact y⟩
          clear hkv hver0 hOv0 hgo0 hol1 hW1 m3 hS1 ht1 hov1
          go_wp2_with (first | (go_at_call 42; (with_reducible refine (hgo.out _ hT6_.out).mono ?_); rintro e W7 ⟨rfl, hT7⟩; replace hT7 := Aside0.mk hT7) | (go_at_call 43; (with_reducible refine (hver.out _ hT7.out).mono ?_); rintro e W8 ⟨v8, o8, rfl, hv8, hB8⟩; obtain ⟨A18, c18, rfl⟩ := Kd.R_slice hv8; have hT8 := Aside0.mk (hT7.out.came hB8); clear hv8 hB8) | (go_at_call 44; (with_reducible refine (hOv.out _ (hT8.out.came (below_alloc (Below.refl _ _) _))).mono ?_); rintro e W9 ⟨rfl, hB9⟩; have hT9 := Aside0.mk ((hT8.out.came (below_alloc (Below.refl _ _) _)).came hB9); have hb9 := Aside0.mk (blk_below (blk_new W8 (.cells #[.int .i64 kv, .slice A18 o8.length c18, .int .i64 t1] 75)) hB9); clear hB9) | (go_at_call 47; (with_reducible refine (hTr1.out _ hT9.out).mono ?_); rintro e W10 ⟨rfl, hB_⟩; have hT10 := Aside0.mk (hT9.out.came hB_); have hb10 := blk_below hb9.out hB_; have s10 : W10.cell? ⟨W8.heap.size, 0, none⟩ = some (.int .i64 kv) := blk_cell hb10 0; replace hb10 := Aside0.mk hb10; clear hB_) | (go_at_call 47; (with_reducible refine (hTr1.out _ hT10.out).mono ?_); rintro e W11 ⟨rfl, hB_⟩; have hT11 := Aside0.mk (hT10.out.came hB_); have hb11 := blk_below hb10.out hB_; have s11 : W11.cell? ⟨W8.heap.size, 0, none⟩ = some (.int .i64 kv) := blk_cell hb11 0; replace hb11 := Aside0.mk hb11; clear hB_) | (go_at_call 47; (with_reducible refine (hTr0.out _ (hT.out.came (by (repeat (first | exact Below.refl _ _ | apply pw_below_drewN)); done))).mono ?_); rintro e W6_ ⟨rfl, hB6_⟩; have hT6_ := Aside0.mk ((hT.out.came (by (repeat (first | exact Below.refl _ _ | apply pw_below_drewN)); done)).came hB6_); clear hB6_))
          go_roundg j
          case measure => omega
          case rel => exact ⟨ps.length + 1, S1, by rw [w64 (by have := hi.out; have := hp200.out; omega) (by have := hi.out; have := hp200.out; omega)]; simp, ⟨by have := hki.out; omega⟩, hlast, hN1, hT11⟩
      | zero =>
        obtain ⟨N, eN⟩ := hN.out
        have hst : st = fullZ ⟨L, f, b, ops⟩ := over_full (by rcases hov.out with h | h; (have := hki.out; omega); exact h) eN hE.out
        rw [← hS.out] at hst
        subst hst
        obtain rfl : i = ps.length + 1 := by have := hki.out; omega
        have hlt : decide (((ps.length + 1 : Nat) : Int) ≤ (ps.length : Int)) = false := decide_eq_false (by omega)
        have hbel := hT.out.below
        rw [hw0.out] at hbel
        obtain ⟨WR, hWRe⟩ : ∃ x, x = wr := ⟨_, rfl⟩
        subst hWRe
        have hbw := Aside0.mk (blk_below (blk_new W5 (.cells #[.int .i64 kd, .slice A8 od.length c8_, .int .i64 td] 75)) hbel)
        have hCw := Aside0.mk (Kd.C_below (Kd.C_alloc hC8.out (.cells #[.int .i64 kd, .slice A8 od.length c8_, .int .i64 td] 75)) hbel)
        clear hbel
        go_wp2_with (first | (go_at_call 43; (with_reducible refine (hvf.out _ hT.out).mono ?_); rintro e W20 ⟨v20, rfl, hv20, hBv20⟩; obtain ⟨A20, c20, rfl⟩ := Kd.R_slice hv20; obtain ⟨_, hcv20, hCv20⟩ := Kd.R_reads' hv20; replace hv20 := Aside0.mk hv20; replace hcv20 := Aside0.mk hcv20; replace hCv20 := Aside0.mk hCv20; have b20 := blk_alloc (blk_below hbw.out hBv20) (.cells #[.int .i64 kd, .slice A20 od.length c20, .int .i64 td] 75); have hCw20 := Aside0.mk (Kd.C_below hCw.out hBv20); have s0 : (W20.alloc (.cells #[.int .i64 kd, .slice A20 od.length c20, .int .i64 td] 75)).cell? ⟨W5.heap.size, 0, none⟩ = some (.int .i64 kd) := blk_cell b20 0; have s1 : (W20.alloc (.cells #[.int .i64 kd, .slice A20 od.length c20, .int .i64 td] 75)).cell? ⟨W5.heap.size, 1, none⟩ = some (.slice A8 od.length c8_) := blk_cell b20 1; have s2 : (W20.alloc (.cells #[.int .i64 kd, .slice A20 od.length c20, .int .i64 td] 75)).cell? ⟨W5.heap.size, 2, none⟩ = some (.int .i64 td) := blk_cell b20 2; replace hBv20 := Aside0.mk hBv20) | (go_at_call 45; (with_reducible refine (r18_Same_self kd td od A20 A8 c20 c8_ _ (Kd.C_alloc hCv20.out _) hcv20.out (Kd.C_alloc hCw20.out _) hc8.out hol.out).mono ?_); rintro e W21 ⟨rfl, hBW21⟩; replace hBW21 := Aside0.mk hBW21; replace b20 := Aside0.mk b20))
        have hb21 := blk_below (blk_new W20 (.cells #[.int .i64 kd, .slice A20 od.length c20, .int .i64 td] 75)) hBW21.out
        have hv21 := Aside0.mk (Kd.R_below (Kd.R_alloc hv20.out (.cells #[.int .i64 kd, .slice A20 od.length c20, .int .i64 td] 75)) hBW21.out)
        have hBv21 := Aside0.mk (below_step (below_alloc hBv20.out (.cells #[.int .i64 kd, .slice A20 od.length c20, .int .i64 td] 75)) hBW21.out)
        replace hb21 := Aside0.mk hb21
        clear b20
        go_loopg [23] od.length (fun kk v23 W_ => ∃ (i : Nat) (o2 : List Int), v23 = .int .i64 i ∧ Aside0 (kk + i = od.length ∧ o2.length = od.length) ∧ Aside0 (Kd.R (Kd.int .i64) 3 W_ WR.heap.size (fun _ => True) (.slice A20 od.length c20) o2) ∧ Aside0 (W_.heap[W20.heap.size]? = some (.cells #[.int .i64 kd, .slice A20 od.length c20, .int .i64 td] 75 (0, 0))) ∧ Aside0 (Below WR.heap.size WR W_))
        case atStart => exact ⟨0, od, rfl, ⟨by omega, rfl⟩, hv21, hb21, hBv21⟩
        case round =>
          obtain ⟨i2, o2, rfl, hk2, hR2, hb2, hB2⟩ := hrel
          have s9 : wr.cell? ⟨W20.heap.size, 1, none⟩ = some (.slice A20 od.length c20) := blk_cell hb2.out 1
          cases gk with
          | succ j2 =>
            have hi2 : i2 < od.length := by have := hk2.out; omega
            obtain ⟨go, cap_, eo, gb, gl, cl, HG⟩ := Kd.R_form hv20.out (by omega)
            injection eo with ea en ec
            subst ea
            clear en ec HG cl
            obtain ⟨hx, hfz⟩ := Kd.R_celln (0 : Int) hR2.out (i2 : Int) (by omega) (by omega)
            have hput := Kd.R_putg hR2.out (i2 : Int) (-1)
            simp only [Int.toNat_natCast] at hx hfz hput
            replace hput := Aside0.mk hput
            have hne : Aside0 (W20.heap.size ≠ go) := ⟨by omega⟩
            have hlt2 : decide ((i2 : Int) < (od.length : Int)) = true := decide_eq_true (by omega)
            have q2 : 0 ≤ (i2 : Int) := by omega
            have q3 : (i2 : Int) < (od.length : Int) := by omega
            replace gb := Aside0.mk gb
            clear gl
            go_wp2
            go_roundg j2
            case measure => omega
            case rel => exact ⟨i2 + 1, _, by rw [w64 (by have := hol.out; omega) (by have := hol.out; omega)]; simp, ⟨by have := hk2.out; omega, by simp [hk2.out.2]⟩, ⟨hput.out.1⟩, ⟨(Below.heap_setCell _ _ _ _ hne.out).trans hb2.out⟩, ⟨below_set hB2.out gb.out⟩⟩
          | zero =>
            obtain rfl : i2 = od.length := by have := hk2.out; omega
            have hlt2 : decide ((od.length : Int) < (od.length : Int)) = false := decide_eq_false (by omega)
            go_wp2_with (first | (go_at_call 43; (with_reducible refine (hvf.out _ (hT.out.came hB2.out)).mono ?_); rintro e W30 ⟨v30, rfl, hv30, hBv30⟩; obtain ⟨A30, c30, rfl⟩ := Kd.R_slice hv30; obtain ⟨_, hcv30, hCv30⟩ := Kd.R_reads' hv30; replace hv30 := Aside0.mk hv30; replace hcv30 := Aside0.mk hcv30; replace hCv30 := Aside0.mk hCv30; have b30 := blk_alloc (blk_below (blk_below hbw.out hB2.out) hBv30) (.cells #[.int .i64 kd, .slice A30 od.length c30, .int .i64 td] 75); have hCw30 := Aside0.mk (Kd.C_below (Kd.C_below hCw.out hB2.out) hBv30); have s0 : (W30.alloc (.cells #[.int .i64 kd, .slice A30 od.length c30, .int .i64 td] 75)).cell? ⟨W5.heap.size, 0, none⟩ = some (.int .i64 kd) := blk_cell b30 0; have s1 : (W30.alloc (.cells #[.int .i64 kd, .slice A30 od.length c30, .int .i64 td] 75)).cell? ⟨W5.heap.size, 1, none⟩ = some (.slice A8 od.length c8_) := blk_cell b30 1; have s2 : (W30.alloc (.cells #[.int .i64 kd, .slice A30 od.length c30, .int .i64 td] 75)).cell? ⟨W5.heap.size, 2, none⟩ = some (.int .i64 td) := blk_cell b30 2; replace hBv30 := Aside0.mk hBv30) | (go_at_call 45; (with_reducible refine (r18_Same_self kd td od A30 A8 c30 c8_ _ (Kd.C_alloc hCv30.out _) hcv30.out (Kd.C_alloc hCw30.out _) hc8.out hol.out).mono ?_); rintro e W31 ⟨rfl, hBW31⟩; replace hBW31 := Aside0.mk hBW31; replace b30 := Aside0.mk b30) | (go_at_call 41; (with_reducible refine (lin_lives _).mono ?_); rintro e WZ ⟨rfl, hBZ⟩; replace hBZ := Aside0.mk hBZ))
            go_ret
            exact ⟨rfl, below_step (below_step (below_alloc (below_step (below_step (below_step hBw.out hT.out.below) hB2.out) hBv30.out) _) hBW31.out) hBZ.out⟩


  · have hcut := hcut0 q1 hc3
    rw [show (200 : Int).toNat = ps.length from hpl.symm] at hcut
    replace hr3 := Aside0.mk hr3
    replace hpl := Aside0.mk hpl
    clear hcut0
    go_enter Try.func15, Try.ntmps15
    go_wp2_with (first | (go_at_call 22; (with_reducible refine (inquestref15_Few.calls A cap l L _ hr.out hc hF.out).mono ?_); rintro e W1 ⟨vF, rfl, hRF, hB1⟩; obtain ⟨AF, cF, rfl⟩ := Kd.R_slice hRF; obtain ⟨_, hcF, hCF⟩ := Kd.R_reads' hRF; replace hCF := Aside0.mk hCF; replace hB1 := Aside0.mk hB1; replace hcF := Aside0.mk hcF; clear hRF) | (go_at_call 31; (with_reducible refine (inquestref17_Few.calls A2 c2 ops0 8 ops _ (Kd.C_below hr2.out hB1.out) hc2 hF2.out).mono ?_); rintro e W2 ⟨vG, rfl, hRG, hB2⟩; obtain ⟨AG, cG, rfl⟩ := Kd.R_slice hRG; obtain ⟨_, hcG, hCG⟩ := Kd.R_reads' hRG; have hCF2 := Aside0.mk (Kd.C_below hCF.out hB2); have hB02 := Aside0.mk (below_step hB1.out hB2); replace hCG := Aside0.mk hCG; replace hcG := Aside0.mk hcG; clear hRG hB2) | (go_at_call 30; (with_reducible refine (inquestref01_Least.calls fuel 0 300 f _ hf.out).mono ?_); rintro e W3 ⟨rfl, ⟨nW3, rfl⟩⟩) | (go_at_call 30; (with_reducible refine (inquestref01_Least.calls budget 0 400 b _ hb.out).mono ?_); rintro e W4 ⟨rfl, ⟨nW4, rfl⟩⟩) | (go_at_call 48; (with_reducible refine (hwy.out _ _ _ _ _ (Kd.C_below hCF2.out (by (repeat (first | exact Below.refl _ _ | apply pw_below_drewN)); done)) hcF.out (Kd.C_below hCG.out (by (repeat (first | exact Below.refl _ _ | apply pw_below_drewN)); done)) hcG.out).mono ?_); rintro e W5 ⟨v, rfl, hv, hB5⟩; obtain ⟨A8, c8_, rfl⟩ := Kd.R_slice hv; obtain ⟨_, hc8, hC8⟩ := Kd.R_reads' hv; have hCF5 := Aside0.mk (Kd.C_below (Kd.C_below hCF2.out (by (repeat (first | exact Below.refl _ _ | apply pw_below_drewN)); done)) hB5); have hCG5 := Aside0.mk (Kd.C_below (Kd.C_below hCG.out (by (repeat (first | exact Below.refl _ _ | apply pw_below_drewN)); done)) hB5); replace hC8 := Aside0.mk hC8; replace hc8 := Aside0.mk hc8; replace hB5 := Aside0.mk hB5; clear hv) | (go_at_call 39; (with_reducible refine (hny.out _ _ _ _ _ (Kd.C_alloc hCF5.out _) hcF.out (Kd.C_alloc hCG5.out _) hcG.out).mono ?_); rintro e W6 ⟨g, rfl, hT6⟩; replace hT6 := Aside0.mk hT6))
    obtain ⟨w0, hw0⟩ : ∃ w0, w0 = (W5.alloc (.cells #[.int .i64 kd, .slice A8 od.length c8_, .int .i64 td] 75)) := ⟨_, rfl⟩
    have hBw : Aside0 (Below w.heap.size w w0) := ⟨by rw [hw0]; exact below_alloc (below_step hB02.out (below_step (by (repeat (first | exact Below.refl _ _ | apply pw_below_drewN)); done) hB5.out)) _⟩
    rw [← hw0] at hT6
    replace hw0 := Aside0.mk hw0
    have hp1 : Aside0 (∃ N, newZ ⟨L, f, b, ops⟩ = goZ ⟨L, f, b, ops⟩ N (newZ ⟨L, f, b, ops⟩)) := ⟨⟨0, by unfold newZ; rw [goZ_add]⟩⟩
    go_loopg [15] (ps.length + 1) (fun kk v15 W_ => ∃ (i : Nat) (st : LinS), v15 = .int .i64 i ∧ Aside0 (kk + i = ps.length + 1) ∧ Aside0 (i ≤ ps.length ∨ st.over = true) ∧ Aside0 (∃ N, st = goZ ⟨L, f, b, ops⟩ N (newZ ⟨L, f, b, ops⟩)) ∧ Aside0 (LinT w0 W_ ⟨L, f, b, ops⟩ g st))
    case atStart => exact ⟨0, _, rfl, ⟨by omega⟩, ⟨.inl (Nat.zero_le _)⟩, hp1, hT6⟩
    case round =>
      obtain ⟨i, st, rfl, hki, hov, hN, hT⟩ := hrel
      cases gk with
      | succ j =>
        have hi : Aside0 (i ≤ ps.length) := ⟨by have := hki.out; omega⟩
        have hle : decide ((i : Int) ≤ (ps.length : Int)) = true := decide_eq_true (by have := hi.out; omega)
        have hTr0 : Aside0 (∀ W, LinT w0 W ⟨L, f, b, ops⟩ g st → Calls Try.prog 47 #[.pointer (some ⟨g, 0, none⟩)] W fun e w' => e = .returned (.int .i64 (st.tries : Int)) ∧ Below W.heap.size W w') := ⟨fun W h => lin_Tries h⟩
        by_cases hil : i < ps.length
        · have hlt : decide ((i : Int) < (ps.length : Int)) = true := decide_eq_true (by omega)
          obtain ⟨ad3, e3, hc3a⟩ := Kd.at_int (Kd.C_below hrp.out (below_step hBw.out hT.out.below)) (i : Int) (by omega) (by omega)
          have q2 : 0 ≤ (i : Int) := by omega
          have q3 : (i : Int) < (ps.length : Int) := by omega
          simp only [Int.toNat_natCast] at hc3a
          cases e3
          obtain ⟨p, hp⟩ : ∃ p, p = rd ps (i : Int) := ⟨_, rfl⟩
          rw [← hp] at hc3a
          obtain ⟨n, hn, hn1, hn2⟩ := least01 p (-1) 500 (by decide)
          replace hn := Aside0.mk hn
          clear hp hil
          obtain ⟨t1, ht1, m1, m2, m3⟩ := piece_facts hth.out (hWN.out st hN.out) (n := n) (by first | decide | exact hn1) (by first | decide | exact hn2)
          have hgo0 : ∀ W, LinT w0 W ⟨L, f, b, ops⟩ g st → Calls Try.prog 42 #[.pointer (some ⟨g, 0, none⟩), .int .i64 n] W fun e w' => e = .returned (.bool (goZ ⟨L, f, b, ops⟩ (n : Int).toNat st).over) ∧ LinT w0 w' ⟨L, f, b, ops⟩ g (goZ ⟨L, f, b, ops⟩ (n : Int).toNat st) := fun W h => lin_Go h (hWN.out st hN.out) hth.out hfu.out n (by first | decide | omega) (by first | decide | omega)
          have hN1 : Aside0 (∃ N, goZ ⟨L, f, b, ops⟩ (n : Int).toNat st = goZ ⟨L, f, b, ops⟩ N (newZ ⟨L, f, b, ops⟩)) := ⟨by obtain ⟨N, e⟩ := hN.out; exact ⟨N + (n : Int).toNat, by rw [e, goZ_add]⟩⟩
          obtain ⟨S1, hS1⟩ : ∃ S1, S1 = goZ ⟨L, f, b, ops⟩ (n : Int).toNat st := ⟨_, rfl⟩
          rw [← hS1] at ht1 m3 hgo0 hN1
          have hW1 := hWN.out S1 hN1.out
          have hol1 : S1.order.length ≤ 1073741824 := by have y1 := hW1.ol; have y2 := hW1.tb; have y3 := hW1.b1; omega
          have hver0 : ∀ W, LinT w0 W ⟨L, f, b, ops⟩ g S1 → _ := fun W h => lin_Verdict h hol1
          have hOv0 : ∀ W, LinT w0 W ⟨L, f, b, ops⟩ g S1 → _ := fun W h => lin_Over h
          have hTr1 : Aside0 (∀ W, LinT w0 W ⟨L, f, b, ops⟩ g S1 → Calls Try.prog 47 #[.pointer (some ⟨g, 0, none⟩)] W fun e w' => e = .returned (.int .i64 t1) ∧ Below W.heap.size W w') := ⟨fun W h => by rw [ht1]; exact lin_Tries h⟩
          cases hov1 : S1.over with
          | true =>
            have hlast : Aside0 (i + 1 ≤ ps.length ∨ S1.over = true) := ⟨.inr hov1⟩
            have hgo : Aside0 (∀ W, LinT w0 W ⟨L, f, b, ops⟩ g st → Calls Try.prog 42 #[.pointer (some ⟨g, 0, none⟩), .int .i64 n] W fun e w' => e = .returned (.bool true) ∧ LinT w0 w' ⟨L, f, b, ops⟩ g S1) := ⟨fun W h => by have y := hgo0 W h; rw [hov1] at y; exact y⟩
            obtain ⟨kv, hkv⟩ : ∃ x, x = S1.kind := ⟨_, rfl⟩
            have hver : Aside0 (∀ W, LinT w0 W ⟨L, f, b, ops⟩ g S1 → Calls Try.prog 43 #[.pointer (some ⟨g, 0, none⟩)] W fun e w' => ∃ v, ∃ o8 : List Int, e = .returned (.tuple #[.agg #[.int .i64 kv, v, .int .i64 t1], .bool true]) ∧ Kd.R (Kd.int .i64) 3 w' W.heap.size (fun _ => True) v o8 ∧ Below W.heap.size W w') := ⟨fun W h => by have y := hver0 W h; rw [hov1] at y; simp only [if_true, ← hkv, ← ht1] at y; exact y.mono (fun e w' ⟨v, h1, h2, h3⟩ => ⟨v, _, h1, h2, h3⟩)⟩
            have hOv : Aside0 (∀ W, LinT w0 W ⟨L, f, b, ops⟩ g S1 → Calls Try.prog 44 #[.pointer (some ⟨g, 0, none⟩)] W fun e w' => e = .returned (.bool true) ∧ Below W.heap.size W w') := ⟨fun W h => by have y := hOv0 W h; rw [hov1] at y; exact y⟩
            clear hkv hver0 hOv0 hgo0 hol1 hW1 m3 hS1 ht1 hov1
            go_wp2_with (first | (go_at_call 30; (with_reducible refine (inquestref01_Least.calls p (-1) 500 n _ hn.out).mono ?_); rintro e WL ⟨rfl, ⟨nWL, rfl⟩⟩) | (go_at_call 42; (with_reducible refine (hgo.out _ hT6_.out).mono ?_); rintro e W7 ⟨rfl, hT7⟩; replace hT7 := Aside0.mk hT7) | (go_at_call 43; (with_reducible refine (hver.out _ hT7.out).mono ?_); rintro e W8 ⟨v8, o8, rfl, hv8, hB8⟩; obtain ⟨A18, c18, rfl⟩ := Kd.R_slice hv8; have hT8 := Aside0.mk (hT7.out.came hB8); clear hv8 hB8) | (go_at_call 44; (with_reducible refine (hOv.out _ (hT8.out.came (below_alloc (Below.refl _ _) _))).mono ?_); rintro e W9 ⟨rfl, hB9⟩; have hT9 := Aside0.mk ((hT8.out.came (below_alloc (Below.refl _ _) _)).came hB9); have hb9 := Aside0.mk (blk_below (blk_new W8 (.cells #[.int .i64 kv, .slice A18 o8.length c18, .int .i64 t1] 75)) hB9); clear hB9) | (go_at_call 47; (with_reducible refine (hTr1.out _ hT9.out).mono ?_); rintro e W10 ⟨rfl, hB_⟩; have hT10 := Aside0.mk (hT9.out.came hB_); have hb10 := blk_below hb9.out hB_; have s10 : W10.cell? ⟨W8.heap.size, 0, none⟩ = some (.int .i64 kv) := blk_cell hb10 0; replace hb10 := Aside0.mk hb10; clear hB_) | (go_at_call 47; (with_reducible refine (hTr1.out _ hT10.out).mono ?_); rintro e W11 ⟨rfl, hB_⟩; have hT11 := Aside0.mk (hT10.out.came hB_); have hb11 := blk_below hb10.out hB_; have s11 : W11.cell? ⟨W8.heap.size, 0, none⟩ = some (.int .i64 kv) := blk_cell hb11 0; replace hb11 := Aside0.mk hb11; clear hB_) | (go_at_call 47; (with_reducible refine (hTr0.out _ (hT.out.came (by (repeat (first | exact Below.refl _ _ | apply pw_below_drewN)); done))).mono ?_); rintro e W6_ ⟨rfl, hB6_⟩; have hT6_ := Aside0.mk ((hT.out.came (by (repeat (first | exact Below.refl _ _ | apply pw_below_drewN)); done)).came hB6_); clear hB6_))
            go_roundg j
            case measure => omega
            case rel => exact ⟨i + 1, S1, by rw [w64 (by have := hi.out; have := hp200.out; omega) (by have := hi.out; have := hp200.out; omega)]; simp, ⟨by have := hki.out; omega⟩, hlast, hN1, hT11⟩
          | false =>
            have hlast : Aside0 (i + 1 ≤ ps.length ∨ S1.over = true) := ⟨.inl (by have := hi.out; omega)⟩
            have hgo : Aside0 (∀ W, LinT w0 W ⟨L, f, b, ops⟩ g st → Calls Try.prog 42 #[.pointer (some ⟨g, 0, none⟩), .int .i64 n] W fun e w' => e = .returned (.bool false) ∧ LinT w0 w' ⟨L, f, b, ops⟩ g S1) := ⟨fun W h => by have y := hgo0 W h; rw [hov1] at y; exact y⟩
            have hver : Aside0 (∀ W, LinT w0 W ⟨L, f, b, ops⟩ g S1 → Calls Try.prog 43 #[.pointer (some ⟨g, 0, none⟩)] W fun e w' => ∃ v, ∃ o8 : List Int, e = .returned (.tuple #[.agg #[.int .i64 0, v, .int .i64 0], .bool false]) ∧ Kd.R (Kd.int .i64) 3 w' W.heap.size (fun _ => True) v o8 ∧ Below W.heap.size W w') := ⟨fun W h => by have y := hver0 W h; rw [hov1] at y; simp only [Bool.false_eq_true, if_false] at y; exact y.mono (fun e w' ⟨v, h1, h2, h3⟩ => ⟨v, _, h1, h2, h3⟩)⟩
            have hOv : Aside0 (∀ W, LinT w0 W ⟨L, f, b, ops⟩ g S1 → Calls Try.prog 44 #[.pointer (some ⟨g, 0, none⟩)] W fun e w' => e = .returned (.bool false) ∧ Below W.heap.size W w') := ⟨fun W h => by have y := hOv0 W h; rw [hov1] at y; exact y⟩
            have m4 := m3 hov1
            clear hver0 hOv0 hgo0 hol1 hW1 m3 hS1 ht1 hov1
            go_wp2_with (first | (go_at_call 30; (with_reducible refine (inquestref01_Least.calls p (-1) 500 n _ hn.out).mono ?_); rintro e WL ⟨rfl, ⟨nWL, rfl⟩⟩) | (go_at_call 42; (with_reducible refine (hgo.out _ hT6_.out).mono ?_); rintro e W7 ⟨rfl, hT7⟩; replace hT7 := Aside0.mk hT7) | (go_at_call 43; (with_reducible refine (hver.out _ hT7.out).mono ?_); rintro e W8 ⟨v8, o8, rfl, hv8, hB8⟩; obtain ⟨A18, c18, rfl⟩ := Kd.R_slice hv8; have hT8 := Aside0.mk (hT7.out.came hB8); clear hv8 hB8) | (go_at_call 44; (with_reducible refine (hOv.out _ (hT8.out.came (below_alloc (Below.refl _ _) _))).mono ?_); rintro e W9 ⟨rfl, hB9⟩; have hT9 := Aside0.mk ((hT8.out.came (below_alloc (Below.refl _ _) _)).came hB9); have hb9 := Aside0.mk (blk_below (blk_new W8 (.cells #[.int .i64 0, .slice A18 o8.length c18, .int .i64 0] 75)) hB9); clear hB9) | (go_at_call 47; (with_reducible refine (hTr1.out _ hT9.out).mono ?_); rintro e W10 ⟨rfl, hB_⟩; have hT10 := Aside0.mk (hT9.out.came hB_); have hb10 := blk_below hb9.out hB_; have s10 : W10.cell? ⟨W8.heap.size, 0, none⟩ = some (.int .i64 0) := blk_cell hb10 0; replace hb10 := Aside0.mk hb10; clear hB_) | (go_at_call 47; (with_reducible refine (hTr1.out _ hT10.out).mono ?_); rintro e W11 ⟨rfl, hB_⟩; have hT11 := Aside0.mk (hT10.out.came hB_); have hb11 := blk_below hb10.out hB_; have s11 : W11.cell? ⟨W8.heap.size, 0, none⟩ = some (.int .i64 0) := blk_cell hb11 0; replace hb11 := Aside0.mk hb11; clear hB_) | (go_at_call 47; (with_reducible refine (hTr1.out _ hT11.out).mono ?_); rintro e W12 ⟨rfl, hB_⟩; have hT12 := Aside0.mk (hT11.out.came hB_); have hb12 := blk_below hb11.out hB_; have s12 : W12.cell? ⟨W8.heap.size, 0, none⟩ = some (.int .i64 0) := blk_cell hb12 0; replace hb12 := Aside0.mk hb12; clear hB_) | (go_at_call 47; (with_reducible refine (hTr0.out _ (hT.out.came (by (repeat (first | exact Below.refl _ _ | apply pw_below_drewN)); done))).mono ?_); rintro e W6_ ⟨rfl, hB6_⟩; have hT6_ := Aside0.mk ((hT.out.came (by (repeat (first | exact Below.refl _ _ | apply pw_below_drewN)); done)).came hB6_); clear hB6_))
            go_roundg j
            case measure => omega
            case rel => exact ⟨i + 1, S1, by rw [w64 (by have := hi.out; have := hp200.out; omega) (by have := hi.out; have := hp200.out; omega)]; simp, ⟨by have := hki.out; omega⟩, hlast, hN1, hT12⟩
        · obtain rfl : i = ps.length := by have := hi.out; omega
          have hlt : decide ((ps.length : Int) < (ps.length : Int)) = false := decide_eq_false (by omega)
          clear hil
          obtain ⟨t1, ht1, m1, m2, m3⟩ := piece_facts hth.out (hWN.out st hN.out) (n := 500) (by first | decide | exact hn1) (by first | decide | exact hn2)
          have hgo0 : ∀ W, LinT w0 W ⟨L, f, b, ops⟩ g st → Calls Try.prog 42 #[.pointer (some ⟨g, 0, none⟩), .int .i64 500] W fun e w' => e = .returned (.bool (goZ ⟨L, f, b, ops⟩ (500 : Int).toNat st).over) ∧ LinT w0 w' ⟨L, f, b, ops⟩ g (goZ ⟨L, f, b, ops⟩ (500 : Int).toNat st) := fun W h => lin_Go h (hWN.out st hN.out) hth.out hfu.out 500 (by first | decide | omega) (by first | decide | omega)
          have hov5 : (goZ ⟨L, f, b, ops⟩ (500 : Int).toNat st).over = true := goZ_fin hth.out (hWN.out st hN.out) (by show b < _; exact hb500.out)
          have hN1 : Aside0 (∃ N, goZ ⟨L, f, b, ops⟩ (500 : Int).toNat st = goZ ⟨L, f, b, ops⟩ N (newZ ⟨L, f, b, ops⟩)) := ⟨by obtain ⟨N, e⟩ := hN.out; exact ⟨N + (500 : Int).toNat, by rw [e, goZ_add]⟩⟩
          obtain ⟨S1, hS1⟩ : ∃ S1, S1 = goZ ⟨L, f, b, ops⟩ (500 : Int).toNat st := ⟨_, rfl⟩
          rw [← hS1] at ht1 m3 hgo0 hN1 hov5
          have hW1 := hWN.out S1 hN1.out
          have hol1 : S1.order.length ≤ 1073741824 := by have y1 := hW1.ol; have y2 := hW1.tb; have y3 := hW1.b1; omega
          have hver0 : ∀ W, LinT w0 W ⟨L, f, b, ops⟩ g S1 → _ := fun W h => lin_Verdict h hol1
          have hOv0 : ∀ W, LinT w0 W ⟨L, f, b, ops⟩ g S1 → _ := fun W h => lin_Over h
          have hTr1 : Aside0 (∀ W, LinT w0 W ⟨L, f, b, ops⟩ g S1 → Calls Try.prog 47 #[.pointer (some ⟨g, 0, none⟩)] W fun e w' => e = .returned (.int .i64 t1) ∧ Below W.heap.size W w') := ⟨fun W h => by rw [ht1]; exact lin_Tries h⟩
          have hov1 := hov5
          clear hov5
          have hlast : Aside0 (ps.length + 1 ≤ ps.length ∨ S1.over = true) := ⟨.inr hov1⟩
          have hgo : Aside0 (∀ W, LinT w0 W ⟨L, f, b, ops⟩ g st → Calls Try.prog 42 #[.pointer (some ⟨g, 0, none⟩), .int .i64 500] W fun e w' => e = .returned (.bool true) ∧ LinT w0 w' ⟨L, f, b, ops⟩ g S1) := ⟨fun W h => by have y := hgo0 W h; rw [hov1] at y; exact y⟩
          obtain ⟨kv, hkv⟩ : ∃ x, x = S1.kind := ⟨_, rfl⟩
          have hver : Aside0 (∀ W, LinT w0 W ⟨L, f, b, ops⟩ g S1 → Calls Try.prog 43 #[.pointer (some ⟨g, 0, none⟩)] W fun e w' => ∃ v, ∃ o8 : List Int, e = .returned (.tuple #[.agg #[.int .i64 kv, v, .int .i64 t1], .bool true]) ∧ Kd.R (Kd.int .i64) 3 w' W.heap.size (fun _ => True) v o8 ∧ Below W.heap.size W w') := ⟨fun W h => by have y := hver0 W h; rw [hov1] at y; simp only [if_true, ← hkv, ← ht1] at y; exact y.mono (fun e w' ⟨v, h1, h2, h3⟩ => ⟨v, _, h1, h2, h3⟩)⟩
          have hOv : Aside0 (∀ W, LinT w0 W ⟨L, f, b, ops⟩ g S1 → Calls Try.prog 44 #[.pointer (some ⟨g, 0, none⟩)] W fun e w' => e = .returned (.bool true) ∧ Below W.heap.size W w') := ⟨fun W h => by have y := hOv0 W h; rw [hov1] at y; exact y⟩
          clear hkv hver0 hOv0 hgo0 hol1 hW1 m3 hS1 ht1 hov1
          go_wp2_with (first | (go_at_call 42; (with_reducible refine (hgo.out _ hT6_.out).mono ?_); rintro e W7 ⟨rfl, hT7⟩; replace hT7 := Aside0.mk hT7) | (go_at_call 43; (with_reducible refine (hver.out _ hT7.out).mono ?_); rintro e W8 ⟨v8, o8, rfl, hv8, hB8⟩; obtain ⟨A18, c18, rfl⟩ := Kd.R_slice hv8; have hT8 := Aside0.mk (hT7.out.came hB8); clear hv8 hB8) | (go_at_call 44; (with_reducible refine (hOv.out _ (hT8.out.came (below_alloc (Below.refl _ _) _))).mono ?_); rintro e W9 ⟨rfl, hB9⟩; have hT9 := Aside0.mk ((hT8.out.came (below_alloc (Below.refl _ _) _)).came hB9); have hb9 := Aside0.mk (blk_below (blk_new W8 (.cells #[.int .i64 kv, .slice A18 o8.length c18, .int .i64 t1] 75)) hB9); clear hB9) | (go_at_call 47; (with_reducible refine (hTr1.out _ hT9.out).mono ?_); rintro e W10 ⟨rfl, hB_⟩; have hT10 := Aside0.mk (hT9.out.came hB_); have hb10 := blk_below hb9.out hB_; have s10 : W10.cell? ⟨W8.heap.size, 0, none⟩ = some (.int .i64 kv) := blk_cell hb10 0; replace hb10 := Aside0.mk hb10; clear hB_) | (go_at_call 47; (with_reducible refine (hTr1.out _ hT10.out).mono ?_); rintro e W11 ⟨rfl, hB_⟩; have hT11 := Aside0.mk (hT10.out.came hB_); have hb11 := blk_below hb10.out hB_; have s11 : W11.cell? ⟨W8.heap.size, 0, none⟩ = some (.int .i64 kv) := blk_cell hb11 0; replace hb11 := Aside0.mk hb11; clear hB_) | (go_at_call 47; (with_reducible refine (hTr0.out _ (hT.out.came (by (repeat (first | exact Below.refl _ _ | apply pw_below_drewN)); done))).mono ?_); rintro e W6_ ⟨rfl, hB6_⟩; have hT6_ := Aside0.mk ((hT.out.came (by (repeat (first | exact Below.refl _ _ | apply pw_below_drewN)); done)).came hB6_); clear hB6_))
          go_roundg j
          case measure => omega
          case rel => exact ⟨ps.length + 1, S1, by rw [w64 (by have := hi.out; have := hp200.out; omega) (by have := hi.out; have := hp200.out; omega)]; simp, ⟨by have := hki.out; omega⟩, hlast, hN1, hT11⟩
      | zero =>
        obtain ⟨N, eN⟩ := hN.out
        have hst : st = fullZ ⟨L, f, b, ops⟩ := over_full (by rcases hov.out with h | h; (have := hki.out; omega); exact h) eN hE.out
        rw [← hS.out] at hst
        subst hst
        obtain rfl : i = ps.length + 1 := by have := hki.out; omega
        have hlt : decide (((ps.length + 1 : Nat) : Int) ≤ (ps.length : Int)) = false := decide_eq_false (by omega)
        have hbel := hT.out.below
        rw [hw0.out] at hbel
        obtain ⟨WR, hWRe⟩ : ∃ x, x = wr := ⟨_, rfl⟩
        subst hWRe
        have hbw := Aside0.mk (blk_below (blk_new W5 (.cells #[.int .i64 kd, .slice A8 od.length c8_, .int .i64 td] 75)) hbel)
        have hCw := Aside0.mk (Kd.C_below (Kd.C_alloc hC8.out (.cells #[.int .i64 kd, .slice A8 od.length c8_, .int .i64 td] 75)) hbel)
        clear hbel
        go_wp2_with (first | (go_at_call 43; (with_reducible refine (hvf.out _ hT.out).mono ?_); rintro e W20 ⟨v20, rfl, hv20, hBv20⟩; obtain ⟨A20, c20, rfl⟩ := Kd.R_slice hv20; obtain ⟨_, hcv20, hCv20⟩ := Kd.R_reads' hv20; replace hv20 := Aside0.mk hv20; replace hcv20 := Aside0.mk hcv20; replace hCv20 := Aside0.mk hCv20; have b20 := blk_alloc (blk_below hbw.out hBv20) (.cells #[.int .i64 kd, .slice A20 od.length c20, .int .i64 td] 75); have hCw20 := Aside0.mk (Kd.C_below hCw.out hBv20); have s0 : (W20.alloc (.cells #[.int .i64 kd, .slice A20 od.length c20, .int .i64 td] 75)).cell? ⟨W5.heap.size, 0, none⟩ = some (.int .i64 kd) := blk_cell b20 0; have s1 : (W20.alloc (.cells #[.int .i64 kd, .slice A20 od.length c20, .int .i64 td] 75)).cell? ⟨W5.heap.size, 1, none⟩ = some (.slice A8 od.length c8_) := blk_cell b20 1; have s2 : (W20.alloc (.cells #[.int .i64 kd, .slice A20 od.length c20, .int .i64 td] 75)).cell? ⟨W5.heap.size, 2, none⟩ = some (.int .i64 td) := blk_cell b20 2; replace hBv20 := Aside0.mk hBv20) | (go_at_call 45; (with_reducible refine (r18_Same_self kd td od A20 A8 c20 c8_ _ (Kd.C_alloc hCv20.out _) hcv20.out (Kd.C_alloc hCw20.out _) hc8.out hol.out).mono ?_); rintro e W21 ⟨rfl, hBW21⟩; replace hBW21 := Aside0.mk hBW21; replace b20 := Aside0.mk b20))
        have hb21 := blk_below (blk_new W20 (.cells #[.int .i64 kd, .slice A20 od.length c20, .int .i64 td] 75)) hBW21.out
        have hv21 := Aside0.mk (Kd.R_below (Kd.R_alloc hv20.out (.cells #[.int .i64 kd, .slice A20 od.length c20, .int .i64 td] 75)) hBW21.out)
        have hBv21 := Aside0.mk (below_step (below_alloc hBv20.out (.cells #[.int .i64 kd, .slice A20 od.length c20, .int .i64 td] 75)) hBW21.out)
        replace hb21 := Aside0.mk hb21
        clear b20
        go_loopg [23] od.length (fun kk v23 W_ => ∃ (i : Nat) (o2 : List Int), v23 = .int .i64 i ∧ Aside0 (kk + i = od.length ∧ o2.length = od.length) ∧ Aside0 (Kd.R (Kd.int .i64) 3 W_ WR.heap.size (fun _ => True) (.slice A20 od.length c20) o2) ∧ Aside0 (W_.heap[W20.heap.size]? = some (.cells #[.int .i64 kd, .slice A20 od.length c20, .int .i64 td] 75 (0, 0))) ∧ Aside0 (Below WR.heap.size WR W_))
        case atStart => exact ⟨0, od, rfl, ⟨by omega, rfl⟩, hv21, hb21, hBv21⟩
        case round =>
          obtain ⟨i2, o2, rfl, hk2, hR2, hb2, hB2⟩ := hrel
          have s9 : wr.cell? ⟨W20.heap.size, 1, none⟩ = some (.slice A20 od.length c20) := blk_cell hb2.out 1
          cases gk with
          | succ j2 =>
            have hi2 : i2 < od.length := by have := hk2.out; omega
            obtain ⟨go, cap_, eo, gb, gl, cl, HG⟩ := Kd.R_form hv20.out (by omega)
            injection eo with ea en ec
            subst ea
            clear en ec HG cl
            obtain ⟨hx, hfz⟩ := Kd.R_celln (0 : Int) hR2.out (i2 : Int) (by omega) (by omega)
            have hput := Kd.R_putg hR2.out (i2 : Int) (-1)
            simp only [Int.toNat_natCast] at hx hfz hput
            replace hput := Aside0.mk hput
            have hne : Aside0 (W20.heap.size ≠ go) := ⟨by omega⟩
            have hlt2 : decide ((i2 : Int) < (od.length : Int)) = true := decide_eq_true (by omega)
            have q2 : 0 ≤ (i2 : Int) := by omega
            have q3 : (i2 : Int) < (od.length : Int) := by omega
            replace gb := Aside0.mk gb
            clear gl
            go_wp2
            go_roundg j2
            case measure => omega
            case rel => exact ⟨i2 + 1, _, by rw [w64 (by have := hol.out; omega) (by have := hol.out; omega)]; simp, ⟨by have := hk2.out; omega, by simp [hk2.out.2]⟩, ⟨hput.out.1⟩, ⟨(Below.heap_setCell _ _ _ _ hne.out).trans hb2.out⟩, ⟨below_set hB2.out gb.out⟩⟩
          | zero =>
            obtain rfl : i2 = od.length := by have := hk2.out; omega
            have hlt2 : decide ((od.length : Int) < (od.length : Int)) = false := decide_eq_false (by omega)
            go_wp2_with (first | (go_at_call 43; (with_reducible refine (hvf.out _ (hT.out.came hB2.out)).mono ?_); rintro e W30 ⟨v30, rfl, hv30, hBv30⟩; obtain ⟨A30, c30, rfl⟩ := Kd.R_slice hv30; obtain ⟨_, hcv30, hCv30⟩ := Kd.R_reads' hv30; replace hv30 := Aside0.mk hv30; replace hcv30 := Aside0.mk hcv30; replace hCv30 := Aside0.mk hCv30; have b30 := blk_alloc (blk_below (blk_below hbw.out hB2.out) hBv30) (.cells #[.int .i64 kd, .slice A30 od.length c30, .int .i64 td] 75); have hCw30 := Aside0.mk (Kd.C_below (Kd.C_below hCw.out hB2.out) hBv30); have s0 : (W30.alloc (.cells #[.int .i64 kd, .slice A30 od.length c30, .int .i64 td] 75)).cell? ⟨W5.heap.size, 0, none⟩ = some (.int .i64 kd) := blk_cell b30 0; have s1 : (W30.alloc (.cells #[.int .i64 kd, .slice A30 od.length c30, .int .i64 td] 75)).cell? ⟨W5.heap.size, 1, none⟩ = some (.slice A8 od.length c8_) := blk_cell b30 1; have s2 : (W30.alloc (.cells #[.int .i64 kd, .slice A30 od.length c30, .int .i64 td] 75)).cell? ⟨W5.heap.size, 2, none⟩ = some (.int .i64 td) := blk_cell b30 2; replace hBv30 := Aside0.mk hBv30) | (go_at_call 45; (with_reducible refine (r18_Same_self kd td od A30 A8 c30 c8_ _ (Kd.C_alloc hCv30.out _) hcv30.out (Kd.C_alloc hCw30.out _) hc8.out hol.out).mono ?_); rintro e W31 ⟨rfl, hBW31⟩; replace hBW31 := Aside0.mk hBW31; replace b30 := Aside0.mk b30) | (go_at_call 41; (with_reducible refine (lin_lives _).mono ?_); rintro e WZ ⟨rfl, hBZ⟩; replace hBZ := Aside0.mk hBZ))
            go_ret
            exact ⟨rfl, below_step (below_step (below_alloc (below_step (below_step (below_step hBw.out hT.out.below) hB2.out) hBv30.out) _) hBW31.out) hBZ.out⟩
end Go.Proofs.Ytddkoimaghcbeaa.PVmSteps
