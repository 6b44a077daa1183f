/- A part of what the law LinTells stands on, only as far as it is needed (the words and walks were printed or written in this seat; this text was cut by a program of this session, wip/bin/trim.py). No condition beyond what each theorem says. -/
import Derived.Test.YtddkoimaghcbeaaZLTPVmStepsx0
import Derived.Test.YtddkoimaghcbeaaZLTPVmStepsx2
import Derived.Test.YtddkoimaghcbeaaZLTPVmStepsx3
import Derived.Test.YtddkoimaghcbeaaZLTPVmStepsx4
import Derived.Test.YtddkoimaghcbeaaZLTPVmStepsx5
import Derived.Test.YtddkoimaghcbeaaZLTPVmStepsx6
import Derived.Test.YtddkoimaghcbeaaZLTTmpliv
namespace Go.Proofs.Ytddkoimaghcbeaa.PVmSteps
open Go.RowKit Go.Proofs.YtddkoimaghcbeaaW.PrintWords Go.Proofs.YtddkoimaghcbeaaW.PrintLast Go.Proofs.YtddkoimaghcbeaaW.PrintMore
set_option linter.unusedVariables false
set_option linter.unusedSimpArgs false
theorem readyZ_over {q : LinQ} {st : LinS} (h : st.over = true) : readyZ q st = (finZ st, false) := by unfold readyZ; rw [if_pos h]
theorem readyZ_none {q : LinQ} {st : LinS} (h : st.over = false) (hd : (dueZ q.ops st.l st.order).1 = false) : readyZ q st = (finZ { st with l := (dueZ q.ops st.l st.order).2.1, order := (dueZ q.ops st.l st.order).2.2, over := true, kind := 2 }, false) := by
  unfold readyZ
  rw [if_neg (by simp [h])]
  generalize dueZ q.ops st.l st.order = d at *
  obtain ⟨b, l, o⟩ := d
  simp only at hd
  subst hd
  rfl
theorem readyZ_out {q : LinQ} {st : LinS} (h : st.over = false) (hd : (dueZ q.ops st.l st.order).1 = true) (hb : (st.tries : Int) = q.budget) : readyZ q st = (finZ { st with l := (dueZ q.ops st.l st.order).2.1, order := (dueZ q.ops st.l st.order).2.2, over := true, kind := 4 }, false) := by
  unfold readyZ
  rw [if_neg (by simp [h])]
  generalize dueZ q.ops st.l st.order = d at *
  obtain ⟨b, l, o⟩ := d
  simp only at hd
  subst hd
  simp only [if_pos hb]
theorem readyZ_go {q : LinQ} {st : LinS} (h : st.over = false) (hd : (dueZ q.ops st.l st.order).1 = true) (hb : ¬ (st.tries : Int) = q.budget) : readyZ q st = ({ st with l := (dueZ q.ops st.l st.order).2.1, order := (dueZ q.ops st.l st.order).2.2 }, true) := by
  unfold readyZ
  rw [if_neg (by simp [h])]
  generalize dueZ q.ops st.l st.order = d at *
  obtain ⟨b, l, o⟩ := d
  simp only at hd
  subst hd
  simp only [if_neg hb]
theorem goZ_end {q : LinQ} {st : LinS} (h : (readyZ q st).2 = false) (n : Nat) : goZ q n st = (readyZ q st).1 := by
  cases n with
  | zero => rfl
  | succ n => rw [goZ, if_neg (by simp [h])]
theorem goZ_over {q : LinQ} {st : LinS} (h : st.over = true) (n : Nat) : goZ q n st = finZ st := by rw [goZ_end (by rw [readyZ_over h]), readyZ_over h]
theorem goZ_go {q : LinQ} {st : LinS} (h : (readyZ q st).2 = true) (n : Nat) : goZ q (n + 1) st = goZ q n (tryZ q (readyZ q st).1) := by rw [goZ, if_pos h]
theorem LinW.due {q : LinQ} {st : LinS} (h : LinW q st) : LinW q { st with l := (dueZ q.ops st.l st.order).2.1, order := (dueZ q.ops st.l st.order).2.2 } := by
  obtain ⟨h1, h2, h3, h4⟩ := dueZ_facts q.ops st.l st.order h.fr
  have ho := h.ol
  have hl := h.ll
  exact ⟨h.n64, h.b0, h.b1, h1, h.sn, Nat.le_trans h3 ho, Nat.le_trans h2 hl, h.tb⟩
section
variable {w0 W : World} {q : LinQ} {g gm bm : Nat} {vM vO vA vL vR : Value} {st : LinS}
theorem LinM.fin (h : LinM w0 W q g gm bm vM vO vA vL vR { st with seen := [] }) : LinM w0 (W.setCell ⟨g, 7, none⟩ (.slice none 0 0)) q g gm bm vM vO vA (.slice none 0 0) vR (finZ st) := h.setL (.slice none 0 0) [] (Kd.R_nil _ _ _ _ _)
end
set_option maxRecDepth 100000 in
set_option maxHeartbeats 8000000 in
theorem lin_Go {w0 W : World} {q : LinQ} {g : Nat} {st : LinS} (h : LinT w0 W q g st) (hW : LinW q st) (hc : (thru q.L).2.2 = 0) (hfu : q.fuel ≤ 9223372036854775807) (n : Int) (hn0 : -9223372036854775808 ≤ n) (hn1 : n ≤ 9223372036854775807) :
    Calls Try.prog 42 #[.pointer (some ⟨g, 0, none⟩), .int .i64 n] W fun e w' => e = .returned (.bool (goZ q n.toNat st).over) ∧ LinT w0 w' q g (goZ q n.toNat st) := by
  obtain ⟨gm, bm, vM, vO, vA, vL, vR, h⟩ := h
  obtain ⟨R, hR⟩ : ∃ R, R = goZ q n.toNat st := ⟨_, rfl⟩
  rw [← hR]
  replace hR := Aside0.mk hR
  replace hc := Aside0.mk hc
  replace hfu := Aside0.mk hfu
  have hnb : Aside0 (-9223372036854775808 ≤ n ∧ n ≤ 9223372036854775807) := ⟨hn0, hn1⟩
  obtain ⟨c0, c1, c2, c3, c4, c5, c6, c7, c8, c9, c10, c11⟩ := h.cells W (Below.refl _ _)
  have h0 := Aside0.mk h
  have hW0 := Aside0.mk hW
  clear h hW c1 c2 c3 c4 c5 c6 c7 c8 c9 c10 c11 hn0 hn1
  go_enter Try.func42, Try.ntmps42
  go_wp2
  go_loopg [1] (n.toNat + 1) (fun kk v1 W_ => ∃ (n1 : Int) (s1 : LinS) (vL1 vR1 : Value), v1 = .int .i64 n1 ∧ Aside0 (-9223372036854775808 ≤ n1 ∧ n1 ≤ 9223372036854775807) ∧ Aside0 ((s1.over = true ∨ kk = n1.toNat + 1) ∧ goZ q n1.toNat s1 = R) ∧ Aside0 (LinW q s1) ∧ Aside0 (LinM w0 W_ q g gm bm vM vO vA vL1 vR1 s1))
  case atStart => exact ⟨n, st, vL, vR, rfl, hnb, ⟨.inr rfl, hR.out.symm⟩, hW0, h0⟩
  case round =>
    obtain ⟨n1, s1, vL1, vR1, rfl, hn1, hk, hW1, hM⟩ := hrel
    obtain ⟨c0, c1, c2, c3, c4, c5, c6, c7, c8, c9, c10, c11⟩ := hM.out.cells wr (Below.refl _ _)
    clear c0 c1 c2 c3 c4 c5 c8 c9 c11
    cases hov : s1.over with
    | true =>
      rw [hov] at c10
      obtain ⟨W7, hrun7, hS7, hg7, _⟩ := clear_ps hM.out.hS
      have hM7 := Aside0.mk (hM.out.putS hg7 hS7)
      obtain ⟨d0, d1, d2, d3, d4, d5, d6, d7, d8, d9, d10, d11⟩ := hM7.out.cells W7 (Below.refl _ _)
      have z7 := hM7.out.free 7
      have hfin : Aside0 (R = finZ s1) := ⟨by rw [← hk.out.2, goZ_over hov]⟩
      have hM8 : Aside0 (LinM w0 (W7.setCell ⟨g, 7, none⟩ (.slice none 0 0)) q g gm bm vM vO vA (.slice none 0 0) vR1 (finZ s1)) := ⟨hM7.out.fin⟩
      replace hg7 := Aside0.mk hg7
      replace hS7 := Aside0.mk hS7
      clear d0 d1 d2 d3 d4 d5 d6 d8 d9 d10 d11 c7
      go_wp2
      go_ret
      rw [hfin.out]
      exact ⟨by rw [show (finZ s1).over = s1.over from rfl, hov]; rfl, _, _, _, _, _, _, _, hM8.out⟩
    | false =>
      rw [hov] at c10
      clear c6 c7
      cases hdd : (dueZ q.ops s1.l s1.order).1 with
      | false =>
        have hrd := readyZ_none (q := q) hov hdd
        obtain ⟨D, hD⟩ : ∃ D, D = dueZ q.ops s1.l s1.order := ⟨_, rfl⟩
        have hz : Aside0 (goZ q n1.toNat { s1 with l := D.2.1, order := D.2.2, over := true, kind := 2 } = R) := ⟨by rw [goZ_over rfl, ← hk.out.2, goZ_end (by rw [hrd]), hrd, hD]⟩
        have hW2 : Aside0 (LinW q { s1 with l := D.2.1, order := D.2.2, over := true, kind := 2 }) := ⟨by
          have y := (LinW.due hW1.out); rw [← hD] at y; exact ⟨y.n64, y.b0, y.b1, y.fr, y.sn, y.ol, y.ll, y.tb⟩⟩
        have hDU := Aside0.mk (lin_due hM.out hW1.out)
        rw [← hD] at hdd hDU
        clear hrd hD
        replace hdd := Aside0.mk hdd
        cases gk with
        | zero => exact absurd hk.out.1 (by simp [hov])
        | succ j =>
          go_wp2_with (first | (go_at_call 68; (with_reducible refine (hDU.out).mono ?_); rw [hdd.out]; rintro e W2 ⟨rfl, vL2, vR2, hM2⟩; replace hM2 := Aside0.mk hM2; obtain ⟨c0, c1, c2, c3, c4, c5, c6, c7, c8, c9, c10, c11⟩ := hM2.out.cells W2 (Below.refl _ _); clear c0 c1 c3 c4 c5 c6 c7 c8 c10 c11) | (go_at_call 69; (with_reducible refine (lin_ends (hM2.out.came (by repeat (first | exact Below.refl _ _ | apply pw_below_drewN))) 2).mono ?_); rintro e W9 ⟨rfl, hM9⟩; replace hM9 := Aside0.mk hM9))
          go_roundg 0
          case measure => omega
          case rel => exact ⟨n1, _, _, _, rfl, hn1, ⟨.inl rfl, hz.out⟩, hW2, hM9⟩
      | true =>
        obtain ⟨D, hD⟩ : ∃ D, D = dueZ q.ops s1.l s1.order := ⟨_, rfl⟩
        have hW2 : Aside0 (LinW q { s1 with l := D.2.1, order := D.2.2 }) := ⟨by have y := (LinW.due hW1.out); rw [← hD] at y; exact y⟩
        have hDU := Aside0.mk (lin_due hM.out hW1.out)
        rw [← hD] at hDU
        cases gk with
        | zero => exact absurd hk.out.1 (by simp [hov])
        | succ j =>
          have hj : Aside0 (j = n1.toNat) := ⟨by rcases hk.out.1 with e | e; rw [hov] at e; cases e; omega⟩
          by_cases hb : (s1.tries : Int) = q.budget
          · have hrd := readyZ_out (q := q) hov hdd hb
            have hz : Aside0 (goZ q n1.toNat { s1 with l := D.2.1, order := D.2.2, over := true, kind := 4 } = R) := ⟨by rw [goZ_over rfl, ← hk.out.2, goZ_end (by rw [hrd]), hrd, hD]⟩
            have hW3 : Aside0 (LinW q { s1 with l := D.2.1, order := D.2.2, over := true, kind := 4 }) := ⟨by have y := hW2.out; exact ⟨y.n64, y.b0, y.b1, y.fr, y.sn, y.ol, y.ll, y.tb⟩⟩
            have hbb : ((s1.tries : Int) == q.budget) = true := by simpa using hb
            rw [← hD] at hdd
            clear hrd hD hb
            replace hdd := Aside0.mk hdd
            go_wp2_with (first | (go_at_call 68; (with_reducible refine (hDU.out).mono ?_); rw [hdd.out]; rintro e W2 ⟨rfl, vL2, vR2, hM2⟩; replace hM2 := Aside0.mk hM2; obtain ⟨c0, c1, c2, c3, c4, c5, c6, c7, c8, c9, c10, c11⟩ := hM2.out.cells W2 (Below.refl _ _); clear c0 c1 c3 c4 c5 c6 c7 c8 c10 c11))
            go_quiet (fail)
            go_wp2_with (first | (go_at_call 69; (with_reducible refine (lin_ends (hM2.out.came (by repeat (first | exact Below.refl _ _ | apply pw_below_drewN))) 4).mono ?_); rintro e W9 ⟨rfl, hM9⟩; replace hM9 := Aside0.mk hM9))
            go_roundg 0
            case measure => omega
            case rel => exact ⟨n1, _, _, _, rfl, hn1, ⟨.inl rfl, hz.out⟩, hW3, hM9⟩
          · have hrd := readyZ_go (q := q) hov hdd hb
            have hbb : ((s1.tries : Int) == q.budget) = false := by simpa using hb
            have hrs : Aside0 ((readyZ q s1).2 = true ∧ (readyZ q s1).1 = { s1 with l := D.2.1, order := D.2.2 }) := ⟨by rw [hrd, hD]; exact ⟨rfl, rfl⟩⟩
            have hfacts := hW1.out.ready.2 hrs.out.1
            rw [hrs.out.2] at hfacts
            rw [← hD] at hdd
            clear hrd hD hb
            replace hdd := Aside0.mk hdd
            by_cases hn : n1 ≤ 0
            · have hnn : decide (n1 ≤ 0) = true := decide_eq_true hn
              have hz : Aside0 (R = { s1 with l := D.2.1, order := D.2.2 }) := ⟨by rw [← hk.out.2, show n1.toNat = 0 by omega, goZ, hrs.out.2]⟩
              clear hfacts hn
              go_wp2_with (first | (go_at_call 68; (with_reducible refine (hDU.out).mono ?_); rw [hdd.out]; rintro e W2 ⟨rfl, vL2, vR2, hM2⟩; replace hM2 := Aside0.mk hM2; obtain ⟨c0, c1, c2, c3, c4, c5, c6, c7, c8, c9, c10, c11⟩ := hM2.out.cells W2 (Below.refl _ _); clear c0 c1 c3 c4 c5 c6 c7 c8 c10 c11))
              go_quiet (fail)
              go_wp2
              go_ret
              rw [hz.out]
              exact ⟨by rw [show ({ s1 with l := D.2.1, order := D.2.2 } : LinS).over = s1.over from rfl, hov]; rfl, _, _, _, _, _, _, _, hM2.out.came (by repeat (first | exact Below.refl _ _ | apply pw_below_drewN))⟩
            · have hnn : decide (n1 ≤ 0) = false := decide_eq_false hn
              obtain ⟨hbud, ⟨s, cs⟩, i, r, hl, hi, _⟩ := hfacts
              have hwn : wrap64 (n1 - 1) = n1 - 1 := w64 (by have := hn1.out; omega) (by have := hn1.out; omega)
              have hz : Aside0 (goZ q (n1 - 1).toNat (tryZ q { s1 with l := D.2.1, order := D.2.2 }) = R) := ⟨by
                have e : n1.toNat = (n1 - 1).toNat + 1 := by omega
                rw [← hk.out.2, e, goZ_go hrs.out.1, hrs.out.2]⟩
              have hW4 := Aside0.mk (LinW.try hW2.out hc.out hbud hl hi)
              have htry := Aside0.mk (fun (W_ : World) (vL2 vR2 : Value) (hM2 : LinM w0 W_ q g gm bm vM vO vA vL2 vR2 { s1 with l := D.2.1, order := D.2.2 }) => lin_try hM2 hW2.out hc.out hfu.out hbud hl hi)
              have hn2 : Aside0 (-9223372036854775808 ≤ n1 - 1 ∧ n1 - 1 ≤ 9223372036854775807) := ⟨by have := hn1.out; omega⟩
              have hjm : Aside0 (j = (n1 - 1).toNat + 1) := ⟨by have := hj.out; omega⟩
              replace hwn := Aside0.mk hwn
              clear hbud hl hi hn
              go_wp2_with (first | (go_at_call 68; (with_reducible refine (hDU.out).mono ?_); rw [hdd.out]; rintro e W2 ⟨rfl, vL2, vR2, hM2⟩; replace hM2 := Aside0.mk hM2; obtain ⟨c0, c1, c2, c3, c4, c5, c6, c7, c8, c9, c10, c11⟩ := hM2.out.cells W2 (Below.refl _ _); clear c0 c1 c3 c4 c5 c6 c7 c8 c10 c11))
              go_quiet (fail)
              go_wp2_with (first | (go_at_call 70; (with_reducible refine (htry.out _ _ _ (hM2.out.came (by repeat (first | exact Below.refl _ _ | apply pw_below_drewN)))).mono ?_); rintro e W9 ⟨rfl, vL9, vR9, hM9⟩; replace hM9 := Aside0.mk hM9))
              go_roundg j
              case measure => omega
              case rel => exact ⟨n1 - 1, _, _, _, by rw [hwn.out], hn2, ⟨.inr hjm.out, hz.out⟩, hW4, hM9⟩
end Go.Proofs.Ytddkoimaghcbeaa.PVmSteps
