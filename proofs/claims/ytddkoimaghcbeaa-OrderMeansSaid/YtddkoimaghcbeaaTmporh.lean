/- A part of the proofs about layers 16 to 18 (vm, order, lin) and their references: contracts and plain lemmas that the laws stand on. No condition beyond what each theorem says. -/
import Derived.Test.YtddkoimaghcbeaaPVmStepsx1
import Derived.Test.YtddkoimaghcbeaaPVmStepsx2
import Derived.Test.YtddkoimaghcbeaaPVmStepsx3
import Derived.Test.YtddkoimaghcbeaaPVmStepsx4
import Derived.Test.YtddkoimaghcbeaaPVmStepsx5
import Derived.Test.YtddkoimaghcbeaaPVmStepsx6
import Derived.Test.YtddkoimaghcbeaaTmporg
namespace Go.Proofs.Ytddkoimaghcbeaa.PVmSteps
open Go.RowKit Go.Proofs.YtddkoimaghcbeaaW.PrintWords Go.Proofs.YtddkoimaghcbeaaW.PrintLast Go.Proofs.YtddkoimaghcbeaaW.PrintMore
set_option linter.unusedVariables false
set_option linter.unusedSimpArgs false
theorem op_cells5 {w : World} {A : Option Addr} {n : Nat} {xs : List S65} (h : Kd.C k65 w A n xs) (i : Int) (h0 : 0 ≤ i) (h1 : i < n) : ∃ ad, A = some ad ∧ ∀ W_ : World, Below w.heap.size w W_ → (W_.cell? ⟨(ad.add (i.toNat * 7)).block, (ad.add (i.toNat * 7)).off + 3, none⟩ = some (.bool (rd_T65 xs i).f3) ∧ W_.cell? ⟨(ad.add (i.toNat * 7)).block, (ad.add (i.toNat * 7)).off + 5, none⟩ = some (.int .i64 (rd_T65 xs i).f5) ∧ W_.cell? ⟨(ad.add (i.toNat * 7)).block, (ad.add (i.toNat * 7)).off + 6, none⟩ = some (.int .i64 (rd_T65 xs i).f6)) := by
  obtain ⟨ad, e, x0, x1, x2, x3, x4, x5, x6⟩ := at_T65 h i h0 h1
  exact ⟨ad, e, fun W_ hb => ⟨(hb.cell (World.block_lt_of_cell? w _ x3)).trans x3, (hb.cell (World.block_lt_of_cell? w _ x5)).trans x5, (hb.cell (World.block_lt_of_cell? w _ x6)).trans x6⟩⟩
set_option maxRecDepth 100000 in
set_option maxHeartbeats 8000000 in
theorem orderMeans_core (A : Option Addr) (cap : Nat) (l : List S36) (fuel : Int) (A2 : Option Addr) (c2 : Nat) (ops0 : List S65) (A3 : Option Addr) (c3 : Nat) (o0 : List Int) (w : World) (hr : Kd.C k36 w A l.length l) (hc : l.length ≤ cap) (hm : l.length ≤ maxLen) (hr2 : Kd.C k65 w A2 ops0.length ops0) (hc2 : ops0.length ≤ c2) (hr3 : Kd.C (Kd.int .i64) w A3 o0.length o0) (hc3 : o0.length ≤ c3) :
    Calls Try.prog 11 #[.slice A l.length cap, .int .i64 fuel, .slice A2 ops0.length c2, .slice A3 o0.length c3] w fun e w' => e = .returned (.bool true) ∧ Below w.heap.size w w' := by
  have hF := Aside0.mk (few15 l hm)
  have hF2 := Aside0.mk (few17 ops0 64 (by decide) (by decide))
  have hL2 : (l.take 210).length ≤ 210 := by rw [List.length_take]; omega
  have hO2 : (o0.take (64 : Int).toNat).length ≤ 64 := by rw [List.length_take]; exact Nat.min_le_left _ _
  have hI := Aside0.mk (fun (W : World) (h : Kd.C (Kd.int .i64) W A3 o0.length o0) => ord_Ints A3 c3 o0 64 W h hc3 (by decide) (by decide))
  generalize l.take 210 = L at *
  generalize ops0.take (64 : Int).toNat = ops at *
  generalize o0.take (64 : Int).toNat = o at *
  have hL3 : Aside0 (L.length ≤ 300) := ⟨by omega⟩
  have hO3 : Aside0 (o.length ≤ 1000) := ⟨by omega⟩
  replace hr := Aside0.mk hr
  replace hr2 := Aside0.mk hr2
  replace hr3 := Aside0.mk hr3
  obtain ⟨f, hf, hf0, hf1⟩ := least01 fuel 0 500 (by decide)
  replace hf := Aside0.mk hf
  obtain ⟨a, ha⟩ : ∃ a, a = ordC L f ops o := ⟨_, rfl⟩
  clear hL2 hO2 hm hf0 hf1
  by_cases h0 : a = 0
  rotate_left
  · have hnb : (a != 0) = true := by simpa using h0
    replace ha := Aside0.mk ha
    clear h0
    go_enter Try.func11, Try.ntmps11
    go_wp2_with (first | (go_at_call 22; (with_reducible refine (inquestref15_Few.calls A cap l L _ hr.out hc hF.out).mono ?_); rintro e W1 ⟨vF, rfl, hRF, hB1⟩; obtain ⟨AF, cF, rfl⟩ := Kd.R_slice hRF; obtain ⟨_, hcF, hCF⟩ := Kd.R_reads' hRF; replace hCF := Aside0.mk hCF; replace hB1 := Aside0.mk hB1; replace hcF := Aside0.mk hcF; clear hRF) | (go_at_call 31; (with_reducible refine (inquestref17_Few.calls A2 c2 ops0 64 ops _ (Kd.C_below hr2.out hB1.out) hc2 hF2.out).mono ?_); rintro e W2 ⟨vG, rfl, hRG, hB2⟩; obtain ⟨AG, cG, rfl⟩ := Kd.R_slice hRG; obtain ⟨_, hcG, hCG⟩ := Kd.R_reads' hRG; replace hCG := Aside0.mk hCG; replace hB2 := Aside0.mk hB2; replace hcG := Aside0.mk hcG; clear hRG) | (go_at_call 32; (with_reducible refine (hI.out _ (Kd.C_below (Kd.C_below hr3.out hB1.out) hB2.out)).mono ?_); rintro e W3 ⟨vH, rfl, hRH, hB3⟩; obtain ⟨AH, cH, rfl⟩ := Kd.R_slice hRH; obtain ⟨_, hcH, hCH⟩ := Kd.R_reads' hRH; have hchk : Aside0 (∀ (f_ : Int) (W : World), Below W3.heap.size W3 W → Calls Try.prog 33 #[.slice AF L.length cF, .int .i64 f_, .slice AG ops.length cG, .slice AH o.length cH] W fun e w' => e = .returned (.int .i64 (ordC L f_ ops o)) ∧ Below W.heap.size W w') := ⟨fun f_ W hW => ord_Check AF AG AH cF cG cH L f_ ops o W (Kd.C_below (Kd.C_below (Kd.C_below hCF.out hB2.out) hB3) hW) hcF.out hL3.out (Kd.C_below (Kd.C_below hCG.out hB3) hW) hcG.out (Kd.C_below hCH hW) hcH hO3.out⟩; have hB03 := Aside0.mk (below_step (below_step hB1.out hB2.out) hB3); have hCG3 := Aside0.mk (Kd.C_below hCG.out hB3); have hCH3 := Aside0.mk hCH; clear hRH hCH hcH hB3) | (go_at_call 30; (with_reducible refine (inquestref01_Least.calls fuel 0 500 f _ hf.out).mono ?_); rintro e W5 ⟨rfl, ⟨nd, rfl⟩⟩) | (go_at_call 33; (with_reducible refine (hchk.out f _ ?hbw).mono ?_); (case hbw => repeat (first | exact Below.refl _ _ | apply pw_below_drewN)); rw [← ha.out]; rintro e W6 ⟨rfl, hB6_⟩; have hB36 : Aside0 (Below W3.heap.size W3 W6) := ⟨below_step (by repeat (first | exact Below.refl _ _ | apply pw_below_drewN)) hB6_⟩; clear hB6_) | (go_at_call 37; (with_reducible refine (ord_lives _).mono ?_); rintro e WZ ⟨rfl, hBZ⟩; replace hBZ := Aside0.mk hBZ))
    go_ret
    exact ⟨rfl, below_step (below_step hB03.out hB36.out) hBZ.out⟩
  subst h0
  obtain ⟨hn64, hOF⟩ := ordF_of ha.symm
  replace ha := Aside0.mk ha
  replace hOF := Aside0.mk hOF
  replace hn64 := Aside0.mk hn64
  have hn0 : decide (0 ≤ (ops.length : Int)) = true := decide_eq_true (by omega)
  go_enter Try.func11, Try.ntmps11
  go_wp2_with (first | (go_at_call 22; (with_reducible refine (inquestref15_Few.calls A cap l L _ hr.out hc hF.out).mono ?_); rintro e W1 ⟨vF, rfl, hRF, hB1⟩; obtain ⟨AF, cF, rfl⟩ := Kd.R_slice hRF; obtain ⟨_, hcF, hCF⟩ := Kd.R_reads' hRF; replace hCF := Aside0.mk hCF; replace hB1 := Aside0.mk hB1; replace hcF := Aside0.mk hcF; clear hRF) | (go_at_call 31; (with_reducible refine (inquestref17_Few.calls A2 c2 ops0 64 ops _ (Kd.C_below hr2.out hB1.out) hc2 hF2.out).mono ?_); rintro e W2 ⟨vG, rfl, hRG, hB2⟩; obtain ⟨AG, cG, rfl⟩ := Kd.R_slice hRG; obtain ⟨_, hcG, hCG⟩ := Kd.R_reads' hRG; replace hCG := Aside0.mk hCG; replace hB2 := Aside0.mk hB2; replace hcG := Aside0.mk hcG; clear hRG) | (go_at_call 32; (with_reducible refine (hI.out _ (Kd.C_below (Kd.C_below hr3.out hB1.out) hB2.out)).mono ?_); rintro e W3 ⟨vH, rfl, hRH, hB3⟩; obtain ⟨AH, cH, rfl⟩ := Kd.R_slice hRH; obtain ⟨_, hcH, hCH⟩ := Kd.R_reads' hRH; have hchk : Aside0 (∀ (f_ : Int) (W : World), Below W3.heap.size W3 W → Calls Try.prog 33 #[.slice AF L.length cF, .int .i64 f_, .slice AG ops.length cG, .slice AH o.length cH] W fun e w' => e = .returned (.int .i64 (ordC L f_ ops o)) ∧ Below W.heap.size W w') := ⟨fun f_ W hW => ord_Check AF AG AH cF cG cH L f_ ops o W (Kd.C_below (Kd.C_below (Kd.C_below hCF.out hB2.out) hB3) hW) hcF.out hL3.out (Kd.C_below (Kd.C_below hCG.out hB3) hW) hcG.out (Kd.C_below hCH hW) hcH hO3.out⟩; have hB03 := Aside0.mk (below_step (below_step hB1.out hB2.out) hB3); have hCG3 := Aside0.mk (Kd.C_below hCG.out hB3); have hCH3 := Aside0.mk hCH; clear hRH hCH hcH hB3) | (go_at_call 30; (with_reducible refine (inquestref01_Least.calls fuel 0 500 f _ hf.out).mono ?_); rintro e W5 ⟨rfl, ⟨nd, rfl⟩⟩) | (go_at_call 33; (with_reducible refine (hchk.out f _ ?hbw).mono ?_); (case hbw => repeat (first | exact Below.refl _ _ | apply pw_below_drewN)); rw [← ha.out]; rintro e W6 ⟨rfl, hB6_⟩; have hB36 : Aside0 (Below W3.heap.size W3 W6) := ⟨below_step (by repeat (first | exact Below.refl _ _ | apply pw_below_drewN)) hB6_⟩; clear hB6_) | ((with_reducible refine gate_dst (N := 30) rfl ?_); (try (refine gate_guard (by rfl) ?_; dsimp only)); refine Kd.R_make (Kd.int .i64) (w0 := W3) W3.heap.size 3 rfl (N := 30) rfl 56 _ _ rfl (ops.length : Int) rfl rfl Try.underlying56 (.int .i64 0) 8 or_info3 rfl (by decide) (by omega) (0 : Int) (ok := fun _ => True) (okp := fun _ => True) rfl (fun _ hk => hk) trivial (by omega) (by have := hn64.out; omega) (by repeat (first | exact hB36.out | apply pw_below_drewN)) (below_size (by repeat (first | exact hB36.out | apply pw_below_drewN))) ?_; intro v7 W7 hR7 hB7 hg7 hn7; clear hg7 hn7; replace hR7 := Aside0.mk hR7; replace hB7 := Aside0.mk hB7))
  obtain ⟨AA, cA, e7⟩ := Kd.R_slice hR7.out
  rw [List.length_replicate, Int.toNat_natCast] at e7
  subst e7
  have hA0 := Aside0.mk (atI_zero ops.length o)
  rw [Int.toNat_natCast] at hR7
  go_loopg [10] o.length (fun kk v10 W => ∃ (i : Nat) (at_ : List Int), v10 = .int .i64 i ∧ Aside0 (kk + i = o.length) ∧ Aside0 (AtI ops.length o i at_) ∧ Aside0 (Kd.R (Kd.int .i64) 3 W W3.heap.size (fun _ => True) (.slice AA ops.length cA) at_) ∧ Aside0 (Below W3.heap.size W3 W))
  case atStart => exact ⟨0, _, rfl, ⟨by omega⟩, hA0, hR7, hB7⟩
  case round =>
    obtain ⟨i, at_, rfl, hki, hA, hR, hBW⟩ := hrel
    cases gk with
    | succ j =>
      have hi : Aside0 (i < o.length) := ⟨by have := hki.out; omega⟩
      have hlt : decide ((i : Int) < (o.length : Int)) = true := decide_eq_true (by have := hi.out; omega)
      have hlt2 : i < o.length := hi.out
      have hi0 : decide (0 ≤ (i : Int)) = true := decide_eq_true (by omega)
      have hix := hOF.out.ix i hi.out
      obtain ⟨hz, hA2⟩ := atI_step hA.out hix (fun k hk => hOF.out.nd k i hk hi.out)
      obtain ⟨ad3, e3, hc3a⟩ := Kd.at_int (Kd.C_below hCH3.out hBW.out) (i : Int) (by omega) (by have := hi.out; omega)
      cases e3
      obtain ⟨ix, hixe⟩ : ∃ x, x = rd o (i : Int) := ⟨_, rfl⟩
      rw [← hixe] at hix hc3a hz hA2
      simp only [Int.toNat_natCast] at hc3a
      obtain ⟨go, cap_, eo, gb, gl, cl, HG⟩ := Kd.R_form hR.out (by have := hA.out.1; omega)
      injection eo with ea en ec
      subst ea
      clear en ec HG gl
      obtain ⟨hx, hfz⟩ := Kd.R_celln (0 : Int) hR.out ix hix.1 hix.2
      have hx2 : wr.cell? ⟨go, ix.toNat, none⟩ = some (.int .i64 0) := by rw [hx]; exact congrArg (fun z => some (Value.int .i64 z)) hz
      have hput := Aside0.mk (Kd.R_putg hR.out ix (wrap64 ((i : Int) + 1)))
      have q0 : decide (ix < 0) = false := decide_eq_false (by omega)
      have q1 : decide ((ops.length : Int) ≤ ix) = false := decide_eq_false (by omega)
      have q2 : decide (0 ≤ ix) = true := decide_eq_true hix.1
      have q3 : decide (ix < (ops.length : Int)) = true := decide_eq_true hix.2
      obtain ⟨q4, q5⟩ := hix
      replace hA2 := Aside0.mk hA2
      replace gb := Aside0.mk gb
      clear hz hx hixe
      go_wp2
      go_roundg j
      case measure => omega
      case rel => exact ⟨i + 1, _, by have a1 := hi.out; have a2 := hO3.out; rw [w64 (by omega) (by omega)]; simp, ⟨by have := hki.out; omega⟩, hA2, ⟨by have h := hput.out.1; rw [w64 (by have a1 := hi.out; have a2 := hO3.out; omega) (by have a1 := hi.out; have a2 := hO3.out; omega)] at h ⊢; exact h⟩, ⟨below_set hBW.out gb.out⟩⟩
    | zero =>
      obtain rfl : i = o.length := by have := hki.out; omega
      have hlt : decide ((o.length : Int) < (o.length : Int)) = false := decide_eq_false (by omega)
      go_wp2
      go_loopg [11] ops.length (fun kk v11 W => ∃ (i : Nat), v11 = .int .i64 i ∧ Aside0 (kk + i = ops.length) ∧ Aside0 (Kd.R (Kd.int .i64) 3 W W3.heap.size (fun _ => True) (.slice AA ops.length cA) at_) ∧ Aside0 (Below W3.heap.size W3 W))
      case atStart => exact ⟨0, rfl, ⟨by omega⟩, hR, hBW⟩
      case round =>
        obtain ⟨i, rfl, hki, hR, hBW⟩ := hrel
        cases gk with
        | zero =>
          obtain rfl : i = ops.length := by have := hki.out; omega
          have hlt2 : decide ((ops.length : Int) < (ops.length : Int)) = false := decide_eq_false (by omega)
          go_wp2_with (first | (go_at_call 37; (with_reducible refine (ord_lives _).mono ?_); rintro e WZ ⟨rfl, hBZ⟩; replace hBZ := Aside0.mk hBZ))
          go_ret
          exact ⟨rfl, below_step (below_step hB03.out hBW.out) hBZ.out⟩
        | succ j =>
          have hi : Aside0 (i < ops.length) := ⟨by have := hki.out; omega⟩
          have hlt : decide ((i : Int) < (ops.length : Int)) = true := decide_eq_true (by have := hi.out; omega)
          have hlt2 : i < ops.length := hi.out
          have hi0 : decide (0 ≤ (i : Int)) = true := decide_eq_true (by omega)
          obtain ⟨ad2, e2, hops⟩ := op_cells5 (Kd.C_below hCG3.out hBW.out) (i : Int) (by omega) (by have := hi.out; omega)
          cases e2
          obtain ⟨z3, z5, z6⟩ := hops wr (Below.refl _ _)
          obtain ⟨go, cap_, eo, gb, gl, cl, HG⟩ := Kd.R_form hR.out (by have := hA.out.1; omega)
          injection eo with ea en ec
          subst ea
          clear en ec HG gl cl gb
          obtain ⟨hx, hfz⟩ := Kd.R_celln (0 : Int) hR.out (i : Int) (by omega) (by have := hi.out; omega)
          obtain ⟨ai, hai⟩ : ∃ x, x = rd at_ (i : Int) := ⟨_, rfl⟩
          obtain ⟨p, hp⟩ : ∃ x, x = rd_T65 ops (i : Int) := ⟨_, rfl⟩
          have hx2 : wr.cell? ⟨go, i, none⟩ = some (.int .i64 ai) := by rw [hai]; exact hx
          rw [← hp] at z3 z5 z6
          simp only [Int.toNat_natCast] at z3 z5 z6
          replace hops := Aside0.mk hops
          have hne : p.f3 = true → (ai == 0) = false := fun h => by simpa [hai] using atI_done hOF.out hA.out i hi.out (by rw [← hp]; exact h)
          replace hne := Aside0.mk hne
          replace hai := Aside0.mk hai
          replace hp := Aside0.mk hp
          clear hx hfz z5 z6
          have hmid : ∀ b : Bool, p.f3 = b → True := fun _ _ => trivial
          clear hmid
          cases hp3 : p.f3 with
          | true =>
            rw [hp3] at z3
            have hne2 := hne.out hp3
            go_wp2
            clear hne2
            go_loopg [12] ops.length (fun kk v12 W => ∃ (k : Nat), v12 = .int .i64 k ∧ Aside0 (kk + k = ops.length) ∧ Aside0 (Kd.R (Kd.int .i64) 3 W W3.heap.size (fun _ => True) (.slice (some ⟨go, 0, none⟩) ops.length cA) at_) ∧ Aside0 (Below W3.heap.size W3 W))
            case atStart => exact ⟨0, rfl, ⟨by omega⟩, ⟨by first | exact hR.out | exact Kd.R_drewN hR.out _ | exact Kd.R_drew hR.out⟩, ⟨by first | exact hBW.out | exact pw_below_drewN hBW.out _ | exact hBW.out.drew⟩⟩
            case round =>
              obtain ⟨k, rfl, hkk, hR, hBW⟩ := hrel
              cases gk with
              | zero =>
                obtain rfl : k = ops.length := by have := hkk.out; omega
                have hlt3 : decide ((ops.length : Int) < (ops.length : Int)) = false := decide_eq_false (by omega)
                go_wp2
                go_roundg j
                case measure => omega
                case rel => exact ⟨i + 1, by have a1 := hi.out; have a2 := hn64.out; rw [w64 (by omega) (by omega)]; simp, ⟨by have := hki.out; omega⟩, hR, hBW⟩
              | succ j2 =>
                have hk : Aside0 (k < ops.length) := ⟨by have := hkk.out; omega⟩
                have hlt3 : decide ((k : Int) < (ops.length : Int)) = true := decide_eq_true (by have := hk.out; omega)
                have hlt4 : k < ops.length := hk.out
                have hk0 : decide (0 ≤ (k : Int)) = true := decide_eq_true (by omega)
                obtain ⟨ad4, e4, hops2⟩ := op_cells5 (Kd.C_below hCG3.out hBW.out) (k : Int) (by omega) (by have := hk.out; omega)
                cases e4
                obtain ⟨y3, y5, y6⟩ := hops2 wr (Below.refl _ _)
                obtain ⟨ad5, e5, hops3⟩ := op_cells5 (Kd.C_below hCG3.out hBW.out) (i : Int) (by omega) (by have := hi.out; omega)
                cases e5
                obtain ⟨z3, z5, z6⟩ := hops3 wr (Below.refl _ _)
                clear y3 y6 z5 hops2 hops3
                obtain ⟨hx, hfz⟩ := Kd.R_celln (0 : Int) hR.out (i : Int) (by omega) (by have := hi.out; omega)
                obtain ⟨hxk, hfk⟩ := Kd.R_celln (0 : Int) hR.out (k : Int) (by omega) (by have := hk.out; omega)
                obtain ⟨ak, hak⟩ : ∃ x, x = rd at_ (k : Int) := ⟨_, rfl⟩
                obtain ⟨qk, hqk⟩ : ∃ x, x = rd_T65 ops (k : Int) := ⟨_, rfl⟩
                have hx2 : wr.cell? ⟨go, i, none⟩ = some (.int .i64 ai) := by rw [hai.out]; exact hx
                have hx3 : wr.cell? ⟨go, k, none⟩ = some (.int .i64 ak) := by rw [hak]; exact hxk
                rw [← hqk] at y5
                rw [← hp.out] at z3 z6
                rw [hp3] at z3
                simp only [Int.toNat_natCast] at z3 z6 y5
                have hT : Aside0 (0 < ai → 0 < ak → p.f3 = true → p.f6 < qk.f5 → ¬ ak < ai) := ⟨fun h1 h2 h3 h4 => by rw [hai.out] at h1 ⊢; rw [hak] at h2 ⊢; exact atI_time hOF.out hA.out i k hi.out hk.out h1 h2 (by rw [← hp.out]; exact h3) (by rw [← hp.out, ← hqk]; exact h4)⟩
                clear hx hfz hxk hfk hops
                replace hak := Aside0.mk hak
                replace hqk := Aside0.mk hqk
                have fin : True := trivial
                clear fin
                by_cases t1 : 0 < ai
                rotate_left
                · have b1 : decide (0 < ai) = false := decide_eq_false t1
                  clear t1
                  go_wp2
                  go_quiet (fail)
                  go_wp2
                  go_roundg j2
                  case measure => omega
                  case rel => exact ⟨k + 1, by have a1 := hk.out; have a2 := hn64.out; rw [w64 (by omega) (by omega)]; simp, ⟨by have := hkk.out; omega⟩, ⟨by first | exact hR.out | exact Kd.R_drewN hR.out _ | exact Kd.R_drew hR.out⟩, ⟨by first | exact hBW.out | exact pw_below_drewN hBW.out _ | exact hBW.out.drew⟩⟩
                have b1 : decide (0 < ai) = true := decide_eq_true t1
                by_cases t2 : 0 < ak
                rotate_left
                · have b2 : decide (0 < ak) = false := decide_eq_false t2
                  clear t1 t2
                  go_wp2
                  go_quiet (fail)
                  go_wp2
                  go_roundg j2
                  case measure => omega
                  case rel => exact ⟨k + 1, by have a1 := hk.out; have a2 := hn64.out; rw [w64 (by omega) (by omega)]; simp, ⟨by have := hkk.out; omega⟩, ⟨by first | exact hR.out | exact Kd.R_drewN hR.out _ | exact Kd.R_drew hR.out⟩, ⟨by first | exact hBW.out | exact pw_below_drewN hBW.out _ | exact hBW.out.drew⟩⟩
                have b2 : decide (0 < ak) = true := decide_eq_true t2
                by_cases t4 : p.f6 < qk.f5
                rotate_left
                · have b4 : decide (p.f6 < qk.f5) = false := decide_eq_false t4
                  clear t1 t2 t4
                  go_wp2
                  go_quiet (fail)
                  go_wp2
                  go_roundg j2
                  case measure => omega
                  case rel => exact ⟨k + 1, by have a1 := hk.out; have a2 := hn64.out; rw [w64 (by omega) (by omega)]; simp, ⟨by have := hkk.out; omega⟩, ⟨by first | exact hR.out | exact Kd.R_drewN hR.out _ | exact Kd.R_drew hR.out⟩, ⟨by first | exact hBW.out | exact pw_below_drewN hBW.out _ | exact hBW.out.drew⟩⟩
                have b4 : decide (p.f6 < qk.f5) = true := decide_eq_true t4
                have b5 : decide (ak < ai) = false := decide_eq_false (hT.out t1 t2 hp3 t4)
                clear t1 t2 t4
                go_wp2
                go_quiet (fail)
                go_wp2
                go_roundg j2
                case measure => omega
                case rel => exact ⟨k + 1, by have a1 := hk.out; have a2 := hn64.out; rw [w64 (by omega) (by omega)]; simp, ⟨by have := hkk.out; omega⟩, ⟨by first | exact hR.out | exact Kd.R_drewN hR.out _ | exact Kd.R_drew hR.out⟩, ⟨by first | exact hBW.out | exact pw_below_drewN hBW.out _ | exact hBW.out.drew⟩⟩

          | false =>
            rw [hp3] at z3
            go_wp2
            go_loopg [12] ops.length (fun kk v12 W => ∃ (k : Nat), v12 = .int .i64 k ∧ Aside0 (kk + k = ops.length) ∧ Aside0 (Kd.R (Kd.int .i64) 3 W W3.heap.size (fun _ => True) (.slice (some ⟨go, 0, none⟩) ops.length cA) at_) ∧ Aside0 (Below W3.heap.size W3 W))
            case atStart => exact ⟨0, rfl, ⟨by omega⟩, ⟨by first | exact hR.out | exact Kd.R_drewN hR.out _ | exact Kd.R_drew hR.out⟩, ⟨by first | exact hBW.out | exact pw_below_drewN hBW.out _ | exact hBW.out.drew⟩⟩
            case round =>
              obtain ⟨k, rfl, hkk, hR, hBW⟩ := hrel
              cases gk with
              | zero =>
                obtain rfl : k = ops.length := by have := hkk.out; omega
                have hlt3 : decide ((ops.length : Int) < (ops.length : Int)) = false := decide_eq_false (by omega)
                go_wp2
                go_roundg j
                case measure => omega
                case rel => exact ⟨i + 1, by have a1 := hi.out; have a2 := hn64.out; rw [w64 (by omega) (by omega)]; simp, ⟨by have := hki.out; omega⟩, hR, hBW⟩
              | succ j2 =>
                have hk : Aside0 (k < ops.length) := ⟨by have := hkk.out; omega⟩
                have hlt3 : decide ((k : Int) < (ops.length : Int)) = true := decide_eq_true (by have := hk.out; omega)
                have hlt4 : k < ops.length := hk.out
                have hk0 : decide (0 ≤ (k : Int)) = true := decide_eq_true (by omega)
                obtain ⟨ad4, e4, hops2⟩ := op_cells5 (Kd.C_below hCG3.out hBW.out) (k : Int) (by omega) (by have := hk.out; omega)
                cases e4
                obtain ⟨y3, y5, y6⟩ := hops2 wr (Below.refl _ _)
                obtain ⟨ad5, e5, hops3⟩ := op_cells5 (Kd.C_below hCG3.out hBW.out) (i : Int) (by omega) (by have := hi.out; omega)
                cases e5
                obtain ⟨z3, z5, z6⟩ := hops3 wr (Below.refl _ _)
                clear y3 y6 z5 hops2 hops3
                obtain ⟨hx, hfz⟩ := Kd.R_celln (0 : Int) hR.out (i : Int) (by omega) (by have := hi.out; omega)
                obtain ⟨hxk, hfk⟩ := Kd.R_celln (0 : Int) hR.out (k : Int) (by omega) (by have := hk.out; omega)
                obtain ⟨ak, hak⟩ : ∃ x, x = rd at_ (k : Int) := ⟨_, rfl⟩
                obtain ⟨qk, hqk⟩ : ∃ x, x = rd_T65 ops (k : Int) := ⟨_, rfl⟩
                have hx2 : wr.cell? ⟨go, i, none⟩ = some (.int .i64 ai) := by rw [hai.out]; exact hx
                have hx3 : wr.cell? ⟨go, k, none⟩ = some (.int .i64 ak) := by rw [hak]; exact hxk
                rw [← hqk] at y5
                rw [← hp.out] at z3 z6
                rw [hp3] at z3
                simp only [Int.toNat_natCast] at z3 z6 y5
                have hT : Aside0 (0 < ai → 0 < ak → p.f3 = true → p.f6 < qk.f5 → ¬ ak < ai) := ⟨fun h1 h2 h3 h4 => by rw [hai.out] at h1 ⊢; rw [hak] at h2 ⊢; exact atI_time hOF.out hA.out i k hi.out hk.out h1 h2 (by rw [← hp.out]; exact h3) (by rw [← hp.out, ← hqk]; exact h4)⟩
                clear hx hfz hxk hfk hops
                replace hak := Aside0.mk hak
                replace hqk := Aside0.mk hqk
                have fin : True := trivial
                clear fin
                by_cases t1 : 0 < ai
                rotate_left
                · have b1 : decide (0 < ai) = false := decide_eq_false t1
                  clear t1
                  go_wp2
                  go_quiet (fail)
                  go_wp2
                  go_roundg j2
                  case measure => omega
                  case rel => exact ⟨k + 1, by have a1 := hk.out; have a2 := hn64.out; rw [w64 (by omega) (by omega)]; simp, ⟨by have := hkk.out; omega⟩, ⟨by first | exact hR.out | exact Kd.R_drewN hR.out _ | exact Kd.R_drew hR.out⟩, ⟨by first | exact hBW.out | exact pw_below_drewN hBW.out _ | exact hBW.out.drew⟩⟩
                have b1 : decide (0 < ai) = true := decide_eq_true t1
                by_cases t2 : 0 < ak
                rotate_left
                · have b2 : decide (0 < ak) = false := decide_eq_false t2
                  clear t1 t2
                  go_wp2
                  go_quiet (fail)
                  go_wp2
                  go_roundg j2
                  case measure => omega
                  case rel => exact ⟨k + 1, by have a1 := hk.out; have a2 := hn64.out; rw [w64 (by omega) (by omega)]; simp, ⟨by have := hkk.out; omega⟩, ⟨by first | exact hR.out | exact Kd.R_drewN hR.out _ | exact Kd.R_drew hR.out⟩, ⟨by first | exact hBW.out | exact pw_below_drewN hBW.out _ | exact hBW.out.drew⟩⟩
                have b2 : decide (0 < ak) = true := decide_eq_true t2
                by_cases t4 : p.f6 < qk.f5
                rotate_left
                · have b4 : decide (p.f6 < qk.f5) = false := decide_eq_false t4
                  clear t1 t2 t4
                  go_wp2
                  go_quiet (fail)
                  go_wp2
                  go_roundg j2
                  case measure => omega
                  case rel => exact ⟨k + 1, by have a1 := hk.out; have a2 := hn64.out; rw [w64 (by omega) (by omega)]; simp, ⟨by have := hkk.out; omega⟩, ⟨by first | exact hR.out | exact Kd.R_drewN hR.out _ | exact Kd.R_drew hR.out⟩, ⟨by first | exact hBW.out | exact pw_below_drewN hBW.out _ | exact hBW.out.drew⟩⟩
                have b4 : decide (p.f6 < qk.f5) = true := decide_eq_true t4
                clear t1 t2 t4
                go_wp2
                go_quiet (fail)
                go_wp2
                go_roundg j2
                case measure => omega
                case rel => exact ⟨k + 1, by have a1 := hk.out; have a2 := hn64.out; rw [w64 (by omega) (by omega)]; simp, ⟨by have := hkk.out; omega⟩, ⟨by first | exact hR.out | exact Kd.R_drewN hR.out _ | exact Kd.R_drew hR.out⟩, ⟨by first | exact hBW.out | exact pw_below_drewN hBW.out _ | exact hBW.out.drew⟩⟩


theorem inquestlaw17_OrderMeans.any (A : Option Addr) (cap : Nat) (l : List S36) (fuel : Int) (A2 : Option Addr) (c2 : Nat) (ops0 : List S65) (A3 : Option Addr) (c3 : Nat) (o0 : List Int) (w : World) (hr : Kd.C k36 w A l.length l) (hc : l.length ≤ cap) (hm : l.length ≤ maxLen) {P0 : Prop} (_ : P0) {P1 : Prop} (_ : P1) (hr2 : Kd.C k65 w A2 ops0.length ops0) (hc2 : ops0.length ≤ c2) {P3 : Prop} (_ : P3) {P4 : Prop} (_ : P4) (hr3 : Kd.C (Kd.int .i64) w A3 o0.length o0) (hc3 : o0.length ≤ c3) {P5 : Prop} (_ : P5) {P6 : Prop} (_ : P6) :
    Calls Try.prog 11 #[.slice A l.length cap, .int .i64 fuel, .slice A2 ops0.length c2, .slice A3 o0.length c3] w fun e w' => e = .returned (.bool true) ∧ Below w.heap.size w w' :=
  orderMeans_core A cap l fuel A2 c2 ops0 A3 c3 o0 w hr hc hm hr2 hc2 hr3 hc3

end Go.Proofs.Ytddkoimaghcbeaa.PVmSteps
