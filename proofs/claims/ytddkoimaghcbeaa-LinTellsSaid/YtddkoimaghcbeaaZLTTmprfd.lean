/- A part of what the law LinTells stands on, only as far as it is needed (the words and walks were printed or written in this seat; this text was cut by a program of this session, wip/bin/trim.py). No condition beyond what each theorem says. -/
import Derived.StillTailTactics
import Derived.Test.YtddkoimaghcbeaaZLTPVmStepsx0
import Derived.Test.YtddkoimaghcbeaaZLTPVmStepsx2
import Derived.Test.YtddkoimaghcbeaaZLTPVmStepsx3
import Derived.Test.YtddkoimaghcbeaaZLTPVmStepsx4
import Derived.Test.YtddkoimaghcbeaaZLTPVmStepsx5
import Derived.Test.YtddkoimaghcbeaaZLTPVmStepsx6
import Derived.Test.YtddkoimaghcbeaaZLTTmprfc
namespace Go.Proofs.Ytddkoimaghcbeaa.PVmSteps
open Go.RowKit Go.Proofs.YtddkoimaghcbeaaW.PrintWords Go.Proofs.YtddkoimaghcbeaaW.PrintLast Go.Proofs.YtddkoimaghcbeaaW.PrintMore
set_option linter.unusedVariables false
set_option linter.unusedSimpArgs false
theorem vdo_en (op n kind arg : Int) (r r' : VR) (he : r.en = 0) (h : vdo op n kind arg r = some (some r')) : r'.en = 0 ∨ r'.en = 1 ∨ r'.en = 2 := by
  obtain ⟨cs, st, at_, en, rt⟩ := r
  unfold vdo at h
  simp only at h he
  by_cases c0 : op = 0
  · rw [if_pos c0] at h
    cases h
    exact .inl he
  rw [if_neg c0] at h
  by_cases c1 : op = 1
  · rw [if_pos c1] at h
    cases st with
    | nil => cases h
    | cons x s =>
      dsimp only at h
      cases h
      exact .inl he
  rw [if_neg c1] at h
  by_cases c2 : op = 2
  · rw [if_pos c2] at h
    cases st with
    | nil => cases h
    | cons x s =>
      dsimp only at h
      cases h
      exact .inl he
  rw [if_neg c2] at h
  by_cases c3 : op = 3
  · rw [if_pos c3] at h
    cases st with
    | nil => cases h
    | cons b s =>
      cases s with
      | nil => cases h
      | cons a s =>
        dsimp only at h
        cases h
        exact .inl he
  rw [if_neg c3] at h
  by_cases c4 : op = 4
  · rw [if_pos c4] at h
    split at h
    · cases h
      exact .inl he
    · cases h
  rw [if_neg c4] at h
  by_cases c5 : op = 5
  · rw [if_pos c5] at h
    cases st with
    | nil => cases h
    | cons x s =>
      dsimp only at h
      split at h
      · cases h
        exact .inl he
      · cases h
  rw [if_neg c5] at h
  by_cases c6 : op = 6
  · rw [if_pos c6] at h
    cases h
    exact .inl he
  rw [if_neg c6] at h
  by_cases c7 : op = 7
  · rw [if_pos c7] at h
    cases h
    exact .inl he
  rw [if_neg c7] at h
  by_cases c15 : op = 15
  · rw [if_pos c15] at h
    cases st with
    | nil => cases h
    | cons x s =>
      dsimp only at h
      cases h
      exact .inl he
  rw [if_neg c15] at h
  by_cases c16 : op = 16
  · rw [if_pos c16] at h
    cases h
    exact .inl he
  rw [if_neg c16] at h
  by_cases c17 : op = 17
  · rw [if_pos c17] at h
    cases st with
    | nil => cases h
    | cons x s =>
      dsimp only at h
      cases h
      exact .inl he
  rw [if_neg c17] at h
  by_cases c18 : op = 18
  · rw [if_pos c18] at h
    cases st with
    | nil => cases h
    | cons x s =>
      dsimp only at h
      cases h
      exact .inr (.inl rfl)
  rw [if_neg c18] at h
  by_cases c19 : op = 19
  · rw [if_pos c19] at h
    cases h
    exact .inr (.inr rfl)
  rw [if_neg c19] at h
  cases st with
  | nil => cases h
  | cons b s =>
    cases s with
    | nil => cases h
    | cons a s =>
      dsimp only at h
      cases h4 : vtwo op a b with
      | none => rw [h4] at h; cases h
      | some v =>
        rw [h4] at h
        cases h
        exact .inl he
theorem vgo_r {L : List S36} {kind arg : Int} {c0 : List Int} {f : Nat} {u : Int} {r : VR} {x : Int × List Int × Int × Int} (h : r.en = 0) (hv : vgo L kind arg c0 (f + 1) u r = some x) :
    (0 ≤ r.at_ ∧ r.at_ < (L.length : Int) ∧ r.st.length ≤ 900 ∧ 0 ≤ (rd_T36 L r.at_).f0 ∧ (rd_T36 L r.at_).f0 ≤ 19) ∧ vdo (rd_T36 L r.at_).f0 (rd_T36 L r.at_).f1 kind arg r ≠ none ∧
    ∀ r', vsubR (rd_T36 L r.at_).f0 (rd_T36 L r.at_).f1 kind arg r r' → vgo L kind arg c0 f (u + 1) r' = some x := by
  obtain ⟨h1, h2, h3⟩ := vgo_s h hv
  refine ⟨h1, h2, ?_⟩
  rintro r' (e | ⟨e, e2⟩ | ⟨r3, e, e3, e4, e5, e6⟩)
  · exact h3 r' (.inl e)
  · exact h3 r' (.inr ⟨e, e2⟩)
  · have h4 := h3 r3 (.inl e)
    rw [vgo_1 (by omega) (by omega)] at h4 ⊢
    rw [e5, e6]; exact h4
theorem rf_start (w W1 : World) (cs : List Int) (h4 : cs.length = 4) (hb : Below ((w.alloc (.cells #[.int .i64 (rdOf 0 cs 0), .int .i64 (rdOf 0 cs 1), .int .i64 (rdOf 0 cs 2), .int .i64 (rdOf 0 cs 3)] 24)).alloc (.cells #[.int .i64 0, .int .i64 0, .int .i64 0, .int .i64 0, .int .i64 0, .int .i64 0, .int .i64 0] 38)).heap.size ((w.alloc (.cells #[.int .i64 (rdOf 0 cs 0), .int .i64 (rdOf 0 cs 1), .int .i64 (rdOf 0 cs 2), .int .i64 (rdOf 0 cs 3)] 24)).alloc (.cells #[.int .i64 0, .int .i64 0, .int .i64 0, .int .i64 0, .int .i64 0, .int .i64 0, .int .i64 0] 38)) W1) : RfB w (W1.alloc (.cells #[.int .i64 (rdOf 0 cs 0), .int .i64 (rdOf 0 cs 1), .int .i64 (rdOf 0 cs 2), .int .i64 (rdOf 0 cs 3), .slice none 0 0, .int .i64 0, .int .i64 0, .int .i64 0, .int .i64 0, .int .i64 0] 105)) [(w.heap.size, (.cells #[.int .i64 (rdOf 0 cs 0), .int .i64 (rdOf 0 cs 1), .int .i64 (rdOf 0 cs 2), .int .i64 (rdOf 0 cs 3)] 24)), (w.heap.size + 1, (.cells #[.int .i64 0, .int .i64 0, .int .i64 0, .int .i64 0, .int .i64 0, .int .i64 0, .int .i64 0] 38))] W1.heap.size ⟨cs, [], 0, 0, 0⟩ 0 := by
  have z1 : (w.alloc (.cells #[.int .i64 (rdOf 0 cs 0), .int .i64 (rdOf 0 cs 1), .int .i64 (rdOf 0 cs 2), .int .i64 (rdOf 0 cs 3)] 24)).heap.size = w.heap.size + 1 := by simp
  have z2 : ((w.alloc (.cells #[.int .i64 (rdOf 0 cs 0), .int .i64 (rdOf 0 cs 1), .int .i64 (rdOf 0 cs 2), .int .i64 (rdOf 0 cs 3)] 24)).alloc (.cells #[.int .i64 0, .int .i64 0, .int .i64 0, .int .i64 0, .int .i64 0, .int .i64 0, .int .i64 0] 38)).heap.size = w.heap.size + 1 + 1 := by simp
  have k0 := blk_below (blk_alloc (blk_new w (.cells #[.int .i64 (rdOf 0 cs 0), .int .i64 (rdOf 0 cs 1), .int .i64 (rdOf 0 cs 2), .int .i64 (rdOf 0 cs 3)] 24)) (.cells #[.int .i64 0, .int .i64 0, .int .i64 0, .int .i64 0, .int .i64 0, .int .i64 0, .int .i64 0] 38)) hb
  have k1 := blk_new (w.alloc (.cells #[.int .i64 (rdOf 0 cs 0), .int .i64 (rdOf 0 cs 1), .int .i64 (rdOf 0 cs 2), .int .i64 (rdOf 0 cs 3)] 24)) (.cells #[.int .i64 0, .int .i64 0, .int .i64 0, .int .i64 0, .int .i64 0, .int .i64 0, .int .i64 0] 38)
  rw [z1] at k1
  have k1 := blk_below k1 hb
  have hs := hb.size
  rw [z2] at hs
  refine ⟨_, below_alloc (below_step (below_alloc (below_alloc (Below.refl _ _) _) _) hb) _, by omega, h4, blk_new _ _, Kd.R_nil _ _ _ _ _, fun q hq => ?_⟩
  simp only [List.mem_cons, List.not_mem_nil, or_false] at hq
  rcases hq with rfl | rfl
  · exact ⟨blk_alloc k0 _, by simp only; omega⟩
  · exact ⟨blk_alloc k1 _, by simp only; omega⟩
set_option maxRecDepth 100000 in
set_option maxHeartbeats 2000000 in
theorem rf_Step (A : Option Addr) (c : Nat) (L : List S36) (w : World) (hC : Kd.C k36 w A L.length L) (hc : L.length ≤ c) (r1 : Int) (hchk : inquestref15_Check.f L = some (r1, 0)) (cs : List Int) (h4 : cs.length = 4)
    (hcs : ∀ x ∈ cs, inR x) (kind arg fuel : Int) (hki : inR kind) (har : inR arg) (hco : ∀ i : Int, 0 ≤ i → i < (L.length : Int) → inR (rd_T36 L i).f1) (rk : Int) (rs : List Int) (rr ru : Int)
    (hv : vstep L cs kind arg fuel = some (rk, rs, rr, ru)) (hf : fuel ≤ 9223372036854775807) :
    Calls Try.prog 28 #[.slice A L.length c, stateV cs, .int .i64 kind, .int .i64 arg, .int .i64 fuel] w fun e w' => e = .returned (stepV rk rs rr ru) ∧ Below w.heap.size w w' := by
  have hC' := Aside0.mk hC
  have hv' := Aside0.mk hv
  replace hchk := Aside0.mk hchk
  replace hco := Aside0.mk hco
  replace hcs := Aside0.mk hcs
  clear hC hv
  unfold stateV
  go_enter Try.func28, Try.ntmps28
  have hu := Try.underlying105
  go_wp2_with (first | (go_at_call 24; (with_reducible refine (inquestref15_Check.calls A c L r1 0 _ (Kd.C_alloc (Kd.C_alloc hC'.out _) _) hc hchk.out).mono ?_); rintro e W1 ⟨rfl, hb1⟩; have hst := rf_start w W1 cs h4 hb1; have b0 := blk_below (blk_alloc (blk_new w (.cells #[.int .i64 (rdOf 0 cs 0), .int .i64 (rdOf 0 cs 1), .int .i64 (rdOf 0 cs 2), .int .i64 (rdOf 0 cs 3)] 24)) (.cells #[.int .i64 0, .int .i64 0, .int .i64 0, .int .i64 0, .int .i64 0, .int .i64 0, .int .i64 0] 38)) hb1; have s0 := blk_cell b0 0; have s1 := blk_cell b0 1; have s2 := blk_cell b0 2; have s3 := blk_cell b0 3; simp only [List.getElem?_toArray, List.getElem?_cons_zero, List.getElem?_cons_succ] at s0 s1 s2 s3; replace hb1 := Aside0.mk hb1; replace hst := Aside0.mk hst; clear b0))
  refine vm_gen _ (fun W => RfB w W [(w.heap.size, (.cells #[.int .i64 (rdOf 0 cs 0), .int .i64 (rdOf 0 cs 1), .int .i64 (rdOf 0 cs 2), .int .i64 (rdOf 0 cs 3)] 24)), (w.heap.size + 1, (.cells #[.int .i64 0, .int .i64 0, .int .i64 0, .int .i64 0, .int .i64 0, .int .i64 0, .int .i64 0] 38))] W1.heap.size ⟨cs, [], 0, 0, 0⟩ 0) hst.out ?_
  clear s0 s1 s2 s3 hst hb1
  intro W0 hW0
  obtain ⟨g, hg⟩ : ∃ g, g = W1.heap.size := ⟨_, rfl⟩
  rw [← hg] at hW0 ⊢
  clear hg
  replace hW0 := Aside0.mk hW0
  go_loopg [] fuel.toNat (fun kk W => ∃ (u : Int) (r : VR), Aside0 (0 ≤ u ∧ u + kk = (fuel.toNat : Int)) ∧ Aside0 (RfB w W [(w.heap.size, (.cells #[.int .i64 (rdOf 0 cs 0), .int .i64 (rdOf 0 cs 1), .int .i64 (rdOf 0 cs 2), .int .i64 (rdOf 0 cs 3)] 24)), (w.heap.size + 1, (.cells #[.int .i64 0, .int .i64 0, .int .i64 0, .int .i64 0, .int .i64 0, .int .i64 0, .int .i64 0] 38))] g r u) ∧ Aside0 (vgo L kind arg cs kk u r = some (rk, rs, rr, ru)) ∧ Aside0 ((r.en = 0 → VRok r) ∧ (r.en = 0 ∨ r.en = 1 ∨ r.en = 2)))
  case atStart => exact ⟨0, _, ⟨by omega⟩, hW0, hv', ⟨fun _ => ⟨hcs.out, by simp, by simp [inR]⟩, .inl rfl⟩⟩
  case round =>
    obtain ⟨u, r, hu2, hV, hgo, hok⟩ := hrel
    obtain ⟨vS, q⟩ := hV.out
    have d0 := blk_cell q.hk 0
    have d1 := blk_cell q.hk 1
    have d2 := blk_cell q.hk 2
    have d3 := blk_cell q.hk 3
    have d5 := blk_cell q.hk 5
    have d6 := blk_cell q.hk 6
    have d8 := blk_cell q.hk 8
    have d9 := blk_cell q.hk 9
    have b0 := (q.kept _ List.mem_cons_self).1
    have b1 := (q.kept _ (List.mem_cons_of_mem _ List.mem_cons_self)).1
    have s0 := blk_cell b0 0
    have s1 := blk_cell b0 1
    have s2 := blk_cell b0 2
    have s3 := blk_cell b0 3
    simp only [List.getElem?_toArray, List.getElem?_cons_zero, List.getElem?_cons_succ] at d0 d1 d2 d3 d5 d6 d8 d9 s0 s1 s2 s3
    have hbel : Aside0 (Below w.heap.size w wr) := ⟨q.hB⟩
    replace b0 := Aside0.mk b0
    replace b1 := Aside0.mk b1
    clear q
    by_cases he : r.en = 0
    · rw [he] at d8
      cases gk with
      | zero =>
        have hle : decide (u < fuel) = false := decide_eq_false (by have := hu2.out; omega)
        have hx := hgo.out
        rw [vgo_0 he] at hx
        cases hx
        go_wp2
        go_still_tail 6, (by kernel_rfl)
        refine vm_gen _ (fun W => W.heap[w.heap.size + 1]? = some (.cells #[.int .i64 0, .int .i64 0, .int .i64 0, .int .i64 0, .int .i64 0, .int .i64 0, .int .i64 0] 38 (0, 0)) ∧ Below w.heap.size w W) ⟨b1.out, hbel.out.drew⟩ ?_
        clear b0 b1 d0 d1 d2 d3 d5 d6 d8 d9 s0 s1 s2 s3 hbel
        rintro W8 ⟨b1, hbel⟩
        have t0 := blk_cell b1 0
        have y0 := blk_frozen b1 0
        have t1 := blk_cell b1 1
        have y1 := blk_frozen b1 1
        have t2 := blk_cell b1 2
        have y2 := blk_frozen b1 2
        have t3 := blk_cell b1 3
        have y3 := blk_frozen b1 3
        have t4 := blk_cell b1 4
        have y4 := blk_frozen b1 4
        have t5 := blk_cell b1 5
        have y5 := blk_frozen b1 5
        have t6 := blk_cell b1 6
        have y6 := blk_frozen b1 6
        simp only [List.getElem?_toArray, List.getElem?_cons_zero, List.getElem?_cons_succ] at t0 t1 t2 t3 t4 t5 t6
        replace b1 := Aside0.mk b1
        replace hbel := Aside0.mk hbel
        go_wp2
        refine vm_gen _ (fun W => W.heap[w.heap.size + 1]? = some (.cells #[.int .i64 3, .int .i64 (rdOf 0 cs 0), .int .i64 (rdOf 0 cs 1), .int .i64 (rdOf 0 cs 2), .int .i64 (rdOf 0 cs 3), .int .i64 0, .int .i64 ru] 38 (0, 0)) ∧ Below w.heap.size w W) ⟨vm_out7 b1.out, vm_bel7 hbel.out (Nat.le_succ _)⟩ ?_
        clear b1 t0 t1 t2 t3 t4 t5 t6 y0 y1 y2 y3 y4 y5 y6 hbel hV hgo
        rintro W9 ⟨b9, hb9⟩
        have f0 := blk_cell b9 0
        have f1 := blk_cell b9 1
        have f2 := blk_cell b9 2
        have f3 := blk_cell b9 3
        have f4 := blk_cell b9 4
        have f5 := blk_cell b9 5
        have f6 := blk_cell b9 6
        simp only [List.getElem?_toArray, List.getElem?_cons_zero, List.getElem?_cons_succ] at f0 f1 f2 f3 f4 f5 f6
        exact bodyPost_ret (v := stepV 3 cs 0 ru) (by simp [results, Try.results28, go_sem, stepV, f0, f1, f2, f3, f4, f5, f6]) rfl ⟨rfl, hb9⟩
      | succ f =>
        have hle : decide (u < fuel) = true := decide_eq_true (by have := hu2.out; omega)
        obtain ⟨⟨g0, g1, g2, g3, g4⟩, gd, gs⟩ := vgo_r he hgo.out
        replace gs := Aside0.mk gs
        replace gd := Aside0.mk gd
        have hCr := Kd.C_below hC'.out hbel.out
        obtain ⟨ad, ea, x0, x1⟩ := at_T36 hCr r.at_ g0 g1
        subst ea
        have hn := Aside0.mk (hco.out r.at_ g0 g1)
        have hvk := Aside0.mk (hok.out.1 he)
        clear hCr
        go_wp2_with (go_at_call 58; (with_reducible refine (rf_Does hV.out g2 ⟨g3, g4⟩ hvk.out gd.out).mono ?_); rintro e W6 ⟨rfl, r6, hs6, hV6⟩; replace hV6 := Aside0.mk hV6; replace hs6 := Aside0.mk hs6)
        go_roundg f
        case measure => omega
        case rel =>
          have hu3 : wrap64 (u + 1) = u + 1 := by have := hu2.out; unfold wrap64; omega
          refine ⟨u + 1, r6, ⟨by have := hu2.out; omega⟩, ⟨by rw [← hu3]; exact hV6.out⟩, ⟨gs.out r6 hs6.out⟩, ⟨fun h6 => ?_, ?_⟩⟩
          · rcases hs6.out with e | ⟨_, e⟩ | ⟨_, _, _, e, _⟩
            · exact vdo_ok _ _ _ _ _ _ hvk.out hn.out hki har e
            · omega
            · omega
          · rcases hs6.out with e | ⟨_, e⟩ | ⟨_, _, _, e, _⟩
            · exact vdo_en _ _ _ _ _ _ he e
            · exact .inr (.inr e)
            · exact .inr (.inl e)
    · by_cases he2 : r.en = 2
      · have hx := hgo.out
        rw [vgo_2 he2] at hx
        rw [he2] at d8
        clear he
        rcases Bool.eq_false_or_eq_true (decide (u < fuel)) with hle | hle
        all_goals
          have hle' := Aside0.mk hle
          cases hx
          go_wp2
          go_still_tail 6, (by kernel_rfl)
          refine vm_gen _ (fun W => W.heap[w.heap.size + 1]? = some (.cells #[.int .i64 0, .int .i64 0, .int .i64 0, .int .i64 0, .int .i64 0, .int .i64 0, .int .i64 0] 38 (0, 0)) ∧ Below w.heap.size w W) ⟨b1.out, hbel.out.drew⟩ ?_
          clear b0 b1 d0 d1 d2 d3 d5 d6 d8 d9 s0 s1 s2 s3 hbel
          rintro W8 ⟨b1, hbel⟩
          have t0 := blk_cell b1 0
          have y0 := blk_frozen b1 0
          have t1 := blk_cell b1 1
          have y1 := blk_frozen b1 1
          have t2 := blk_cell b1 2
          have y2 := blk_frozen b1 2
          have t3 := blk_cell b1 3
          have y3 := blk_frozen b1 3
          have t4 := blk_cell b1 4
          have y4 := blk_frozen b1 4
          have t5 := blk_cell b1 5
          have y5 := blk_frozen b1 5
          have t6 := blk_cell b1 6
          have y6 := blk_frozen b1 6
          simp only [List.getElem?_toArray, List.getElem?_cons_zero, List.getElem?_cons_succ] at t0 t1 t2 t3 t4 t5 t6
          replace b1 := Aside0.mk b1
          replace hbel := Aside0.mk hbel
          go_wp2
          refine vm_gen _ (fun W => W.heap[w.heap.size + 1]? = some (.cells #[.int .i64 2, .int .i64 (rdOf 0 cs 0), .int .i64 (rdOf 0 cs 1), .int .i64 (rdOf 0 cs 2), .int .i64 (rdOf 0 cs 3), .int .i64 0, .int .i64 ru] 38 (0, 0)) ∧ Below w.heap.size w W) ⟨vm_out7 b1.out, vm_bel7 hbel.out (Nat.le_succ _)⟩ ?_
          clear b1 t0 t1 t2 t3 t4 t5 t6 y0 y1 y2 y3 y4 y5 y6 hbel hV hgo
          rintro W9 ⟨b9, hb9⟩
          have f0 := blk_cell b9 0
          have f1 := blk_cell b9 1
          have f2 := blk_cell b9 2
          have f3 := blk_cell b9 3
          have f4 := blk_cell b9 4
          have f5 := blk_cell b9 5
          have f6 := blk_cell b9 6
          simp only [List.getElem?_toArray, List.getElem?_cons_zero, List.getElem?_cons_succ] at f0 f1 f2 f3 f4 f5 f6
          exact bodyPost_ret (v := stepV 2 cs 0 ru) (by simp [results, Try.results28, go_sem, stepV, f0, f1, f2, f3, f4, f5, f6]) rfl ⟨rfl, hb9⟩
      · have he1 : r.en = 1 := by have := hok.out.2; omega
        have hx := hgo.out
        rw [vgo_1 he he2] at hx
        rw [he1] at d8
        clear he he2
        rcases Bool.eq_false_or_eq_true (decide (u < fuel)) with hle | hle
        all_goals
          have hle' := Aside0.mk hle
          cases hx
          go_wp2
          go_still_tail 13, (by kernel_rfl)
          refine vm_gen _ (fun W => W.heap[w.heap.size + 1]? = some (.cells #[.int .i64 0, .int .i64 0, .int .i64 0, .int .i64 0, .int .i64 0, .int .i64 0, .int .i64 0] 38 (0, 0)) ∧ Below w.heap.size w W) ⟨b1.out, hbel.out.drew⟩ ?_
          clear b0 b1 d0 d1 d2 d3 d5 d6 d8 d9 s0 s1 s2 s3 hbel
          rintro W8 ⟨b1, hbel⟩
          have t0 := blk_cell b1 0
          have y0 := blk_frozen b1 0
          have t1 := blk_cell b1 1
          have y1 := blk_frozen b1 1
          have t2 := blk_cell b1 2
          have y2 := blk_frozen b1 2
          have t3 := blk_cell b1 3
          have y3 := blk_frozen b1 3
          have t4 := blk_cell b1 4
          have y4 := blk_frozen b1 4
          have t5 := blk_cell b1 5
          have y5 := blk_frozen b1 5
          have t6 := blk_cell b1 6
          have y6 := blk_frozen b1 6
          simp only [List.getElem?_toArray, List.getElem?_cons_zero, List.getElem?_cons_succ] at t0 t1 t2 t3 t4 t5 t6
          replace b1 := Aside0.mk b1
          replace hbel := Aside0.mk hbel
          go_wp2
          refine vm_gen _ (fun W => W.heap[w.heap.size + 1]? = some (.cells #[.int .i64 1, .int .i64 (rdOf 0 r.cs 0), .int .i64 (rdOf 0 r.cs 1), .int .i64 (rdOf 0 r.cs 2), .int .i64 (rdOf 0 r.cs 3), .int .i64 r.rt, .int .i64 ru] 38 (0, 0)) ∧ Below w.heap.size w W) ⟨vm_out7 b1.out, vm_bel7 hbel.out (Nat.le_succ _)⟩ ?_
          clear b1 t0 t1 t2 t3 t4 t5 t6 y0 y1 y2 y3 y4 y5 y6 hbel hV hgo
          rintro W9 ⟨b9, hb9⟩
          have f0 := blk_cell b9 0
          have f1 := blk_cell b9 1
          have f2 := blk_cell b9 2
          have f3 := blk_cell b9 3
          have f4 := blk_cell b9 4
          have f5 := blk_cell b9 5
          have f6 := blk_cell b9 6
          simp only [List.getElem?_toArray, List.getElem?_cons_zero, List.getElem?_cons_succ] at f0 f1 f2 f3 f4 f5 f6
          exact bodyPost_ret (v := stepV 1 r.cs r.rt ru) (by simp [results, Try.results28, go_sem, stepV, f0, f1, f2, f3, f4, f5, f6]) rfl ⟨rfl, hb9⟩
end Go.Proofs.Ytddkoimaghcbeaa.PVmSteps
