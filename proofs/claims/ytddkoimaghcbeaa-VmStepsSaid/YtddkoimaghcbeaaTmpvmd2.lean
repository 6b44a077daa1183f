/- A part of the proofs about layers 16 to 18 (vm, order, lin) and their references: contracts and plain lemmas that the laws stand on. No condition beyond what each theorem says. -/
import Derived.Test.YtddkoimaghcbeaaPVmStepsx1
import Derived.Test.YtddkoimaghcbeaaPVmStepsx2
import Derived.Test.YtddkoimaghcbeaaPVmStepsx3
import Derived.Test.YtddkoimaghcbeaaPVmStepsx4
import Derived.Test.YtddkoimaghcbeaaPVmStepsx5
import Derived.Test.YtddkoimaghcbeaaPVmStepsx6
import Derived.Test.YtddkoimaghcbeaaTmpvmx
import Derived.Test.YtddkoimaghcbeaaTmprfd
namespace Go.Proofs.Ytddkoimaghcbeaa.PVmSteps
open Go.RowKit Go.Proofs.YtddkoimaghcbeaaW.PrintWords Go.Proofs.YtddkoimaghcbeaaW.PrintLast Go.Proofs.YtddkoimaghcbeaaW.PrintMore
set_option linter.unusedVariables false
set_option linter.unusedSimpArgs false
/-- The reference's step of code that doesn't fit together. -/
theorem rf_Step_bad (A : Option Addr) (c : Nat) (L : List S36) (w : World) (hC : Kd.C k36 w A L.length L) (hc : L.length ≤ c) (r1 r2 : Int) (hchk : inquestref15_Check.f L = some (r1, r2)) (h2 : r2 ≠ 0) (c0 c1 c2 c3 kind arg fuel : Int) :
    Calls Try.prog 28 #[.slice A L.length c, .agg #[.int .i64 c0, .int .i64 c1, .int .i64 c2, .int .i64 c3], .int .i64 kind, .int .i64 arg, .int .i64 fuel] w fun e w' => e = .returned (.agg #[.int .i64 4, .int .i64 0, .int .i64 0, .int .i64 0, .int .i64 0, .int .i64 0, .int .i64 0]) ∧ Below w.heap.size w w' := by
  have hC' := Aside0.mk hC
  replace hchk := Aside0.mk hchk
  have hb0 : (r2 != 0) = true := by simpa using h2
  clear hC h2
  go_enter Try.func28, Try.ntmps28
  go_wp2_with (first | (go_at_call 24; (with_reducible refine (inquestref15_Check.calls A c L r1 r2 _ (Kd.C_alloc (Kd.C_alloc hC'.out _) _) hc hchk.out).mono ?_); rintro e W1 ⟨rfl, hb1⟩; have k1 := blk_below (blk_new (w.alloc (.cells #[.int .i64 c0, .int .i64 c1, .int .i64 c2, .int .i64 c3] 24)) (.cells #[.int .i64 0, .int .i64 0, .int .i64 0, .int .i64 0, .int .i64 0, .int .i64 0, .int .i64 0] 38)) hb1; have hsz : (w.alloc (.cells #[.int .i64 c0, .int .i64 c1, .int .i64 c2, .int .i64 c3] 24)).heap.size = w.heap.size + 1 := (by simp); rw [hsz] at k1; have t0 := blk_cell k1 0; have t1 := blk_cell k1 1; have t2 := blk_cell k1 2; have t3 := blk_cell k1 3; have t4 := blk_cell k1 4; have t5 := blk_cell k1 5; have t6 := blk_cell k1 6; have y0 := blk_frozen k1 0; have y1 := blk_frozen k1 1; have y2 := blk_frozen k1 2; have y3 := blk_frozen k1 3; have y4 := blk_frozen k1 4; have y5 := blk_frozen k1 5; have y6 := blk_frozen k1 6; simp only [List.getElem?_toArray, List.getElem?_cons_zero, List.getElem?_cons_succ] at t0 t1 t2 t3 t4 t5 t6; replace k1 := Aside0.mk k1; replace hb1 := Aside0.mk hb1; clear hsz))
  refine vm_gen _ (fun W => W.heap[w.heap.size + 1]? = some (.cells #[.int .i64 4, .int .i64 0, .int .i64 0, .int .i64 0, .int .i64 0, .int .i64 0, .int .i64 0] 38 (0, 0)) ∧ Below w.heap.size w W) ⟨vm_out7 k1.out, vm_bel7 (below_step (below_alloc (below_alloc (Below.refl _ _) _) _) hb1.out) (Nat.le_succ _)⟩ ?_
  clear t0 t1 t2 t3 t4 t5 t6 y0 y1 y2 y3 y4 y5 y6 k1 hb1
  rintro W9 ⟨b9, hb9⟩
  have f0 := blk_cell b9 0
  have f1 := blk_cell b9 1
  have f2 := blk_cell b9 2
  have f3 := blk_cell b9 3
  have f4 := blk_cell b9 4
  have f5 := blk_cell b9 5
  have f6 := blk_cell b9 6
  simp only [List.getElem?_toArray, List.getElem?_cons_zero, List.getElem?_cons_succ] at f0 f1 f2 f3 f4 f5 f6
  exact bodyPost_ret (v := .agg #[.int .i64 4, .int .i64 0, .int .i64 0, .int .i64 0, .int .i64 0, .int .i64 0, .int .i64 0]) (by simp [results, Try.results28, go_sem, f0, f1, f2, f3, f4, f5, f6]) rfl ⟨rfl, hb9⟩
theorem rf_Step4 (A : Option Addr) (c : Nat) (L : List S36) (w : World) (hC : Kd.C k36 w A L.length L) (hc : L.length ≤ c) (r1 : Int) (hchk : inquestref15_Check.f L = some (r1, 0)) (c0 c1 c2 c3 kind arg fuel rk d0 d1 d2 d3 rr ru : Int)
    (h0 : inR c0) (h1 : inR c1) (h2 : inR c2) (h3 : inR c3) (hki : inR kind) (har : inR arg) (hco : ∀ i : Int, 0 ≤ i → i < (L.length : Int) → inR (rd_T36 L i).f1)
    (hv : vstep L [c0, c1, c2, c3] kind arg fuel = some (rk, [d0, d1, d2, d3], rr, ru)) (hf : fuel ≤ 9223372036854775807) :
    Calls Try.prog 28 #[.slice A L.length c, .agg #[.int .i64 c0, .int .i64 c1, .int .i64 c2, .int .i64 c3], .int .i64 kind, .int .i64 arg, .int .i64 fuel] w fun e w' => e = .returned (.agg #[.int .i64 rk, .int .i64 d0, .int .i64 d1, .int .i64 d2, .int .i64 d3, .int .i64 rr, .int .i64 ru]) ∧ Below w.heap.size w w' :=
  rf_Step A c L w hC hc r1 hchk [c0, c1, c2, c3] rfl (fun x hx => by simp only [List.mem_cons, List.not_mem_nil, or_false] at hx; rcases hx with rfl | rfl | rfl | rfl <;> assumption) kind arg fuel hki har hco rk [d0, d1, d2, d3] rr ru hv hf
theorem inR_wf {a : Int} (h : (Lit.int .i64 a).wf = true) : inR a := wf_i64 h
theorem rd_in (L : List S36) (h : ∀ x ∈ L, (Lit.int .i64 x.f0).wf = true ∧ (Lit.int .i64 x.f1).wf = true) (i : Int) (h0 : 0 ≤ i) (h1 : i < (L.length : Int)) : inR (rd_T36 L i).f1 := by
  have hm : rd_T36 L i ∈ L := by
    unfold rd_T36
    rw [List.getD_eq_getElem?_getD, List.getElem?_eq_getElem (by omega)]
    exact List.getElem_mem _
  exact wf_i64 (h _ hm).2
/-- The block of a row of one's own. -/
theorem mine_blk {W : World} {base n c : Nat} {ok : Nat → Prop} {A : Option Addr} {L : List S36} (h : Kd.R k36 36 W base ok (.slice A n c) L) : L.length = 0 ∨ ∃ b cur, A = some ⟨b, 0, none⟩ ∧ W.heap[b]? = some (.cells cur 36 (0, 0)) ∧ 2 * L.length ≤ cur.size ∧ base ≤ b := by
  obtain ⟨inner, h1, h2⟩ := Kd.R_own h
  rcases h2 with ⟨_, h0⟩ | ⟨g, cap, cur, e, hg, hk, hn, hm, hs, _⟩
  · exact .inl h0
  · injection e with e1 e2 e3
    refine .inr ⟨g, cur, e1, hk, ?_, hg⟩
    rw [hs]
    have e : k36.sz = 2 := rfl
    rw [e]
    omega
theorem mine_any {W : World} {base n c : Nat} {ok : Nat → Prop} {A : Option Addr} {L : List S36} (h : Kd.R k36 36 W base ok (.slice A n c) L) : ∃ gG, base ≤ gG ∧ (0 < L.length → gG < W.heap.size ∧ A = some ⟨gG, 0, none⟩ ∧ ∃ cur, W.heap[gG]? = some (.cells cur 36 (0, 0)) ∧ 2 * L.length ≤ cur.size) := by
  rcases mine_blk h with h0 | ⟨b, cur, e, hk, hs, hb⟩
  · exact ⟨base, Nat.le_refl _, fun h => by omega⟩
  · exact ⟨b, hb, fun _ => ⟨blk_lt hk, e, cur, hk, hs⟩⟩
theorem VmM.keep {base : Nat} {W W' : World} {g : Nat} {L : List S36} {v : Value} (h : VmM base W g L v) (hm : ∀ k, base ≤ k → k < W.heap.size → W'.heap[k]? = W.heap[k]?) : VmM base W' g L v :=
  ⟨(hm g h.hg (blk_lt h.hk)).trans h.hk, Kd.R_mono (Kd.R_step (Kd.R_mono (Kd.R_bound h.hR) (fun k hk => hk.2.1)) hm) (fun _ _ => trivial), h.hg⟩
theorem row_keep {W W' : World} {base : Nat} {L : List S36} {A : Option Addr} {n c : Nat} (h : Kd.R k36 36 W base (fun _ => True) (.slice A n c) L) (hm : ∀ k, k < W.heap.size → W'.heap[k]? = W.heap[k]?) : Kd.C k36 W' A L.length L :=
  (Kd.R_reads' (Kd.R_step (Kd.R_mono (Kd.R_bound h) (fun k hk => hk.2.2.1)) (fun k hk _ => hm k hk))).2.2
set_option maxRecDepth 100000 in
set_option maxHeartbeats 8000000 in
theorem inquestlaw16_VmSteps.any (A : Option Addr) (cap : Nat) (l : List S36) (c0 c1 c2 c3 kind fuel arg : Int) (w : World) (hr : Kd.C k36 w A l.length l) (hc : l.length ≤ cap) (hm : l.length ≤ maxLen) (hw : ∀ x ∈ l, (Lit.int .i64 x.f0).wf = true ∧ (Lit.int .i64 x.f1).wf = true) (w0 : (Lit.int .i64 c0).wf = true) (w1 : (Lit.int .i64 c1).wf = true) (w2 : (Lit.int .i64 c2).wf = true) (w3 : (Lit.int .i64 c3).wf = true) (w4 : (Lit.int .i64 kind).wf = true) (w5 : (Lit.int .i64 fuel).wf = true) (w6 : (Lit.int .i64 arg).wf = true) :
    Calls Try.prog 3 #[.slice A l.length cap, .agg #[.int .i64 c0, .int .i64 c1, .int .i64 c2, .int .i64 c3, .int .i64 kind, .int .i64 fuel, .int .i64 arg]] w fun e w' => e = .returned (.bool true) ∧ Below w.heap.size w w' := by
  have hF := Aside0.mk (few15 l hm)
  have hL2 : (l.take 210).length ≤ 210 := by rw [List.length_take]; omega
  have hwL : ∀ x ∈ l.take 210, (Lit.int .i64 x.f0).wf = true ∧ (Lit.int .i64 x.f1).wf = true := fun x hx => hw x (List.mem_of_mem_take hx)
  generalize l.take 210 = L at *
  have hG : Aside0 (inquestref15_Few.f L = some L) := ⟨by have := few15 L (by simp only [maxLen]; omega); rwa [List.take_of_length_le hL2] at this⟩
  have hL3 : Aside0 (L.length ≤ 300) := ⟨by omega⟩
  have hr' := Aside0.mk hr
  obtain ⟨ks, hks⟩ := Ev.rounds (same15_t L L (by omega) rfl)
  replace hks := Aside0.mk hks
  have hco := Aside0.mk (rd_in L hwL)
  have hin : Aside0 (inR c0 ∧ inR c1 ∧ inR c2 ∧ inR c3 ∧ inR kind ∧ inR arg) := ⟨inR_wf w0, inR_wf w1, inR_wf w2, inR_wf w3, inR_wf w4, inR_wf w6⟩
  have hfz : Aside0 (fuelZ fuel ≤ 3000) := ⟨by unfold fuelZ; split <;> (try split) <;> omega⟩
  have hq := Aside0.mk eqI24_9
  have hgd := Aside0.mk guard38
  clear hr hw hm w0 w1 w2 w3 w4 w5 w6 hwL
  by_cases ht : (thru L).2.2 = 0
  · have hL0 : Aside0 (0 < L.length) := ⟨(thru_good L ht).pos⟩
    have hK : Aside0 (inquestref15_Check.f L = some ((thru L).2.1, 0)) := ⟨by rw [← ht]; exact r15_Check L hL3.out⟩
    replace ht := Aside0.mk ht
    obtain ⟨rk, rs, rr, ru, hv, h4, _, _⟩ := vstep_good L ht.out [c0, c1, c2, c3] rfl kind arg (fuelZ fuel)
    obtain ⟨d0, d1, d2, d3, rfl⟩ := four_of h4
    have hv' := Aside0.mk hv
    clear hv h4 hL2
    go_enter Try.func3, Try.ntmps3
    go_wp2_with (first | (go_at_call 22; (with_reducible refine (inquestref15_Few.calls A cap l L _ (Kd.C_alloc hr'.out _) hc hF.out).mono ?_); rintro e WF ⟨vF, rfl, hRF, hBF⟩; obtain ⟨AF, cF, rfl⟩ := Kd.R_slice hRF; obtain ⟨_, hcF, hCF⟩ := Kd.R_reads' hRF; replace hRF := Aside0.mk hRF; replace hCF := Aside0.mk hCF; replace hBF := Aside0.mk hBF; replace hcF := Aside0.mk hcF) | (go_at_call 22; (with_reducible refine (inquestref15_Few.calls AF cF L L _ hCF.out hcF.out hG.out).mono ?_); rintro e WG ⟨vG, rfl, hRG, hBG⟩; obtain ⟨AG, cG, rfl⟩ := Kd.R_slice hRG; obtain ⟨_, hcG, hCG⟩ := Kd.R_reads' hRG; replace hRG := Aside0.mk hRG; replace hCG := Aside0.mk hCG; replace hBG := Aside0.mk hBG; replace hcG := Aside0.mk hcG) | (go_at_call 23; (with_reducible refine (vm_New_k AG cG L _ hCG.out hcG.out hL3.out ht.out).mono ?_); rintro e WM ⟨gm, vM, rfl, hM, hBM⟩; replace hM := Aside0.mk hM; replace hBM := Aside0.mk hBM) | (go_at_call 24; (with_reducible refine (inquestref15_Check.calls AF cF L (thru L).2.1 0 _ (Kd.C_below (Kd.C_below hCF.out hBG.out) hBM.out) hcF.out hK.out).mono ?_); rintro e WC ⟨rfl, hBC⟩; replace hBC := Aside0.mk hBC) | (go_at_call 25; (with_reducible refine (inquestref15_Same.calls ks AG cG L AF cF L true _ (Kd.C_below (Kd.C_below hCG.out hBM.out) hBC.out) hcG.out (Kd.C_below (Kd.C_below (Kd.C_below hCF.out hBG.out) hBM.out) hBC.out) hcF.out hks.out).mono ?_); rintro e WS ⟨rfl, ⟨nd, rfl⟩⟩))
    obtain ⟨gG, hgG, hG2⟩ := mine_any hRG.out
    have hbx := blk_drewN (blk_below (blk_below (blk_below (blk_below (blk_new w (.cells #[.int .i64 c0, .int .i64 c1, .int .i64 c2, .int .i64 c3, .int .i64 kind, .int .i64 fuel, .int .i64 arg] 26)) hBF.out) hBG.out) hBM.out) hBC.out) nd
    have hwL : Below w.heap.size w (WC.drewN nd) := pw_below_drewN (below_step (below_step (below_step (below_step (below_alloc (Below.refl w.heap.size w) (.cells #[.int .i64 c0, .int .i64 c1, .int .i64 c2, .int .i64 c3, .int .i64 kind, .int .i64 fuel, .int .i64 arg] 26)) hBF.out) hBG.out) hBM.out) hBC.out) nd
    have hFL : Below WF.heap.size WF (WC.drewN nd) := pw_below_drewN (below_step (below_step hBG.out hBM.out) hBC.out) nd
    have hGL : Below WG.heap.size WG (WC.drewN nd) := pw_below_drewN (below_step hBM.out hBC.out) nd
    have hgw : w.heap.size < gG := by have := hBF.out.size; simp at this; omega
    have hgs : w.heap.size ≤ gG := by omega
    have hgl := Aside0.mk ((hG2 hL0.out).1)
    obtain rfl := (hG2 hL0.out).2.1
    replace hwL := Aside0.mk hwL
    replace hFL := Aside0.mk hFL
    replace hGL := Aside0.mk hGL
    replace hbx := Aside0.mk hbx
    replace hgG := Aside0.mk hgG
    replace hgw := Aside0.mk hgw
    replace hgs := Aside0.mk hgs
    have hG3 : Aside0 (0 < L.length → gG < WG.heap.size ∧ ∃ cur, (WC.drewN nd).heap[gG]? = some (.cells cur 36 (0, 0)) ∧ 2 * L.length ≤ cur.size) := ⟨fun h => by obtain ⟨x1, x2, cur, x3, x4⟩ := hG2 h; exact ⟨x1, cur, blk_drewN (blk_below (blk_below x3 hBM.out) hBC.out) nd, x4⟩⟩
    clear hG2
    go_loopg [10] L.length (fun kk v10 W => ∃ i : Nat, v10 = .int .i64 i ∧ Aside0 (kk + i = L.length) ∧ Aside0 (KeepBut (WC.drewN nd) W gG none) ∧ Aside0 (Below w.heap.size w W) ∧ Aside0 (0 < L.length → ∃ cur, W.heap[gG]? = some (.cells cur 36 (0, 0)) ∧ 2 * L.length ≤ cur.size))
    case atStart => exact ⟨0, rfl, ⟨rfl⟩, ⟨KeepBut.refl _ _ _⟩, hwL, ⟨fun h => (hG3.out h).2⟩⟩
    case round =>
      obtain ⟨i, rfl, hk, hKB, hwr, hcu⟩ := hrel
      by_cases hil : i < L.length
      · obtain ⟨j, rfl⟩ : ∃ j, gk = j + 1 := ⟨gk - 1, by have := hk.out; omega⟩
        have p0 : (0 : Int) ≤ (i : Int) := Int.natCast_nonneg i
        have p1 : (i : Int) < (L.length : Int) := by omega
        have p2 : (L.length : Int) ≤ 300 := by have := hL3.out; omega
        obtain ⟨cur, hcur, hcs⟩ := hcu.out (by omega)
        obtain ⟨u0, hu0⟩ : ∃ u, cur[i * 2]? = some u := ⟨_, Array.getElem?_eq_getElem (by omega)⟩
        obtain ⟨u1, hu1⟩ : ∃ u, cur[i * 2 + 1]? = some u := ⟨_, Array.getElem?_eq_getElem (by omega)⟩
        have x0 := (blk_cell hcur (i * 2)).trans hu0
        have x1 := (blk_cell hcur (i * 2 + 1)).trans hu1
        have y0 := blk_frozen hcur (i * 2)
        have y1 := blk_frozen hcur (i * 2 + 1)
        have hnx : Aside0 (((wr.setCell ⟨gG, i * 2, none⟩ (.int .i64 99)).setCell ⟨gG, i * 2 + 1, none⟩ (.int .i64 0)).heap[gG]? = some (.cells ((cur.setIfInBounds (i * 2) (.int .i64 99)).setIfInBounds (i * 2 + 1) (.int .i64 0)) 36 (0, 0))) := ⟨blk_set (blk_set hcur _ _) _ _⟩
        replace hcs := Aside0.mk hcs
        clear hu0 hu1
        replace hcur := Aside0.mk hcur
        go_wp2
        go_roundg j
        case measure => omega
        case rel => exact ⟨i + 1, by go_num, ⟨by have := hk.out; omega⟩, ⟨(hKB.out.set_ _ _).set_ _ _⟩, ⟨below_set (below_set hwr.out hgs.out) hgs.out⟩, ⟨fun _ => ⟨_, hnx.out, by simp; exact hcs.out⟩⟩⟩
      · obtain rfl : i = L.length := by have := hk.out; omega
        go_wp2
        have hbw := KeepBut.blk hKB.out hbx.out (Nat.ne_of_lt hgw.out) (by simp)
        have hcb := Aside0.mk (call_cells hbw)
        have hC1 := Aside0.mk (row_keep hRF.out (fun k hk => (hKB.out.2 k (Nat.lt_of_lt_of_le hk hFL.out.size) (fun e => by have := hgG.out; omega) (by simp)).trans (hFL.out.block k hk)))
        have hMX := Aside0.mk (VmM.keep (hM.out.came (pw_below_drewN hBC.out nd)) (fun k hb hk => hKB.out.2 k hk (fun e => by have := hgl.out; omega) (by simp)))
        have hsz : Aside0 (WG.heap.size ≤ wr.heap.size) := ⟨Nat.le_trans hGL.out.size hKB.out.1⟩
        clear hbw
        refine region_by (fun b us W_ => Below wr.heap.size wr W_) (by kernel_rfl) (by kernel_rfl) ⟨fun _ => undef, below_drew (Below.refl _ _)⟩ ?_
        (refine rb_want (fun us => rfl) ?_; apply Exists.intro; apply And.intro; (focus (apply rb_pure; (focus (intro b us w h; exact h)); intro b us W_ hC; go_simp; rfl)); apply Exists.intro; apply And.intro; (focus (intro us; simp only [Act.put, List.setIfInBounds_toArray, List.set_cons_zero, List.set_cons_succ]; rfl)))
        (refine rb_want (fun us => rfl) ?_; apply Exists.intro; apply And.intro; (focus (apply rb_pure; (focus (intro b us w h; exact h)); intro b us W_ hC; go_simp; rfl)); apply Exists.intro; apply And.intro; (focus (intro us; simp only [Act.put, List.setIfInBounds_toArray, List.set_cons_zero, List.set_cons_succ]; rfl)))
        (refine rb_want (fun us => rfl) ?_; apply Exists.intro; apply And.intro; (focus (apply rb_pure; (focus (intro b us w h; exact h)); intro b us W_ hC; have y := hcb.out W_ hC; obtain ⟨y0, y1, y2, y3, y4, y5, y6⟩ := y; go_simp; rfl)); apply Exists.intro; apply And.intro; (focus (intro us; simp only [Act.put, List.setIfInBounds_toArray, List.set_cons_zero, List.set_cons_succ]; rfl)))
        (refine rb_want (fun us => rfl) ?_; apply Exists.intro; apply And.intro; (focus (apply rb_pure; (focus (intro b us w h; exact h)); intro b us W_ hC; go_simp; rfl)); apply Exists.intro; apply And.intro; (focus (intro us; simp only [Act.put, List.setIfInBounds_toArray, List.set_cons_zero, List.set_cons_succ]; rfl)))
        (refine rb_want (fun us => rfl) ?_; apply Exists.intro; apply And.intro; (focus (apply rb_pure; (focus (intro b us w h; exact h)); intro b us W_ hC; have y := hcb.out W_ hC; obtain ⟨y0, y1, y2, y3, y4, y5, y6⟩ := y; go_simp; rfl)); apply Exists.intro; apply And.intro; (focus (intro us; simp only [Act.put, List.setIfInBounds_toArray, List.set_cons_zero, List.set_cons_succ]; rfl)))
        (refine rb_want (fun us => rfl) ?_; apply Exists.intro; apply And.intro; (focus (apply rb_pure; (focus (intro b us w h; exact h)); intro b us W_ hC; go_simp; rfl)); apply Exists.intro; apply And.intro; (focus (intro us; simp only [Act.put, List.setIfInBounds_toArray, List.set_cons_zero, List.set_cons_succ]; rfl)))
        (refine rb_want (fun us => rfl) ?_; apply Exists.intro; apply And.intro; (focus (apply rb_pure; (focus (intro b us w h; exact h)); intro b us W_ hC; have y := hcb.out W_ hC; obtain ⟨y0, y1, y2, y3, y4, y5, y6⟩ := y; go_simp; rfl)); apply Exists.intro; apply And.intro; (focus (intro us; simp only [Act.put, List.setIfInBounds_toArray, List.set_cons_zero, List.set_cons_succ]; rfl)))
        (refine rb_want (fun us => rfl) ?_; apply Exists.intro; apply And.intro; (focus (apply rb_pure; (focus (intro b us w h; exact h)); intro b us W_ hC; have y := hcb.out W_ hC; obtain ⟨y0, y1, y2, y3, y4, y5, y6⟩ := y; go_simp; rfl)); apply Exists.intro; apply And.intro; (focus (intro us; simp only [Act.put, List.setIfInBounds_toArray, List.set_cons_zero, List.set_cons_succ]; rfl)))
        (refine rb_want (fun us => rfl) ⟨.int .i64 (fuelZ fuel), rb_call (f := 27) (args := fun us => #[.agg #[.int .i64 c0, .int .i64 c1, .int .i64 c2, .int .i64 c3, .int .i64 kind, .int .i64 fuel, .int .i64 arg]]) (fun us W_ => ?_) (fun b us W_ hb hon hC => ?_), ?_⟩; (focus (exact rb_enters Try.func27 (by kernel_rfl) rfl (by rfl) W_)); (focus (refine (vm_fuel [c0, c1, c2, c3] kind fuel arg W_).mono ?_; rintro e w1 ⟨rfl, hbw⟩; exact ⟨rfl, below_step hC hbw⟩)); apply Exists.intro; apply And.intro; (focus (intro us; simp only [Act.put, List.setIfInBounds_toArray, List.set_cons_zero, List.set_cons_succ]; rfl)))
        (refine rb_want (fun us => rfl) ⟨.agg #[.int .i64 rk, .int .i64 d0, .int .i64 d1, .int .i64 d2, .int .i64 d3, .int .i64 rr, .int .i64 ru], rb_call (f := 26) (args := fun us => #[.pointer (some ⟨gm, 0, none⟩), .agg #[.int .i64 c0, .int .i64 c1, .int .i64 c2, .int .i64 c3], .int .i64 kind, .int .i64 arg, .int .i64 (fuelZ fuel)]) (fun us W_ => ?_) (fun b us W_ hb hon hC => ?_), ?_⟩; (focus (exact rb_enters Try.func26 (by kernel_rfl) rfl (by rfl) W_)); (focus (refine (vm_Step4 (hMX.out.came hC) (Nat.le_trans hsz.out hC.size) hL0.out c0 c1 c2 c3 kind arg (fuelZ fuel) rk d0 d1 d2 d3 rr ru hv'.out (by have := hfz.out; omega)).mono ?_; rintro e w1 ⟨rfl, hbw⟩; exact ⟨rfl, below_step hC hbw⟩)); apply Exists.intro; apply And.intro; (focus (intro us; simp only [Act.put, List.setIfInBounds_toArray, List.set_cons_zero, List.set_cons_succ]; rfl)))
        (refine rb_want (fun us => rfl) ?_; apply Exists.intro; apply And.intro; (focus (apply rb_pure; (focus (intro b us w h; exact h)); intro b us W_ hC; go_simp; rfl)); apply Exists.intro; apply And.intro; (focus (intro us; simp only [Act.put, List.setIfInBounds_toArray, List.set_cons_zero, List.set_cons_succ]; rfl)))
        (refine rb_want (fun us => rfl) ?_; apply Exists.intro; apply And.intro; (focus (apply rb_pure; (focus (intro b us w h; exact h)); intro b us W_ hC; go_simp; rfl)); apply Exists.intro; apply And.intro; (focus (intro us; simp only [Act.put, List.setIfInBounds_toArray, List.set_cons_zero, List.set_cons_succ]; rfl)))
        (refine rb_want (fun us => rfl) ?_; apply Exists.intro; apply And.intro; (focus (apply rb_pure; (focus (intro b us w h; exact h)); intro b us W_ hC; have y := hcb.out W_ hC; obtain ⟨y0, y1, y2, y3, y4, y5, y6⟩ := y; go_simp; rfl)); apply Exists.intro; apply And.intro; (focus (intro us; simp only [Act.put, List.setIfInBounds_toArray, List.set_cons_zero, List.set_cons_succ]; rfl)))
        (refine rb_want (fun us => rfl) ?_; apply Exists.intro; apply And.intro; (focus (apply rb_pure; (focus (intro b us w h; exact h)); intro b us W_ hC; go_simp; rfl)); apply Exists.intro; apply And.intro; (focus (intro us; simp only [Act.put, List.setIfInBounds_toArray, List.set_cons_zero, List.set_cons_succ]; rfl)))
        (refine rb_want (fun us => rfl) ?_; apply Exists.intro; apply And.intro; (focus (apply rb_pure; (focus (intro b us w h; exact h)); intro b us W_ hC; have y := hcb.out W_ hC; obtain ⟨y0, y1, y2, y3, y4, y5, y6⟩ := y; go_simp; rfl)); apply Exists.intro; apply And.intro; (focus (intro us; simp only [Act.put, List.setIfInBounds_toArray, List.set_cons_zero, List.set_cons_succ]; rfl)))
        (refine rb_want (fun us => rfl) ?_; apply Exists.intro; apply And.intro; (focus (apply rb_pure; (focus (intro b us w h; exact h)); intro b us W_ hC; go_simp; rfl)); apply Exists.intro; apply And.intro; (focus (intro us; simp only [Act.put, List.setIfInBounds_toArray, List.set_cons_zero, List.set_cons_succ]; rfl)))
        (refine rb_want (fun us => rfl) ?_; apply Exists.intro; apply And.intro; (focus (apply rb_pure; (focus (intro b us w h; exact h)); intro b us W_ hC; have y := hcb.out W_ hC; obtain ⟨y0, y1, y2, y3, y4, y5, y6⟩ := y; go_simp; rfl)); apply Exists.intro; apply And.intro; (focus (intro us; simp only [Act.put, List.setIfInBounds_toArray, List.set_cons_zero, List.set_cons_succ]; rfl)))
        (refine rb_want (fun us => rfl) ?_; apply Exists.intro; apply And.intro; (focus (apply rb_pure; (focus (intro b us w h; exact h)); intro b us W_ hC; have y := hcb.out W_ hC; obtain ⟨y0, y1, y2, y3, y4, y5, y6⟩ := y; go_simp; rfl)); apply Exists.intro; apply And.intro; (focus (intro us; simp only [Act.put, List.setIfInBounds_toArray, List.set_cons_zero, List.set_cons_succ]; rfl)))
        (refine rb_want (fun us => rfl) ⟨.int .i64 (fuelZ fuel), rb_call (f := 27) (args := fun us => #[.agg #[.int .i64 c0, .int .i64 c1, .int .i64 c2, .int .i64 c3, .int .i64 kind, .int .i64 fuel, .int .i64 arg]]) (fun us W_ => ?_) (fun b us W_ hb hon hC => ?_), ?_⟩; (focus (exact rb_enters Try.func27 (by kernel_rfl) rfl (by rfl) W_)); (focus (refine (vm_fuel [c0, c1, c2, c3] kind fuel arg W_).mono ?_; rintro e w1 ⟨rfl, hbw⟩; exact ⟨rfl, below_step hC hbw⟩)); apply Exists.intro; apply And.intro; (focus (intro us; simp only [Act.put, List.setIfInBounds_toArray, List.set_cons_zero, List.set_cons_succ]; rfl)))
        (refine rb_want (fun us => rfl) ⟨.agg #[.int .i64 rk, .int .i64 d0, .int .i64 d1, .int .i64 d2, .int .i64 d3, .int .i64 rr, .int .i64 ru], rb_call (f := 28) (args := fun us => #[.slice AF L.length cF, .agg #[.int .i64 c0, .int .i64 c1, .int .i64 c2, .int .i64 c3], .int .i64 kind, .int .i64 arg, .int .i64 (fuelZ fuel)]) (fun us W_ => ?_) (fun b us W_ hb hon hC => ?_), ?_⟩; (focus (exact rb_enters Try.func28 (by kernel_rfl) rfl (by rfl) W_)); (focus (refine (rf_Step4 AF cF L W_ (Kd.C_below hC1.out hC) hcF.out (thru L).2.1 hK.out c0 c1 c2 c3 kind arg (fuelZ fuel) rk d0 d1 d2 d3 rr ru hin.out.1 hin.out.2.1 hin.out.2.2.1 hin.out.2.2.2.1 hin.out.2.2.2.2.1 hin.out.2.2.2.2.2 hco.out hv'.out (by have := hfz.out; omega)).mono ?_; rintro e w1 ⟨rfl, hbw⟩; exact ⟨rfl, below_step hC hbw⟩)); apply Exists.intro; apply And.intro; (focus (intro us; simp only [Act.put, List.setIfInBounds_toArray, List.set_cons_zero, List.set_cons_succ]; rfl)))
        (refine rb_want (fun us => rfl) ?_; apply Exists.intro; apply And.intro; (focus (apply rb_pure; (focus (intro b us w h; exact h)); intro b us W_ hC; have q := hq.out W_; have q2 := hgd.out; go_simp; rfl)); apply Exists.intro; apply And.intro; (focus (intro us; simp only [Act.put, List.setIfInBounds_toArray, List.set_cons_zero, List.set_cons_succ]; rfl)))
        (refine rb_want (fun us => rfl) ?_; apply Exists.intro; apply And.intro; (focus (apply rb_pure; (focus (intro b us w h; exact h)); intro b us W_ hC; go_simp; rfl)); apply Exists.intro; apply And.intro; (focus (intro us; simp only [Act.put, List.setIfInBounds_toArray, List.set_cons_zero, List.set_cons_succ]; rfl)))
        (refine rb_want (fun us => rfl) ⟨.bool true, rb_call (f := 29) (args := fun us => #[]) (fun us W_ => ?_) (fun b us W_ hb hon hC => ?_), ?_⟩; (focus (exact rb_enters Try.func29 (by kernel_rfl) rfl (by rfl) W_)); (focus (refine (vm_lives W_).mono ?_; rintro e w1 ⟨rfl, hbw⟩; exact ⟨rfl, below_step hC hbw⟩)); apply Exists.intro; apply And.intro; (focus (intro us; simp only [Act.put, List.setIfInBounds_toArray, List.set_cons_zero, List.set_cons_succ]; rfl)))
        (refine rb_want (fun us => rfl) ?_; apply Exists.intro; apply And.intro; (focus (apply rb_pure; (focus (intro b us w h; exact h)); intro b us W_ hC; go_simp; rfl)); apply Exists.intro; apply And.intro; (focus (intro us; simp only [Act.put, List.setIfInBounds_toArray, List.set_cons_zero, List.set_cons_succ]; rfl)))
        (refine rb_want (fun us => rfl) ?_; apply Exists.intro; apply And.intro; (focus (apply rb_pure; (focus (intro b us w h; exact h)); intro b us W_ hC; go_simp; rfl)); apply Exists.intro; apply And.intro; (focus (intro us; simp only [Act.put, List.setIfInBounds_toArray, List.set_cons_zero, List.set_cons_succ]; rfl)))
        refine rb_done (fun b us W_ hall hC => ?_)
        have hB8 := hC
        clear hC hall
        go_wp2
        go_ret
        exact ⟨rfl, below_step hwr.out hB8⟩
  · by_cases hL0 : 0 < L.length
    rotate_left
    · have hb0 : ((thru L).2.2 != 0) = true := by simpa using ht
      have hK : Aside0 (inquestref15_Check.f L = some ((thru L).2.1, (thru L).2.2)) := ⟨r15_Check L hL3.out⟩
      replace ht := Aside0.mk ht
      replace hL0 := Aside0.mk hL0
      clear hL2
      go_enter Try.func3, Try.ntmps3
      go_wp2_with (first | (go_at_call 22; (with_reducible refine (inquestref15_Few.calls A cap l L _ (Kd.C_alloc hr'.out _) hc hF.out).mono ?_); rintro e WF ⟨vF, rfl, hRF, hBF⟩; obtain ⟨AF, cF, rfl⟩ := Kd.R_slice hRF; obtain ⟨_, hcF, hCF⟩ := Kd.R_reads' hRF; replace hRF := Aside0.mk hRF; replace hCF := Aside0.mk hCF; replace hBF := Aside0.mk hBF; replace hcF := Aside0.mk hcF) | (go_at_call 22; (with_reducible refine (inquestref15_Few.calls AF cF L L _ hCF.out hcF.out hG.out).mono ?_); rintro e WG ⟨vG, rfl, hRG, hBG⟩; obtain ⟨AG, cG, rfl⟩ := Kd.R_slice hRG; obtain ⟨_, hcG, hCG⟩ := Kd.R_reads' hRG; replace hRG := Aside0.mk hRG; replace hCG := Aside0.mk hCG; replace hBG := Aside0.mk hBG; replace hcG := Aside0.mk hcG) | (go_at_call 23; (with_reducible refine (vm_New_e AG cG L _ hCG.out hcG.out hL3.out ht.out).mono ?_); rintro e WM ⟨rfl, hBM⟩; replace hBM := Aside0.mk hBM) | (go_at_call 24; (with_reducible refine (inquestref15_Check.calls AF cF L (thru L).2.1 (thru L).2.2 _ (Kd.C_below (Kd.C_below hCF.out hBG.out) hBM.out) hcF.out hK.out).mono ?_); rintro e WC ⟨rfl, hBC⟩; replace hBC := Aside0.mk hBC) | (go_at_call 25; (with_reducible refine (inquestref15_Same.calls ks AG cG L AF cF L true _ (Kd.C_below (Kd.C_below hCG.out hBM.out) hBC.out) hcG.out (Kd.C_below (Kd.C_below (Kd.C_below hCF.out hBG.out) hBM.out) hBC.out) hcF.out hks.out).mono ?_); rintro e WS ⟨rfl, ⟨nd, rfl⟩⟩))
      obtain ⟨gG, hgG, hG2⟩ := mine_any hRG.out
      have hbx := blk_drewN (blk_below (blk_below (blk_below (blk_below (blk_new w (.cells #[.int .i64 c0, .int .i64 c1, .int .i64 c2, .int .i64 c3, .int .i64 kind, .int .i64 fuel, .int .i64 arg] 26)) hBF.out) hBG.out) hBM.out) hBC.out) nd
      have hwL : Below w.heap.size w (WC.drewN nd) := pw_below_drewN (below_step (below_step (below_step (below_step (below_alloc (Below.refl w.heap.size w) (.cells #[.int .i64 c0, .int .i64 c1, .int .i64 c2, .int .i64 c3, .int .i64 kind, .int .i64 fuel, .int .i64 arg] 26)) hBF.out) hBG.out) hBM.out) hBC.out) nd
      have hFL : Below WF.heap.size WF (WC.drewN nd) := pw_below_drewN (below_step (below_step hBG.out hBM.out) hBC.out) nd
      have hGL : Below WG.heap.size WG (WC.drewN nd) := pw_below_drewN (below_step hBM.out hBC.out) nd
      have hgw : w.heap.size < gG := by have := hBF.out.size; simp at this; omega
      have hgs : w.heap.size ≤ gG := by omega
      replace hwL := Aside0.mk hwL
      replace hFL := Aside0.mk hFL
      replace hGL := Aside0.mk hGL
      replace hbx := Aside0.mk hbx
      replace hgG := Aside0.mk hgG
      replace hgw := Aside0.mk hgw
      replace hgs := Aside0.mk hgs
      have hG3 : Aside0 (0 < L.length → gG < WG.heap.size ∧ ∃ cur, (WC.drewN nd).heap[gG]? = some (.cells cur 36 (0, 0)) ∧ 2 * L.length ≤ cur.size) := ⟨fun h => by obtain ⟨x1, x2, cur, x3, x4⟩ := hG2 h; exact ⟨x1, cur, blk_drewN (blk_below (blk_below x3 hBM.out) hBC.out) nd, x4⟩⟩
      clear hG2
      go_loopg [10] L.length (fun kk v10 W => ∃ i : Nat, v10 = .int .i64 i ∧ Aside0 (kk + i = L.length) ∧ Aside0 (KeepBut (WC.drewN nd) W gG none) ∧ Aside0 (Below w.heap.size w W) ∧ Aside0 (0 < L.length → ∃ cur, W.heap[gG]? = some (.cells cur 36 (0, 0)) ∧ 2 * L.length ≤ cur.size))
      case atStart => exact ⟨0, rfl, ⟨rfl⟩, ⟨KeepBut.refl _ _ _⟩, hwL, ⟨fun h => (hG3.out h).2⟩⟩
      case round =>
        obtain ⟨i, rfl, hk, hKB, hwr, hcu⟩ := hrel
        by_cases hil : i < L.length
        · exact absurd (Nat.lt_of_le_of_lt (Nat.zero_le i) hil) hL0.out
        · obtain rfl : i = L.length := by have := hk.out; omega
          go_wp2
          have hbw := KeepBut.blk hKB.out hbx.out (Nat.ne_of_lt hgw.out) (by simp)
          have hcb := Aside0.mk (call_cells hbw)
          have hC1 := Aside0.mk (row_keep hRF.out (fun k hk => (hKB.out.2 k (Nat.lt_of_lt_of_le hk hFL.out.size) (fun e => by have := hgG.out; omega) (by simp)).trans (hFL.out.block k hk)))
          clear hbw
          refine region_by (fun b us W_ => Below wr.heap.size wr W_) (by kernel_rfl) (by kernel_rfl) ⟨fun _ => undef, below_drew (Below.refl _ _)⟩ ?_
          (refine rb_want (fun us => rfl) ?_; apply Exists.intro; apply And.intro; (focus (apply rb_pure; (focus (intro b us w h; exact h)); intro b us W_ hC; go_simp; rfl)); apply Exists.intro; apply And.intro; (focus (intro us; simp only [Act.put, List.setIfInBounds_toArray, List.set_cons_zero, List.set_cons_succ]; rfl)))
          (refine rb_want (fun us => rfl) ?_; apply Exists.intro; apply And.intro; (focus (apply rb_pure; (focus (intro b us w h; exact h)); intro b us W_ hC; go_simp; rfl)); apply Exists.intro; apply And.intro; (focus (intro us; simp only [Act.put, List.setIfInBounds_toArray, List.set_cons_zero, List.set_cons_succ]; rfl)))
          (refine rb_want (fun us => rfl) ?_; apply Exists.intro; apply And.intro; (focus (apply rb_pure; (focus (intro b us w h; exact h)); intro b us W_ hC; have y := hcb.out W_ hC; obtain ⟨y0, y1, y2, y3, y4, y5, y6⟩ := y; go_simp; rfl)); apply Exists.intro; apply And.intro; (focus (intro us; simp only [Act.put, List.setIfInBounds_toArray, List.set_cons_zero, List.set_cons_succ]; rfl)))
          (refine rb_want (fun us => rfl) ?_; apply Exists.intro; apply And.intro; (focus (apply rb_pure; (focus (intro b us w h; exact h)); intro b us W_ hC; go_simp; rfl)); apply Exists.intro; apply And.intro; (focus (intro us; simp only [Act.put, List.setIfInBounds_toArray, List.set_cons_zero, List.set_cons_succ]; rfl)))
          (refine rb_want (fun us => rfl) ?_; apply Exists.intro; apply And.intro; (focus (apply rb_pure; (focus (intro b us w h; exact h)); intro b us W_ hC; have y := hcb.out W_ hC; obtain ⟨y0, y1, y2, y3, y4, y5, y6⟩ := y; go_simp; rfl)); apply Exists.intro; apply And.intro; (focus (intro us; simp only [Act.put, List.setIfInBounds_toArray, List.set_cons_zero, List.set_cons_succ]; rfl)))
          (refine rb_want (fun us => rfl) ?_; apply Exists.intro; apply And.intro; (focus (apply rb_pure; (focus (intro b us w h; exact h)); intro b us W_ hC; go_simp; rfl)); apply Exists.intro; apply And.intro; (focus (intro us; simp only [Act.put, List.setIfInBounds_toArray, List.set_cons_zero, List.set_cons_succ]; rfl)))
          (refine rb_want (fun us => rfl) ?_; apply Exists.intro; apply And.intro; (focus (apply rb_pure; (focus (intro b us w h; exact h)); intro b us W_ hC; have y := hcb.out W_ hC; obtain ⟨y0, y1, y2, y3, y4, y5, y6⟩ := y; go_simp; rfl)); apply Exists.intro; apply And.intro; (focus (intro us; simp only [Act.put, List.setIfInBounds_toArray, List.set_cons_zero, List.set_cons_succ]; rfl)))
          (refine rb_want (fun us => rfl) ?_; apply Exists.intro; apply And.intro; (focus (apply rb_pure; (focus (intro b us w h; exact h)); intro b us W_ hC; have y := hcb.out W_ hC; obtain ⟨y0, y1, y2, y3, y4, y5, y6⟩ := y; go_simp; rfl)); apply Exists.intro; apply And.intro; (focus (intro us; simp only [Act.put, List.setIfInBounds_toArray, List.set_cons_zero, List.set_cons_succ]; rfl)))
          (refine rb_want (fun us => rfl) ⟨.int .i64 (fuelZ fuel), rb_call (f := 27) (args := fun us => #[.agg #[.int .i64 c0, .int .i64 c1, .int .i64 c2, .int .i64 c3, .int .i64 kind, .int .i64 fuel, .int .i64 arg]]) (fun us W_ => ?_) (fun b us W_ hb hon hC => ?_), ?_⟩; (focus (exact rb_enters Try.func27 (by kernel_rfl) rfl (by rfl) W_)); (focus (refine (vm_fuel [c0, c1, c2, c3] kind fuel arg W_).mono ?_; rintro e w1 ⟨rfl, hbw⟩; exact ⟨rfl, below_step hC hbw⟩)); apply Exists.intro; apply And.intro; (focus (intro us; simp only [Act.put, List.setIfInBounds_toArray, List.set_cons_zero, List.set_cons_succ]; rfl)))
          (refine rb_want (fun us => rfl) ⟨.agg #[.int .i64 4, .int .i64 0, .int .i64 0, .int .i64 0, .int .i64 0, .int .i64 0, .int .i64 0], rb_call (f := 26) (args := fun us => #[.pointer none, .agg #[.int .i64 c0, .int .i64 c1, .int .i64 c2, .int .i64 c3], .int .i64 kind, .int .i64 arg, .int .i64 (fuelZ fuel)]) (fun us W_ => ?_) (fun b us W_ hb hon hC => ?_), ?_⟩; (focus (exact rb_enters Try.func26 (by kernel_rfl) rfl (by rfl) W_)); (focus (refine (vm_Step_nil [c0, c1, c2, c3] kind arg (fuelZ fuel) W_).mono ?_; rintro e w1 ⟨rfl, hbw⟩; exact ⟨rfl, below_step hC hbw⟩)); apply Exists.intro; apply And.intro; (focus (intro us; simp only [Act.put, List.setIfInBounds_toArray, List.set_cons_zero, List.set_cons_succ]; rfl)))
          (refine rb_want (fun us => rfl) ?_; apply Exists.intro; apply And.intro; (focus (apply rb_pure; (focus (intro b us w h; exact h)); intro b us W_ hC; go_simp; rfl)); apply Exists.intro; apply And.intro; (focus (intro us; simp only [Act.put, List.setIfInBounds_toArray, List.set_cons_zero, List.set_cons_succ]; rfl)))
          (refine rb_want (fun us => rfl) ?_; apply Exists.intro; apply And.intro; (focus (apply rb_pure; (focus (intro b us w h; exact h)); intro b us W_ hC; go_simp; rfl)); apply Exists.intro; apply And.intro; (focus (intro us; simp only [Act.put, List.setIfInBounds_toArray, List.set_cons_zero, List.set_cons_succ]; rfl)))
          (refine rb_want (fun us => rfl) ?_; apply Exists.intro; apply And.intro; (focus (apply rb_pure; (focus (intro b us w h; exact h)); intro b us W_ hC; have y := hcb.out W_ hC; obtain ⟨y0, y1, y2, y3, y4, y5, y6⟩ := y; go_simp; rfl)); apply Exists.intro; apply And.intro; (focus (intro us; simp only [Act.put, List.setIfInBounds_toArray, List.set_cons_zero, List.set_cons_succ]; rfl)))
          (refine rb_want (fun us => rfl) ?_; apply Exists.intro; apply And.intro; (focus (apply rb_pure; (focus (intro b us w h; exact h)); intro b us W_ hC; go_simp; rfl)); apply Exists.intro; apply And.intro; (focus (intro us; simp only [Act.put, List.setIfInBounds_toArray, List.set_cons_zero, List.set_cons_succ]; rfl)))
          (refine rb_want (fun us => rfl) ?_; apply Exists.intro; apply And.intro; (focus (apply rb_pure; (focus (intro b us w h; exact h)); intro b us W_ hC; have y := hcb.out W_ hC; obtain ⟨y0, y1, y2, y3, y4, y5, y6⟩ := y; go_simp; rfl)); apply Exists.intro; apply And.intro; (focus (intro us; simp only [Act.put, List.setIfInBounds_toArray, List.set_cons_zero, List.set_cons_succ]; rfl)))
          (refine rb_want (fun us => rfl) ?_; apply Exists.intro; apply And.intro; (focus (apply rb_pure; (focus (intro b us w h; exact h)); intro b us W_ hC; go_simp; rfl)); apply Exists.intro; apply And.intro; (focus (intro us; simp only [Act.put, List.setIfInBounds_toArray, List.set_cons_zero, List.set_cons_succ]; rfl)))
          (refine rb_want (fun us => rfl) ?_; apply Exists.intro; apply And.intro; (focus (apply rb_pure; (focus (intro b us w h; exact h)); intro b us W_ hC; have y := hcb.out W_ hC; obtain ⟨y0, y1, y2, y3, y4, y5, y6⟩ := y; go_simp; rfl)); apply Exists.intro; apply And.intro; (focus (intro us; simp only [Act.put, List.setIfInBounds_toArray, List.set_cons_zero, List.set_cons_succ]; rfl)))
          (refine rb_want (fun us => rfl) ?_; apply Exists.intro; apply And.intro; (focus (apply rb_pure; (focus (intro b us w h; exact h)); intro b us W_ hC; have y := hcb.out W_ hC; obtain ⟨y0, y1, y2, y3, y4, y5, y6⟩ := y; go_simp; rfl)); apply Exists.intro; apply And.intro; (focus (intro us; simp only [Act.put, List.setIfInBounds_toArray, List.set_cons_zero, List.set_cons_succ]; rfl)))
          (refine rb_want (fun us => rfl) ⟨.int .i64 (fuelZ fuel), rb_call (f := 27) (args := fun us => #[.agg #[.int .i64 c0, .int .i64 c1, .int .i64 c2, .int .i64 c3, .int .i64 kind, .int .i64 fuel, .int .i64 arg]]) (fun us W_ => ?_) (fun b us W_ hb hon hC => ?_), ?_⟩; (focus (exact rb_enters Try.func27 (by kernel_rfl) rfl (by rfl) W_)); (focus (refine (vm_fuel [c0, c1, c2, c3] kind fuel arg W_).mono ?_; rintro e w1 ⟨rfl, hbw⟩; exact ⟨rfl, below_step hC hbw⟩)); apply Exists.intro; apply And.intro; (focus (intro us; simp only [Act.put, List.setIfInBounds_toArray, List.set_cons_zero, List.set_cons_succ]; rfl)))
          (refine rb_want (fun us => rfl) ⟨.agg #[.int .i64 4, .int .i64 0, .int .i64 0, .int .i64 0, .int .i64 0, .int .i64 0, .int .i64 0], rb_call (f := 28) (args := fun us => #[.slice AF L.length cF, .agg #[.int .i64 c0, .int .i64 c1, .int .i64 c2, .int .i64 c3], .int .i64 kind, .int .i64 arg, .int .i64 (fuelZ fuel)]) (fun us W_ => ?_) (fun b us W_ hb hon hC => ?_), ?_⟩; (focus (exact rb_enters Try.func28 (by kernel_rfl) rfl (by rfl) W_)); (focus (refine (rf_Step_bad AF cF L W_ (Kd.C_below hC1.out hC) hcF.out (thru L).2.1 (thru L).2.2 hK.out ht.out c0 c1 c2 c3 kind arg (fuelZ fuel)).mono ?_; rintro e w1 ⟨rfl, hbw⟩; exact ⟨rfl, below_step hC hbw⟩)); apply Exists.intro; apply And.intro; (focus (intro us; simp only [Act.put, List.setIfInBounds_toArray, List.set_cons_zero, List.set_cons_succ]; rfl)))
          (refine rb_want (fun us => rfl) ?_; apply Exists.intro; apply And.intro; (focus (apply rb_pure; (focus (intro b us w h; exact h)); intro b us W_ hC; have q := hq.out W_; have q2 := hgd.out; go_simp; rfl)); apply Exists.intro; apply And.intro; (focus (intro us; simp only [Act.put, List.setIfInBounds_toArray, List.set_cons_zero, List.set_cons_succ]; rfl)))
          (refine rb_want (fun us => rfl) ?_; apply Exists.intro; apply And.intro; (focus (apply rb_pure; (focus (intro b us w h; exact h)); intro b us W_ hC; go_simp; rfl)); apply Exists.intro; apply And.intro; (focus (intro us; simp only [Act.put, List.setIfInBounds_toArray, List.set_cons_zero, List.set_cons_succ]; rfl)))
          (refine rb_want (fun us => rfl) ⟨.bool true, rb_call (f := 29) (args := fun us => #[]) (fun us W_ => ?_) (fun b us W_ hb hon hC => ?_), ?_⟩; (focus (exact rb_enters Try.func29 (by kernel_rfl) rfl (by rfl) W_)); (focus (refine (vm_lives W_).mono ?_; rintro e w1 ⟨rfl, hbw⟩; exact ⟨rfl, below_step hC hbw⟩)); apply Exists.intro; apply And.intro; (focus (intro us; simp only [Act.put, List.setIfInBounds_toArray, List.set_cons_zero, List.set_cons_succ]; rfl)))
          (refine rb_want (fun us => rfl) ?_; apply Exists.intro; apply And.intro; (focus (apply rb_pure; (focus (intro b us w h; exact h)); intro b us W_ hC; go_simp; rfl)); apply Exists.intro; apply And.intro; (focus (intro us; simp only [Act.put, List.setIfInBounds_toArray, List.set_cons_zero, List.set_cons_succ]; rfl)))
          (refine rb_want (fun us => rfl) ?_; apply Exists.intro; apply And.intro; (focus (apply rb_pure; (focus (intro b us w h; exact h)); intro b us W_ hC; go_simp; rfl)); apply Exists.intro; apply And.intro; (focus (intro us; simp only [Act.put, List.setIfInBounds_toArray, List.set_cons_zero, List.set_cons_succ]; rfl)))
          refine rb_done (fun b us W_ hall hC => ?_)
          have hB8 := hC
          clear hC hall
          go_wp2
          go_ret
          exact ⟨rfl, below_step hwr.out hB8⟩
    · have hb0 : ((thru L).2.2 != 0) = true := by simpa using ht
      have hK : Aside0 (inquestref15_Check.f L = some ((thru L).2.1, (thru L).2.2)) := ⟨r15_Check L hL3.out⟩
      replace ht := Aside0.mk ht
      replace hL0 := Aside0.mk hL0
      clear hL2
      go_enter Try.func3, Try.ntmps3
      go_wp2_with (first | (go_at_call 22; (with_reducible refine (inquestref15_Few.calls A cap l L _ (Kd.C_alloc hr'.out _) hc hF.out).mono ?_); rintro e WF ⟨vF, rfl, hRF, hBF⟩; obtain ⟨AF, cF, rfl⟩ := Kd.R_slice hRF; obtain ⟨_, hcF, hCF⟩ := Kd.R_reads' hRF; replace hRF := Aside0.mk hRF; replace hCF := Aside0.mk hCF; replace hBF := Aside0.mk hBF; replace hcF := Aside0.mk hcF) | (go_at_call 22; (with_reducible refine (inquestref15_Few.calls AF cF L L _ hCF.out hcF.out hG.out).mono ?_); rintro e WG ⟨vG, rfl, hRG, hBG⟩; obtain ⟨AG, cG, rfl⟩ := Kd.R_slice hRG; obtain ⟨_, hcG, hCG⟩ := Kd.R_reads' hRG; replace hRG := Aside0.mk hRG; replace hCG := Aside0.mk hCG; replace hBG := Aside0.mk hBG; replace hcG := Aside0.mk hcG) | (go_at_call 23; (with_reducible refine (vm_New_e AG cG L _ hCG.out hcG.out hL3.out ht.out).mono ?_); rintro e WM ⟨rfl, hBM⟩; replace hBM := Aside0.mk hBM) | (go_at_call 24; (with_reducible refine (inquestref15_Check.calls AF cF L (thru L).2.1 (thru L).2.2 _ (Kd.C_below (Kd.C_below hCF.out hBG.out) hBM.out) hcF.out hK.out).mono ?_); rintro e WC ⟨rfl, hBC⟩; replace hBC := Aside0.mk hBC) | (go_at_call 25; (with_reducible refine (inquestref15_Same.calls ks AG cG L AF cF L true _ (Kd.C_below (Kd.C_below hCG.out hBM.out) hBC.out) hcG.out (Kd.C_below (Kd.C_below (Kd.C_below hCF.out hBG.out) hBM.out) hBC.out) hcF.out hks.out).mono ?_); rintro e WS ⟨rfl, ⟨nd, rfl⟩⟩))
      obtain ⟨gG, hgG, hG2⟩ := mine_any hRG.out
      have hbx := blk_drewN (blk_below (blk_below (blk_below (blk_below (blk_new w (.cells #[.int .i64 c0, .int .i64 c1, .int .i64 c2, .int .i64 c3, .int .i64 kind, .int .i64 fuel, .int .i64 arg] 26)) hBF.out) hBG.out) hBM.out) hBC.out) nd
      have hwL : Below w.heap.size w (WC.drewN nd) := pw_below_drewN (below_step (below_step (below_step (below_step (below_alloc (Below.refl w.heap.size w) (.cells #[.int .i64 c0, .int .i64 c1, .int .i64 c2, .int .i64 c3, .int .i64 kind, .int .i64 fuel, .int .i64 arg] 26)) hBF.out) hBG.out) hBM.out) hBC.out) nd
      have hFL : Below WF.heap.size WF (WC.drewN nd) := pw_below_drewN (below_step (below_step hBG.out hBM.out) hBC.out) nd
      have hGL : Below WG.heap.size WG (WC.drewN nd) := pw_below_drewN (below_step hBM.out hBC.out) nd
      have hgw : w.heap.size < gG := by have := hBF.out.size; simp at this; omega
      have hgs : w.heap.size ≤ gG := by omega
      have hgl := Aside0.mk ((hG2 hL0.out).1)
      obtain rfl := (hG2 hL0.out).2.1
      replace hwL := Aside0.mk hwL
      replace hFL := Aside0.mk hFL
      replace hGL := Aside0.mk hGL
      replace hbx := Aside0.mk hbx
      replace hgG := Aside0.mk hgG
      replace hgw := Aside0.mk hgw
      replace hgs := Aside0.mk hgs
      have hG3 : Aside0 (0 < L.length → gG < WG.heap.size ∧ ∃ cur, (WC.drewN nd).heap[gG]? = some (.cells cur 36 (0, 0)) ∧ 2 * L.length ≤ cur.size) := ⟨fun h => by obtain ⟨x1, x2, cur, x3, x4⟩ := hG2 h; exact ⟨x1, cur, blk_drewN (blk_below (blk_below x3 hBM.out) hBC.out) nd, x4⟩⟩
      clear hG2
      go_loopg [10] L.length (fun kk v10 W => ∃ i : Nat, v10 = .int .i64 i ∧ Aside0 (kk + i = L.length) ∧ Aside0 (KeepBut (WC.drewN nd) W gG none) ∧ Aside0 (Below w.heap.size w W) ∧ Aside0 (0 < L.length → ∃ cur, W.heap[gG]? = some (.cells cur 36 (0, 0)) ∧ 2 * L.length ≤ cur.size))
      case atStart => exact ⟨0, rfl, ⟨rfl⟩, ⟨KeepBut.refl _ _ _⟩, hwL, ⟨fun h => (hG3.out h).2⟩⟩
      case round =>
        obtain ⟨i, rfl, hk, hKB, hwr, hcu⟩ := hrel
        by_cases hil : i < L.length
        · obtain ⟨j, rfl⟩ : ∃ j, gk = j + 1 := ⟨gk - 1, by have := hk.out; omega⟩
          have p0 : (0 : Int) ≤ (i : Int) := Int.natCast_nonneg i
          have p1 : (i : Int) < (L.length : Int) := by omega
          have p2 : (L.length : Int) ≤ 300 := by have := hL3.out; omega
          obtain ⟨cur, hcur, hcs⟩ := hcu.out (by omega)
          obtain ⟨u0, hu0⟩ : ∃ u, cur[i * 2]? = some u := ⟨_, Array.getElem?_eq_getElem (by omega)⟩
          obtain ⟨u1, hu1⟩ : ∃ u, cur[i * 2 + 1]? = some u := ⟨_, Array.getElem?_eq_getElem (by omega)⟩
          have x0 := (blk_cell hcur (i * 2)).trans hu0
          have x1 := (blk_cell hcur (i * 2 + 1)).trans hu1
          have y0 := blk_frozen hcur (i * 2)
          have y1 := blk_frozen hcur (i * 2 + 1)
          have hnx : Aside0 (((wr.setCell ⟨gG, i * 2, none⟩ (.int .i64 99)).setCell ⟨gG, i * 2 + 1, none⟩ (.int .i64 0)).heap[gG]? = some (.cells ((cur.setIfInBounds (i * 2) (.int .i64 99)).setIfInBounds (i * 2 + 1) (.int .i64 0)) 36 (0, 0))) := ⟨blk_set (blk_set hcur _ _) _ _⟩
          replace hcs := Aside0.mk hcs
          clear hu0 hu1
          replace hcur := Aside0.mk hcur
          go_wp2
          go_roundg j
          case measure => omega
          case rel => exact ⟨i + 1, by go_num, ⟨by have := hk.out; omega⟩, ⟨(hKB.out.set_ _ _).set_ _ _⟩, ⟨below_set (below_set hwr.out hgs.out) hgs.out⟩, ⟨fun _ => ⟨_, hnx.out, by simp; exact hcs.out⟩⟩⟩
        · obtain rfl : i = L.length := by have := hk.out; omega
          go_wp2
          have hbw := KeepBut.blk hKB.out hbx.out (Nat.ne_of_lt hgw.out) (by simp)
          have hcb := Aside0.mk (call_cells hbw)
          have hC1 := Aside0.mk (row_keep hRF.out (fun k hk => (hKB.out.2 k (Nat.lt_of_lt_of_le hk hFL.out.size) (fun e => by have := hgG.out; omega) (by simp)).trans (hFL.out.block k hk)))
          clear hbw
          refine region_by (fun b us W_ => Below wr.heap.size wr W_) (by kernel_rfl) (by kernel_rfl) ⟨fun _ => undef, below_drew (Below.refl _ _)⟩ ?_
          (refine rb_want (fun us => rfl) ?_; apply Exists.intro; apply And.intro; (focus (apply rb_pure; (focus (intro b us w h; exact h)); intro b us W_ hC; go_simp; rfl)); apply Exists.intro; apply And.intro; (focus (intro us; simp only [Act.put, List.setIfInBounds_toArray, List.set_cons_zero, List.set_cons_succ]; rfl)))
          (refine rb_want (fun us => rfl) ?_; apply Exists.intro; apply And.intro; (focus (apply rb_pure; (focus (intro b us w h; exact h)); intro b us W_ hC; go_simp; rfl)); apply Exists.intro; apply And.intro; (focus (intro us; simp only [Act.put, List.setIfInBounds_toArray, List.set_cons_zero, List.set_cons_succ]; rfl)))
          (refine rb_want (fun us => rfl) ?_; apply Exists.intro; apply And.intro; (focus (apply rb_pure; (focus (intro b us w h; exact h)); intro b us W_ hC; have y := hcb.out W_ hC; obtain ⟨y0, y1, y2, y3, y4, y5, y6⟩ := y; go_simp; rfl)); apply Exists.intro; apply And.intro; (focus (intro us; simp only [Act.put, List.setIfInBounds_toArray, List.set_cons_zero, List.set_cons_succ]; rfl)))
          (refine rb_want (fun us => rfl) ?_; apply Exists.intro; apply And.intro; (focus (apply rb_pure; (focus (intro b us w h; exact h)); intro b us W_ hC; go_simp; rfl)); apply Exists.intro; apply And.intro; (focus (intro us; simp only [Act.put, List.setIfInBounds_toArray, List.set_cons_zero, List.set_cons_succ]; rfl)))
          (refine rb_want (fun us => rfl) ?_; apply Exists.intro; apply And.intro; (focus (apply rb_pure; (focus (intro b us w h; exact h)); intro b us W_ hC; have y := hcb.out W_ hC; obtain ⟨y0, y1, y2, y3, y4, y5, y6⟩ := y; go_simp; rfl)); apply Exists.intro; apply And.intro; (focus (intro us; simp only [Act.put, List.setIfInBounds_toArray, List.set_cons_zero, List.set_cons_succ]; rfl)))
          (refine rb_want (fun us => rfl) ?_; apply Exists.intro; apply And.intro; (focus (apply rb_pure; (focus (intro b us w h; exact h)); intro b us W_ hC; go_simp; rfl)); apply Exists.intro; apply And.intro; (focus (intro us; simp only [Act.put, List.setIfInBounds_toArray, List.set_cons_zero, List.set_cons_succ]; rfl)))
          (refine rb_want (fun us => rfl) ?_; apply Exists.intro; apply And.intro; (focus (apply rb_pure; (focus (intro b us w h; exact h)); intro b us W_ hC; have y := hcb.out W_ hC; obtain ⟨y0, y1, y2, y3, y4, y5, y6⟩ := y; go_simp; rfl)); apply Exists.intro; apply And.intro; (focus (intro us; simp only [Act.put, List.setIfInBounds_toArray, List.set_cons_zero, List.set_cons_succ]; rfl)))
          (refine rb_want (fun us => rfl) ?_; apply Exists.intro; apply And.intro; (focus (apply rb_pure; (focus (intro b us w h; exact h)); intro b us W_ hC; have y := hcb.out W_ hC; obtain ⟨y0, y1, y2, y3, y4, y5, y6⟩ := y; go_simp; rfl)); apply Exists.intro; apply And.intro; (focus (intro us; simp only [Act.put, List.setIfInBounds_toArray, List.set_cons_zero, List.set_cons_succ]; rfl)))
          (refine rb_want (fun us => rfl) ⟨.int .i64 (fuelZ fuel), rb_call (f := 27) (args := fun us => #[.agg #[.int .i64 c0, .int .i64 c1, .int .i64 c2, .int .i64 c3, .int .i64 kind, .int .i64 fuel, .int .i64 arg]]) (fun us W_ => ?_) (fun b us W_ hb hon hC => ?_), ?_⟩; (focus (exact rb_enters Try.func27 (by kernel_rfl) rfl (by rfl) W_)); (focus (refine (vm_fuel [c0, c1, c2, c3] kind fuel arg W_).mono ?_; rintro e w1 ⟨rfl, hbw⟩; exact ⟨rfl, below_step hC hbw⟩)); apply Exists.intro; apply And.intro; (focus (intro us; simp only [Act.put, List.setIfInBounds_toArray, List.set_cons_zero, List.set_cons_succ]; rfl)))
          (refine rb_want (fun us => rfl) ⟨.agg #[.int .i64 4, .int .i64 0, .int .i64 0, .int .i64 0, .int .i64 0, .int .i64 0, .int .i64 0], rb_call (f := 26) (args := fun us => #[.pointer none, .agg #[.int .i64 c0, .int .i64 c1, .int .i64 c2, .int .i64 c3], .int .i64 kind, .int .i64 arg, .int .i64 (fuelZ fuel)]) (fun us W_ => ?_) (fun b us W_ hb hon hC => ?_), ?_⟩; (focus (exact rb_enters Try.func26 (by kernel_rfl) rfl (by rfl) W_)); (focus (refine (vm_Step_nil [c0, c1, c2, c3] kind arg (fuelZ fuel) W_).mono ?_; rintro e w1 ⟨rfl, hbw⟩; exact ⟨rfl, below_step hC hbw⟩)); apply Exists.intro; apply And.intro; (focus (intro us; simp only [Act.put, List.setIfInBounds_toArray, List.set_cons_zero, List.set_cons_succ]; rfl)))
          (refine rb_want (fun us => rfl) ?_; apply Exists.intro; apply And.intro; (focus (apply rb_pure; (focus (intro b us w h; exact h)); intro b us W_ hC; go_simp; rfl)); apply Exists.intro; apply And.intro; (focus (intro us; simp only [Act.put, List.setIfInBounds_toArray, List.set_cons_zero, List.set_cons_succ]; rfl)))
          (refine rb_want (fun us => rfl) ?_; apply Exists.intro; apply And.intro; (focus (apply rb_pure; (focus (intro b us w h; exact h)); intro b us W_ hC; go_simp; rfl)); apply Exists.intro; apply And.intro; (focus (intro us; simp only [Act.put, List.setIfInBounds_toArray, List.set_cons_zero, List.set_cons_succ]; rfl)))
          (refine rb_want (fun us => rfl) ?_; apply Exists.intro; apply And.intro; (focus (apply rb_pure; (focus (intro b us w h; exact h)); intro b us W_ hC; have y := hcb.out W_ hC; obtain ⟨y0, y1, y2, y3, y4, y5, y6⟩ := y; go_simp; rfl)); apply Exists.intro; apply And.intro; (focus (intro us; simp only [Act.put, List.setIfInBounds_toArray, List.set_cons_zero, List.set_cons_succ]; rfl)))
          (refine rb_want (fun us => rfl) ?_; apply Exists.intro; apply And.intro; (focus (apply rb_pure; (focus (intro b us w h; exact h)); intro b us W_ hC; go_simp; rfl)); apply Exists.intro; apply And.intro; (focus (intro us; simp only [Act.put, List.setIfInBounds_toArray, List.set_cons_zero, List.set_cons_succ]; rfl)))
          (refine rb_want (fun us => rfl) ?_; apply Exists.intro; apply And.intro; (focus (apply rb_pure; (focus (intro b us w h; exact h)); intro b us W_ hC; have y := hcb.out W_ hC; obtain ⟨y0, y1, y2, y3, y4, y5, y6⟩ := y; go_simp; rfl)); apply Exists.intro; apply And.intro; (focus (intro us; simp only [Act.put, List.setIfInBounds_toArray, List.set_cons_zero, List.set_cons_succ]; rfl)))
          (refine rb_want (fun us => rfl) ?_; apply Exists.intro; apply And.intro; (focus (apply rb_pure; (focus (intro b us w h; exact h)); intro b us W_ hC; go_simp; rfl)); apply Exists.intro; apply And.intro; (focus (intro us; simp only [Act.put, List.setIfInBounds_toArray, List.set_cons_zero, List.set_cons_succ]; rfl)))
          (refine rb_want (fun us => rfl) ?_; apply Exists.intro; apply And.intro; (focus (apply rb_pure; (focus (intro b us w h; exact h)); intro b us W_ hC; have y := hcb.out W_ hC; obtain ⟨y0, y1, y2, y3, y4, y5, y6⟩ := y; go_simp; rfl)); apply Exists.intro; apply And.intro; (focus (intro us; simp only [Act.put, List.setIfInBounds_toArray, List.set_cons_zero, List.set_cons_succ]; rfl)))
          (refine rb_want (fun us => rfl) ?_; apply Exists.intro; apply And.intro; (focus (apply rb_pure; (focus (intro b us w h; exact h)); intro b us W_ hC; have y := hcb.out W_ hC; obtain ⟨y0, y1, y2, y3, y4, y5, y6⟩ := y; go_simp; rfl)); apply Exists.intro; apply And.intro; (focus (intro us; simp only [Act.put, List.setIfInBounds_toArray, List.set_cons_zero, List.set_cons_succ]; rfl)))
          (refine rb_want (fun us => rfl) ⟨.int .i64 (fuelZ fuel), rb_call (f := 27) (args := fun us => #[.agg #[.int .i64 c0, .int .i64 c1, .int .i64 c2, .int .i64 c3, .int .i64 kind, .int .i64 fuel, .int .i64 arg]]) (fun us W_ => ?_) (fun b us W_ hb hon hC => ?_), ?_⟩; (focus (exact rb_enters Try.func27 (by kernel_rfl) rfl (by rfl) W_)); (focus (refine (vm_fuel [c0, c1, c2, c3] kind fuel arg W_).mono ?_; rintro e w1 ⟨rfl, hbw⟩; exact ⟨rfl, below_step hC hbw⟩)); apply Exists.intro; apply And.intro; (focus (intro us; simp only [Act.put, List.setIfInBounds_toArray, List.set_cons_zero, List.set_cons_succ]; rfl)))
          (refine rb_want (fun us => rfl) ⟨.agg #[.int .i64 4, .int .i64 0, .int .i64 0, .int .i64 0, .int .i64 0, .int .i64 0, .int .i64 0], rb_call (f := 28) (args := fun us => #[.slice AF L.length cF, .agg #[.int .i64 c0, .int .i64 c1, .int .i64 c2, .int .i64 c3], .int .i64 kind, .int .i64 arg, .int .i64 (fuelZ fuel)]) (fun us W_ => ?_) (fun b us W_ hb hon hC => ?_), ?_⟩; (focus (exact rb_enters Try.func28 (by kernel_rfl) rfl (by rfl) W_)); (focus (refine (rf_Step_bad AF cF L W_ (Kd.C_below hC1.out hC) hcF.out (thru L).2.1 (thru L).2.2 hK.out ht.out c0 c1 c2 c3 kind arg (fuelZ fuel)).mono ?_; rintro e w1 ⟨rfl, hbw⟩; exact ⟨rfl, below_step hC hbw⟩)); apply Exists.intro; apply And.intro; (focus (intro us; simp only [Act.put, List.setIfInBounds_toArray, List.set_cons_zero, List.set_cons_succ]; rfl)))
          (refine rb_want (fun us => rfl) ?_; apply Exists.intro; apply And.intro; (focus (apply rb_pure; (focus (intro b us w h; exact h)); intro b us W_ hC; have q := hq.out W_; have q2 := hgd.out; go_simp; rfl)); apply Exists.intro; apply And.intro; (focus (intro us; simp only [Act.put, List.setIfInBounds_toArray, List.set_cons_zero, List.set_cons_succ]; rfl)))
          (refine rb_want (fun us => rfl) ?_; apply Exists.intro; apply And.intro; (focus (apply rb_pure; (focus (intro b us w h; exact h)); intro b us W_ hC; go_simp; rfl)); apply Exists.intro; apply And.intro; (focus (intro us; simp only [Act.put, List.setIfInBounds_toArray, List.set_cons_zero, List.set_cons_succ]; rfl)))
          (refine rb_want (fun us => rfl) ⟨.bool true, rb_call (f := 29) (args := fun us => #[]) (fun us W_ => ?_) (fun b us W_ hb hon hC => ?_), ?_⟩; (focus (exact rb_enters Try.func29 (by kernel_rfl) rfl (by rfl) W_)); (focus (refine (vm_lives W_).mono ?_; rintro e w1 ⟨rfl, hbw⟩; exact ⟨rfl, below_step hC hbw⟩)); apply Exists.intro; apply And.intro; (focus (intro us; simp only [Act.put, List.setIfInBounds_toArray, List.set_cons_zero, List.set_cons_succ]; rfl)))
          (refine rb_want (fun us => rfl) ?_; apply Exists.intro; apply And.intro; (focus (apply rb_pure; (focus (intro b us w h; exact h)); intro b us W_ hC; go_simp; rfl)); apply Exists.intro; apply And.intro; (focus (intro us; simp only [Act.put, List.setIfInBounds_toArray, List.set_cons_zero, List.set_cons_succ]; rfl)))
          (refine rb_want (fun us => rfl) ?_; apply Exists.intro; apply And.intro; (focus (apply rb_pure; (focus (intro b us w h; exact h)); intro b us W_ hC; go_simp; rfl)); apply Exists.intro; apply And.intro; (focus (intro us; simp only [Act.put, List.setIfInBounds_toArray, List.set_cons_zero, List.set_cons_succ]; rfl)))
          refine rb_done (fun b us W_ hall hC => ?_)
          have hB8 := hC
          clear hC hall
          go_wp2
          go_ret
          exact ⟨rfl, below_step hwr.out hB8⟩

end Go.Proofs.Ytddkoimaghcbeaa.PVmSteps
