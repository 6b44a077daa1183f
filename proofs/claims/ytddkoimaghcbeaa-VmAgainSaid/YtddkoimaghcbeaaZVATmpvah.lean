/- A part of what the law VmAgain stands on, only as far as it is needed (the words and walks were printed or written in this seat; this text was cut by a program of this session, wip/bin/trim.py). No condition beyond what each theorem says. -/
import Derived.Test.YtddkoimaghcbeaaZVAPVmStepsx0
import Derived.Test.YtddkoimaghcbeaaZVAPVmStepsx2
import Derived.Test.YtddkoimaghcbeaaZVAPVmStepsx3
import Derived.Test.YtddkoimaghcbeaaZVAPVmStepsx4
import Derived.Test.YtddkoimaghcbeaaZVAPVmStepsx5
import Derived.Test.YtddkoimaghcbeaaZVATmporo
namespace Go.Proofs.Ytddkoimaghcbeaa.PVmSteps
open Go.RowKit Go.Proofs.YtddkoimaghcbeaaW.PrintWords Go.Proofs.YtddkoimaghcbeaaW.PrintLast Go.Proofs.YtddkoimaghcbeaaW.PrintMore
set_option linter.unusedVariables false
set_option linter.unusedSimpArgs false
theorem ag_cells {WX : World} {bx : Nat} {c0 c1 c2 c3 kind fuel arg : Int} {T : Nat} (h : WX.heap[bx]? = some (.cells #[.int .i64 c0, .int .i64 c1, .int .i64 c2, .int .i64 c3, .int .i64 kind, .int .i64 fuel, .int .i64 arg] T (0, 0))) (W_ : World) (hb : Below WX.heap.size WX W_) :
    (W_.cell? ⟨bx, 0, none⟩ = some (.int .i64 c0) ∧ W_.cell? ⟨bx, 1, none⟩ = some (.int .i64 c1) ∧ W_.cell? ⟨bx, 2, none⟩ = some (.int .i64 c2) ∧ W_.cell? ⟨bx, 3, none⟩ = some (.int .i64 c3) ∧ W_.cell? ⟨bx, 4, none⟩ = some (.int .i64 kind) ∧ W_.cell? ⟨bx, 5, none⟩ = some (.int .i64 fuel) ∧ W_.cell? ⟨bx, 6, none⟩ = some (.int .i64 arg)) := by
  have h2 := blk_below h hb
  exact ⟨blk_cell h2 0, blk_cell h2 1, blk_cell h2 2, blk_cell h2 3, blk_cell h2 4, blk_cell h2 5, blk_cell h2 6⟩
theorem ag_lit1 (w : World) (v0 v1 v2 v3 v4 v5 v6 : Value) : (Instr.buildSlice 47 1 #[(0, .agg #[v0, v1, v2, v3, v4, v5, v6])]).run Try.prog w = .ok (.slice (some ⟨w.heap.size, 0, none⟩) 1 1) (w.alloc (.cells #[v0, v1, v2, v3, v4, v5, v6] 38)) := by kernel_rfl
theorem ag_info2 : (Try.prog.info? 38).map (fun i => (i.zero, i.size, i.bytes)) = some (some (.agg #[.int .i64 0, .int .i64 0, .int .i64 0, .int .i64 0, .int .i64 0, .int .i64 0, .int .i64 0]), 7, 56) := by kernel_rfl
theorem ag_info : (Try.prog.info? 26).map (fun i => (i.zero, i.size, i.bytes)) = some (some (.agg #[.int .i64 0, .int .i64 0, .int .i64 0, .int .i64 0, .int .i64 0, .int .i64 0, .int .i64 0]), 7, 56) := by kernel_rfl
set_option maxRecDepth 100000 in
set_option maxHeartbeats 8000000 in
theorem inquestlaw16_VmAgain.any (A : Option Addr) (cap : Nat) (l : List S36) (A2 : Option Addr) (c2 : Nat) (cl0 : List ClZ) (w : World) (hr : Kd.C k36 w A l.length l) (hc : l.length ≤ cap) (hm : l.length ≤ maxLen) {P0 : Prop} (_ : P0) (hr2 : Kd.C kCl w A2 cl0.length cl0) (hc2 : cl0.length ≤ c2) {P3 : Prop} (_ : P3) {P4 : Prop} (_ : P4) :
    Calls Try.prog 5 #[.slice A l.length cap, .slice A2 cl0.length c2] w fun e w' => e = .returned (.bool true) ∧ Below w.heap.size w w' := by
  have hF := Aside0.mk (few15 l hm)
  have hL2 : (l.take 210).length ≤ 210 := by rw [List.length_take]; omega
  generalize l.take 210 = L at *
  have hL3 : Aside0 (L.length ≤ 300) := ⟨by omega⟩
  replace hr := Aside0.mk hr
  clear hL2 hm
  by_cases ht : (thru L).2.2 = 0
  rotate_left
  · obtain ⟨er, her⟩ : ∃ x, x = (thru L).2.2 := ⟨_, rfl⟩
    have hne : Aside0 (∀ (AF : Option Addr) (cF : Nat) (W : World), Kd.C k36 W AF L.length L → L.length ≤ cF → Calls Try.prog 23 #[.slice AF L.length cF] W fun e w' => e = .returned (.tuple #[.pointer none, .int .i64 er]) ∧ Below W.heap.size W w') := ⟨fun AF cF W h1 h2 => by rw [her]; exact vm_New_e AF cF L W h1 h2 hL3.out ht⟩
    have hb0 : (er != 0) = true := by rw [her]; simpa using ht
    clear ht her
    go_enter Try.func5, Try.ntmps5
    go_wp2_with (first | (go_at_call 22; (with_reducible refine (inquestref15_Few.calls A cap l L _ hr.out hc hF.out).mono ?_); rintro e W1 ⟨vF, rfl, hRF, hB1⟩; obtain ⟨AF, cF, rfl⟩ := Kd.R_slice hRF; obtain ⟨_, hcF, hCF⟩ := Kd.R_reads' hRF; replace hCF := Aside0.mk hCF; replace hB1 := Aside0.mk hB1; replace hcF := Aside0.mk hcF; clear hRF) | (go_at_call 23; (with_reducible refine (hne.out _ _ W1 hCF.out hcF.out).mono ?_); rintro e W2 ⟨rfl, hB2⟩; have hCF2 := Aside0.mk (Kd.C_below hCF.out hB2); replace hB2 := Aside0.mk hB2) | (go_at_call 23; (with_reducible refine (hne.out _ _ W2 hCF2.out hcF.out).mono ?_); rintro e W3 ⟨rfl, hB3⟩; replace hB3 := Aside0.mk hB3) | (go_at_call 29; (with_reducible refine (vm_lives _).mono ?_); rintro e WZ ⟨rfl, hBZ⟩; replace hBZ := Aside0.mk hBZ))
    go_ret
    exact ⟨rfl, below_step (below_step (below_step hB1.out hB2.out) hB3.out) hBZ.out⟩
  have key : ∃ cl : List ClZ, cl.length ≤ 8 ∧ Kd.C kCl w A2 cl.length cl ∧ ((decide (8 < (cl0.length : Int)) = false ∧ cl = cl0) ∨ (decide (8 < (cl0.length : Int)) = true ∧ (0 : Int) ≤ 8 ∧ (8 : Int) ≤ cl0.length ∧ cl.length = 8)) := by
    by_cases c : 8 < (cl0.length : Int)
    · have y := Kd.C_take (m := 8) hr2 (by omega)
      have e : (cl0.take 8).length = 8 := by rw [List.length_take]; omega
      exact ⟨cl0.take 8, by omega, by first | exact y | (rw [e]; exact y) | (rw [e] at y; exact y), .inr ⟨decide_eq_true c, by decide, by omega, e⟩⟩
    · exact ⟨cl0, by omega, hr2, .inl ⟨decide_eq_false c, rfl⟩⟩
  obtain ⟨cl, hcl8, hrc, hcase⟩ := key
  replace hrc := Aside0.mk hrc
  replace hcl8 := Aside0.mk hcl8
  replace ht := Aside0.mk ht
  have hcc : Aside0 (cl.length ≤ c2) := ⟨by rcases hcase with ⟨_, rfl⟩ | ⟨_, _, h, h2⟩ <;> omega⟩
  obtain ⟨i0, hi0, hz0, hsz0, hby0⟩ := info_parts ag_info
  have hcut0 := cut_to (P := Try.prog) 46 26 .i64 Try.underlying46 hi0 A2 cl0.length c2 8 (by decide)
  clear hi0 hz0 hsz0 hby0
  rcases hcase with ⟨hgt, rfl⟩ | ⟨hgt, q0, q1, hpl⟩
  · clear hcut0
    replace hr2 := Aside0.mk hr2
    go_enter Try.func5, Try.ntmps5
    go_wp2_with (first | (go_at_call 22; (with_reducible refine (inquestref15_Few.calls A cap l L _ hr.out hc hF.out).mono ?_); rintro e W1 ⟨vF, rfl, hRF, hB1⟩; obtain ⟨AF, cF, rfl⟩ := Kd.R_slice hRF; obtain ⟨_, hcF, hCF⟩ := Kd.R_reads' hRF; replace hCF := Aside0.mk hCF; replace hB1 := Aside0.mk hB1; replace hcF := Aside0.mk hcF; clear hRF) | (go_at_call 23; (with_reducible refine (vm_New_k _ _ L W1 hCF.out hcF.out hL3.out ht.out).mono ?_); rintro e W2 ⟨gm, vm, rfl, hM2, hB2⟩; have hCF2 := Aside0.mk (Kd.C_below hCF.out hB2); replace hM2 := Aside0.mk hM2; replace hB2 := Aside0.mk hB2) | (go_at_call 23; (with_reducible refine (vm_New_k _ _ L W2 hCF2.out hcF.out hL3.out ht.out).mono ?_); rintro e W3 ⟨gn, vn, rfl, hN3, hB3⟩; have hM3 := Aside0.mk (hM2.out.came hB3); replace hN3 := Aside0.mk hN3; replace hB3 := Aside0.mk hB3))
    have hB03 := Aside0.mk (below_step (below_step hB1.out hB2.out) hB3.out)
    have hR0 : Aside0 (Kd.R kSt 38 W3 W3.heap.size (fun _ => True) (.slice none 0 0) ([] : List StZ)) := ⟨Kd.R_nil _ _ _ _ (fun _ => True)⟩
    go_loopg [9, 10] cl.length (fun kk v9 v10 W_ => ∃ (i : Nat), v10 = .int .i64 i ∧ Aside0 (kk + i = cl.length) ∧ Aside0 (Below W3.heap.size W3 W_) ∧ Aside0 (Kd.R kSt 38 W_ W3.heap.size (fun _ => True) v9 ((cl.take i).map (stepA L))))
    case atStart => exact ⟨0, rfl, ⟨by omega⟩, ⟨Below.refl _ _⟩, hR0⟩
    case round =>
      obtain ⟨i, rfl, hki, hBW, hRW⟩ := hrel
      obtain ⟨WR, hWRe⟩ : ∃ x, x = wr := ⟨_, rfl⟩
      cases gk with
      | succ j =>
        have hi : Aside0 (i < cl.length) := ⟨by have := hki.out; omega⟩
        have hlt : decide ((i : Int) < (cl.length : Int)) = true := decide_eq_true (by have := hi.out; omega)
        have hltn : i < cl.length := hi.out
        have q2 : 0 ≤ (i : Int) := by omega
        have q3 : (i : Int) < (cl.length : Int) := by omega
        obtain ⟨ad, e, y0, y1, y2, y3, y4, y5, y6⟩ := call_at (Kd.C_below hrc.out (below_step hB03.out hBW.out)) (i : Int) q2 q3
        simp only [Int.toNat_natCast] at y0 y1 y2 y3 y4 y5 y6
        cases e
        obtain ⟨c, hce⟩ : ∃ c, c = rdC cl (i : Int) := ⟨_, rfl⟩
        rw [← hce] at y0 y1 y2 y3 y4 y5 y6
        obtain ⟨x, hx⟩ : ∃ x, x = stepA L c := ⟨_, rfl⟩
        have hv : Aside0 (vstep L [c.s0, c.s1, c.s2, c.s3] c.kd c.ar (fuelZ c.fu) = some (x.k, [x.s0, x.s1, x.s2, x.s3], x.r, x.u)) := ⟨by rw [hx]; exact stepA_is ht.out c⟩
        have hfz : Aside0 (fuelZ c.fu ≤ 9223372036854775807) := ⟨by unfold fuelZ; split <;> (try split) <;> omega⟩
        have hLp : Aside0 (0 < L.length) := ⟨(thru_good L ht.out).pos⟩
        have hb13 : Aside0 (W1.heap.size ≤ W3.heap.size) := ⟨Nat.le_trans hB2.out.size hB3.out.size⟩
        have hlb : Aside0 ((((cl.take i).map (stepA L)).length + 1) * 56 ≤ 140737488355328) := ⟨by have := hcl8.out; simp; omega⟩
        have hown := Aside0.mk (Kd.R_base hRW.out)
        have hnx : Aside0 ((cl.take (i + 1)).map (stepA L) = (cl.take i).map (stepA L) ++ [x]) := ⟨by
          have e : cl.take (i + 1) = cl.take i ++ [rdC cl (i : Int)] := by
            rw [List.take_add_one, List.getElem?_eq_getElem hi.out]
            simp [rdC, List.getD_eq_getElem?_getD, List.getElem?_eq_getElem hi.out]
          rw [e, List.map_append, hx, hce]; rfl⟩
        have hcb := Aside0.mk (ag_cells (blk_new wr (.cells #[.int .i64 c.s0, .int .i64 c.s1, .int .i64 c.s2, .int .i64 c.s3, .int .i64 c.kd, .int .i64 c.fu, .int .i64 c.ar] 26)))
        clear hx hce
        go_wp2
        refine region_by (fun b us W_ => AgC W3 (wr.alloc (.cells #[.int .i64 c.s0, .int .i64 c.s1, .int .i64 c.s2, .int .i64 c.s3, .int .i64 c.kd, .int .i64 c.fu, .int .i64 c.ar] 26)) ((cl.take i).map (stepA L)) x b us W_) (by kernel_rfl) (by kernel_rfl) ⟨fun _ => undef, AgC.start _ _ _ _ _⟩ ?_
        (refine rb_want (fun us => rfl) ?_; apply Exists.intro; apply And.intro; (focus (apply rb_pure; (focus (intro b us w h; exact h.off (by decide) (by decide) (by decide) (by decide) (by decide))); intro b us W_ hC; go_simp; rfl)); apply Exists.intro; apply And.intro; (focus (intro us; simp only [Act.put, List.setIfInBounds_toArray, List.set_cons_zero, List.set_cons_succ]; rfl)))
        (refine rb_want (fun us => rfl) ?_; apply Exists.intro; apply And.intro; (focus (apply rb_pure; (focus (intro b us w h; exact h.off (by decide) (by decide) (by decide) (by decide) (by decide))); intro b us W_ hC; go_simp; rfl)); apply Exists.intro; apply And.intro; (focus (intro us; simp only [Act.put, List.setIfInBounds_toArray, List.set_cons_zero, List.set_cons_succ]; rfl)))
        (refine rb_want (fun us => rfl) ?_; apply Exists.intro; apply And.intro; (focus (apply rb_pure; (focus (intro b us w h; exact h.off (by decide) (by decide) (by decide) (by decide) (by decide))); intro b us W_ hC; go_simp; rfl)); apply Exists.intro; apply And.intro; (focus (intro us; simp only [Act.put, List.setIfInBounds_toArray, List.set_cons_zero, List.set_cons_succ]; rfl)))
        (refine rb_want (fun us => rfl) ?_; apply Exists.intro; apply And.intro; (focus (apply rb_read; (focus (intro b us w h; exact h.off (by decide) (by decide) (by decide) (by decide) (by decide))); intro b us W_ hb hon hC; have y := hcb.out W_ (hC.bel (j := 3) (by simp) hb); obtain ⟨y0, y1, y2, y3, y4, y5, y6⟩ := y; first | (go_simp; done) | (go_simp; rfl))); apply Exists.intro; apply And.intro; (focus (intro us; simp only [Act.put, List.setIfInBounds_toArray, List.set_cons_zero, List.set_cons_succ]; rfl)))
        (refine rb_want (fun us => rfl) ?_; apply Exists.intro; apply And.intro; (focus (apply rb_pure; (focus (intro b us w h; exact h.off (by decide) (by decide) (by decide) (by decide) (by decide))); intro b us W_ hC; go_simp; rfl)); apply Exists.intro; apply And.intro; (focus (intro us; simp only [Act.put, List.setIfInBounds_toArray, List.set_cons_zero, List.set_cons_succ]; rfl)))
        (refine rb_want (fun us => rfl) ?_; apply Exists.intro; apply And.intro; (focus (apply rb_read; (focus (intro b us w h; exact h.off (by decide) (by decide) (by decide) (by decide) (by decide))); intro b us W_ hb hon hC; have y := hcb.out W_ (hC.bel (j := 5) (by simp) hb); obtain ⟨y0, y1, y2, y3, y4, y5, y6⟩ := y; first | (go_simp; done) | (go_simp; rfl))); apply Exists.intro; apply And.intro; (focus (intro us; simp only [Act.put, List.setIfInBounds_toArray, List.set_cons_zero, List.set_cons_succ]; rfl)))
        (refine rb_want (fun us => rfl) ?_; apply Exists.intro; apply And.intro; (focus (apply rb_pure; (focus (intro b us w h; exact h.off (by decide) (by decide) (by decide) (by decide) (by decide))); intro b us W_ hC; go_simp; rfl)); apply Exists.intro; apply And.intro; (focus (intro us; simp only [Act.put, List.setIfInBounds_toArray, List.set_cons_zero, List.set_cons_succ]; rfl)))
        (refine rb_want (fun us => rfl) ?_; apply Exists.intro; apply And.intro; (focus (apply rb_read; (focus (intro b us w h; exact h.off (by decide) (by decide) (by decide) (by decide) (by decide))); intro b us W_ hb hon hC; have y := hcb.out W_ (hC.bel (j := 7) (by simp) hb); obtain ⟨y0, y1, y2, y3, y4, y5, y6⟩ := y; first | (go_simp; done) | (go_simp; rfl))); apply Exists.intro; apply And.intro; (focus (intro us; simp only [Act.put, List.setIfInBounds_toArray, List.set_cons_zero, List.set_cons_succ]; rfl)))
        (refine rb_want (fun us => rfl) ?_; apply Exists.intro; apply And.intro; (focus (apply rb_read; (focus (intro b us w h; exact h.off (by decide) (by decide) (by decide) (by decide) (by decide))); intro b us W_ hb hon hC; have y := hcb.out W_ (hC.bel (j := 8) (by simp) hb); obtain ⟨y0, y1, y2, y3, y4, y5, y6⟩ := y; first | (go_simp; done) | (go_simp; rfl))); apply Exists.intro; apply And.intro; (focus (intro us; simp only [Act.put, List.setIfInBounds_toArray, List.set_cons_zero, List.set_cons_succ]; rfl)))
        (refine rb_want (fun us => rfl) ⟨.int .i64 (fuelZ c.fu), rb_call (f := 27) (args := fun us => #[.agg #[.int .i64 c.s0, .int .i64 c.s1, .int .i64 c.s2, .int .i64 c.s3, .int .i64 c.kd, .int .i64 c.fu, .int .i64 c.ar]]) (fun us W_ => ?_) (fun b us W_ hb hon hC => ?_), ?_⟩; (focus (exact rb_enters Try.func27 (by kernel_rfl) rfl (by rfl) W_)); (focus (refine (vm_fuel [c.s0, c.s1, c.s2, c.s3] c.kd c.fu c.ar W_).mono ?_; rintro e w1 ⟨rfl, hbw⟩; exact ⟨rfl, hC.call9 hb (hon 8 (by decide) (by decide)) hbw⟩)); apply Exists.intro; apply And.intro; (focus (intro us; simp only [Act.put, List.setIfInBounds_toArray, List.set_cons_zero, List.set_cons_succ]; rfl)))
        (refine rb_want (fun us => rfl) ⟨.agg #[.int .i64 x.k, .int .i64 x.s0, .int .i64 x.s1, .int .i64 x.s2, .int .i64 x.s3, .int .i64 x.r, .int .i64 x.u], rb_call (f := 26) (args := fun us => #[.pointer (some ⟨gm, 0, none⟩), .agg #[.int .i64 c.s0, .int .i64 c.s1, .int .i64 c.s2, .int .i64 c.s3], .int .i64 c.kd, .int .i64 c.ar, .int .i64 (fuelZ c.fu)]) (fun us W_ => ?_) (fun b us W_ hb hon hC => ?_), ?_⟩; (focus (exact rb_enters Try.func26 (by kernel_rfl) rfl (by rfl) W_)); (focus (have hB_ := (hC.early (hC.no11 (hC.no10 hb))).1; refine (vm_Step4 (hM3.out.came (below_step (below_alloc hBW.out _) hB_)) (Nat.le_trans hb13.out (below_step (below_alloc hBW.out _) hB_).size) hLp.out c.s0 c.s1 c.s2 c.s3 c.kd c.ar (fuelZ c.fu) x.k x.s0 x.s1 x.s2 x.s3 x.r x.u hv.out hfz.out).mono ?_; rintro e w1 ⟨rfl, hbw⟩; exact ⟨rfl, hC.call10 hb (hon 3 (by decide) (by decide)) (hon 5 (by decide) (by decide)) (hon 7 (by decide) (by decide)) (hon 9 (by decide) (by decide)) hbw⟩)); apply Exists.intro; apply And.intro; (focus (intro us; simp only [Act.put, List.setIfInBounds_toArray, List.set_cons_zero, List.set_cons_succ]; rfl)))
        (refine rb_open (fun us => rfl) (rb_new (fun b us W_ hb hon hC => ?_)) ?_; (focus (refine ⟨.slice (some ⟨W_.heap.size, 0, none⟩) 1 1, W_.alloc (.cells (stC x).toArray 38), ?_, hC.new hb (hon 10 (by decide) (by decide))⟩; have y := ag_lit1 W_; unfold stC; first | (go_simp; done) | (go_simp; rfl))); apply Exists.intro; apply And.intro; (focus (intro us; simp only [Act.put, List.setIfInBounds_toArray, List.set_cons_zero, List.set_cons_succ]; rfl)))
        (refine rb_open (fun us => rfl) (rb_new (fun b us W_ hb hon hC => ?_)) ?_; (focus (have h11 := (hon 11 (by decide) (by decide)); obtain ⟨hB_, hbx⟩ := hC.early hb; obtain ⟨gb, egb, hgb⟩ := hbx h11; exact Kd.run_append_k kSt W3.heap.size (.tmp 62) (.tmp 73) 47 38 _ 56 (by rfl) Try.underlying47 ag_info2 (by rfl) (by decide) (by decide) u9 ((cl.take i).map (stepA L)) x (stC x) (fun _ => True) (fun _ => False) (by rfl) gb (by exact egb) hgb (by rfl) (fun _ hk => hk.elim) (fun _ _ => trivial) (Kd.R_below (Kd.R_alloc hRW.out _) hB_) (Nat.le_trans hBW.out.size (Nat.le_trans (below_alloc (Below.refl _ _) _).size hB_.size)) hlb.out (fun v1 w1 hR hg => hC.app hb h11 (below_own (below_step (below_alloc hBW.out _) hB_) hg hown.out) hR))); apply Exists.intro; apply And.intro; (focus (intro us; simp only [Act.put, List.setIfInBounds_toArray, List.set_cons_zero, List.set_cons_succ]; rfl)))
        (refine rb_open (fun us => rfl) (rb_new (fun b us W_ hb hon hC => ?_)) ?_; (focus (refine ⟨us 12, W_, ?_, hC.asg (hon 12 (by decide) (by decide))⟩; first | (go_simp; done) | (go_simp; rfl))); apply Exists.intro; apply And.intro; (focus (intro us; simp only [Act.put, List.setIfInBounds_toArray, List.set_cons_zero, List.set_cons_succ]; rfl)))
        refine rb_done (fun b us W8 hall hC => ?_)
        obtain ⟨hB8, hR8⟩ := hC.late (hall 12 (by decide))
        rw [← (hC.e13 (hall 13 (by decide))).2] at hR8
        replace hB8 := Aside0.mk hB8
        replace hR8 := Aside0.mk hR8
        try dsimp only
        generalize us 13 = v13 at *
        generalize us 12 = v12 at *
        generalize us 11 = v11 at *
        clear hC hall
        clear us b
        go_wp2
        go_roundg j
        case measure => omega
        case rel => exact ⟨i + 1, by rw [w64 (by have := hi.out; have := hcl8.out; omega) (by have := hi.out; have := hcl8.out; omega)]; simp, ⟨by have := hki.out; omega⟩, hB8, ⟨by rw [hnx.out]; exact hR8.out⟩⟩
      | zero =>
        obtain rfl : i = cl.length := by have := hki.out; omega
        have hlt : decide ((cl.length : Int) < (cl.length : Int)) = false := decide_eq_false (by omega)
        have hRF := hRW.out
        rw [List.take_length] at hRF
        obtain ⟨fs, hfs⟩ : ∃ fs, fs = cl.map (stepA L) := ⟨_, rfl⟩
        rw [← hfs] at hRF
        have hfl : fs.length = cl.length := by rw [hfs]; simp
        obtain ⟨A9, c9, e9⟩ := Kd.R_slice hRF
        subst e9
        rw [hfl] at hRF
        subst hWRe
        have hSC := Aside0.mk (Kd.R_reads' hRF).2.2
        replace hRF := Aside0.mk hRF
        replace hfs := Aside0.mk hfs
        replace hfl := Aside0.mk hfl
        have hwl : Aside0 (wrap64 ((cl.length : Int) - 1) = (cl.length : Int) - 1) := ⟨w64 (by have := hcl8.out; omega) (by have := hcl8.out; omega)⟩
        clear hRW
        go_wp2
        go_loopg [12] cl.length (fun kk v12 W_ => ∃ (i : Int), v12 = .int .i64 i ∧ Aside0 (i = (kk : Int) - 1 ∧ kk ≤ cl.length) ∧ Aside0 (Below WR.heap.size WR W_))
        case atStart => exact ⟨_, rfl, ⟨hwl.out, Nat.le_refl _⟩, ⟨by repeat (first | exact Below.refl _ _ | apply pw_below_drewN)⟩⟩
        case round =>
          obtain ⟨i, rfl, hki, hBW2⟩ := hrel
          cases gk with
          | succ j =>
            obtain rfl : i = (j : Int) := by have := hki.out.1; omega
            have hj : Aside0 (j < cl.length) := ⟨by have := hki.out.2; omega⟩
            have hge : decide (0 ≤ (j : Int)) = true := decide_eq_true (by omega)
            have q2 : 0 ≤ (j : Int) := by omega
            have q3 : (j : Int) < (cl.length : Int) := by have := hj.out; omega
            obtain ⟨ad, e, y0, y1, y2, y3, y4, y5, y6⟩ := call_at (Kd.C_below hrc.out (below_step (below_step hB03.out hBW.out) hBW2.out)) (j : Int) q2 q3
            simp only [Int.toNat_natCast] at y0 y1 y2 y3 y4 y5 y6
            cases e
            obtain ⟨c, hce⟩ : ∃ c, c = rdC cl (j : Int) := ⟨_, rfl⟩
            rw [← hce] at y0 y1 y2 y3 y4 y5 y6
            obtain ⟨x, hx⟩ : ∃ x, x = stepA L c := ⟨_, rfl⟩
            have hxs : rdS fs (j : Int) = x := by
              rw [hx, hce, hfs.out]
              simp [rdS, rdC, List.getD_eq_getElem?_getD, List.getElem?_eq_getElem hj.out]
            obtain ⟨ad9, e, hs9⟩ := step_atW (Kd.C_below hSC.out hBW2.out) (j : Int) q2 (by have := hj.out; have := hfl.out; omega)
            cases e
            simp only [Int.toNat_natCast, hxs] at hs9
            have hv : Aside0 (vstep L [c.s0, c.s1, c.s2, c.s3] c.kd c.ar (fuelZ c.fu) = some (x.k, [x.s0, x.s1, x.s2, x.s3], x.r, x.u)) := ⟨by rw [hx]; exact stepA_is ht.out c⟩
            have hfz : Aside0 (fuelZ c.fu ≤ 9223372036854775807) := ⟨by unfold fuelZ; split <;> (try split) <;> omega⟩
            have hLp : Aside0 (0 < L.length) := ⟨(thru_good L ht.out).pos⟩
            have hb13 : Aside0 (W1.heap.size ≤ WR.heap.size) := ⟨Nat.le_trans (Nat.le_trans hB2.out.size hB3.out.size) hBW.out.size⟩
            have hb23 : Aside0 (W2.heap.size ≤ WR.heap.size) := ⟨Nat.le_trans hB3.out.size hBW.out.size⟩
            have hMR := Aside0.mk (hM3.out.came hBW.out)
            have hNR := Aside0.mk (hN3.out.came hBW.out)
            have hsb : Aside0 (∀ W_, Below (wr.alloc (.cells #[.int .i64 c.s0, .int .i64 c.s1, .int .i64 c.s2, .int .i64 c.s3, .int .i64 c.kd, .int .i64 c.fu, .int .i64 c.ar] 26)).heap.size (wr.alloc (.cells #[.int .i64 c.s0, .int .i64 c.s1, .int .i64 c.s2, .int .i64 c.s3, .int .i64 c.kd, .int .i64 c.fu, .int .i64 c.ar] 26)) W_ → _) := ⟨fun W_ h => hs9 W_ (below_step (below_alloc (Below.refl _ _) _) h)⟩
            have hcb := Aside0.mk (ag_cells (blk_new wr (.cells #[.int .i64 c.s0, .int .i64 c.s1, .int .i64 c.s2, .int .i64 c.s3, .int .i64 c.kd, .int .i64 c.fu, .int .i64 c.ar] 26)))
            have hbd : Aside0 (0 ≤ (j : Int) ∧ (j : Int) < (cl.length : Int) ∧ (j : Int) < (fs.length : Int) ∧ j < fs.length) := ⟨⟨q2, q3, by have := hfl.out; omega, by have := hfl.out; omega⟩⟩
            clear hx hce hxs hs9
            go_wp2
            refine region_by (fun b us W_ => Below (wr.alloc (.cells #[.int .i64 c.s0, .int .i64 c.s1, .int .i64 c.s2, .int .i64 c.s3, .int .i64 c.kd, .int .i64 c.fu, .int .i64 c.ar] 26)).heap.size (wr.alloc (.cells #[.int .i64 c.s0, .int .i64 c.s1, .int .i64 c.s2, .int .i64 c.s3, .int .i64 c.kd, .int .i64 c.fu, .int .i64 c.ar] 26)) W_) (by kernel_rfl) (by kernel_rfl) ⟨fun _ => undef, below_drew (Below.refl _ _)⟩ ?_
            (refine rb_want (fun us => rfl) ?_; apply Exists.intro; apply And.intro; (focus (apply rb_pure; (focus (intro b us w h; exact h)); intro b us W_ hC; go_simp; rfl)); apply Exists.intro; apply And.intro; (focus (intro us; simp only [Act.put, List.setIfInBounds_toArray, List.set_cons_zero, List.set_cons_succ]; rfl)))
            (refine rb_want (fun us => rfl) ?_; apply Exists.intro; apply And.intro; (focus (apply rb_pure; (focus (intro b us w h; exact h)); intro b us W_ hC; go_simp; rfl)); apply Exists.intro; apply And.intro; (focus (intro us; simp only [Act.put, List.setIfInBounds_toArray, List.set_cons_zero, List.set_cons_succ]; rfl)))
            (refine rb_want (fun us => rfl) ?_; apply Exists.intro; apply And.intro; (focus (apply rb_pure; (focus (intro b us w h; exact h)); intro b us W_ hC; have y := hcb.out W_ hC; obtain ⟨y0, y1, y2, y3, y4, y5, y6⟩ := y; go_simp; rfl)); apply Exists.intro; apply And.intro; (focus (intro us; simp only [Act.put, List.setIfInBounds_toArray, List.set_cons_zero, List.set_cons_succ]; rfl)))
            (refine rb_want (fun us => rfl) ?_; apply Exists.intro; apply And.intro; (focus (apply rb_pure; (focus (intro b us w h; exact h)); intro b us W_ hC; go_simp; rfl)); apply Exists.intro; apply And.intro; (focus (intro us; simp only [Act.put, List.setIfInBounds_toArray, List.set_cons_zero, List.set_cons_succ]; rfl)))
            (refine rb_want (fun us => rfl) ?_; apply Exists.intro; apply And.intro; (focus (apply rb_pure; (focus (intro b us w h; exact h)); intro b us W_ hC; have y := hcb.out W_ hC; obtain ⟨y0, y1, y2, y3, y4, y5, y6⟩ := y; go_simp; rfl)); apply Exists.intro; apply And.intro; (focus (intro us; simp only [Act.put, List.setIfInBounds_toArray, List.set_cons_zero, List.set_cons_succ]; rfl)))
            (refine rb_want (fun us => rfl) ?_; apply Exists.intro; apply And.intro; (focus (apply rb_pure; (focus (intro b us w h; exact h)); intro b us W_ hC; go_simp; rfl)); apply Exists.intro; apply And.intro; (focus (intro us; simp only [Act.put, List.setIfInBounds_toArray, List.set_cons_zero, List.set_cons_succ]; rfl)))
            (refine rb_want (fun us => rfl) ?_; apply Exists.intro; apply And.intro; (focus (apply rb_pure; (focus (intro b us w h; exact h)); intro b us W_ hC; have y := hcb.out W_ hC; obtain ⟨y0, y1, y2, y3, y4, y5, y6⟩ := y; go_simp; rfl)); apply Exists.intro; apply And.intro; (focus (intro us; simp only [Act.put, List.setIfInBounds_toArray, List.set_cons_zero, List.set_cons_succ]; rfl)))
            (refine rb_want (fun us => rfl) ?_; apply Exists.intro; apply And.intro; (focus (apply rb_pure; (focus (intro b us w h; exact h)); intro b us W_ hC; have y := hcb.out W_ hC; obtain ⟨y0, y1, y2, y3, y4, y5, y6⟩ := y; go_simp; rfl)); apply Exists.intro; apply And.intro; (focus (intro us; simp only [Act.put, List.setIfInBounds_toArray, List.set_cons_zero, List.set_cons_succ]; rfl)))
            (refine rb_want (fun us => rfl) ⟨.int .i64 (fuelZ c.fu), rb_call (f := 27) (args := fun us => #[.agg #[.int .i64 c.s0, .int .i64 c.s1, .int .i64 c.s2, .int .i64 c.s3, .int .i64 c.kd, .int .i64 c.fu, .int .i64 c.ar]]) (fun us W_ => ?_) (fun b us W_ hb hon hC => ?_), ?_⟩; (focus (exact rb_enters Try.func27 (by kernel_rfl) rfl (by rfl) W_)); (focus (refine (vm_fuel [c.s0, c.s1, c.s2, c.s3] c.kd c.fu c.ar W_).mono ?_; rintro e w1 ⟨rfl, hbw⟩; exact ⟨rfl, below_step hC hbw⟩)); apply Exists.intro; apply And.intro; (focus (intro us; simp only [Act.put, List.setIfInBounds_toArray, List.set_cons_zero, List.set_cons_succ]; rfl)))
            (refine rb_want (fun us => rfl) ⟨.agg #[.int .i64 x.k, .int .i64 x.s0, .int .i64 x.s1, .int .i64 x.s2, .int .i64 x.s3, .int .i64 x.r, .int .i64 x.u], rb_call (f := 26) (args := fun us => #[.pointer (some ⟨gm, 0, none⟩), .agg #[.int .i64 c.s0, .int .i64 c.s1, .int .i64 c.s2, .int .i64 c.s3], .int .i64 c.kd, .int .i64 c.ar, .int .i64 (fuelZ c.fu)]) (fun us W_ => ?_) (fun b us W_ hb hon hC => ?_), ?_⟩; (focus (exact rb_enters Try.func26 (by kernel_rfl) rfl (by rfl) W_)); (focus (have hB_ := below_step (below_alloc hBW2.out _) hC; refine (vm_Step4 (hMR.out.came hB_) (Nat.le_trans hb13.out hB_.size) hLp.out c.s0 c.s1 c.s2 c.s3 c.kd c.ar (fuelZ c.fu) x.k x.s0 x.s1 x.s2 x.s3 x.r x.u hv.out hfz.out).mono ?_; rintro e w1 ⟨rfl, hbw⟩; exact ⟨rfl, below_step hC hbw⟩)); apply Exists.intro; apply And.intro; (focus (intro us; simp only [Act.put, List.setIfInBounds_toArray, List.set_cons_zero, List.set_cons_succ]; rfl)))
            (refine rb_want (fun us => rfl) ?_; apply Exists.intro; apply And.intro; (focus (apply rb_pure; (focus (intro b us w h; exact h)); intro b us W_ hC; go_simp; rfl)); apply Exists.intro; apply And.intro; (focus (intro us; simp only [Act.put, List.setIfInBounds_toArray, List.set_cons_zero, List.set_cons_succ]; rfl)))
            (refine rb_want (fun us => rfl) ?_; apply Exists.intro; apply And.intro; (focus (apply rb_pure; (focus (intro b us w h; exact h)); intro b us W_ hC; go_simp; rfl)); apply Exists.intro; apply And.intro; (focus (intro us; simp only [Act.put, List.setIfInBounds_toArray, List.set_cons_zero, List.set_cons_succ]; rfl)))
            (refine rb_want (fun us => rfl) ?_; apply Exists.intro; apply And.intro; (focus (apply rb_pure; (focus (intro b us w h; exact h)); intro b us W_ hC; have qq := hbd.out; obtain ⟨qa, qb, qc, qd⟩ := qq; go_simp; rfl)); apply Exists.intro; apply And.intro; (focus (intro us; simp only [Act.put, List.setIfInBounds_toArray, List.set_cons_zero, List.set_cons_succ]; rfl)))
            (refine rb_want (fun us => rfl) ?_; apply Exists.intro; apply And.intro; (focus (apply rb_pure; (focus (intro b us w h; exact h)); intro b us W_ hC; have y := hsb.out W_ hC; obtain ⟨y0, y1, y2, y3, y4, y5, y6⟩ := y; go_simp; rfl)); apply Exists.intro; apply And.intro; (focus (intro us; simp only [Act.put, List.setIfInBounds_toArray, List.set_cons_zero, List.set_cons_succ]; rfl)))
            (refine rb_want (fun us => rfl) ?_; apply Exists.intro; apply And.intro; (focus (apply rb_pure; (focus (intro b us w h; exact h)); intro b us W_ hC; have q := eqI24_9 W_; have q2 := guard38; go_simp; rfl)); apply Exists.intro; apply And.intro; (focus (intro us; simp only [Act.put, List.setIfInBounds_toArray, List.set_cons_zero, List.set_cons_succ]; rfl)))
            (refine rb_want (fun us => rfl) ?_; apply Exists.intro; apply And.intro; (focus (apply rb_pure; (focus (intro b us w h; exact h)); intro b us W_ hC; go_simp; rfl)); apply Exists.intro; apply And.intro; (focus (intro us; simp only [Act.put, List.setIfInBounds_toArray, List.set_cons_zero, List.set_cons_succ]; rfl)))
            (refine rb_want (fun us => rfl) ?_; apply Exists.intro; apply And.intro; (focus (apply rb_pure; (focus (intro b us w h; exact h)); intro b us W_ hC; go_simp; rfl)); apply Exists.intro; apply And.intro; (focus (intro us; simp only [Act.put, List.setIfInBounds_toArray, List.set_cons_zero, List.set_cons_succ]; rfl)))
            (refine rb_want (fun us => rfl) ?_; apply Exists.intro; apply And.intro; (focus (apply rb_pure; (focus (intro b us w h; exact h)); intro b us W_ hC; go_simp; rfl)); apply Exists.intro; apply And.intro; (focus (intro us; simp only [Act.put, List.setIfInBounds_toArray, List.set_cons_zero, List.set_cons_succ]; rfl)))
            (refine rb_want (fun us => rfl) ?_; apply Exists.intro; apply And.intro; (focus (apply rb_pure; (focus (intro b us w h; exact h)); intro b us W_ hC; have y := hcb.out W_ hC; obtain ⟨y0, y1, y2, y3, y4, y5, y6⟩ := y; go_simp; rfl)); apply Exists.intro; apply And.intro; (focus (intro us; simp only [Act.put, List.setIfInBounds_toArray, List.set_cons_zero, List.set_cons_succ]; rfl)))
            (refine rb_want (fun us => rfl) ?_; apply Exists.intro; apply And.intro; (focus (apply rb_pure; (focus (intro b us w h; exact h)); intro b us W_ hC; go_simp; rfl)); apply Exists.intro; apply And.intro; (focus (intro us; simp only [Act.put, List.setIfInBounds_toArray, List.set_cons_zero, List.set_cons_succ]; rfl)))
            (refine rb_want (fun us => rfl) ?_; apply Exists.intro; apply And.intro; (focus (apply rb_pure; (focus (intro b us w h; exact h)); intro b us W_ hC; have y := hcb.out W_ hC; obtain ⟨y0, y1, y2, y3, y4, y5, y6⟩ := y; go_simp; rfl)); apply Exists.intro; apply And.intro; (focus (intro us; simp only [Act.put, List.setIfInBounds_toArray, List.set_cons_zero, List.set_cons_succ]; rfl)))
            (refine rb_want (fun us => rfl) ?_; apply Exists.intro; apply And.intro; (focus (apply rb_pure; (focus (intro b us w h; exact h)); intro b us W_ hC; go_simp; rfl)); apply Exists.intro; apply And.intro; (focus (intro us; simp only [Act.put, List.setIfInBounds_toArray, List.set_cons_zero, List.set_cons_succ]; rfl)))
            (refine rb_want (fun us => rfl) ?_; apply Exists.intro; apply And.intro; (focus (apply rb_pure; (focus (intro b us w h; exact h)); intro b us W_ hC; have y := hcb.out W_ hC; obtain ⟨y0, y1, y2, y3, y4, y5, y6⟩ := y; go_simp; rfl)); apply Exists.intro; apply And.intro; (focus (intro us; simp only [Act.put, List.setIfInBounds_toArray, List.set_cons_zero, List.set_cons_succ]; rfl)))
            (refine rb_want (fun us => rfl) ?_; apply Exists.intro; apply And.intro; (focus (apply rb_pure; (focus (intro b us w h; exact h)); intro b us W_ hC; have y := hcb.out W_ hC; obtain ⟨y0, y1, y2, y3, y4, y5, y6⟩ := y; go_simp; rfl)); apply Exists.intro; apply And.intro; (focus (intro us; simp only [Act.put, List.setIfInBounds_toArray, List.set_cons_zero, List.set_cons_succ]; rfl)))
            (refine rb_want (fun us => rfl) ⟨.int .i64 (fuelZ c.fu), rb_call (f := 27) (args := fun us => #[.agg #[.int .i64 c.s0, .int .i64 c.s1, .int .i64 c.s2, .int .i64 c.s3, .int .i64 c.kd, .int .i64 c.fu, .int .i64 c.ar]]) (fun us W_ => ?_) (fun b us W_ hb hon hC => ?_), ?_⟩; (focus (exact rb_enters Try.func27 (by kernel_rfl) rfl (by rfl) W_)); (focus (refine (vm_fuel [c.s0, c.s1, c.s2, c.s3] c.kd c.fu c.ar W_).mono ?_; rintro e w1 ⟨rfl, hbw⟩; exact ⟨rfl, below_step hC hbw⟩)); apply Exists.intro; apply And.intro; (focus (intro us; simp only [Act.put, List.setIfInBounds_toArray, List.set_cons_zero, List.set_cons_succ]; rfl)))
            (refine rb_want (fun us => rfl) ⟨.agg #[.int .i64 x.k, .int .i64 x.s0, .int .i64 x.s1, .int .i64 x.s2, .int .i64 x.s3, .int .i64 x.r, .int .i64 x.u], rb_call (f := 26) (args := fun us => #[.pointer (some ⟨gn, 0, none⟩), .agg #[.int .i64 c.s0, .int .i64 c.s1, .int .i64 c.s2, .int .i64 c.s3], .int .i64 c.kd, .int .i64 c.ar, .int .i64 (fuelZ c.fu)]) (fun us W_ => ?_) (fun b us W_ hb hon hC => ?_), ?_⟩; (focus (exact rb_enters Try.func26 (by kernel_rfl) rfl (by rfl) W_)); (focus (have hB_ := below_step (below_alloc hBW2.out _) hC; refine (vm_Step4 (hNR.out.came hB_) (Nat.le_trans hb23.out hB_.size) hLp.out c.s0 c.s1 c.s2 c.s3 c.kd c.ar (fuelZ c.fu) x.k x.s0 x.s1 x.s2 x.s3 x.r x.u hv.out hfz.out).mono ?_; rintro e w1 ⟨rfl, hbw⟩; exact ⟨rfl, below_step hC hbw⟩)); apply Exists.intro; apply And.intro; (focus (intro us; simp only [Act.put, List.setIfInBounds_toArray, List.set_cons_zero, List.set_cons_succ]; rfl)))
            (refine rb_want (fun us => rfl) ?_; apply Exists.intro; apply And.intro; (focus (apply rb_pure; (focus (intro b us w h; exact h)); intro b us W_ hC; go_simp; rfl)); apply Exists.intro; apply And.intro; (focus (intro us; simp only [Act.put, List.setIfInBounds_toArray, List.set_cons_zero, List.set_cons_succ]; rfl)))
            (refine rb_want (fun us => rfl) ?_; apply Exists.intro; apply And.intro; (focus (apply rb_pure; (focus (intro b us w h; exact h)); intro b us W_ hC; go_simp; rfl)); apply Exists.intro; apply And.intro; (focus (intro us; simp only [Act.put, List.setIfInBounds_toArray, List.set_cons_zero, List.set_cons_succ]; rfl)))
            (refine rb_want (fun us => rfl) ?_; apply Exists.intro; apply And.intro; (focus (apply rb_pure; (focus (intro b us w h; exact h)); intro b us W_ hC; have qq := hbd.out; obtain ⟨qa, qb, qc, qd⟩ := qq; go_simp; rfl)); apply Exists.intro; apply And.intro; (focus (intro us; simp only [Act.put, List.setIfInBounds_toArray, List.set_cons_zero, List.set_cons_succ]; rfl)))
            (refine rb_want (fun us => rfl) ?_; apply Exists.intro; apply And.intro; (focus (apply rb_pure; (focus (intro b us w h; exact h)); intro b us W_ hC; have y := hsb.out W_ hC; obtain ⟨y0, y1, y2, y3, y4, y5, y6⟩ := y; go_simp; rfl)); apply Exists.intro; apply And.intro; (focus (intro us; simp only [Act.put, List.setIfInBounds_toArray, List.set_cons_zero, List.set_cons_succ]; rfl)))
            (refine rb_want (fun us => rfl) ?_; apply Exists.intro; apply And.intro; (focus (apply rb_pure; (focus (intro b us w h; exact h)); intro b us W_ hC; have q := eqI24_9 W_; have q2 := guard38; go_simp; rfl)); apply Exists.intro; apply And.intro; (focus (intro us; simp only [Act.put, List.setIfInBounds_toArray, List.set_cons_zero, List.set_cons_succ]; rfl)))
            (refine rb_want (fun us => rfl) ?_; apply Exists.intro; apply And.intro; (focus (apply rb_pure; (focus (intro b us w h; exact h)); intro b us W_ hC; go_simp; rfl)); apply Exists.intro; apply And.intro; (focus (intro us; simp only [Act.put, List.setIfInBounds_toArray, List.set_cons_zero, List.set_cons_succ]; rfl)))
            refine rb_done (fun b us W8 hall hC => ?_)
            have hB8 := Aside0.mk hC
            clear hC hall
            try dsimp only
            clear us b
            go_wp2
            go_roundg j
            case measure => omega
            case rel => exact ⟨_, rfl, ⟨by rw [w64 (by have := hj.out; have := hcl8.out; omega) (by have := hj.out; have := hcl8.out; omega)], by have := hj.out; omega⟩, ⟨below_step (below_alloc hBW2.out _) hB8.out⟩⟩
          | zero =>
            obtain rfl : i = -1 := by have := hki.out.1; omega
            go_wp2_with (first | (go_at_call 29; (with_reducible refine (vm_lives _).mono ?_); rintro e WZ ⟨rfl, hBZ⟩; replace hBZ := Aside0.mk hBZ))
            go_ret
            exact ⟨rfl, below_step (below_step (below_step hB03.out hBW.out) hBW2.out) hBZ.out⟩

  · have hcut := hcut0 q1 hc2
    rw [show (8 : Int).toNat = cl.length from hpl.symm] at hcut
    replace hr2 := Aside0.mk hr2
    replace hpl := Aside0.mk hpl
    clear hcut0
    go_enter Try.func5, Try.ntmps5
    go_wp2_with (first | (go_at_call 22; (with_reducible refine (inquestref15_Few.calls A cap l L _ hr.out hc hF.out).mono ?_); rintro e W1 ⟨vF, rfl, hRF, hB1⟩; obtain ⟨AF, cF, rfl⟩ := Kd.R_slice hRF; obtain ⟨_, hcF, hCF⟩ := Kd.R_reads' hRF; replace hCF := Aside0.mk hCF; replace hB1 := Aside0.mk hB1; replace hcF := Aside0.mk hcF; clear hRF) | (go_at_call 23; (with_reducible refine (vm_New_k _ _ L W1 hCF.out hcF.out hL3.out ht.out).mono ?_); rintro e W2 ⟨gm, vm, rfl, hM2, hB2⟩; have hCF2 := Aside0.mk (Kd.C_below hCF.out hB2); replace hM2 := Aside0.mk hM2; replace hB2 := Aside0.mk hB2) | (go_at_call 23; (with_reducible refine (vm_New_k _ _ L W2 hCF2.out hcF.out hL3.out ht.out).mono ?_); rintro e W3 ⟨gn, vn, rfl, hN3, hB3⟩; have hM3 := Aside0.mk (hM2.out.came hB3); replace hN3 := Aside0.mk hN3; replace hB3 := Aside0.mk hB3))
    have hB03 := Aside0.mk (below_step (below_step hB1.out hB2.out) hB3.out)
    have hR0 : Aside0 (Kd.R kSt 38 W3 W3.heap.size (fun _ => True) (.slice none 0 0) ([] : List StZ)) := ⟨Kd.R_nil _ _ _ _ (fun _ => True)⟩
    go_loopg [9, 10] cl.length (fun kk v9 v10 W_ => ∃ (i : Nat), v10 = .int .i64 i ∧ Aside0 (kk + i = cl.length) ∧ Aside0 (Below W3.heap.size W3 W_) ∧ Aside0 (Kd.R kSt 38 W_ W3.heap.size (fun _ => True) v9 ((cl.take i).map (stepA L))))
    case atStart => exact ⟨0, rfl, ⟨by omega⟩, ⟨Below.refl _ _⟩, hR0⟩
    case round =>
      obtain ⟨i, rfl, hki, hBW, hRW⟩ := hrel
      obtain ⟨WR, hWRe⟩ : ∃ x, x = wr := ⟨_, rfl⟩
      cases gk with
      | succ j =>
        have hi : Aside0 (i < cl.length) := ⟨by have := hki.out; omega⟩
        have hlt : decide ((i : Int) < (cl.length : Int)) = true := decide_eq_true (by have := hi.out; omega)
        have hltn : i < cl.length := hi.out
        have q2 : 0 ≤ (i : Int) := by omega
        have q3 : (i : Int) < (cl.length : Int) := by omega
        obtain ⟨ad, e, y0, y1, y2, y3, y4, y5, y6⟩ := call_at (Kd.C_below hrc.out (below_step hB03.out hBW.out)) (i : Int) q2 q3
        simp only [Int.toNat_natCast] at y0 y1 y2 y3 y4 y5 y6
        cases e
        obtain ⟨c, hce⟩ : ∃ c, c = rdC cl (i : Int) := ⟨_, rfl⟩
        rw [← hce] at y0 y1 y2 y3 y4 y5 y6
        obtain ⟨x, hx⟩ : ∃ x, x = stepA L c := ⟨_, rfl⟩
        have hv : Aside0 (vstep L [c.s0, c.s1, c.s2, c.s3] c.kd c.ar (fuelZ c.fu) = some (x.k, [x.s0, x.s1, x.s2, x.s3], x.r, x.u)) := ⟨by rw [hx]; exact stepA_is ht.out c⟩
        have hfz : Aside0 (fuelZ c.fu ≤ 9223372036854775807) := ⟨by unfold fuelZ; split <;> (try split) <;> omega⟩
        have hLp : Aside0 (0 < L.length) := ⟨(thru_good L ht.out).pos⟩
        have hb13 : Aside0 (W1.heap.size ≤ W3.heap.size) := ⟨Nat.le_trans hB2.out.size hB3.out.size⟩
        have hlb : Aside0 ((((cl.take i).map (stepA L)).length + 1) * 56 ≤ 140737488355328) := ⟨by have := hcl8.out; simp; omega⟩
        have hown := Aside0.mk (Kd.R_base hRW.out)
        have hnx : Aside0 ((cl.take (i + 1)).map (stepA L) = (cl.take i).map (stepA L) ++ [x]) := ⟨by
          have e : cl.take (i + 1) = cl.take i ++ [rdC cl (i : Int)] := by
            rw [List.take_add_one, List.getElem?_eq_getElem hi.out]
            simp [rdC, List.getD_eq_getElem?_getD, List.getElem?_eq_getElem hi.out]
          rw [e, List.map_append, hx, hce]; rfl⟩
        have hcb := Aside0.mk (ag_cells (blk_new wr (.cells #[.int .i64 c.s0, .int .i64 c.s1, .int .i64 c.s2, .int .i64 c.s3, .int .i64 c.kd, .int .i64 c.fu, .int .i64 c.ar] 26)))
        clear hx hce
        go_wp2
        refine region_by (fun b us W_ => AgC W3 (wr.alloc (.cells #[.int .i64 c.s0, .int .i64 c.s1, .int .i64 c.s2, .int .i64 c.s3, .int .i64 c.kd, .int .i64 c.fu, .int .i64 c.ar] 26)) ((cl.take i).map (stepA L)) x b us W_) (by kernel_rfl) (by kernel_rfl) ⟨fun _ => undef, AgC.start _ _ _ _ _⟩ ?_
        (refine rb_want (fun us => rfl) ?_; apply Exists.intro; apply And.intro; (focus (apply rb_pure; (focus (intro b us w h; exact h.off (by decide) (by decide) (by decide) (by decide) (by decide))); intro b us W_ hC; go_simp; rfl)); apply Exists.intro; apply And.intro; (focus (intro us; simp only [Act.put, List.setIfInBounds_toArray, List.set_cons_zero, List.set_cons_succ]; rfl)))
        (refine rb_want (fun us => rfl) ?_; apply Exists.intro; apply And.intro; (focus (apply rb_pure; (focus (intro b us w h; exact h.off (by decide) (by decide) (by decide) (by decide) (by decide))); intro b us W_ hC; go_simp; rfl)); apply Exists.intro; apply And.intro; (focus (intro us; simp only [Act.put, List.setIfInBounds_toArray, List.set_cons_zero, List.set_cons_succ]; rfl)))
        (refine rb_want (fun us => rfl) ?_; apply Exists.intro; apply And.intro; (focus (apply rb_pure; (focus (intro b us w h; exact h.off (by decide) (by decide) (by decide) (by decide) (by decide))); intro b us W_ hC; go_simp; rfl)); apply Exists.intro; apply And.intro; (focus (intro us; simp only [Act.put, List.setIfInBounds_toArray, List.set_cons_zero, List.set_cons_succ]; rfl)))
        (refine rb_want (fun us => rfl) ?_; apply Exists.intro; apply And.intro; (focus (apply rb_read; (focus (intro b us w h; exact h.off (by decide) (by decide) (by decide) (by decide) (by decide))); intro b us W_ hb hon hC; have y := hcb.out W_ (hC.bel (j := 3) (by simp) hb); obtain ⟨y0, y1, y2, y3, y4, y5, y6⟩ := y; first | (go_simp; done) | (go_simp; rfl))); apply Exists.intro; apply And.intro; (focus (intro us; simp only [Act.put, List.setIfInBounds_toArray, List.set_cons_zero, List.set_cons_succ]; rfl)))
        (refine rb_want (fun us => rfl) ?_; apply Exists.intro; apply And.intro; (focus (apply rb_pure; (focus (intro b us w h; exact h.off (by decide) (by decide) (by decide) (by decide) (by decide))); intro b us W_ hC; go_simp; rfl)); apply Exists.intro; apply And.intro; (focus (intro us; simp only [Act.put, List.setIfInBounds_toArray, List.set_cons_zero, List.set_cons_succ]; rfl)))
        (refine rb_want (fun us => rfl) ?_; apply Exists.intro; apply And.intro; (focus (apply rb_read; (focus (intro b us w h; exact h.off (by decide) (by decide) (by decide) (by decide) (by decide))); intro b us W_ hb hon hC; have y := hcb.out W_ (hC.bel (j := 5) (by simp) hb); obtain ⟨y0, y1, y2, y3, y4, y5, y6⟩ := y; first | (go_simp; done) | (go_simp; rfl))); apply Exists.intro; apply And.intro; (focus (intro us; simp only [Act.put, List.setIfInBounds_toArray, List.set_cons_zero, List.set_cons_succ]; rfl)))
        (refine rb_want (fun us => rfl) ?_; apply Exists.intro; apply And.intro; (focus (apply rb_pure; (focus (intro b us w h; exact h.off (by decide) (by decide) (by decide) (by decide) (by decide))); intro b us W_ hC; go_simp; rfl)); apply Exists.intro; apply And.intro; (focus (intro us; simp only [Act.put, List.setIfInBounds_toArray, List.set_cons_zero, List.set_cons_succ]; rfl)))
        (refine rb_want (fun us => rfl) ?_; apply Exists.intro; apply And.intro; (focus (apply rb_read; (focus (intro b us w h; exact h.off (by decide) (by decide) (by decide) (by decide) (by decide))); intro b us W_ hb hon hC; have y := hcb.out W_ (hC.bel (j := 7) (by simp) hb); obtain ⟨y0, y1, y2, y3, y4, y5, y6⟩ := y; first | (go_simp; done) | (go_simp; rfl))); apply Exists.intro; apply And.intro; (focus (intro us; simp only [Act.put, List.setIfInBounds_toArray, List.set_cons_zero, List.set_cons_succ]; rfl)))
        (refine rb_want (fun us => rfl) ?_; apply Exists.intro; apply And.intro; (focus (apply rb_read; (focus (intro b us w h; exact h.off (by decide) (by decide) (by decide) (by decide) (by decide))); intro b us W_ hb hon hC; have y := hcb.out W_ (hC.bel (j := 8) (by simp) hb); obtain ⟨y0, y1, y2, y3, y4, y5, y6⟩ := y; first | (go_simp; done) | (go_simp; rfl))); apply Exists.intro; apply And.intro; (focus (intro us; simp only [Act.put, List.setIfInBounds_toArray, List.set_cons_zero, List.set_cons_succ]; rfl)))
        (refine rb_want (fun us => rfl) ⟨.int .i64 (fuelZ c.fu), rb_call (f := 27) (args := fun us => #[.agg #[.int .i64 c.s0, .int .i64 c.s1, .int .i64 c.s2, .int .i64 c.s3, .int .i64 c.kd, .int .i64 c.fu, .int .i64 c.ar]]) (fun us W_ => ?_) (fun b us W_ hb hon hC => ?_), ?_⟩; (focus (exact rb_enters Try.func27 (by kernel_rfl) rfl (by rfl) W_)); (focus (refine (vm_fuel [c.s0, c.s1, c.s2, c.s3] c.kd c.fu c.ar W_).mono ?_; rintro e w1 ⟨rfl, hbw⟩; exact ⟨rfl, hC.call9 hb (hon 8 (by decide) (by decide)) hbw⟩)); apply Exists.intro; apply And.intro; (focus (intro us; simp only [Act.put, List.setIfInBounds_toArray, List.set_cons_zero, List.set_cons_succ]; rfl)))
        (refine rb_want (fun us => rfl) ⟨.agg #[.int .i64 x.k, .int .i64 x.s0, .int .i64 x.s1, .int .i64 x.s2, .int .i64 x.s3, .int .i64 x.r, .int .i64 x.u], rb_call (f := 26) (args := fun us => #[.pointer (some ⟨gm, 0, none⟩), .agg #[.int .i64 c.s0, .int .i64 c.s1, .int .i64 c.s2, .int .i64 c.s3], .int .i64 c.kd, .int .i64 c.ar, .int .i64 (fuelZ c.fu)]) (fun us W_ => ?_) (fun b us W_ hb hon hC => ?_), ?_⟩; (focus (exact rb_enters Try.func26 (by kernel_rfl) rfl (by rfl) W_)); (focus (have hB_ := (hC.early (hC.no11 (hC.no10 hb))).1; refine (vm_Step4 (hM3.out.came (below_step (below_alloc hBW.out _) hB_)) (Nat.le_trans hb13.out (below_step (below_alloc hBW.out _) hB_).size) hLp.out c.s0 c.s1 c.s2 c.s3 c.kd c.ar (fuelZ c.fu) x.k x.s0 x.s1 x.s2 x.s3 x.r x.u hv.out hfz.out).mono ?_; rintro e w1 ⟨rfl, hbw⟩; exact ⟨rfl, hC.call10 hb (hon 3 (by decide) (by decide)) (hon 5 (by decide) (by decide)) (hon 7 (by decide) (by decide)) (hon 9 (by decide) (by decide)) hbw⟩)); apply Exists.intro; apply And.intro; (focus (intro us; simp only [Act.put, List.setIfInBounds_toArray, List.set_cons_zero, List.set_cons_succ]; rfl)))
        (refine rb_open (fun us => rfl) (rb_new (fun b us W_ hb hon hC => ?_)) ?_; (focus (refine ⟨.slice (some ⟨W_.heap.size, 0, none⟩) 1 1, W_.alloc (.cells (stC x).toArray 38), ?_, hC.new hb (hon 10 (by decide) (by decide))⟩; have y := ag_lit1 W_; unfold stC; first | (go_simp; done) | (go_simp; rfl))); apply Exists.intro; apply And.intro; (focus (intro us; simp only [Act.put, List.setIfInBounds_toArray, List.set_cons_zero, List.set_cons_succ]; rfl)))
        (refine rb_open (fun us => rfl) (rb_new (fun b us W_ hb hon hC => ?_)) ?_; (focus (have h11 := (hon 11 (by decide) (by decide)); obtain ⟨hB_, hbx⟩ := hC.early hb; obtain ⟨gb, egb, hgb⟩ := hbx h11; exact Kd.run_append_k kSt W3.heap.size (.tmp 62) (.tmp 73) 47 38 _ 56 (by rfl) Try.underlying47 ag_info2 (by rfl) (by decide) (by decide) u9 ((cl.take i).map (stepA L)) x (stC x) (fun _ => True) (fun _ => False) (by rfl) gb (by exact egb) hgb (by rfl) (fun _ hk => hk.elim) (fun _ _ => trivial) (Kd.R_below (Kd.R_alloc hRW.out _) hB_) (Nat.le_trans hBW.out.size (Nat.le_trans (below_alloc (Below.refl _ _) _).size hB_.size)) hlb.out (fun v1 w1 hR hg => hC.app hb h11 (below_own (below_step (below_alloc hBW.out _) hB_) hg hown.out) hR))); apply Exists.intro; apply And.intro; (focus (intro us; simp only [Act.put, List.setIfInBounds_toArray, List.set_cons_zero, List.set_cons_succ]; rfl)))
        (refine rb_open (fun us => rfl) (rb_new (fun b us W_ hb hon hC => ?_)) ?_; (focus (refine ⟨us 12, W_, ?_, hC.asg (hon 12 (by decide) (by decide))⟩; first | (go_simp; done) | (go_simp; rfl))); apply Exists.intro; apply And.intro; (focus (intro us; simp only [Act.put, List.setIfInBounds_toArray, List.set_cons_zero, List.set_cons_succ]; rfl)))
        refine rb_done (fun b us W8 hall hC => ?_)
        obtain ⟨hB8, hR8⟩ := hC.late (hall 12 (by decide))
        rw [← (hC.e13 (hall 13 (by decide))).2] at hR8
        replace hB8 := Aside0.mk hB8
        replace hR8 := Aside0.mk hR8
        try dsimp only
        generalize us 13 = v13 at *
        generalize us 12 = v12 at *
        generalize us 11 = v11 at *
        clear hC hall
        clear us b
        go_wp2
        go_roundg j
        case measure => omega
        case rel => exact ⟨i + 1, by rw [w64 (by have := hi.out; have := hcl8.out; omega) (by have := hi.out; have := hcl8.out; omega)]; simp, ⟨by have := hki.out; omega⟩, hB8, ⟨by rw [hnx.out]; exact hR8.out⟩⟩
      | zero =>
        obtain rfl : i = cl.length := by have := hki.out; omega
        have hlt : decide ((cl.length : Int) < (cl.length : Int)) = false := decide_eq_false (by omega)
        have hRF := hRW.out
        rw [List.take_length] at hRF
        obtain ⟨fs, hfs⟩ : ∃ fs, fs = cl.map (stepA L) := ⟨_, rfl⟩
        rw [← hfs] at hRF
        have hfl : fs.length = cl.length := by rw [hfs]; simp
        obtain ⟨A9, c9, e9⟩ := Kd.R_slice hRF
        subst e9
        rw [hfl] at hRF
        subst hWRe
        have hSC := Aside0.mk (Kd.R_reads' hRF).2.2
        replace hRF := Aside0.mk hRF
        replace hfs := Aside0.mk hfs
        replace hfl := Aside0.mk hfl
        have hwl : Aside0 (wrap64 ((cl.length : Int) - 1) = (cl.length : Int) - 1) := ⟨w64 (by have := hcl8.out; omega) (by have := hcl8.out; omega)⟩
        clear hRW
        go_wp2
        go_loopg [12] cl.length (fun kk v12 W_ => ∃ (i : Int), v12 = .int .i64 i ∧ Aside0 (i = (kk : Int) - 1 ∧ kk ≤ cl.length) ∧ Aside0 (Below WR.heap.size WR W_))
        case atStart => exact ⟨_, rfl, ⟨hwl.out, Nat.le_refl _⟩, ⟨by repeat (first | exact Below.refl _ _ | apply pw_below_drewN)⟩⟩
        case round =>
          obtain ⟨i, rfl, hki, hBW2⟩ := hrel
          cases gk with
          | succ j =>
            obtain rfl : i = (j : Int) := by have := hki.out.1; omega
            have hj : Aside0 (j < cl.length) := ⟨by have := hki.out.2; omega⟩
            have hge : decide (0 ≤ (j : Int)) = true := decide_eq_true (by omega)
            have q2 : 0 ≤ (j : Int) := by omega
            have q3 : (j : Int) < (cl.length : Int) := by have := hj.out; omega
            obtain ⟨ad, e, y0, y1, y2, y3, y4, y5, y6⟩ := call_at (Kd.C_below hrc.out (below_step (below_step hB03.out hBW.out) hBW2.out)) (j : Int) q2 q3
            simp only [Int.toNat_natCast] at y0 y1 y2 y3 y4 y5 y6
            cases e
            obtain ⟨c, hce⟩ : ∃ c, c = rdC cl (j : Int) := ⟨_, rfl⟩
            rw [← hce] at y0 y1 y2 y3 y4 y5 y6
            obtain ⟨x, hx⟩ : ∃ x, x = stepA L c := ⟨_, rfl⟩
            have hxs : rdS fs (j : Int) = x := by
              rw [hx, hce, hfs.out]
              simp [rdS, rdC, List.getD_eq_getElem?_getD, List.getElem?_eq_getElem hj.out]
            obtain ⟨ad9, e, hs9⟩ := step_atW (Kd.C_below hSC.out hBW2.out) (j : Int) q2 (by have := hj.out; have := hfl.out; omega)
            cases e
            simp only [Int.toNat_natCast, hxs] at hs9
            have hv : Aside0 (vstep L [c.s0, c.s1, c.s2, c.s3] c.kd c.ar (fuelZ c.fu) = some (x.k, [x.s0, x.s1, x.s2, x.s3], x.r, x.u)) := ⟨by rw [hx]; exact stepA_is ht.out c⟩
            have hfz : Aside0 (fuelZ c.fu ≤ 9223372036854775807) := ⟨by unfold fuelZ; split <;> (try split) <;> omega⟩
            have hLp : Aside0 (0 < L.length) := ⟨(thru_good L ht.out).pos⟩
            have hb13 : Aside0 (W1.heap.size ≤ WR.heap.size) := ⟨Nat.le_trans (Nat.le_trans hB2.out.size hB3.out.size) hBW.out.size⟩
            have hb23 : Aside0 (W2.heap.size ≤ WR.heap.size) := ⟨Nat.le_trans hB3.out.size hBW.out.size⟩
            have hMR := Aside0.mk (hM3.out.came hBW.out)
            have hNR := Aside0.mk (hN3.out.came hBW.out)
            have hsb : Aside0 (∀ W_, Below (wr.alloc (.cells #[.int .i64 c.s0, .int .i64 c.s1, .int .i64 c.s2, .int .i64 c.s3, .int .i64 c.kd, .int .i64 c.fu, .int .i64 c.ar] 26)).heap.size (wr.alloc (.cells #[.int .i64 c.s0, .int .i64 c.s1, .int .i64 c.s2, .int .i64 c.s3, .int .i64 c.kd, .int .i64 c.fu, .int .i64 c.ar] 26)) W_ → _) := ⟨fun W_ h => hs9 W_ (below_step (below_alloc (Below.refl _ _) _) h)⟩
            have hcb := Aside0.mk (ag_cells (blk_new wr (.cells #[.int .i64 c.s0, .int .i64 c.s1, .int .i64 c.s2, .int .i64 c.s3, .int .i64 c.kd, .int .i64 c.fu, .int .i64 c.ar] 26)))
            have hbd : Aside0 (0 ≤ (j : Int) ∧ (j : Int) < (cl.length : Int) ∧ (j : Int) < (fs.length : Int) ∧ j < fs.length) := ⟨⟨q2, q3, by have := hfl.out; omega, by have := hfl.out; omega⟩⟩
            clear hx hce hxs hs9
            go_wp2
            refine region_by (fun b us W_ => Below (wr.alloc (.cells #[.int .i64 c.s0, .int .i64 c.s1, .int .i64 c.s2, .int .i64 c.s3, .int .i64 c.kd, .int .i64 c.fu, .int .i64 c.ar] 26)).heap.size (wr.alloc (.cells #[.int .i64 c.s0, .int .i64 c.s1, .int .i64 c.s2, .int .i64 c.s3, .int .i64 c.kd, .int .i64 c.fu, .int .i64 c.ar] 26)) W_) (by kernel_rfl) (by kernel_rfl) ⟨fun _ => undef, below_drew (Below.refl _ _)⟩ ?_
            (refine rb_want (fun us => rfl) ?_; apply Exists.intro; apply And.intro; (focus (apply rb_pure; (focus (intro b us w h; exact h)); intro b us W_ hC; go_simp; rfl)); apply Exists.intro; apply And.intro; (focus (intro us; simp only [Act.put, List.setIfInBounds_toArray, List.set_cons_zero, List.set_cons_succ]; rfl)))
            (refine rb_want (fun us => rfl) ?_; apply Exists.intro; apply And.intro; (focus (apply rb_pure; (focus (intro b us w h; exact h)); intro b us W_ hC; go_simp; rfl)); apply Exists.intro; apply And.intro; (focus (intro us; simp only [Act.put, List.setIfInBounds_toArray, List.set_cons_zero, List.set_cons_succ]; rfl)))
            (refine rb_want (fun us => rfl) ?_; apply Exists.intro; apply And.intro; (focus (apply rb_pure; (focus (intro b us w h; exact h)); intro b us W_ hC; have y := hcb.out W_ hC; obtain ⟨y0, y1, y2, y3, y4, y5, y6⟩ := y; go_simp; rfl)); apply Exists.intro; apply And.intro; (focus (intro us; simp only [Act.put, List.setIfInBounds_toArray, List.set_cons_zero, List.set_cons_succ]; rfl)))
            (refine rb_want (fun us => rfl) ?_; apply Exists.intro; apply And.intro; (focus (apply rb_pure; (focus (intro b us w h; exact h)); intro b us W_ hC; go_simp; rfl)); apply Exists.intro; apply And.intro; (focus (intro us; simp only [Act.put, List.setIfInBounds_toArray, List.set_cons_zero, List.set_cons_succ]; rfl)))
            (refine rb_want (fun us => rfl) ?_; apply Exists.intro; apply And.intro; (focus (apply rb_pure; (focus (intro b us w h; exact h)); intro b us W_ hC; have y := hcb.out W_ hC; obtain ⟨y0, y1, y2, y3, y4, y5, y6⟩ := y; go_simp; rfl)); apply Exists.intro; apply And.intro; (focus (intro us; simp only [Act.put, List.setIfInBounds_toArray, List.set_cons_zero, List.set_cons_succ]; rfl)))
            (refine rb_want (fun us => rfl) ?_; apply Exists.intro; apply And.intro; (focus (apply rb_pure; (focus (intro b us w h; exact h)); intro b us W_ hC; go_simp; rfl)); apply Exists.intro; apply And.intro; (focus (intro us; simp only [Act.put, List.setIfInBounds_toArray, List.set_cons_zero, List.set_cons_succ]; rfl)))
            (refine rb_want (fun us => rfl) ?_; apply Exists.intro; apply And.intro; (focus (apply rb_pure; (focus (intro b us w h; exact h)); intro b us W_ hC; have y := hcb.out W_ hC; obtain ⟨y0, y1, y2, y3, y4, y5, y6⟩ := y; go_simp; rfl)); apply Exists.intro; apply And.intro; (focus (intro us; simp only [Act.put, List.setIfInBounds_toArray, List.set_cons_zero, List.set_cons_succ]; rfl)))
            (refine rb_want (fun us => rfl) ?_; apply Exists.intro; apply And.intro; (focus (apply rb_pure; (focus (intro b us w h; exact h)); intro b us W_ hC; have y := hcb.out W_ hC; obtain ⟨y0, y1, y2, y3, y4, y5, y6⟩ := y; go_simp; rfl)); apply Exists.intro; apply And.intro; (focus (intro us; simp only [Act.put, List.setIfInBounds_toArray, List.set_cons_zero, List.set_cons_succ]; rfl)))
            (refine rb_want (fun us => rfl) ⟨.int .i64 (fuelZ c.fu), rb_call (f := 27) (args := fun us => #[.agg #[.int .i64 c.s0, .int .i64 c.s1, .int .i64 c.s2, .int .i64 c.s3, .int .i64 c.kd, .int .i64 c.fu, .int .i64 c.ar]]) (fun us W_ => ?_) (fun b us W_ hb hon hC => ?_), ?_⟩; (focus (exact rb_enters Try.func27 (by kernel_rfl) rfl (by rfl) W_)); (focus (refine (vm_fuel [c.s0, c.s1, c.s2, c.s3] c.kd c.fu c.ar W_).mono ?_; rintro e w1 ⟨rfl, hbw⟩; exact ⟨rfl, below_step hC hbw⟩)); apply Exists.intro; apply And.intro; (focus (intro us; simp only [Act.put, List.setIfInBounds_toArray, List.set_cons_zero, List.set_cons_succ]; rfl)))
            (refine rb_want (fun us => rfl) ⟨.agg #[.int .i64 x.k, .int .i64 x.s0, .int .i64 x.s1, .int .i64 x.s2, .int .i64 x.s3, .int .i64 x.r, .int .i64 x.u], rb_call (f := 26) (args := fun us => #[.pointer (some ⟨gm, 0, none⟩), .agg #[.int .i64 c.s0, .int .i64 c.s1, .int .i64 c.s2, .int .i64 c.s3], .int .i64 c.kd, .int .i64 c.ar, .int .i64 (fuelZ c.fu)]) (fun us W_ => ?_) (fun b us W_ hb hon hC => ?_), ?_⟩; (focus (exact rb_enters Try.func26 (by kernel_rfl) rfl (by rfl) W_)); (focus (have hB_ := below_step (below_alloc hBW2.out _) hC; refine (vm_Step4 (hMR.out.came hB_) (Nat.le_trans hb13.out hB_.size) hLp.out c.s0 c.s1 c.s2 c.s3 c.kd c.ar (fuelZ c.fu) x.k x.s0 x.s1 x.s2 x.s3 x.r x.u hv.out hfz.out).mono ?_; rintro e w1 ⟨rfl, hbw⟩; exact ⟨rfl, below_step hC hbw⟩)); apply Exists.intro; apply And.intro; (focus (intro us; simp only [Act.put, List.setIfInBounds_toArray, List.set_cons_zero, List.set_cons_succ]; rfl)))
            (refine rb_want (fun us => rfl) ?_; apply Exists.intro; apply And.intro; (focus (apply rb_pure; (focus (intro b us w h; exact h)); intro b us W_ hC; go_simp; rfl)); apply Exists.intro; apply And.intro; (focus (intro us; simp only [Act.put, List.setIfInBounds_toArray, List.set_cons_zero, List.set_cons_succ]; rfl)))
            (refine rb_want (fun us => rfl) ?_; apply Exists.intro; apply And.intro; (focus (apply rb_pure; (focus (intro b us w h; exact h)); intro b us W_ hC; go_simp; rfl)); apply Exists.intro; apply And.intro; (focus (intro us; simp only [Act.put, List.setIfInBounds_toArray, List.set_cons_zero, List.set_cons_succ]; rfl)))
            (refine rb_want (fun us => rfl) ?_; apply Exists.intro; apply And.intro; (focus (apply rb_pure; (focus (intro b us w h; exact h)); intro b us W_ hC; have qq := hbd.out; obtain ⟨qa, qb, qc, qd⟩ := qq; go_simp; rfl)); apply Exists.intro; apply And.intro; (focus (intro us; simp only [Act.put, List.setIfInBounds_toArray, List.set_cons_zero, List.set_cons_succ]; rfl)))
            (refine rb_want (fun us => rfl) ?_; apply Exists.intro; apply And.intro; (focus (apply rb_pure; (focus (intro b us w h; exact h)); intro b us W_ hC; have y := hsb.out W_ hC; obtain ⟨y0, y1, y2, y3, y4, y5, y6⟩ := y; go_simp; rfl)); apply Exists.intro; apply And.intro; (focus (intro us; simp only [Act.put, List.setIfInBounds_toArray, List.set_cons_zero, List.set_cons_succ]; rfl)))
            (refine rb_want (fun us => rfl) ?_; apply Exists.intro; apply And.intro; (focus (apply rb_pure; (focus (intro b us w h; exact h)); intro b us W_ hC; have q := eqI24_9 W_; have q2 := guard38; go_simp; rfl)); apply Exists.intro; apply And.intro; (focus (intro us; simp only [Act.put, List.setIfInBounds_toArray, List.set_cons_zero, List.set_cons_succ]; rfl)))
            (refine rb_want (fun us => rfl) ?_; apply Exists.intro; apply And.intro; (focus (apply rb_pure; (focus (intro b us w h; exact h)); intro b us W_ hC; go_simp; rfl)); apply Exists.intro; apply And.intro; (focus (intro us; simp only [Act.put, List.setIfInBounds_toArray, List.set_cons_zero, List.set_cons_succ]; rfl)))
            (refine rb_want (fun us => rfl) ?_; apply Exists.intro; apply And.intro; (focus (apply rb_pure; (focus (intro b us w h; exact h)); intro b us W_ hC; go_simp; rfl)); apply Exists.intro; apply And.intro; (focus (intro us; simp only [Act.put, List.setIfInBounds_toArray, List.set_cons_zero, List.set_cons_succ]; rfl)))
            (refine rb_want (fun us => rfl) ?_; apply Exists.intro; apply And.intro; (focus (apply rb_pure; (focus (intro b us w h; exact h)); intro b us W_ hC; go_simp; rfl)); apply Exists.intro; apply And.intro; (focus (intro us; simp only [Act.put, List.setIfInBounds_toArray, List.set_cons_zero, List.set_cons_succ]; rfl)))
            (refine rb_want (fun us => rfl) ?_; apply Exists.intro; apply And.intro; (focus (apply rb_pure; (focus (intro b us w h; exact h)); intro b us W_ hC; have y := hcb.out W_ hC; obtain ⟨y0, y1, y2, y3, y4, y5, y6⟩ := y; go_simp; rfl)); apply Exists.intro; apply And.intro; (focus (intro us; simp only [Act.put, List.setIfInBounds_toArray, List.set_cons_zero, List.set_cons_succ]; rfl)))
            (refine rb_want (fun us => rfl) ?_; apply Exists.intro; apply And.intro; (focus (apply rb_pure; (focus (intro b us w h; exact h)); intro b us W_ hC; go_simp; rfl)); apply Exists.intro; apply And.intro; (focus (intro us; simp only [Act.put, List.setIfInBounds_toArray, List.set_cons_zero, List.set_cons_succ]; rfl)))
            (refine rb_want (fun us => rfl) ?_; apply Exists.intro; apply And.intro; (focus (apply rb_pure; (focus (intro b us w h; exact h)); intro b us W_ hC; have y := hcb.out W_ hC; obtain ⟨y0, y1, y2, y3, y4, y5, y6⟩ := y; go_simp; rfl)); apply Exists.intro; apply And.intro; (focus (intro us; simp only [Act.put, List.setIfInBounds_toArray, List.set_cons_zero, List.set_cons_succ]; rfl)))
            (refine rb_want (fun us => rfl) ?_; apply Exists.intro; apply And.intro; (focus (apply rb_pure; (focus (intro b us w h; exact h)); intro b us W_ hC; go_simp; rfl)); apply Exists.intro; apply And.intro; (focus (intro us; simp only [Act.put, List.setIfInBounds_toArray, List.set_cons_zero, List.set_cons_succ]; rfl)))
            (refine rb_want (fun us => rfl) ?_; apply Exists.intro; apply And.intro; (focus (apply rb_pure; (focus (intro b us w h; exact h)); intro b us W_ hC; have y := hcb.out W_ hC; obtain ⟨y0, y1, y2, y3, y4, y5, y6⟩ := y; go_simp; rfl)); apply Exists.intro; apply And.intro; (focus (intro us; simp only [Act.put, List.setIfInBounds_toArray, List.set_cons_zero, List.set_cons_succ]; rfl)))
            (refine rb_want (fun us => rfl) ?_; apply Exists.intro; apply And.intro; (focus (apply rb_pure; (focus (intro b us w h; exact h)); intro b us W_ hC; have y := hcb.out W_ hC; obtain ⟨y0, y1, y2, y3, y4, y5, y6⟩ := y; go_simp; rfl)); apply Exists.intro; apply And.intro; (focus (intro us; simp only [Act.put, List.setIfInBounds_toArray, List.set_cons_zero, List.set_cons_succ]; rfl)))
            (refine rb_want (fun us => rfl) ⟨.int .i64 (fuelZ c.fu), rb_call (f := 27) (args := fun us => #[.agg #[.int .i64 c.s0, .int .i64 c.s1, .int .i64 c.s2, .int .i64 c.s3, .int .i64 c.kd, .int .i64 c.fu, .int .i64 c.ar]]) (fun us W_ => ?_) (fun b us W_ hb hon hC => ?_), ?_⟩; (focus (exact rb_enters Try.func27 (by kernel_rfl) rfl (by rfl) W_)); (focus (refine (vm_fuel [c.s0, c.s1, c.s2, c.s3] c.kd c.fu c.ar W_).mono ?_; rintro e w1 ⟨rfl, hbw⟩; exact ⟨rfl, below_step hC hbw⟩)); apply Exists.intro; apply And.intro; (focus (intro us; simp only [Act.put, List.setIfInBounds_toArray, List.set_cons_zero, List.set_cons_succ]; rfl)))
            (refine rb_want (fun us => rfl) ⟨.agg #[.int .i64 x.k, .int .i64 x.s0, .int .i64 x.s1, .int .i64 x.s2, .int .i64 x.s3, .int .i64 x.r, .int .i64 x.u], rb_call (f := 26) (args := fun us => #[.pointer (some ⟨gn, 0, none⟩), .agg #[.int .i64 c.s0, .int .i64 c.s1, .int .i64 c.s2, .int .i64 c.s3], .int .i64 c.kd, .int .i64 c.ar, .int .i64 (fuelZ c.fu)]) (fun us W_ => ?_) (fun b us W_ hb hon hC => ?_), ?_⟩; (focus (exact rb_enters Try.func26 (by kernel_rfl) rfl (by rfl) W_)); (focus (have hB_ := below_step (below_alloc hBW2.out _) hC; refine (vm_Step4 (hNR.out.came hB_) (Nat.le_trans hb23.out hB_.size) hLp.out c.s0 c.s1 c.s2 c.s3 c.kd c.ar (fuelZ c.fu) x.k x.s0 x.s1 x.s2 x.s3 x.r x.u hv.out hfz.out).mono ?_; rintro e w1 ⟨rfl, hbw⟩; exact ⟨rfl, below_step hC hbw⟩)); apply Exists.intro; apply And.intro; (focus (intro us; simp only [Act.put, List.setIfInBounds_toArray, List.set_cons_zero, List.set_cons_succ]; rfl)))
            (refine rb_want (fun us => rfl) ?_; apply Exists.intro; apply And.intro; (focus (apply rb_pure; (focus (intro b us w h; exact h)); intro b us W_ hC; go_simp; rfl)); apply Exists.intro; apply And.intro; (focus (intro us; simp only [Act.put, List.setIfInBounds_toArray, List.set_cons_zero, List.set_cons_succ]; rfl)))
            (refine rb_want (fun us => rfl) ?_; apply Exists.intro; apply And.intro; (focus (apply rb_pure; (focus (intro b us w h; exact h)); intro b us W_ hC; go_simp; rfl)); apply Exists.intro; apply And.intro; (focus (intro us; simp only [Act.put, List.setIfInBounds_toArray, List.set_cons_zero, List.set_cons_succ]; rfl)))
            (refine rb_want (fun us => rfl) ?_; apply Exists.intro; apply And.intro; (focus (apply rb_pure; (focus (intro b us w h; exact h)); intro b us W_ hC; have qq := hbd.out; obtain ⟨qa, qb, qc, qd⟩ := qq; go_simp; rfl)); apply Exists.intro; apply And.intro; (focus (intro us; simp only [Act.put, List.setIfInBounds_toArray, List.set_cons_zero, List.set_cons_succ]; rfl)))
            (refine rb_want (fun us => rfl) ?_; apply Exists.intro; apply And.intro; (focus (apply rb_pure; (focus (intro b us w h; exact h)); intro b us W_ hC; have y := hsb.out W_ hC; obtain ⟨y0, y1, y2, y3, y4, y5, y6⟩ := y; go_simp; rfl)); apply Exists.intro; apply And.intro; (focus (intro us; simp only [Act.put, List.setIfInBounds_toArray, List.set_cons_zero, List.set_cons_succ]; rfl)))
            (refine rb_want (fun us => rfl) ?_; apply Exists.intro; apply And.intro; (focus (apply rb_pure; (focus (intro b us w h; exact h)); intro b us W_ hC; have q := eqI24_9 W_; have q2 := guard38; go_simp; rfl)); apply Exists.intro; apply And.intro; (focus (intro us; simp only [Act.put, List.setIfInBounds_toArray, List.set_cons_zero, List.set_cons_succ]; rfl)))
            (refine rb_want (fun us => rfl) ?_; apply Exists.intro; apply And.intro; (focus (apply rb_pure; (focus (intro b us w h; exact h)); intro b us W_ hC; go_simp; rfl)); apply Exists.intro; apply And.intro; (focus (intro us; simp only [Act.put, List.setIfInBounds_toArray, List.set_cons_zero, List.set_cons_succ]; rfl)))
            refine rb_done (fun b us W8 hall hC => ?_)
            have hB8 := Aside0.mk hC
            clear hC hall
            try dsimp only
            clear us b
            go_wp2
            go_roundg j
            case measure => omega
            case rel => exact ⟨_, rfl, ⟨by rw [w64 (by have := hj.out; have := hcl8.out; omega) (by have := hj.out; have := hcl8.out; omega)], by have := hj.out; omega⟩, ⟨below_step (below_alloc hBW2.out _) hB8.out⟩⟩
          | zero =>
            obtain rfl : i = -1 := by have := hki.out.1; omega
            go_wp2_with (first | (go_at_call 29; (with_reducible refine (vm_lives _).mono ?_); rintro e WZ ⟨rfl, hBZ⟩; replace hBZ := Aside0.mk hBZ))
            go_ret
            exact ⟨rfl, below_step (below_step (below_step hB03.out hBW.out) hBW2.out) hBZ.out⟩
end Go.Proofs.Ytddkoimaghcbeaa.PVmSteps
