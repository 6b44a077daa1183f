/- A part of what the law LinTells stands on, only as far as it is needed (the words and walks were printed or written in this seat; this text was cut by a program of this session, wip/bin/trim.py). No condition beyond what each theorem says. -/
import Derived.Test.YtddkoimaghcbeaaZLTPVmStepsx0
import Derived.Test.YtddkoimaghcbeaaZLTPVmStepsx2
import Derived.Test.YtddkoimaghcbeaaZLTPVmStepsx3
import Derived.Test.YtddkoimaghcbeaaZLTPVmStepsx4
import Derived.Test.YtddkoimaghcbeaaZLTPVmStepsx5
import Derived.Test.YtddkoimaghcbeaaZLTPVmStepsx6
import Derived.Test.YtddkoimaghcbeaaZLTTmpliu
namespace Go.Proofs.Ytddkoimaghcbeaa.PVmSteps
open Go.RowKit Go.Proofs.YtddkoimaghcbeaaW.PrintWords Go.Proofs.YtddkoimaghcbeaaW.PrintLast Go.Proofs.YtddkoimaghcbeaaW.PrintMore
set_option linter.unusedVariables false
set_option linter.unusedSimpArgs false
def posZ : Obj := .cells #[.int .u64 0, .int .i64 0, .int .i64 0, .int .i64 0, .int .i64 0] 114
def posO (s a b c d : Int) : Obj := .cells #[.int .u64 s, .int .i64 a, .int .i64 b, .int .i64 c, .int .i64 d] 114
def posPut (W : World) (g : Nat) (s a b c d : Int) : World := (((((W.setCell ⟨g, 0, none⟩ (.int .u64 s)).setCell ⟨g, 1, none⟩ (.int .i64 a)).setCell ⟨g, 2, none⟩ (.int .i64 b)).setCell ⟨g, 3, none⟩ (.int .i64 c)).setCell ⟨g, 4, none⟩ (.int .i64 d))
theorem pos_bel {w W : World} {b : Nat} {v0 v1 v2 v3 v4 : Value} (h : Below w.heap.size w W) (hb : w.heap.size ≤ b) :
    Below w.heap.size w (((((W.setCell ⟨b, 0, none⟩ v0).setCell ⟨b, 1, none⟩ v1).setCell ⟨b, 2, none⟩ v2).setCell ⟨b, 3, none⟩ v3).setCell ⟨b, 4, none⟩ v4) := below_set (below_set (below_set (below_set (below_set h hb) hb) hb) hb) hb
theorem pos_out {W : World} {b T : Nat} {z0 z1 z2 z3 z4 v0 v1 v2 v3 v4 : Value} (h : W.heap[b]? = some (.cells #[z0, z1, z2, z3, z4] T (0, 0))) :
    (((((W.setCell ⟨b, 0, none⟩ v0).setCell ⟨b, 1, none⟩ v1).setCell ⟨b, 2, none⟩ v2).setCell ⟨b, 3, none⟩ v3).setCell ⟨b, 4, none⟩ v4).heap[b]? = some (.cells #[v0, v1, v2, v3, v4] T (0, 0)) := by
  have h7 := blk_set (blk_set (blk_set (blk_set (blk_set h 0 v0) 1 v1) 2 v2) 3 v3) 4 v4
  simpa using h7
theorem pos_cells {WX : World} {g : Nat} {s a b c d : Int} (h : WX.heap[g]? = some (posO s a b c d)) (W_ : World) (hb : Below WX.heap.size WX W_) :
    W_.cell? ⟨g, 0, none⟩ = some (.int .u64 s) ∧ W_.cell? ⟨g, 1, none⟩ = some (.int .i64 a) ∧ W_.cell? ⟨g, 2, none⟩ = some (.int .i64 b) ∧ W_.cell? ⟨g, 3, none⟩ = some (.int .i64 c) ∧ W_.cell? ⟨g, 4, none⟩ = some (.int .i64 d) := by
  have h2 := blk_below h hb
  exact ⟨blk_cell h2 0, blk_cell h2 1, blk_cell h2 2, blk_cell h2 3, blk_cell h2 4⟩
theorem opO_cells {WX : World} {g : Nat} {p : S65} (h : WX.heap[g]? = some (opO p)) (W_ : World) (hb : Below WX.heap.size WX W_) :
    W_.cell? ⟨g, 1, none⟩ = some (.int .i64 p.f1) ∧ W_.cell? ⟨g, 2, none⟩ = some (.int .i64 p.f2) ∧ W_.cell? ⟨g, 3, none⟩ = some (.bool p.f3) ∧ W_.cell? ⟨g, 4, none⟩ = some (.int .i64 p.f4) := by
  have h2 := blk_below h hb
  exact ⟨blk_cell h2 1, blk_cell h2 2, blk_cell h2 3, blk_cell h2 4⟩
theorem lin_enter5 {w0 W : World} {q : LinQ} {g gm bm : Nat} {vM vO vA vL vR : Value} {st : LinS} (h : LinM w0 W q g gm bm vM vO vA vL vR st) (z : Nat) (a b c d : Int) (hp : z < 2 ^ 64) (hn : q.ops.length ≤ 64) (hl : st.l.length ≤ 1073741824) :
    Calls Try.prog 66 #[.pointer (some ⟨g, 0, none⟩), .agg #[.int .u64 (z : Int), .int .i64 a, .int .i64 b, .int .i64 c, .int .i64 d]] W fun e w' => e = .returned (.tuple #[]) ∧ ∃ vL', LinM w0 w' q g gm bm vM vO vA vL' vR (enterZ q st (z, [a, b, c, d])) := lin_enter h (z, [a, b, c, d]) hp hn hl
theorem lin_pos (w : World) (s a b c d : Int) : (Instr.build 114 #[(0, .int .u64 s), (1, .agg #[.int .i64 a, .int .i64 b, .int .i64 c, .int .i64 d])]).run Try.prog w = .ok (.agg #[.int .u64 s, .int .i64 a, .int .i64 b, .int .i64 c, .int .i64 d]) w := by kernel_rfl
set_option maxRecDepth 100000 in
set_option maxHeartbeats 8000000 in
theorem lin_try {w0 W : World} {q : LinQ} {g gm bm : Nat} {vM vO vA vL vR : Value} {st : LinS} (h : LinM w0 W q g gm bm vM vO vA vL vR st) (hW : LinW q st) (hc : (thru q.L).2.2 = 0) (hfu : q.fuel ≤ 9223372036854775807) (hb : (st.tries : Int) < q.budget) {s i : Nat} {cs : List Int} {r : List Fr} (hl : st.l = ((s, cs), i) :: r) (hi : i < q.ops.length) :
    Calls Try.prog 70 #[.pointer (some ⟨g, 0, none⟩)] W fun e w' => e = .returned (.tuple #[]) ∧ ∃ vL' vR', LinM w0 w' q g gm bm vM vO vA vL' vR' (tryZ q st) := by
  have hf := hW.fr ((s, cs), i) (by simp [hl])
  obtain ⟨e0, e1, e2, e3, rfl⟩ := four_of (show cs.length = 4 from hf.2.1)
  have hll : Aside0 (r.length ≤ 1073741823) := ⟨by have a := hW.ll; have b := hW.tb; have c := hW.b1; rw [hl] at a; simp at a; omega⟩
  have hol : Aside0 (st.order.length ≤ 1073741824) := ⟨by have a := hW.ol; have b := hW.tb; have c := hW.b1; omega⟩
  have htb : Aside0 ((st.tries : Int) < 1073741824) := ⟨by have a := hW.b1; omega⟩
  have hi64 : (i : Int) ≤ 64 := by have := hW.n64; omega
  have hn64 := Aside0.mk hW.n64
  have hsn := Aside0.mk hW.sn
  have hs64 : Aside0 (s < 2 ^ q.ops.length) := ⟨hf.1⟩
  have hL0 : Aside0 (0 < q.L.length) := ⟨(thru_good q.L hc).pos⟩
  obtain ⟨rk, rs, rr, ru, hv, h4, _⟩ := vstep_good q.L hc [e0, e1, e2, e3] rfl (rd_T65 q.ops (i : Int)).f1 (rd_T65 q.ops (i : Int)).f2 q.fuel
  obtain ⟨d0, d1, d2, d3, rfl⟩ := four_of h4
  have hT : Aside0 (tryZ q st = if rk = 3 then { st with l := ((s, [e0, e1, e2, e3]), i + 1) :: r, tries := st.tries + 1, over := true, kind := 3 }
      else if rk ≠ 1 ∨ ((rd_T65 q.ops (i : Int)).f3 = true ∧ rr ≠ (rd_T65 q.ops (i : Int)).f4) then { st with l := ((s, [e0, e1, e2, e3]), i + 1) :: r, tries := st.tries + 1 }
      else if (s ||| 2 ^ i, [d0, d1, d2, d3]) ∈ st.seen then { st with l := ((s, [e0, e1, e2, e3]), i + 1) :: r, tries := st.tries + 1 }
      else enterZ q { st with l := ((s, [e0, e1, e2, e3]), i + 1) :: r, tries := st.tries + 1, seen := st.seen ++ [(s ||| 2 ^ i, [d0, d1, d2, d3])], order := st.order ++ [(i : Int)] } (s ||| 2 ^ i, [d0, d1, d2, d3])) := ⟨by unfold tryZ; rw [hl]; dsimp only; rw [hv]⟩
  obtain ⟨AO, cO, rfl, hOc, hOC⟩ := Kd.R_reads h.hO
  obtain ⟨ad, e9, hop7⟩ := op_cells7 hOC (i : Int) (by omega) (by omega)
  cases e9
  obtain ⟨op, hop⟩ : ∃ x, x = rd_T65 q.ops (i : Int) := ⟨_, rfl⟩
  rw [← hop] at hop7 hv hT
  have hv2 := Aside0.mk hv
  clear hop hv h4
  replace hfu := Aside0.mk hfu
  obtain ⟨bl, c, rfl, hbb, hrc, _, _⟩ := h.top hl
  have hwl : wrap64 (r.length : Int) = r.length := w64 (by omega) (by have := hll.out; omega)
  have q0 : 0 ≤ wrap64 (r.length : Int) := by rw [hwl]; exact Int.natCast_nonneg _
  have q1 : wrap64 (r.length : Int) < ((r.length : Nat) : Int) + 1 := by rw [hwl]; exact Int.lt_add_one_of_le (Int.le_refl _)
  replace hwl := Aside0.mk hwl
  have h0 := Aside0.mk h
  replace hl := Aside0.mk hl
  replace hop7 := Aside0.mk hop7
  obtain ⟨c0, c1, c2, c3, c4, c5, c6, c7, c8, c9, c10, c11⟩ := h.cells W (Below.refl _ _)
  clear c0 c1 c2 c3 c4 c5 c6 c8 c9 c10 c11 h hW hf hb hbb hOc hOC
  go_enter Try.func70, Try.ntmps70
  go_wp2
  go_quiet (fail)
  have e6 : (wrap64 (r.length : Int)).toNat = r.length := by rw [hwl.out]; simp
  rw [e6]
  clear e6 q0 q1 c7
  refine vm_gen _ (fun W_ => Below W.heap.size W W_) (by repeat (first | exact Below.refl _ _ | apply pw_below_drewN)) ?_
  intro W1 hB1
  have hM1 := Aside0.mk (h0.out.came hB1)
  have hopc := hop7.out W1 hB1
  obtain ⟨o0, o1, o2, o3, o4, o5, o6⟩ := hopc
  simp only [Int.toNat_natCast] at o0 o1 o2 o3 o4 o5 o6
  obtain ⟨c0, c1, c2, c3, c4, c5, c6, c7, c8, c9, c10, c11⟩ := hM1.out.cells W1 (Below.refl _ _)
  obtain ⟨_, _, _, t0, t1, t2, t3, t4, t5, tz⟩ := hM1.out.topc hl.out W1 (Below.refl _ _)
  have z9 := hM1.out.free 9
  have i0 : decide (0 ≤ (i : Int)) = true := decide_eq_true (by omega)
  have i1 : decide ((i : Int) < (q.ops.length : Int)) = true := decide_eq_true (by omega)
  have hgb : g ≠ bl := by
    have hL := hM1.out.hL
    rw [hl.out, List.reverse_cons] at hL
    obtain ⟨cells, hcl⟩ := Kd.R_row hL bl rfl
    exact blk_ne hM1.out.hk hcl (by decide)
  have hgb2 : bl ≠ g := fun e => hgb e.symm
  obtain ⟨gO, cO', eO, _, _, ⟨cellsO, hcO⟩⟩ := Kd.R_form hM1.out.hO (by omega)
  injection eO with eO1 eO2 eO3
  injection eO1 with eO1
  have hOb : (ad.add (i * 7)).block = gO := by rw [eO1]; unfold Addr.add; split <;> rfl
  have nOg : gO ≠ g := blk_ne hcO hM1.out.hk (by decide)
  have nOb : gO ≠ bl := by
    have hL := hM1.out.hL
    rw [hl.out, List.reverse_cons] at hL
    obtain ⟨cells, hcl⟩ := Kd.R_row hL bl rfl
    exact blk_ne hcO hcl (by decide)
  have n1 : (ad.add (i * 7)).block ≠ g := by rw [hOb]; exact nOg
  have n2 : (ad.add (i * 7)).block ≠ bl := by rw [hOb]; exact nOb
  have n3 : ∀ k, ad.add (i * 7) ≠ ⟨g, k, none⟩ := fun k e => n1 (by rw [e])
  have n4 : ∀ k, ad.add (i * 7) ≠ ⟨bl, k, none⟩ := fun k e => n2 (by rw [e])
  have n5 : ∀ k, ⟨g, k, none⟩ ≠ ad.add (i * 7) := fun k e => n1 (by rw [← e])
  have n6 : ∀ k, ⟨bl, k, none⟩ ≠ ad.add (i * 7) := fun k e => n2 (by rw [← e])
  have n7 : g ≠ (ad.add (i * 7)).block := fun e => n1 e.symm
  have n8 : bl ≠ (ad.add (i * 7)).block := fun e => n2 e.symm
  clear hcO eO1 eO2 eO3 hOb nOg nOb
  clear c0 c1 c2 c4 c5 c6 c7 c8 c10 c11
  go_wp2
  have ewt : wrap64 ((st.tries : Int) + 1) = ((st.tries + 1 : Nat) : Int) := by rw [w64 (by omega) (by have := htb.out; omega)]; simp
  rw [ewt]
  have hN0 := ((hM1.out.next hl.out rfl (i + 1)).setTries (st.tries + 1))
  refine vm_gen _ (fun W_ => LinM w0 W_ q g gm bm vM (.slice (some ad) q.ops.length cO) vA (.slice (some ⟨bl, 0, none⟩) (r.length + 1) c) vR { st with l := ((s, [e0, e1, e2, e3]), i + 1) :: r, tries := st.tries + 1 } ∧ W_.heap[W1.heap.size]? = some (opO op)) ⟨by exact hN0.came (below_alloc (Below.refl _ _) _), by have y := blk_new ((W1.setCell ⟨bl, r.length * 6 + 5, none⟩ (.int .i64 ((i + 1 : Nat) : Int))).setCell ⟨g, 9, none⟩ (.int .i64 ((st.tries + 1 : Nat) : Int))) (opO op); rw [show ((W1.setCell ⟨bl, r.length * 6 + 5, none⟩ (.int .i64 ((i + 1 : Nat) : Int))).setCell ⟨g, 9, none⟩ (.int .i64 ((st.tries + 1 : Nat) : Int))).heap.size = W1.heap.size from by simp] at y; exact y⟩ ?_
  rintro WX ⟨hN, hop9⟩
  replace hN := Aside0.mk hN
  replace hop9 := Aside0.mk hop9
  clear hM1 t0 t1 t2 t3 t4 t5 tz c3 c9 z9 o0 o1 o2 o3 o4 o5 o6 i0 i1 ewt n1 n2 n3 n4 n5 n6 n7 n8 hN0 hB1
  obtain ⟨B4, hB4_⟩ : ∃ x, x = W1.heap.size := ⟨_, rfl⟩
  rw [← hB4_] at hop9
  rw [← hB4_]
  clear hB4_
  have hcel : Aside0 (∀ W_ : World, Below WX.heap.size WX W_ → W_.cell? ⟨g, 0, none⟩ = some (.pointer (some ⟨gm, 0, none⟩)) ∧ W_.cell? ⟨g, 1, none⟩ = some (.int .i64 q.fuel) ∧ (W_.cell? ⟨bl, r.length * 6 + 1, none⟩ = some (.int .i64 e0) ∧ W_.cell? ⟨bl, r.length * 6 + 2, none⟩ = some (.int .i64 e1) ∧ W_.cell? ⟨bl, r.length * 6 + 3, none⟩ = some (.int .i64 e2) ∧ W_.cell? ⟨bl, r.length * 6 + 4, none⟩ = some (.int .i64 e3)) ∧ (W_.cell? ⟨B4, 1, none⟩ = some (.int .i64 op.f1) ∧ W_.cell? ⟨B4, 2, none⟩ = some (.int .i64 op.f2) ∧ W_.cell? ⟨B4, 3, none⟩ = some (.bool op.f3) ∧ W_.cell? ⟨B4, 4, none⟩ = some (.int .i64 op.f4))) := ⟨fun W_ hb => by
    obtain ⟨c0, c1, c2, c3, c4, c5, c6, c7, c8, c9, c10, c11⟩ := hN.out.cells W_ hb
    obtain ⟨_, _, _, t0, t1, t2, t3, t4, t5, tz⟩ := hN.out.topc rfl W_ hb
    exact ⟨c0, c1, ⟨t1, t2, t3, t4⟩, opO_cells hop9.out W_ hb⟩⟩
  refine region_by (fun b us W_ => OneC WX 18 19 stepZ (stepO rk d0 d1 d2 d3 rr ru) b us W_) (by kernel_rfl) (by kernel_rfl) ⟨fun _ => undef, OneC.start WX 18 19 _ _ _⟩ ?_
  iterate 3 (refine rb_want (fun us => rfl) ?_; apply Exists.intro; apply And.intro; (focus (apply rb_pure; (focus (intro b us w h; exact h.off (by decide) (by decide))); intro b us W_ hC; go_simp; rfl)); apply Exists.intro; apply And.intro; (focus (intro us; simp only [Act.put, List.setIfInBounds_toArray, List.set_cons_zero, List.set_cons_succ]; rfl)))
  (refine rb_want (fun us => rfl) ?_; apply Exists.intro; apply And.intro; (focus (apply rb_pure; (focus (intro b us w h; exact h.off (by decide) (by decide))); intro b us W_ hC; have y := hcel.out W_ hC.hB; obtain ⟨y0, y1, y2, y3, y4, y5, y6⟩ := y; go_simp; rfl)); apply Exists.intro; apply And.intro; (focus (intro us; simp only [Act.put, List.setIfInBounds_toArray, List.set_cons_zero, List.set_cons_succ]; rfl)))
  iterate 4 (refine rb_want (fun us => rfl) ?_; apply Exists.intro; apply And.intro; (focus (apply rb_pure; (focus (intro b us w h; exact h.off (by decide) (by decide))); intro b us W_ hC; go_simp; rfl)); apply Exists.intro; apply And.intro; (focus (intro us; simp only [Act.put, List.setIfInBounds_toArray, List.set_cons_zero, List.set_cons_succ]; rfl)))
  (refine rb_want (fun us => rfl) ?_; apply Exists.intro; apply And.intro; (focus (apply rb_pure; (focus (intro b us w h; exact h.off (by decide) (by decide))); intro b us W_ hC; have y := hcel.out W_ hC.hB; obtain ⟨y0, y1, y2, y3, y4, y5, y6⟩ := y; go_simp; rfl)); apply Exists.intro; apply And.intro; (focus (intro us; simp only [Act.put, List.setIfInBounds_toArray, List.set_cons_zero, List.set_cons_succ]; rfl)))
  (refine rb_want (fun us => rfl) ?_; apply Exists.intro; apply And.intro; (focus (apply rb_pure; (focus (intro b us w h; exact h.off (by decide) (by decide))); intro b us W_ hC; go_simp; rfl)); apply Exists.intro; apply And.intro; (focus (intro us; simp only [Act.put, List.setIfInBounds_toArray, List.set_cons_zero, List.set_cons_succ]; rfl)))
  (refine rb_want (fun us => rfl) ?_; apply Exists.intro; apply And.intro; (focus (apply rb_pure; (focus (intro b us w h; exact h.off (by decide) (by decide))); intro b us W_ hC; have y := hcel.out W_ hC.hB; obtain ⟨y0, y1, y2, y3, y4, y5, y6⟩ := y; go_simp; rfl)); apply Exists.intro; apply And.intro; (focus (intro us; simp only [Act.put, List.setIfInBounds_toArray, List.set_cons_zero, List.set_cons_succ]; rfl)))
  (refine rb_want (fun us => rfl) ?_; apply Exists.intro; apply And.intro; (focus (apply rb_pure; (focus (intro b us w h; exact h.off (by decide) (by decide))); intro b us W_ hC; go_simp; rfl)); apply Exists.intro; apply And.intro; (focus (intro us; simp only [Act.put, List.setIfInBounds_toArray, List.set_cons_zero, List.set_cons_succ]; rfl)))
  (refine rb_want (fun us => rfl) ?_; apply Exists.intro; apply And.intro; (focus (apply rb_pure; (focus (intro b us w h; exact h.off (by decide) (by decide))); intro b us W_ hC; have y := hcel.out W_ hC.hB; obtain ⟨y0, y1, y2, y3, y4, y5, y6⟩ := y; go_simp; rfl)); apply Exists.intro; apply And.intro; (focus (intro us; simp only [Act.put, List.setIfInBounds_toArray, List.set_cons_zero, List.set_cons_succ]; rfl)))
  iterate 3 (refine rb_want (fun us => rfl) ?_; apply Exists.intro; apply And.intro; (focus (apply rb_pure; (focus (intro b us w h; exact h.off (by decide) (by decide))); intro b us W_ hC; go_simp; rfl)); apply Exists.intro; apply And.intro; (focus (intro us; simp only [Act.put, List.setIfInBounds_toArray, List.set_cons_zero, List.set_cons_succ]; rfl)))
  (refine rb_want (fun us => rfl) ?_; apply Exists.intro; apply And.intro; (focus (apply rb_pure; (focus (intro b us w h; exact h.off (by decide) (by decide))); intro b us W_ hC; have y := hcel.out W_ hC.hB; obtain ⟨y0, y1, y2, y3, y4, y5, y6⟩ := y; go_simp; rfl)); apply Exists.intro; apply And.intro; (focus (intro us; simp only [Act.put, List.setIfInBounds_toArray, List.set_cons_zero, List.set_cons_succ]; rfl)))
  (refine rb_want (fun us => rfl) ⟨.agg #[.int .i64 rk, .int .i64 d0, .int .i64 d1, .int .i64 d2, .int .i64 d3, .int .i64 rr, .int .i64 ru], rb_call (f := 26) (args := fun us => #[.pointer (some ⟨gm, 0, none⟩), .agg #[.int .i64 e0, .int .i64 e1, .int .i64 e2, .int .i64 e3], .int .i64 op.f1, .int .i64 op.f2, .int .i64 q.fuel]) (fun us W_ => ?_) (fun b us W_ hb hon hC => ?_), ?_⟩; (focus (exact rb_enters Try.func26 (by kernel_rfl) rfl (by rfl) W_)); (focus (refine (vm_Step4 (hN.out.hM.came hC.hB) (Nat.le_trans hN.out.hB.size hC.hB.size) hL0.out e0 e1 e2 e3 op.f1 op.f2 q.fuel rk d0 d1 d2 d3 rr ru hv2.out hfu.out).mono ?_; rintro e w1 ⟨rfl, hbw⟩; exact ⟨rfl, (hC.came hbw).off (by decide) (by decide)⟩)); apply Exists.intro; apply And.intro; (focus (intro us; simp only [Act.put, List.setIfInBounds_toArray, List.set_cons_zero, List.set_cons_succ]; rfl)))
  (refine rb_open (fun us => rfl) (rb_new (fun b us W_ hb hon hC => ⟨.pointer (some ⟨W_.heap.size, 0, none⟩), W_.alloc stepZ, ?_, ?_⟩)) ?_; (focus (first | (go_simp; done) | (go_simp; rfl))); (focus (exact hC.new (by decide) hb)); apply Exists.intro; apply And.intro; (focus (intro us; simp only [Act.put, List.setIfInBounds_toArray, List.set_cons_zero, List.set_cons_succ]; rfl)))
  (refine rb_want (fun us => rfl) ⟨undef, rb_store (fun b us W_ hb hon hC => ?_), ?_⟩; (focus (obtain ⟨gs, eg, hg, hbk⟩ := hC.at (hon 18 (by decide) (by decide)) hb; refine ⟨stepPut W_ gs rk d0 d1 d2 d3 rr ru, ?_, hC.put (by decide) (hon 18 (by decide) (by decide)) eg hg (vm_bel7 hC.hB hg) (vm_out7 hbk)⟩; unfold stepZ at hbk; have k0 := blk_cell hbk 0; have v0 := blk_frozen hbk 0; have k1 := blk_cell hbk 1; have v1 := blk_frozen hbk 1; have k2 := blk_cell hbk 2; have v2 := blk_frozen hbk 2; have k3 := blk_cell hbk 3; have v3 := blk_frozen hbk 3; have k4 := blk_cell hbk 4; have v4 := blk_frozen hbk 4; have k5 := blk_cell hbk 5; have v5 := blk_frozen hbk 5; have k6 := blk_cell hbk 6; have v6 := blk_frozen hbk 6; simp only [List.getElem?_toArray, List.getElem?_cons_zero, List.getElem?_cons_succ] at k0 k1 k2 k3 k4 k5 k6; rw [eg]; clear hbk; unfold stepPut; first | (go_simp; done) | (go_simp; rfl))); apply Exists.intro; apply And.intro; (focus (intro us; simp only [Act.put, List.setIfInBounds_toArray, List.set_cons_zero, List.set_cons_succ]; rfl)))
  refine rb_done (fun b us W3 hall hC => ?_)
  obtain ⟨gx, ex, hgx, hbk⟩ := hC.done (hall 18 (by decide)) (hall 19 (by decide))
  have hB3 := Aside0.mk hC.hB
  have hsb := Aside0.mk (step_cells hbk)
  try dsimp only
  rw [ex]
  clear ex hC hall hbk
  clear us b
  have hM3 := Aside0.mk (hN.out.came hB3.out)
  have zc := hsb.out W3 (Below.refl _ _)
  obtain ⟨z0, z1, z2, z3, z4, z5, z6⟩ := zc
  have y := hcel.out W3 hB3.out
  obtain ⟨_, _, _, o1, o2, o3, o4⟩ := y
  clear o1 o2
  by_cases hk3 : rk = 3
  · subst hk3
    rw [if_pos rfl] at hT
    go_wp2_with (first | (go_at_call 69; (with_reducible refine (lin_ends (hM3.out.came (by repeat (first | exact Below.refl _ _ | apply pw_below_drewN))) 3).mono ?_); rintro e W9 ⟨rfl, hM9⟩; replace hM9 := Aside0.mk hM9))
    refine bodyPost_ret (results_none Try.results70 _ _ _) rfl ?_
    rw [hT.out]
    exact ⟨rfl, _, _, hM9.out⟩
  rw [if_neg hk3] at hT
  have hnb3 : (rk == 3) = false := beq_eq_false_iff_ne.mpr hk3
  clear hk3
  by_cases hk1 : rk = 1
  rotate_left
  · rw [if_pos (.inl hk1)] at hT
    have hnb1 : (rk != 1) = true := by simpa using hk1
    clear hk1
    go_wp2
    refine bodyPost_ret (results_none Try.results70 _ _ _) rfl ?_
    rw [hT.out]
    exact ⟨rfl, _, _, hM3.out.came (by repeat (first | exact Below.refl _ _ | apply pw_below_drewN))⟩
  subst hk1
  by_cases hd : op.f3 = true ∧ rr ≠ op.f4
  · rw [if_pos (.inr hd)] at hT
    obtain ⟨hd1, hd2⟩ := hd
    have hnb1 : (rr != op.f4) = true := by simpa using hd2
    clear hd2
    go_wp2
    refine bodyPost_ret (results_none Try.results70 _ _ _) rfl ?_
    rw [hT.out]
    exact ⟨rfl, _, _, hM3.out.came (by repeat (first | exact Below.refl _ _ | apply pw_below_drewN))⟩
  rw [if_neg (by rintro (a | a); exact a rfl; exact hd a)] at hT
  have hor : op.f3 = false ∨ (op.f3 = true ∧ rr = op.f4) := by
    by_cases a : op.f3 = true
    · exact .inr ⟨a, Classical.byContradiction fun b => hd ⟨a, b⟩⟩
    · exact .inl (by simpa using a)
  clear hd
  obtain ⟨t, ht⟩ : ∃ t : Nat, t = 2 ^ i := ⟨_, rfl⟩
  obtain ⟨z, hz⟩ : ∃ z : Nat, z = s ||| 2 ^ i := ⟨_, rfl⟩
  have hi63 : i < 64 := Nat.lt_of_lt_of_le hi hn64.out
  have hsh : Aside0 (IntKind.u64.wrap (2 ^ i) = (t : Int)) := ⟨by rw [ht]; exact u_pow i hi63⟩
  have hor2 : Aside0 (bits .or .u64 (s : Int) (t : Int) = (z : Int)) := ⟨by rw [ht, hz]; exact u_or s (2 ^ i) (Nat.lt_of_lt_of_le hs64.out (Nat.pow_le_pow_right (by decide) hn64.out)) (Nat.pow_lt_pow_right (by decide) hi63)⟩
  have hz64 : Aside0 (z < 2 ^ 64) := ⟨by rw [hz]; exact Nat.lt_of_lt_of_le (or_lt hs64.out hi) (Nat.pow_le_pow_right (by decide) hn64.out)⟩
  rw [← hz] at hT
  clear ht hz
  have hi64a := Aside0.mk hi64
  have hcel9 : Aside0 (∀ W_ : World, Below W3.heap.size W3 W_ → W_.cell? ⟨bl, r.length * 6, none⟩ = some (.int .u64 (s : Int)) ∧ (W_.cell? ⟨gx, 1, none⟩ = some (.int .i64 d0) ∧ W_.cell? ⟨gx, 2, none⟩ = some (.int .i64 d1) ∧ W_.cell? ⟨gx, 3, none⟩ = some (.int .i64 d2) ∧ W_.cell? ⟨gx, 4, none⟩ = some (.int .i64 d3))) := ⟨fun W_ hb => by
    obtain ⟨_, _, _, t0, t1, t2, t3, t4, t5, tz⟩ := hM3.out.topc rfl W_ hb
    obtain ⟨z0, z1, z2, z3, z4, z5, z6⟩ := hsb.out W_ hb
    exact ⟨t0, z1, z2, z3, z4⟩⟩
  have hgxs := Aside0.mk hgx
  rcases hor with hof | ⟨hof, hre⟩
  rotate_left
  have hnb1 : (rr != op.f4) = false := by simpa using hre
  clear hre
  all_goals go_wp2
  all_goals
    (skip
     refine vm_gen _ (fun W_ => Below W3.heap.size W3 W_) (by repeat (first | exact Below.refl _ _ | apply pw_below_drewN)) ?_
     intro WY hBY
     replace hcel9 := Aside0.mk (fun (W_ : World) (hb : Below WY.heap.size WY W_) => hcel9.out W_ (below_step hBY hb))
     replace hM3 := Aside0.mk (hM3.out.came hBY)
     clear z0 z1 z2 z3 z4 z5 z6 o3 o4 hBY
     refine region_by (fun b us W_ => OneC WY 11 12 posZ (posO (z : Int) d0 d1 d2 d3) b us W_) (by kernel_rfl) (by kernel_rfl) ⟨fun _ => undef, OneC.start WY 11 12 _ _ _⟩ ?_
     iterate 4 (refine rb_want (fun us => rfl) ?_; apply Exists.intro; apply And.intro; (focus (apply rb_pure; (focus (intro b us w h; exact h.off (by decide) (by decide))); intro b us W_ hC; go_simp; rfl)); apply Exists.intro; apply And.intro; (focus (intro us; simp only [Act.put, List.setIfInBounds_toArray, List.set_cons_zero, List.set_cons_succ]; rfl)))
     (refine rb_want (fun us => rfl) ?_; apply Exists.intro; apply And.intro; (focus (apply rb_pure; (focus (intro b us w h; exact h.off (by decide) (by decide))); intro b us W_ hC; have y := hcel9.out W_ hC.hB; obtain ⟨y0, y1, y2, y3, y4⟩ := y; go_simp; rfl)); apply Exists.intro; apply And.intro; (focus (intro us; simp only [Act.put, List.setIfInBounds_toArray, List.set_cons_zero, List.set_cons_succ]; rfl)))
     (refine rb_want (fun us => rfl) ?_; apply Exists.intro; apply And.intro; (focus (apply rb_pure; (focus (intro b us w h; exact h.off (by decide) (by decide))); intro b us W_ hC; go_simp; rfl)); apply Exists.intro; apply And.intro; (focus (intro us; simp only [Act.put, List.setIfInBounds_toArray, List.set_cons_zero, List.set_cons_succ]; rfl)))
     (refine rb_want (fun us => rfl) ?_; apply Exists.intro; apply And.intro; (focus (apply rb_pure; (focus (intro b us w h; exact h.off (by decide) (by decide))); intro b us W_ hC; have y1 := hsh.out; have y2 := hi64; go_simp; rfl)); apply Exists.intro; apply And.intro; (focus (intro us; simp only [Act.put, List.setIfInBounds_toArray, List.set_cons_zero, List.set_cons_succ]; rfl)))
     (refine rb_want (fun us => rfl) ?_; apply Exists.intro; apply And.intro; (focus (apply rb_pure; (focus (intro b us w h; exact h.off (by decide) (by decide))); intro b us W_ hC; have y1 := hor2.out; go_simp; rfl)); apply Exists.intro; apply And.intro; (focus (intro us; simp only [Act.put, List.setIfInBounds_toArray, List.set_cons_zero, List.set_cons_succ]; rfl)))
     (refine rb_want (fun us => rfl) ?_; apply Exists.intro; apply And.intro; (focus (apply rb_pure; (focus (intro b us w h; exact h.off (by decide) (by decide))); intro b us W_ hC; go_simp; rfl)); apply Exists.intro; apply And.intro; (focus (intro us; simp only [Act.put, List.setIfInBounds_toArray, List.set_cons_zero, List.set_cons_succ]; rfl)))
     (refine rb_want (fun us => rfl) ?_; apply Exists.intro; apply And.intro; (focus (apply rb_pure; (focus (intro b us w h; exact h.off (by decide) (by decide))); intro b us W_ hC; have y := hcel9.out W_ hC.hB; obtain ⟨y0, y1, y2, y3, y4⟩ := y; go_simp; rfl)); apply Exists.intro; apply And.intro; (focus (intro us; simp only [Act.put, List.setIfInBounds_toArray, List.set_cons_zero, List.set_cons_succ]; rfl)))
     (refine rb_want (fun us => rfl) ?_; apply Exists.intro; apply And.intro; (focus (apply rb_pure; (focus (intro b us w h; exact h.off (by decide) (by decide))); intro b us W_ hC; have y1 := lin_pos W_; go_simp; rfl)); apply Exists.intro; apply And.intro; (focus (intro us; simp only [Act.put, List.setIfInBounds_toArray, List.set_cons_zero, List.set_cons_succ]; rfl)))
     (refine rb_open (fun us => rfl) (rb_new (fun b us W_ hb hon hC => ⟨.pointer (some ⟨W_.heap.size, 0, none⟩), W_.alloc posZ, ?_, ?_⟩)) ?_; (focus (first | (go_simp; done) | (go_simp; rfl))); (focus (exact hC.new (by decide) hb)); apply Exists.intro; apply And.intro; (focus (intro us; simp only [Act.put, List.setIfInBounds_toArray, List.set_cons_zero, List.set_cons_succ]; rfl)))
     (refine rb_want (fun us => rfl) ⟨undef, rb_store (fun b us W_ hb hon hC => ?_), ?_⟩; (focus (obtain ⟨gs, eg, hg, hbk⟩ := hC.at (hon 11 (by decide) (by decide)) hb; refine ⟨posPut W_ gs (z : Int) d0 d1 d2 d3, ?_, hC.put (by decide) (hon 11 (by decide) (by decide)) eg hg (pos_bel hC.hB hg) (pos_out hbk)⟩; unfold posZ at hbk; have k0 := blk_cell hbk 0; have v0 := blk_frozen hbk 0; have k1 := blk_cell hbk 1; have v1 := blk_frozen hbk 1; have k2 := blk_cell hbk 2; have v2 := blk_frozen hbk 2; have k3 := blk_cell hbk 3; have v3 := blk_frozen hbk 3; have k4 := blk_cell hbk 4; have v4 := blk_frozen hbk 4; simp only [List.getElem?_toArray, List.getElem?_cons_zero, List.getElem?_cons_succ] at k0 k1 k2 k3 k4; rw [eg]; clear hbk; unfold posPut; first | (go_simp; done) | (go_simp; rfl))); apply Exists.intro; apply And.intro; (focus (intro us; simp only [Act.put, List.setIfInBounds_toArray, List.set_cons_zero, List.set_cons_succ]; rfl)))
     refine rb_done (fun b us W4 hall hC => ?_)
     obtain ⟨gp, ep, hgp, hbp⟩ := hC.done (hall 11 (by decide)) (hall 12 (by decide))
     have hB4 := Aside0.mk hC.hB
     have hpb := Aside0.mk (pos_cells hbp)
     replace hbp := Aside0.mk hbp
     try dsimp only
     rw [ep]
     clear ep hC hall
     clear us b
     have hM4 := Aside0.mk (hM3.out.came hB4.out)
     have hlook : ∀ n, (Instr.lookup 84 (.map (some bm)) (.agg #[.int .u64 (z : Int), .int .i64 d0, .int .i64 d1, .int .i64 d2, .int .i64 d3]) false).run Try.prog (W4.drewN n) = .ok (.bool (decide ((z, [d0, d1, d2, d3]) ∈ st.seen))) (W4.drewN n) := fun n => look_ps ((hM4.out.came (pw_below_drewN (Below.refl _ _) n)).hS) hsn.out (z, [d0, d1, d2, d3]) rfl
     obtain ⟨c0, c1, c2, c3, c4, c5, c6, c7, c8, c9, c10, c11⟩ := hM4.out.cells W4 (Below.refl _ _)
     have p9 := hpb.out W4 (Below.refl _ _)
     obtain ⟨p0, p1, p2, p3, p4⟩ := p9
     clear c0 c1 c2 c3 c4 c5 c7 c8 c9 c10 c11
     by_cases hm : (z, [d0, d1, d2, d3]) ∈ st.seen
     · rw [if_pos hm] at hT
       rw [decide_eq_true hm] at hlook
       clear hm
       go_wp2
       go_quiet (fail)
       go_wp2
       refine bodyPost_ret (results_none Try.results70 _ _ _) rfl ?_
       rw [hT.out]
       exact ⟨rfl, _, _, hM4.out.came (by repeat (first | exact Below.refl _ _ | apply pw_below_drewN))⟩
     · rw [if_neg hm] at hT
       rw [decide_eq_false hm] at hlook
       replace hm := Aside0.mk hm
       go_wp2
       go_quiet (fail)
       go_wp2
       refine vm_gen _ (fun W_ => Below W4.heap.size W4 W_) (by repeat (first | exact Below.refl _ _ | apply pw_below_drewN)) ?_
       intro W5 hB5
       have hM5 := Aside0.mk (hM4.out.came (below_step hB5 (below_drew (Below.refl _ _))))
       obtain ⟨q0, q1, q2, q3, q4⟩ := hpb.out W5.drew (below_step hB5 (below_drew (Below.refl _ _)))
       obtain ⟨c0, c1, c2, c3, c4, c5, c66, c7, c8, c9, c10, c11⟩ := hM5.out.cells W5.drew (Below.refl _ _)
       have hbp5 : Aside0 (W5.drew.heap[gp]? = some (posO (z : Int) d0 d1 d2 d3)) := ⟨blk_below hbp.out (below_step hB5 (below_drew (Below.refl _ _)))⟩
       clear c0 c1 c2 c3 c4 c5 c7 c8 c9 c10 c11 c6 p0 p1 p2 p3 p4 hB5 hlook
       obtain ⟨W6, hrun6, hS6, hg6, hsz6⟩ := put_ps hM5.out.hS hsn.out (z, [d0, d1, d2, d3]) rfl hm.out
       replace hrun6 : Aside0 ((Instr.mapUpdate 84 (.map (some bm)) (.agg #[.int .u64 (z : Int), .int .i64 d0, .int .i64 d1, .int .i64 d2, .int .i64 d3]) (.bool true)).run Try.prog W5.drew = .ok () W6) := ⟨hrun6⟩
       have hM7 := Aside0.mk (hM5.out.putS hg6 hS6)
       have hgpg : gp ≠ g := blk_ne hbp5.out hM5.out.hk (by decide)
       have hggp : g ≠ gp := fun e => hgpg e.symm
       have hbp6 : Aside0 (W6.heap[gp]? = some (posO (z : Int) d0 d1 d2 d3)) := ⟨blk_grown hbp5.out hg6 (fun e => by
         injection e with e
         obtain ⟨es, cc, h1, _⟩ := hM5.out.hS.out
         rw [← e, hbp5.out] at h1
         cases h1)⟩
       have hcg : Aside0 (∀ w8 : World, W6.grownBy w8 vR.ownBlock → (w8.cell? ⟨g, 8, none⟩ = some vR ∧ w8.frozen? ⟨g, 8, none⟩ = false) ∧ (w8.cell? ⟨gp, 0, none⟩ = some (.int .u64 (z : Int)) ∧ w8.cell? ⟨gp, 1, none⟩ = some (.int .i64 d0) ∧ w8.cell? ⟨gp, 2, none⟩ = some (.int .i64 d1) ∧ w8.cell? ⟨gp, 3, none⟩ = some (.int .i64 d2) ∧ w8.cell? ⟨gp, 4, none⟩ = some (.int .i64 d3))) := ⟨fun w8 hg => by
         have hrow := Kd.R_row hM7.out.hR
         have k1 := blk_grown hM7.out.hk hg (ne_row hrow hM7.out.hk (by decide))
         have k2 := blk_grown hbp6.out hg (ne_row hrow hbp6.out (by decide))
         exact ⟨⟨blk_cell k1 8, blk_frozen k1 8⟩, blk_cell k2 0, blk_cell k2 1, blk_cell k2 2, blk_cell k2 3, blk_cell k2 4⟩⟩
       replace hg6 := Aside0.mk hg6
       replace hS6 := Aside0.mk hS6
       clear hsz6
       refine region_by (fun b us W_ => StC W5.drew W6 5 [3, 4] b us W_) (by kernel_rfl) (by kernel_rfl) ⟨fun _ => undef, StC.start _ _ _ _ _⟩ ?_
       iterate 3 (refine rb_want (fun us => rfl) ?_; apply Exists.intro; apply And.intro; (focus (apply rb_pure; (focus (intro b us w h; exact h.off (by decide))); intro b us W_ hC; go_simp; rfl)); apply Exists.intro; apply And.intro; (focus (intro us; simp only [Act.put, List.setIfInBounds_toArray, List.set_cons_zero, List.set_cons_succ]; rfl)))
       (refine rb_want (fun us => rfl) ?_; apply Exists.intro; apply And.intro; (focus (apply rb_read; (focus (intro b us w h; exact h.off (by decide))); intro b us W_ hb hon hC; have e := hC.read (j := 3) (by decide) hb; subst e; first | (go_simp; done) | (go_simp; rfl))); apply Exists.intro; apply And.intro; (focus (intro us; simp only [Act.put, List.setIfInBounds_toArray, List.set_cons_zero, List.set_cons_succ]; rfl)))
       (refine rb_want (fun us => rfl) ?_; apply Exists.intro; apply And.intro; (focus (apply rb_read; (focus (intro b us w h; exact h.off (by decide))); intro b us W_ hb hon hC; have e := hC.read (j := 4) (by decide) hb; subst e; first | (go_simp; done) | (go_simp; rfl))); apply Exists.intro; apply And.intro; (focus (intro us; simp only [Act.put, List.setIfInBounds_toArray, List.set_cons_zero, List.set_cons_succ]; rfl)))
       (refine rb_want (fun us => rfl) ⟨undef, rb_store (fun b us W_ hb hon hC => ?_), ?_⟩; (focus (have e := hC.at hb; subst e; refine ⟨W6, ?_, hC.put (fun j hj => by simp at hj; rcases hj with rfl | rfl; exact hon 3 (by decide) (by decide); exact hon 4 (by decide) (by decide))⟩; have yr := hrun6.out; first | (go_simp; done) | (go_simp; rfl))); apply Exists.intro; apply And.intro; (focus (intro us; simp only [Act.put, List.setIfInBounds_toArray, List.set_cons_zero, List.set_cons_succ]; rfl)))
       refine rb_done (fun b us W_ hall hC => ?_)
       have hW_ := (hC.done (hall 5 (by decide))).symm
       subst hW_
       clear hC hall
       clear us b
       obtain ⟨c0, c1, c2, c3, c4, c5, c6, c7, c8, c9, c10, c11⟩ := hM7.out.cells W6 (Below.refl _ _)
       clear c0 c1 c2 c3 c4 c5 c6 c7 c9 c10 c11 q0 q1 q2 q3 q4 c66
       go_wp2_with (first | ((with_reducible refine gate_builtin (b := .append) (xs := #[.tmp 106, .tmp 108]) rfl ?_); at_builtin; refine Kd.R_append (Kd.int .i64) (w0 := w0) w0.heap.size rfl (.tmp 106) (.tmp 108) 56 3 (.int .i64 0) 8 rfl Try.underlying56 or_info3 rfl (by decide) (by omega) vR st.order (i : Int) [.int .i64 (i : Int)] (fun _ => True) (fun _ => False) rfl rfl ?aP (fun _ hk => hk.elim) (fun _ _ => trivial) ?aO ?aB ?aS ?aL ?_; (case aP => exact rfl); (case aB => exact hM7.out.hB); (case aO => exact hM7.out.hR); (case aS => exact hM7.out.hB.size); (case aL => have := hol.out; omega); intro v8 w8 ho8 hb8 hg8 hat8; obtain ⟨A8, c8_, e8_⟩ := Kd.R_slice ho8; rw [List.length_append, List.length_singleton] at e8_; subst e8_; have hcg8 := hcg.out w8 hg8; obtain ⟨k8, f8⟩ := hcg8.1; replace hg8 := Aside0.mk hg8; replace ho8 := Aside0.mk ho8; have hM8 := Aside0.mk (hM7.out.pushR hg8.out ho8.out); obtain ⟨g0, g1, g2, g3, g4⟩ := hcg8.2; clear hat8 hb8 hcg8) | (go_at_call 66; (with_reducible refine (lin_enter5 (hM8.out.came (by repeat (first | exact Below.refl _ _ | apply pw_below_drewN))) z d0 d1 d2 d3 hz64.out hn64.out (by have := hll.out; simp; omega)).mono ?_); rintro e W9 ⟨rfl, vL9, hM9⟩; replace hM9 := Aside0.mk hM9))
       go_end0
       rw [hT.out]
       exact ⟨rfl, _, _, hM9.out⟩)
end Go.Proofs.Ytddkoimaghcbeaa.PVmSteps
