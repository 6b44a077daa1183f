/- A part of the proofs about layers 16 to 18 (vm, order, lin) and their references: contracts and plain lemmas that the laws stand on. No condition beyond what each theorem says. -/
import Derived.Test.YtddkoimaghcbeaaPVmStepsx1
import Derived.Test.YtddkoimaghcbeaaPVmStepsx2
import Derived.Test.YtddkoimaghcbeaaPVmStepsx3
import Derived.Test.YtddkoimaghcbeaaPVmStepsx4
import Derived.Test.YtddkoimaghcbeaaPVmStepsx5
import Derived.Test.YtddkoimaghcbeaaPVmStepsx6
import Derived.Test.YtddkoimaghcbeaaTmpvmx
namespace Go.Proofs.Ytddkoimaghcbeaa.PVmSteps
open Go.RowKit Go.Proofs.YtddkoimaghcbeaaW.PrintWords Go.Proofs.YtddkoimaghcbeaaW.PrintLast Go.Proofs.YtddkoimaghcbeaaW.PrintMore
set_option linter.unusedVariables false
set_option linter.unusedSimpArgs false
theorem vm_litC4n (w : World) (n : Nat) (hn : w.heap.size = n) (a b c d a' b' c' d' : Int) : Kd.C k36 (w.alloc (.cells #[.int .i64 a, .int .i64 b, .int .i64 c, .int .i64 d, .int .i64 a', .int .i64 b', .int .i64 c', .int .i64 d'] 36)) (some ⟨n, 0, none⟩) ([⟨a, b⟩, ⟨c, d⟩, ⟨a', b'⟩, ⟨c', d'⟩] : List S36).length [⟨a, b⟩, ⟨c, d⟩, ⟨a', b'⟩, ⟨c', d'⟩] := by
  subst hn; exact vm_litC4 w a b c d a' b' c' d'
theorem vm_4c {W : World} {b T : Nat} {a0 a1 a2 a3 : Value} (h : W.heap[b]? = some (.cells #[a0, a1, a2, a3] T (0, 0))) : W.cell? ⟨b, 0, none⟩ = some a0 ∧ W.cell? ⟨b, 1, none⟩ = some a1 ∧ W.cell? ⟨b, 2, none⟩ = some a2 ∧ W.cell? ⟨b, 3, none⟩ = some a3 :=
  ⟨blk_cell h 0, blk_cell h 1, blk_cell h 2, blk_cell h 3⟩
theorem least_3 (a : Int) : ∃ m, inquestref01_Least.f a 0 3 = some m ∧ 0 ≤ m ∧ m ≤ 3 := least01 a 0 3 (by decide)
theorem three_of (m : Int) (h : 0 ≤ m ∧ m ≤ 3) : m = 0 ∨ m = 1 ∨ m = 2 ∨ m = 3 := by omega
set_option maxRecDepth 100000 in
set_option maxHeartbeats 2000000 in
theorem vmCells_00 (c0 c1 c2 c3 at_ from_ x : Int) (w : World) (ha : inquestref01_Least.f at_ 0 3 = some 0) (hf : inquestref01_Least.f from_ 0 3 = some 0) :
    Calls Try.prog 8 #[.agg #[.int .i64 c0, .int .i64 c1, .int .i64 c2, .int .i64 c3], .int .i64 at_, .int .i64 from_, .int .i64 x] w fun e w' => e = .returned (.bool true) ∧ Below w.heap.size w w' := by
  have ha' := Aside0.mk ha
  have hf' := Aside0.mk hf
  clear ha hf
  have hlit := fun w => vm_lit4 w 6 0 5 0 4 0 18 0
  have ht : Aside0 ((thru ([⟨6, 0⟩, ⟨5, 0⟩, ⟨4, 0⟩, ⟨18, 0⟩] : List S36)).2.2 = 0) := ⟨by decide +kernel⟩
  have hv : Aside0 (vstep [⟨6, 0⟩, ⟨5, 0⟩, ⟨4, 0⟩, ⟨18, 0⟩] [c0, c1, c2, c3] 3 x 4 = some (1, [x, c1, c2, c3], x, 4)) := ⟨by kernel_rfl⟩
  go_enter Try.func8, Try.ntmps8
  go_wp2_with (first | (go_at_call 30; (with_reducible refine (inquestref01_Least.calls at_ 0 3 0 _ ha'.out).mono ?_); rintro e W1 ⟨rfl, ⟨n1, rfl⟩⟩) | (go_at_call 30; (with_reducible refine (inquestref01_Least.calls from_ 0 3 0 _ hf'.out).mono ?_); rintro e W1 ⟨rfl, ⟨n2, rfl⟩⟩) | (go_at_call 23; (with_reducible refine (vm_New_kn _ 4 4 [⟨6, 0⟩, ⟨5, 0⟩, ⟨4, 0⟩, ⟨18, 0⟩] _ rfl (by repeat (first | (with_reducible exact vm_litC4n _ _ (by simp) 6 0 5 0 4 0 18 0) | (with_reducible refine Kd.C_drewN ?_ _))) (by decide) (by decide) ht.out).mono ?_); rintro e WM ⟨gm, vM, rfl, hM, hBM⟩; have hbs := blk_below (blk_alloc (blk_drewN (blk_new w (.cells #[.int .i64 c0, .int .i64 c1, .int .i64 c2, .int .i64 c3] 24)) (n1 + n2)) _) hBM; have s0 := blk_cell hbs 0; have s1 := blk_cell hbs 1; have s2 := blk_cell hbs 2; have s3 := blk_cell hbs 3; simp only [List.getElem?_toArray, List.getElem?_cons_zero, List.getElem?_cons_succ] at s0 s1 s2 s3; replace hbs := Aside0.mk hbs; replace hM := Aside0.mk hM; replace hBM := Aside0.mk hBM))
  refine vm_gen _ (fun W => W.heap[WM.heap.size]? = some (.cells #[.int .i64 x, .int .i64 c1, .int .i64 c2, .int .i64 c3] 24 (0, 0)) ∧ Below WM.heap.size WM W) ⟨blk_new _ _, below_alloc (Below.refl _ _) _⟩ ?_
  clear s0 s1 s2 s3
  rintro WX ⟨hbw, hBX⟩
  have hcs := Aside0.mk (fun (X : World) (hX : Below WX.heap.size WX X) => vm_4c (blk_below (blk_below hbs.out hBX) hX))
  have hcw := Aside0.mk (fun (X : World) (hX : Below WX.heap.size WX X) => vm_4c (blk_below hbw hX))
  have hMX := Aside0.mk (hM.out.came hBX)
  have hB0 : Aside0 (Below w.heap.size w WX) := ⟨below_step (below_step (below_alloc (pw_below_drewN (below_alloc (Below.refl w.heap.size w) _) (n1 + n2)) _) hBM.out) hBX⟩
  have hsz : Aside0 (WX.heap.size ≥ WM.heap.size) := ⟨hBX.size⟩
  have hq := Aside0.mk eqI24_9
  have hgd := Aside0.mk guard38
  clear hbw hBX hbs
  refine region_by (fun b us W_ => Below WX.heap.size WX W_) (by kernel_rfl) (by kernel_rfl) ⟨fun _ => undef, below_drew (Below.refl _ _)⟩ ?_
  (refine rb_want (fun us => rfl) ?_; apply Exists.intro; apply And.intro; (focus (apply rb_pure; (focus (intro b us w h; exact h)); intro b us W_ hC; go_simp; rfl)); apply Exists.intro; apply And.intro; (focus (intro us; simp only [Act.put, List.setIfInBounds_toArray, List.set_cons_zero, List.set_cons_succ]; rfl)))
  (refine rb_want (fun us => rfl) ?_; apply Exists.intro; apply And.intro; (focus (apply rb_pure; (focus (intro b us w h; exact h)); intro b us W_ hC; have y := hcs.out W_ hC; obtain ⟨y0, y1, y2, y3⟩ := y; have z := hcw.out W_ hC; obtain ⟨z0, z1, z2, z3⟩ := z; go_simp; rfl)); apply Exists.intro; apply And.intro; (focus (intro us; simp only [Act.put, List.setIfInBounds_toArray, List.set_cons_zero, List.set_cons_succ]; rfl)))
  (refine rb_want (fun us => rfl) ?_; apply Exists.intro; apply And.intro; (focus (apply rb_pure; (focus (intro b us w h; exact h)); intro b us W_ hC; go_simp; rfl)); apply Exists.intro; apply And.intro; (focus (intro us; simp only [Act.put, List.setIfInBounds_toArray, List.set_cons_zero, List.set_cons_succ]; rfl)))
  (refine rb_want (fun us => rfl) ⟨.agg #[.int .i64 1, .int .i64 x, .int .i64 c1, .int .i64 c2, .int .i64 c3, .int .i64 x, .int .i64 4], rb_call (f := 26) (args := fun us => #[.pointer (some ⟨gm, 0, none⟩), .agg #[.int .i64 c0, .int .i64 c1, .int .i64 c2, .int .i64 c3], .int .i64 3, .int .i64 x, .int .i64 4]) (fun us W_ => ?_) (fun b us W_ hb hon hC => ?_), ?_⟩; (focus (exact rb_enters Try.func26 (by kernel_rfl) rfl (by rfl) W_)); (focus (refine (vm_Step4 (hMX.out.came hC) (Nat.le_trans (by have := hBM.out.size; have := hsz.out; omega) hC.size) (by decide) c0 c1 c2 c3 3 x 4 1 x c1 c2 c3 x 4 hv.out (by decide)).mono ?_; rintro e w1 ⟨rfl, hbw⟩; exact ⟨rfl, below_step hC hbw⟩)); apply Exists.intro; apply And.intro; (focus (intro us; simp only [Act.put, List.setIfInBounds_toArray, List.set_cons_zero, List.set_cons_succ]; rfl)))
  (refine rb_want (fun us => rfl) ?_; apply Exists.intro; apply And.intro; (focus (apply rb_pure; (focus (intro b us w h; exact h)); intro b us W_ hC; have y := hcs.out W_ hC; obtain ⟨y0, y1, y2, y3⟩ := y; have z := hcw.out W_ hC; obtain ⟨z0, z1, z2, z3⟩ := z; go_simp; rfl)); apply Exists.intro; apply And.intro; (focus (intro us; simp only [Act.put, List.setIfInBounds_toArray, List.set_cons_zero, List.set_cons_succ]; rfl)))
  (refine rb_want (fun us => rfl) ?_; apply Exists.intro; apply And.intro; (focus (apply rb_pure; (focus (intro b us w h; exact h)); intro b us W_ hC; go_simp; rfl)); apply Exists.intro; apply And.intro; (focus (intro us; simp only [Act.put, List.setIfInBounds_toArray, List.set_cons_zero, List.set_cons_succ]; rfl)))
  (refine rb_want (fun us => rfl) ?_; apply Exists.intro; apply And.intro; (focus (apply rb_pure; (focus (intro b us w h; exact h)); intro b us W_ hC; go_simp; rfl)); apply Exists.intro; apply And.intro; (focus (intro us; simp only [Act.put, List.setIfInBounds_toArray, List.set_cons_zero, List.set_cons_succ]; rfl)))
  (refine rb_want (fun us => rfl) ?_; apply Exists.intro; apply And.intro; (focus (apply rb_pure; (focus (intro b us w h; exact h)); intro b us W_ hC; have y := hcs.out W_ hC; obtain ⟨y0, y1, y2, y3⟩ := y; have z := hcw.out W_ hC; obtain ⟨z0, z1, z2, z3⟩ := z; go_simp; rfl)); apply Exists.intro; apply And.intro; (focus (intro us; simp only [Act.put, List.setIfInBounds_toArray, List.set_cons_zero, List.set_cons_succ]; rfl)))
  (refine rb_want (fun us => rfl) ?_; apply Exists.intro; apply And.intro; (focus (apply rb_pure; (focus (intro b us w h; exact h)); intro b us W_ hC; go_simp; rfl)); apply Exists.intro; apply And.intro; (focus (intro us; simp only [Act.put, List.setIfInBounds_toArray, List.set_cons_zero, List.set_cons_succ]; rfl)))
  (refine rb_want (fun us => rfl) ?_; apply Exists.intro; apply And.intro; (focus (apply rb_pure; (focus (intro b us w h; exact h)); intro b us W_ hC; have q := hq.out W_; have q2 := hgd.out; go_simp; rfl)); apply Exists.intro; apply And.intro; (focus (intro us; simp only [Act.put, List.setIfInBounds_toArray, List.set_cons_zero, List.set_cons_succ]; rfl)))
  (refine rb_want (fun us => rfl) ?_; apply Exists.intro; apply And.intro; (focus (apply rb_pure; (focus (intro b us w h; exact h)); intro b us W_ hC; go_simp; rfl)); apply Exists.intro; apply And.intro; (focus (intro us; simp only [Act.put, List.setIfInBounds_toArray, List.set_cons_zero, List.set_cons_succ]; rfl)))
  (refine rb_want (fun us => rfl) ⟨.bool true, rb_call (f := 29) (args := fun us => #[]) (fun us W_ => ?_) (fun b us W_ hb hon hC => ?_), ?_⟩; (focus (exact rb_enters Try.func29 (by kernel_rfl) rfl (by rfl) W_)); (focus (refine (vm_lives W_).mono ?_; rintro e w1 ⟨rfl, hbw⟩; exact ⟨rfl, below_step hC hbw⟩)); apply Exists.intro; apply And.intro; (focus (intro us; simp only [Act.put, List.setIfInBounds_toArray, List.set_cons_zero, List.set_cons_succ]; rfl)))
  (refine rb_want (fun us => rfl) ?_; apply Exists.intro; apply And.intro; (focus (apply rb_pure; (focus (intro b us w h; exact h)); intro b us W_ hC; go_simp; rfl)); apply Exists.intro; apply And.intro; (focus (intro us; simp only [Act.put, List.setIfInBounds_toArray, List.set_cons_zero, List.set_cons_succ]; rfl)))
  (refine rb_want (fun us => rfl) ?_; apply Exists.intro; apply And.intro; (focus (apply rb_pure; (focus (intro b us w h; exact h)); intro b us W_ hC; go_simp; rfl)); apply Exists.intro; apply And.intro; (focus (intro us; simp only [Act.put, List.setIfInBounds_toArray, List.set_cons_zero, List.set_cons_succ]; rfl)))
  refine rb_done (fun b us W_ hall hC => ?_)
  have hB8 := hC
  clear hC hall
  go_wp2
  go_ret
  exact ⟨rfl, below_step hB0.out hB8⟩
set_option maxRecDepth 100000 in
set_option maxHeartbeats 2000000 in
theorem vmCells_01 (c0 c1 c2 c3 at_ from_ x : Int) (w : World) (ha : inquestref01_Least.f at_ 0 3 = some 0) (hf : inquestref01_Least.f from_ 0 3 = some 1) :
    Calls Try.prog 8 #[.agg #[.int .i64 c0, .int .i64 c1, .int .i64 c2, .int .i64 c3], .int .i64 at_, .int .i64 from_, .int .i64 x] w fun e w' => e = .returned (.bool true) ∧ Below w.heap.size w w' := by
  have ha' := Aside0.mk ha
  have hf' := Aside0.mk hf
  clear ha hf
  have hlit := fun w => vm_lit4 w 6 0 5 0 4 1 18 0
  have ht : Aside0 ((thru ([⟨6, 0⟩, ⟨5, 0⟩, ⟨4, 1⟩, ⟨18, 0⟩] : List S36)).2.2 = 0) := ⟨by decide +kernel⟩
  have hv : Aside0 (vstep [⟨6, 0⟩, ⟨5, 0⟩, ⟨4, 1⟩, ⟨18, 0⟩] [c0, c1, c2, c3] 3 x 4 = some (1, [x, c1, c2, c3], c1, 4)) := ⟨by kernel_rfl⟩
  go_enter Try.func8, Try.ntmps8
  go_wp2_with (first | (go_at_call 30; (with_reducible refine (inquestref01_Least.calls at_ 0 3 0 _ ha'.out).mono ?_); rintro e W1 ⟨rfl, ⟨n1, rfl⟩⟩) | (go_at_call 30; (with_reducible refine (inquestref01_Least.calls from_ 0 3 1 _ hf'.out).mono ?_); rintro e W1 ⟨rfl, ⟨n2, rfl⟩⟩) | (go_at_call 23; (with_reducible refine (vm_New_kn _ 4 4 [⟨6, 0⟩, ⟨5, 0⟩, ⟨4, 1⟩, ⟨18, 0⟩] _ rfl (by repeat (first | (with_reducible exact vm_litC4n _ _ (by simp) 6 0 5 0 4 1 18 0) | (with_reducible refine Kd.C_drewN ?_ _))) (by decide) (by decide) ht.out).mono ?_); rintro e WM ⟨gm, vM, rfl, hM, hBM⟩; have hbs := blk_below (blk_alloc (blk_drewN (blk_new w (.cells #[.int .i64 c0, .int .i64 c1, .int .i64 c2, .int .i64 c3] 24)) (n1 + n2)) _) hBM; have s0 := blk_cell hbs 0; have s1 := blk_cell hbs 1; have s2 := blk_cell hbs 2; have s3 := blk_cell hbs 3; simp only [List.getElem?_toArray, List.getElem?_cons_zero, List.getElem?_cons_succ] at s0 s1 s2 s3; replace hbs := Aside0.mk hbs; replace hM := Aside0.mk hM; replace hBM := Aside0.mk hBM))
  refine vm_gen _ (fun W => W.heap[WM.heap.size]? = some (.cells #[.int .i64 x, .int .i64 c1, .int .i64 c2, .int .i64 c3] 24 (0, 0)) ∧ Below WM.heap.size WM W) ⟨blk_new _ _, below_alloc (Below.refl _ _) _⟩ ?_
  clear s0 s1 s2 s3
  rintro WX ⟨hbw, hBX⟩
  have hcs := Aside0.mk (fun (X : World) (hX : Below WX.heap.size WX X) => vm_4c (blk_below (blk_below hbs.out hBX) hX))
  have hcw := Aside0.mk (fun (X : World) (hX : Below WX.heap.size WX X) => vm_4c (blk_below hbw hX))
  have hMX := Aside0.mk (hM.out.came hBX)
  have hB0 : Aside0 (Below w.heap.size w WX) := ⟨below_step (below_step (below_alloc (pw_below_drewN (below_alloc (Below.refl w.heap.size w) _) (n1 + n2)) _) hBM.out) hBX⟩
  have hsz : Aside0 (WX.heap.size ≥ WM.heap.size) := ⟨hBX.size⟩
  have hq := Aside0.mk eqI24_9
  have hgd := Aside0.mk guard38
  clear hbw hBX hbs
  refine region_by (fun b us W_ => Below WX.heap.size WX W_) (by kernel_rfl) (by kernel_rfl) ⟨fun _ => undef, below_drew (Below.refl _ _)⟩ ?_
  (refine rb_want (fun us => rfl) ?_; apply Exists.intro; apply And.intro; (focus (apply rb_pure; (focus (intro b us w h; exact h)); intro b us W_ hC; go_simp; rfl)); apply Exists.intro; apply And.intro; (focus (intro us; simp only [Act.put, List.setIfInBounds_toArray, List.set_cons_zero, List.set_cons_succ]; rfl)))
  (refine rb_want (fun us => rfl) ?_; apply Exists.intro; apply And.intro; (focus (apply rb_pure; (focus (intro b us w h; exact h)); intro b us W_ hC; have y := hcs.out W_ hC; obtain ⟨y0, y1, y2, y3⟩ := y; have z := hcw.out W_ hC; obtain ⟨z0, z1, z2, z3⟩ := z; go_simp; rfl)); apply Exists.intro; apply And.intro; (focus (intro us; simp only [Act.put, List.setIfInBounds_toArray, List.set_cons_zero, List.set_cons_succ]; rfl)))
  (refine rb_want (fun us => rfl) ?_; apply Exists.intro; apply And.intro; (focus (apply rb_pure; (focus (intro b us w h; exact h)); intro b us W_ hC; go_simp; rfl)); apply Exists.intro; apply And.intro; (focus (intro us; simp only [Act.put, List.setIfInBounds_toArray, List.set_cons_zero, List.set_cons_succ]; rfl)))
  (refine rb_want (fun us => rfl) ⟨.agg #[.int .i64 1, .int .i64 x, .int .i64 c1, .int .i64 c2, .int .i64 c3, .int .i64 c1, .int .i64 4], rb_call (f := 26) (args := fun us => #[.pointer (some ⟨gm, 0, none⟩), .agg #[.int .i64 c0, .int .i64 c1, .int .i64 c2, .int .i64 c3], .int .i64 3, .int .i64 x, .int .i64 4]) (fun us W_ => ?_) (fun b us W_ hb hon hC => ?_), ?_⟩; (focus (exact rb_enters Try.func26 (by kernel_rfl) rfl (by rfl) W_)); (focus (refine (vm_Step4 (hMX.out.came hC) (Nat.le_trans (by have := hBM.out.size; have := hsz.out; omega) hC.size) (by decide) c0 c1 c2 c3 3 x 4 1 x c1 c2 c3 c1 4 hv.out (by decide)).mono ?_; rintro e w1 ⟨rfl, hbw⟩; exact ⟨rfl, below_step hC hbw⟩)); apply Exists.intro; apply And.intro; (focus (intro us; simp only [Act.put, List.setIfInBounds_toArray, List.set_cons_zero, List.set_cons_succ]; rfl)))
  (refine rb_want (fun us => rfl) ?_; apply Exists.intro; apply And.intro; (focus (apply rb_pure; (focus (intro b us w h; exact h)); intro b us W_ hC; have y := hcs.out W_ hC; obtain ⟨y0, y1, y2, y3⟩ := y; have z := hcw.out W_ hC; obtain ⟨z0, z1, z2, z3⟩ := z; go_simp; rfl)); apply Exists.intro; apply And.intro; (focus (intro us; simp only [Act.put, List.setIfInBounds_toArray, List.set_cons_zero, List.set_cons_succ]; rfl)))
  (refine rb_want (fun us => rfl) ?_; apply Exists.intro; apply And.intro; (focus (apply rb_pure; (focus (intro b us w h; exact h)); intro b us W_ hC; go_simp; rfl)); apply Exists.intro; apply And.intro; (focus (intro us; simp only [Act.put, List.setIfInBounds_toArray, List.set_cons_zero, List.set_cons_succ]; rfl)))
  (refine rb_want (fun us => rfl) ?_; apply Exists.intro; apply And.intro; (focus (apply rb_pure; (focus (intro b us w h; exact h)); intro b us W_ hC; go_simp; rfl)); apply Exists.intro; apply And.intro; (focus (intro us; simp only [Act.put, List.setIfInBounds_toArray, List.set_cons_zero, List.set_cons_succ]; rfl)))
  (refine rb_want (fun us => rfl) ?_; apply Exists.intro; apply And.intro; (focus (apply rb_pure; (focus (intro b us w h; exact h)); intro b us W_ hC; have y := hcs.out W_ hC; obtain ⟨y0, y1, y2, y3⟩ := y; have z := hcw.out W_ hC; obtain ⟨z0, z1, z2, z3⟩ := z; go_simp; rfl)); apply Exists.intro; apply And.intro; (focus (intro us; simp only [Act.put, List.setIfInBounds_toArray, List.set_cons_zero, List.set_cons_succ]; rfl)))
  (refine rb_want (fun us => rfl) ?_; apply Exists.intro; apply And.intro; (focus (apply rb_pure; (focus (intro b us w h; exact h)); intro b us W_ hC; go_simp; rfl)); apply Exists.intro; apply And.intro; (focus (intro us; simp only [Act.put, List.setIfInBounds_toArray, List.set_cons_zero, List.set_cons_succ]; rfl)))
  (refine rb_want (fun us => rfl) ?_; apply Exists.intro; apply And.intro; (focus (apply rb_pure; (focus (intro b us w h; exact h)); intro b us W_ hC; have q := hq.out W_; have q2 := hgd.out; go_simp; rfl)); apply Exists.intro; apply And.intro; (focus (intro us; simp only [Act.put, List.setIfInBounds_toArray, List.set_cons_zero, List.set_cons_succ]; rfl)))
  (refine rb_want (fun us => rfl) ?_; apply Exists.intro; apply And.intro; (focus (apply rb_pure; (focus (intro b us w h; exact h)); intro b us W_ hC; go_simp; rfl)); apply Exists.intro; apply And.intro; (focus (intro us; simp only [Act.put, List.setIfInBounds_toArray, List.set_cons_zero, List.set_cons_succ]; rfl)))
  (refine rb_want (fun us => rfl) ⟨.bool true, rb_call (f := 29) (args := fun us => #[]) (fun us W_ => ?_) (fun b us W_ hb hon hC => ?_), ?_⟩; (focus (exact rb_enters Try.func29 (by kernel_rfl) rfl (by rfl) W_)); (focus (refine (vm_lives W_).mono ?_; rintro e w1 ⟨rfl, hbw⟩; exact ⟨rfl, below_step hC hbw⟩)); apply Exists.intro; apply And.intro; (focus (intro us; simp only [Act.put, List.setIfInBounds_toArray, List.set_cons_zero, List.set_cons_succ]; rfl)))
  (refine rb_want (fun us => rfl) ?_; apply Exists.intro; apply And.intro; (focus (apply rb_pure; (focus (intro b us w h; exact h)); intro b us W_ hC; go_simp; rfl)); apply Exists.intro; apply And.intro; (focus (intro us; simp only [Act.put, List.setIfInBounds_toArray, List.set_cons_zero, List.set_cons_succ]; rfl)))
  (refine rb_want (fun us => rfl) ?_; apply Exists.intro; apply And.intro; (focus (apply rb_pure; (focus (intro b us w h; exact h)); intro b us W_ hC; go_simp; rfl)); apply Exists.intro; apply And.intro; (focus (intro us; simp only [Act.put, List.setIfInBounds_toArray, List.set_cons_zero, List.set_cons_succ]; rfl)))
  refine rb_done (fun b us W_ hall hC => ?_)
  have hB8 := hC
  clear hC hall
  go_wp2
  go_ret
  exact ⟨rfl, below_step hB0.out hB8⟩
set_option maxRecDepth 100000 in
set_option maxHeartbeats 2000000 in
theorem vmCells_02 (c0 c1 c2 c3 at_ from_ x : Int) (w : World) (ha : inquestref01_Least.f at_ 0 3 = some 0) (hf : inquestref01_Least.f from_ 0 3 = some 2) :
    Calls Try.prog 8 #[.agg #[.int .i64 c0, .int .i64 c1, .int .i64 c2, .int .i64 c3], .int .i64 at_, .int .i64 from_, .int .i64 x] w fun e w' => e = .returned (.bool true) ∧ Below w.heap.size w w' := by
  have ha' := Aside0.mk ha
  have hf' := Aside0.mk hf
  clear ha hf
  have hlit := fun w => vm_lit4 w 6 0 5 0 4 2 18 0
  have ht : Aside0 ((thru ([⟨6, 0⟩, ⟨5, 0⟩, ⟨4, 2⟩, ⟨18, 0⟩] : List S36)).2.2 = 0) := ⟨by decide +kernel⟩
  have hv : Aside0 (vstep [⟨6, 0⟩, ⟨5, 0⟩, ⟨4, 2⟩, ⟨18, 0⟩] [c0, c1, c2, c3] 3 x 4 = some (1, [x, c1, c2, c3], c2, 4)) := ⟨by kernel_rfl⟩
  go_enter Try.func8, Try.ntmps8
  go_wp2_with (first | (go_at_call 30; (with_reducible refine (inquestref01_Least.calls at_ 0 3 0 _ ha'.out).mono ?_); rintro e W1 ⟨rfl, ⟨n1, rfl⟩⟩) | (go_at_call 30; (with_reducible refine (inquestref01_Least.calls from_ 0 3 2 _ hf'.out).mono ?_); rintro e W1 ⟨rfl, ⟨n2, rfl⟩⟩) | (go_at_call 23; (with_reducible refine (vm_New_kn _ 4 4 [⟨6, 0⟩, ⟨5, 0⟩, ⟨4, 2⟩, ⟨18, 0⟩] _ rfl (by repeat (first | (with_reducible exact vm_litC4n _ _ (by simp) 6 0 5 0 4 2 18 0) | (with_reducible refine Kd.C_drewN ?_ _))) (by decide) (by decide) ht.out).mono ?_); rintro e WM ⟨gm, vM, rfl, hM, hBM⟩; have hbs := blk_below (blk_alloc (blk_drewN (blk_new w (.cells #[.int .i64 c0, .int .i64 c1, .int .i64 c2, .int .i64 c3] 24)) (n1 + n2)) _) hBM; have s0 := blk_cell hbs 0; have s1 := blk_cell hbs 1; have s2 := blk_cell hbs 2; have s3 := blk_cell hbs 3; simp only [List.getElem?_toArray, List.getElem?_cons_zero, List.getElem?_cons_succ] at s0 s1 s2 s3; replace hbs := Aside0.mk hbs; replace hM := Aside0.mk hM; replace hBM := Aside0.mk hBM))
  refine vm_gen _ (fun W => W.heap[WM.heap.size]? = some (.cells #[.int .i64 x, .int .i64 c1, .int .i64 c2, .int .i64 c3] 24 (0, 0)) ∧ Below WM.heap.size WM W) ⟨blk_new _ _, below_alloc (Below.refl _ _) _⟩ ?_
  clear s0 s1 s2 s3
  rintro WX ⟨hbw, hBX⟩
  have hcs := Aside0.mk (fun (X : World) (hX : Below WX.heap.size WX X) => vm_4c (blk_below (blk_below hbs.out hBX) hX))
  have hcw := Aside0.mk (fun (X : World) (hX : Below WX.heap.size WX X) => vm_4c (blk_below hbw hX))
  have hMX := Aside0.mk (hM.out.came hBX)
  have hB0 : Aside0 (Below w.heap.size w WX) := ⟨below_step (below_step (below_alloc (pw_below_drewN (below_alloc (Below.refl w.heap.size w) _) (n1 + n2)) _) hBM.out) hBX⟩
  have hsz : Aside0 (WX.heap.size ≥ WM.heap.size) := ⟨hBX.size⟩
  have hq := Aside0.mk eqI24_9
  have hgd := Aside0.mk guard38
  clear hbw hBX hbs
  refine region_by (fun b us W_ => Below WX.heap.size WX W_) (by kernel_rfl) (by kernel_rfl) ⟨fun _ => undef, below_drew (Below.refl _ _)⟩ ?_
  (refine rb_want (fun us => rfl) ?_; apply Exists.intro; apply And.intro; (focus (apply rb_pure; (focus (intro b us w h; exact h)); intro b us W_ hC; go_simp; rfl)); apply Exists.intro; apply And.intro; (focus (intro us; simp only [Act.put, List.setIfInBounds_toArray, List.set_cons_zero, List.set_cons_succ]; rfl)))
  (refine rb_want (fun us => rfl) ?_; apply Exists.intro; apply And.intro; (focus (apply rb_pure; (focus (intro b us w h; exact h)); intro b us W_ hC; have y := hcs.out W_ hC; obtain ⟨y0, y1, y2, y3⟩ := y; have z := hcw.out W_ hC; obtain ⟨z0, z1, z2, z3⟩ := z; go_simp; rfl)); apply Exists.intro; apply And.intro; (focus (intro us; simp only [Act.put, List.setIfInBounds_toArray, List.set_cons_zero, List.set_cons_succ]; rfl)))
  (refine rb_want (fun us => rfl) ?_; apply Exists.intro; apply And.intro; (focus (apply rb_pure; (focus (intro b us w h; exact h)); intro b us W_ hC; go_simp; rfl)); apply Exists.intro; apply And.intro; (focus (intro us; simp only [Act.put, List.setIfInBounds_toArray, List.set_cons_zero, List.set_cons_succ]; rfl)))
  (refine rb_want (fun us => rfl) ⟨.agg #[.int .i64 1, .int .i64 x, .int .i64 c1, .int .i64 c2, .int .i64 c3, .int .i64 c2, .int .i64 4], rb_call (f := 26) (args := fun us => #[.pointer (some ⟨gm, 0, none⟩), .agg #[.int .i64 c0, .int .i64 c1, .int .i64 c2, .int .i64 c3], .int .i64 3, .int .i64 x, .int .i64 4]) (fun us W_ => ?_) (fun b us W_ hb hon hC => ?_), ?_⟩; (focus (exact rb_enters Try.func26 (by kernel_rfl) rfl (by rfl) W_)); (focus (refine (vm_Step4 (hMX.out.came hC) (Nat.le_trans (by have := hBM.out.size; have := hsz.out; omega) hC.size) (by decide) c0 c1 c2 c3 3 x 4 1 x c1 c2 c3 c2 4 hv.out (by decide)).mono ?_; rintro e w1 ⟨rfl, hbw⟩; exact ⟨rfl, below_step hC hbw⟩)); apply Exists.intro; apply And.intro; (focus (intro us; simp only [Act.put, List.setIfInBounds_toArray, List.set_cons_zero, List.set_cons_succ]; rfl)))
  (refine rb_want (fun us => rfl) ?_; apply Exists.intro; apply And.intro; (focus (apply rb_pure; (focus (intro b us w h; exact h)); intro b us W_ hC; have y := hcs.out W_ hC; obtain ⟨y0, y1, y2, y3⟩ := y; have z := hcw.out W_ hC; obtain ⟨z0, z1, z2, z3⟩ := z; go_simp; rfl)); apply Exists.intro; apply And.intro; (focus (intro us; simp only [Act.put, List.setIfInBounds_toArray, List.set_cons_zero, List.set_cons_succ]; rfl)))
  (refine rb_want (fun us => rfl) ?_; apply Exists.intro; apply And.intro; (focus (apply rb_pure; (focus (intro b us w h; exact h)); intro b us W_ hC; go_simp; rfl)); apply Exists.intro; apply And.intro; (focus (intro us; simp only [Act.put, List.setIfInBounds_toArray, List.set_cons_zero, List.set_cons_succ]; rfl)))
  (refine rb_want (fun us => rfl) ?_; apply Exists.intro; apply And.intro; (focus (apply rb_pure; (focus (intro b us w h; exact h)); intro b us W_ hC; go_simp; rfl)); apply Exists.intro; apply And.intro; (focus (intro us; simp only [Act.put, List.setIfInBounds_toArray, List.set_cons_zero, List.set_cons_succ]; rfl)))
  (refine rb_want (fun us => rfl) ?_; apply Exists.intro; apply And.intro; (focus (apply rb_pure; (focus (intro b us w h; exact h)); intro b us W_ hC; have y := hcs.out W_ hC; obtain ⟨y0, y1, y2, y3⟩ := y; have z := hcw.out W_ hC; obtain ⟨z0, z1, z2, z3⟩ := z; go_simp; rfl)); apply Exists.intro; apply And.intro; (focus (intro us; simp only [Act.put, List.setIfInBounds_toArray, List.set_cons_zero, List.set_cons_succ]; rfl)))
  (refine rb_want (fun us => rfl) ?_; apply Exists.intro; apply And.intro; (focus (apply rb_pure; (focus (intro b us w h; exact h)); intro b us W_ hC; go_simp; rfl)); apply Exists.intro; apply And.intro; (focus (intro us; simp only [Act.put, List.setIfInBounds_toArray, List.set_cons_zero, List.set_cons_succ]; rfl)))
  (refine rb_want (fun us => rfl) ?_; apply Exists.intro; apply And.intro; (focus (apply rb_pure; (focus (intro b us w h; exact h)); intro b us W_ hC; have q := hq.out W_; have q2 := hgd.out; go_simp; rfl)); apply Exists.intro; apply And.intro; (focus (intro us; simp only [Act.put, List.setIfInBounds_toArray, List.set_cons_zero, List.set_cons_succ]; rfl)))
  (refine rb_want (fun us => rfl) ?_; apply Exists.intro; apply And.intro; (focus (apply rb_pure; (focus (intro b us w h; exact h)); intro b us W_ hC; go_simp; rfl)); apply Exists.intro; apply And.intro; (focus (intro us; simp only [Act.put, List.setIfInBounds_toArray, List.set_cons_zero, List.set_cons_succ]; rfl)))
  (refine rb_want (fun us => rfl) ⟨.bool true, rb_call (f := 29) (args := fun us => #[]) (fun us W_ => ?_) (fun b us W_ hb hon hC => ?_), ?_⟩; (focus (exact rb_enters Try.func29 (by kernel_rfl) rfl (by rfl) W_)); (focus (refine (vm_lives W_).mono ?_; rintro e w1 ⟨rfl, hbw⟩; exact ⟨rfl, below_step hC hbw⟩)); apply Exists.intro; apply And.intro; (focus (intro us; simp only [Act.put, List.setIfInBounds_toArray, List.set_cons_zero, List.set_cons_succ]; rfl)))
  (refine rb_want (fun us => rfl) ?_; apply Exists.intro; apply And.intro; (focus (apply rb_pure; (focus (intro b us w h; exact h)); intro b us W_ hC; go_simp; rfl)); apply Exists.intro; apply And.intro; (focus (intro us; simp only [Act.put, List.setIfInBounds_toArray, List.set_cons_zero, List.set_cons_succ]; rfl)))
  (refine rb_want (fun us => rfl) ?_; apply Exists.intro; apply And.intro; (focus (apply rb_pure; (focus (intro b us w h; exact h)); intro b us W_ hC; go_simp; rfl)); apply Exists.intro; apply And.intro; (focus (intro us; simp only [Act.put, List.setIfInBounds_toArray, List.set_cons_zero, List.set_cons_succ]; rfl)))
  refine rb_done (fun b us W_ hall hC => ?_)
  have hB8 := hC
  clear hC hall
  go_wp2
  go_ret
  exact ⟨rfl, below_step hB0.out hB8⟩
set_option maxRecDepth 100000 in
set_option maxHeartbeats 2000000 in
theorem vmCells_03 (c0 c1 c2 c3 at_ from_ x : Int) (w : World) (ha : inquestref01_Least.f at_ 0 3 = some 0) (hf : inquestref01_Least.f from_ 0 3 = some 3) :
    Calls Try.prog 8 #[.agg #[.int .i64 c0, .int .i64 c1, .int .i64 c2, .int .i64 c3], .int .i64 at_, .int .i64 from_, .int .i64 x] w fun e w' => e = .returned (.bool true) ∧ Below w.heap.size w w' := by
  have ha' := Aside0.mk ha
  have hf' := Aside0.mk hf
  clear ha hf
  have hlit := fun w => vm_lit4 w 6 0 5 0 4 3 18 0
  have ht : Aside0 ((thru ([⟨6, 0⟩, ⟨5, 0⟩, ⟨4, 3⟩, ⟨18, 0⟩] : List S36)).2.2 = 0) := ⟨by decide +kernel⟩
  have hv : Aside0 (vstep [⟨6, 0⟩, ⟨5, 0⟩, ⟨4, 3⟩, ⟨18, 0⟩] [c0, c1, c2, c3] 3 x 4 = some (1, [x, c1, c2, c3], c3, 4)) := ⟨by kernel_rfl⟩
  go_enter Try.func8, Try.ntmps8
  go_wp2_with (first | (go_at_call 30; (with_reducible refine (inquestref01_Least.calls at_ 0 3 0 _ ha'.out).mono ?_); rintro e W1 ⟨rfl, ⟨n1, rfl⟩⟩) | (go_at_call 30; (with_reducible refine (inquestref01_Least.calls from_ 0 3 3 _ hf'.out).mono ?_); rintro e W1 ⟨rfl, ⟨n2, rfl⟩⟩) | (go_at_call 23; (with_reducible refine (vm_New_kn _ 4 4 [⟨6, 0⟩, ⟨5, 0⟩, ⟨4, 3⟩, ⟨18, 0⟩] _ rfl (by repeat (first | (with_reducible exact vm_litC4n _ _ (by simp) 6 0 5 0 4 3 18 0) | (with_reducible refine Kd.C_drewN ?_ _))) (by decide) (by decide) ht.out).mono ?_); rintro e WM ⟨gm, vM, rfl, hM, hBM⟩; have hbs := blk_below (blk_alloc (blk_drewN (blk_new w (.cells #[.int .i64 c0, .int .i64 c1, .int .i64 c2, .int .i64 c3] 24)) (n1 + n2)) _) hBM; have s0 := blk_cell hbs 0; have s1 := blk_cell hbs 1; have s2 := blk_cell hbs 2; have s3 := blk_cell hbs 3; simp only [List.getElem?_toArray, List.getElem?_cons_zero, List.getElem?_cons_succ] at s0 s1 s2 s3; replace hbs := Aside0.mk hbs; replace hM := Aside0.mk hM; replace hBM := Aside0.mk hBM))
  refine vm_gen _ (fun W => W.heap[WM.heap.size]? = some (.cells #[.int .i64 x, .int .i64 c1, .int .i64 c2, .int .i64 c3] 24 (0, 0)) ∧ Below WM.heap.size WM W) ⟨blk_new _ _, below_alloc (Below.refl _ _) _⟩ ?_
  clear s0 s1 s2 s3
  rintro WX ⟨hbw, hBX⟩
  have hcs := Aside0.mk (fun (X : World) (hX : Below WX.heap.size WX X) => vm_4c (blk_below (blk_below hbs.out hBX) hX))
  have hcw := Aside0.mk (fun (X : World) (hX : Below WX.heap.size WX X) => vm_4c (blk_below hbw hX))
  have hMX := Aside0.mk (hM.out.came hBX)
  have hB0 : Aside0 (Below w.heap.size w WX) := ⟨below_step (below_step (below_alloc (pw_below_drewN (below_alloc (Below.refl w.heap.size w) _) (n1 + n2)) _) hBM.out) hBX⟩
  have hsz : Aside0 (WX.heap.size ≥ WM.heap.size) := ⟨hBX.size⟩
  have hq := Aside0.mk eqI24_9
  have hgd := Aside0.mk guard38
  clear hbw hBX hbs
  refine region_by (fun b us W_ => Below WX.heap.size WX W_) (by kernel_rfl) (by kernel_rfl) ⟨fun _ => undef, below_drew (Below.refl _ _)⟩ ?_
  (refine rb_want (fun us => rfl) ?_; apply Exists.intro; apply And.intro; (focus (apply rb_pure; (focus (intro b us w h; exact h)); intro b us W_ hC; go_simp; rfl)); apply Exists.intro; apply And.intro; (focus (intro us; simp only [Act.put, List.setIfInBounds_toArray, List.set_cons_zero, List.set_cons_succ]; rfl)))
  (refine rb_want (fun us => rfl) ?_; apply Exists.intro; apply And.intro; (focus (apply rb_pure; (focus (intro b us w h; exact h)); intro b us W_ hC; have y := hcs.out W_ hC; obtain ⟨y0, y1, y2, y3⟩ := y; have z := hcw.out W_ hC; obtain ⟨z0, z1, z2, z3⟩ := z; go_simp; rfl)); apply Exists.intro; apply And.intro; (focus (intro us; simp only [Act.put, List.setIfInBounds_toArray, List.set_cons_zero, List.set_cons_succ]; rfl)))
  (refine rb_want (fun us => rfl) ?_; apply Exists.intro; apply And.intro; (focus (apply rb_pure; (focus (intro b us w h; exact h)); intro b us W_ hC; go_simp; rfl)); apply Exists.intro; apply And.intro; (focus (intro us; simp only [Act.put, List.setIfInBounds_toArray, List.set_cons_zero, List.set_cons_succ]; rfl)))
  (refine rb_want (fun us => rfl) ⟨.agg #[.int .i64 1, .int .i64 x, .int .i64 c1, .int .i64 c2, .int .i64 c3, .int .i64 c3, .int .i64 4], rb_call (f := 26) (args := fun us => #[.pointer (some ⟨gm, 0, none⟩), .agg #[.int .i64 c0, .int .i64 c1, .int .i64 c2, .int .i64 c3], .int .i64 3, .int .i64 x, .int .i64 4]) (fun us W_ => ?_) (fun b us W_ hb hon hC => ?_), ?_⟩; (focus (exact rb_enters Try.func26 (by kernel_rfl) rfl (by rfl) W_)); (focus (refine (vm_Step4 (hMX.out.came hC) (Nat.le_trans (by have := hBM.out.size; have := hsz.out; omega) hC.size) (by decide) c0 c1 c2 c3 3 x 4 1 x c1 c2 c3 c3 4 hv.out (by decide)).mono ?_; rintro e w1 ⟨rfl, hbw⟩; exact ⟨rfl, below_step hC hbw⟩)); apply Exists.intro; apply And.intro; (focus (intro us; simp only [Act.put, List.setIfInBounds_toArray, List.set_cons_zero, List.set_cons_succ]; rfl)))
  (refine rb_want (fun us => rfl) ?_; apply Exists.intro; apply And.intro; (focus (apply rb_pure; (focus (intro b us w h; exact h)); intro b us W_ hC; have y := hcs.out W_ hC; obtain ⟨y0, y1, y2, y3⟩ := y; have z := hcw.out W_ hC; obtain ⟨z0, z1, z2, z3⟩ := z; go_simp; rfl)); apply Exists.intro; apply And.intro; (focus (intro us; simp only [Act.put, List.setIfInBounds_toArray, List.set_cons_zero, List.set_cons_succ]; rfl)))
  (refine rb_want (fun us => rfl) ?_; apply Exists.intro; apply And.intro; (focus (apply rb_pure; (focus (intro b us w h; exact h)); intro b us W_ hC; go_simp; rfl)); apply Exists.intro; apply And.intro; (focus (intro us; simp only [Act.put, List.setIfInBounds_toArray, List.set_cons_zero, List.set_cons_succ]; rfl)))
  (refine rb_want (fun us => rfl) ?_; apply Exists.intro; apply And.intro; (focus (apply rb_pure; (focus (intro b us w h; exact h)); intro b us W_ hC; go_simp; rfl)); apply Exists.intro; apply And.intro; (focus (intro us; simp only [Act.put, List.setIfInBounds_toArray, List.set_cons_zero, List.set_cons_succ]; rfl)))
  (refine rb_want (fun us => rfl) ?_; apply Exists.intro; apply And.intro; (focus (apply rb_pure; (focus (intro b us w h; exact h)); intro b us W_ hC; have y := hcs.out W_ hC; obtain ⟨y0, y1, y2, y3⟩ := y; have z := hcw.out W_ hC; obtain ⟨z0, z1, z2, z3⟩ := z; go_simp; rfl)); apply Exists.intro; apply And.intro; (focus (intro us; simp only [Act.put, List.setIfInBounds_toArray, List.set_cons_zero, List.set_cons_succ]; rfl)))
  (refine rb_want (fun us => rfl) ?_; apply Exists.intro; apply And.intro; (focus (apply rb_pure; (focus (intro b us w h; exact h)); intro b us W_ hC; go_simp; rfl)); apply Exists.intro; apply And.intro; (focus (intro us; simp only [Act.put, List.setIfInBounds_toArray, List.set_cons_zero, List.set_cons_succ]; rfl)))
  (refine rb_want (fun us => rfl) ?_; apply Exists.intro; apply And.intro; (focus (apply rb_pure; (focus (intro b us w h; exact h)); intro b us W_ hC; have q := hq.out W_; have q2 := hgd.out; go_simp; rfl)); apply Exists.intro; apply And.intro; (focus (intro us; simp only [Act.put, List.setIfInBounds_toArray, List.set_cons_zero, List.set_cons_succ]; rfl)))
  (refine rb_want (fun us => rfl) ?_; apply Exists.intro; apply And.intro; (focus (apply rb_pure; (focus (intro b us w h; exact h)); intro b us W_ hC; go_simp; rfl)); apply Exists.intro; apply And.intro; (focus (intro us; simp only [Act.put, List.setIfInBounds_toArray, List.set_cons_zero, List.set_cons_succ]; rfl)))
  (refine rb_want (fun us => rfl) ⟨.bool true, rb_call (f := 29) (args := fun us => #[]) (fun us W_ => ?_) (fun b us W_ hb hon hC => ?_), ?_⟩; (focus (exact rb_enters Try.func29 (by kernel_rfl) rfl (by rfl) W_)); (focus (refine (vm_lives W_).mono ?_; rintro e w1 ⟨rfl, hbw⟩; exact ⟨rfl, below_step hC hbw⟩)); apply Exists.intro; apply And.intro; (focus (intro us; simp only [Act.put, List.setIfInBounds_toArray, List.set_cons_zero, List.set_cons_succ]; rfl)))
  (refine rb_want (fun us => rfl) ?_; apply Exists.intro; apply And.intro; (focus (apply rb_pure; (focus (intro b us w h; exact h)); intro b us W_ hC; go_simp; rfl)); apply Exists.intro; apply And.intro; (focus (intro us; simp only [Act.put, List.setIfInBounds_toArray, List.set_cons_zero, List.set_cons_succ]; rfl)))
  (refine rb_want (fun us => rfl) ?_; apply Exists.intro; apply And.intro; (focus (apply rb_pure; (focus (intro b us w h; exact h)); intro b us W_ hC; go_simp; rfl)); apply Exists.intro; apply And.intro; (focus (intro us; simp only [Act.put, List.setIfInBounds_toArray, List.set_cons_zero, List.set_cons_succ]; rfl)))
  refine rb_done (fun b us W_ hall hC => ?_)
  have hB8 := hC
  clear hC hall
  go_wp2
  go_ret
  exact ⟨rfl, below_step hB0.out hB8⟩
set_option maxRecDepth 100000 in
set_option maxHeartbeats 2000000 in
theorem vmCells_10 (c0 c1 c2 c3 at_ from_ x : Int) (w : World) (ha : inquestref01_Least.f at_ 0 3 = some 1) (hf : inquestref01_Least.f from_ 0 3 = some 0) :
    Calls Try.prog 8 #[.agg #[.int .i64 c0, .int .i64 c1, .int .i64 c2, .int .i64 c3], .int .i64 at_, .int .i64 from_, .int .i64 x] w fun e w' => e = .returned (.bool true) ∧ Below w.heap.size w w' := by
  have ha' := Aside0.mk ha
  have hf' := Aside0.mk hf
  clear ha hf
  have hlit := fun w => vm_lit4 w 6 0 5 1 4 0 18 0
  have ht : Aside0 ((thru ([⟨6, 0⟩, ⟨5, 1⟩, ⟨4, 0⟩, ⟨18, 0⟩] : List S36)).2.2 = 0) := ⟨by decide +kernel⟩
  have hv : Aside0 (vstep [⟨6, 0⟩, ⟨5, 1⟩, ⟨4, 0⟩, ⟨18, 0⟩] [c0, c1, c2, c3] 3 x 4 = some (1, [c0, x, c2, c3], c0, 4)) := ⟨by kernel_rfl⟩
  go_enter Try.func8, Try.ntmps8
  go_wp2_with (first | (go_at_call 30; (with_reducible refine (inquestref01_Least.calls at_ 0 3 1 _ ha'.out).mono ?_); rintro e W1 ⟨rfl, ⟨n1, rfl⟩⟩) | (go_at_call 30; (with_reducible refine (inquestref01_Least.calls from_ 0 3 0 _ hf'.out).mono ?_); rintro e W1 ⟨rfl, ⟨n2, rfl⟩⟩) | (go_at_call 23; (with_reducible refine (vm_New_kn _ 4 4 [⟨6, 0⟩, ⟨5, 1⟩, ⟨4, 0⟩, ⟨18, 0⟩] _ rfl (by repeat (first | (with_reducible exact vm_litC4n _ _ (by simp) 6 0 5 1 4 0 18 0) | (with_reducible refine Kd.C_drewN ?_ _))) (by decide) (by decide) ht.out).mono ?_); rintro e WM ⟨gm, vM, rfl, hM, hBM⟩; have hbs := blk_below (blk_alloc (blk_drewN (blk_new w (.cells #[.int .i64 c0, .int .i64 c1, .int .i64 c2, .int .i64 c3] 24)) (n1 + n2)) _) hBM; have s0 := blk_cell hbs 0; have s1 := blk_cell hbs 1; have s2 := blk_cell hbs 2; have s3 := blk_cell hbs 3; simp only [List.getElem?_toArray, List.getElem?_cons_zero, List.getElem?_cons_succ] at s0 s1 s2 s3; replace hbs := Aside0.mk hbs; replace hM := Aside0.mk hM; replace hBM := Aside0.mk hBM))
  refine vm_gen _ (fun W => W.heap[WM.heap.size]? = some (.cells #[.int .i64 c0, .int .i64 x, .int .i64 c2, .int .i64 c3] 24 (0, 0)) ∧ Below WM.heap.size WM W) ⟨blk_new _ _, below_alloc (Below.refl _ _) _⟩ ?_
  clear s0 s1 s2 s3
  rintro WX ⟨hbw, hBX⟩
  have hcs := Aside0.mk (fun (X : World) (hX : Below WX.heap.size WX X) => vm_4c (blk_below (blk_below hbs.out hBX) hX))
  have hcw := Aside0.mk (fun (X : World) (hX : Below WX.heap.size WX X) => vm_4c (blk_below hbw hX))
  have hMX := Aside0.mk (hM.out.came hBX)
  have hB0 : Aside0 (Below w.heap.size w WX) := ⟨below_step (below_step (below_alloc (pw_below_drewN (below_alloc (Below.refl w.heap.size w) _) (n1 + n2)) _) hBM.out) hBX⟩
  have hsz : Aside0 (WX.heap.size ≥ WM.heap.size) := ⟨hBX.size⟩
  have hq := Aside0.mk eqI24_9
  have hgd := Aside0.mk guard38
  clear hbw hBX hbs
  refine region_by (fun b us W_ => Below WX.heap.size WX W_) (by kernel_rfl) (by kernel_rfl) ⟨fun _ => undef, below_drew (Below.refl _ _)⟩ ?_
  (refine rb_want (fun us => rfl) ?_; apply Exists.intro; apply And.intro; (focus (apply rb_pure; (focus (intro b us w h; exact h)); intro b us W_ hC; go_simp; rfl)); apply Exists.intro; apply And.intro; (focus (intro us; simp only [Act.put, List.setIfInBounds_toArray, List.set_cons_zero, List.set_cons_succ]; rfl)))
  (refine rb_want (fun us => rfl) ?_; apply Exists.intro; apply And.intro; (focus (apply rb_pure; (focus (intro b us w h; exact h)); intro b us W_ hC; have y := hcs.out W_ hC; obtain ⟨y0, y1, y2, y3⟩ := y; have z := hcw.out W_ hC; obtain ⟨z0, z1, z2, z3⟩ := z; go_simp; rfl)); apply Exists.intro; apply And.intro; (focus (intro us; simp only [Act.put, List.setIfInBounds_toArray, List.set_cons_zero, List.set_cons_succ]; rfl)))
  (refine rb_want (fun us => rfl) ?_; apply Exists.intro; apply And.intro; (focus (apply rb_pure; (focus (intro b us w h; exact h)); intro b us W_ hC; go_simp; rfl)); apply Exists.intro; apply And.intro; (focus (intro us; simp only [Act.put, List.setIfInBounds_toArray, List.set_cons_zero, List.set_cons_succ]; rfl)))
  (refine rb_want (fun us => rfl) ⟨.agg #[.int .i64 1, .int .i64 c0, .int .i64 x, .int .i64 c2, .int .i64 c3, .int .i64 c0, .int .i64 4], rb_call (f := 26) (args := fun us => #[.pointer (some ⟨gm, 0, none⟩), .agg #[.int .i64 c0, .int .i64 c1, .int .i64 c2, .int .i64 c3], .int .i64 3, .int .i64 x, .int .i64 4]) (fun us W_ => ?_) (fun b us W_ hb hon hC => ?_), ?_⟩; (focus (exact rb_enters Try.func26 (by kernel_rfl) rfl (by rfl) W_)); (focus (refine (vm_Step4 (hMX.out.came hC) (Nat.le_trans (by have := hBM.out.size; have := hsz.out; omega) hC.size) (by decide) c0 c1 c2 c3 3 x 4 1 c0 x c2 c3 c0 4 hv.out (by decide)).mono ?_; rintro e w1 ⟨rfl, hbw⟩; exact ⟨rfl, below_step hC hbw⟩)); apply Exists.intro; apply And.intro; (focus (intro us; simp only [Act.put, List.setIfInBounds_toArray, List.set_cons_zero, List.set_cons_succ]; rfl)))
  (refine rb_want (fun us => rfl) ?_; apply Exists.intro; apply And.intro; (focus (apply rb_pure; (focus (intro b us w h; exact h)); intro b us W_ hC; have y := hcs.out W_ hC; obtain ⟨y0, y1, y2, y3⟩ := y; have z := hcw.out W_ hC; obtain ⟨z0, z1, z2, z3⟩ := z; go_simp; rfl)); apply Exists.intro; apply And.intro; (focus (intro us; simp only [Act.put, List.setIfInBounds_toArray, List.set_cons_zero, List.set_cons_succ]; rfl)))
  (refine rb_want (fun us => rfl) ?_; apply Exists.intro; apply And.intro; (focus (apply rb_pure; (focus (intro b us w h; exact h)); intro b us W_ hC; go_simp; rfl)); apply Exists.intro; apply And.intro; (focus (intro us; simp only [Act.put, List.setIfInBounds_toArray, List.set_cons_zero, List.set_cons_succ]; rfl)))
  (refine rb_want (fun us => rfl) ?_; apply Exists.intro; apply And.intro; (focus (apply rb_pure; (focus (intro b us w h; exact h)); intro b us W_ hC; go_simp; rfl)); apply Exists.intro; apply And.intro; (focus (intro us; simp only [Act.put, List.setIfInBounds_toArray, List.set_cons_zero, List.set_cons_succ]; rfl)))
  (refine rb_want (fun us => rfl) ?_; apply Exists.intro; apply And.intro; (focus (apply rb_pure; (focus (intro b us w h; exact h)); intro b us W_ hC; have y := hcs.out W_ hC; obtain ⟨y0, y1, y2, y3⟩ := y; have z := hcw.out W_ hC; obtain ⟨z0, z1, z2, z3⟩ := z; go_simp; rfl)); apply Exists.intro; apply And.intro; (focus (intro us; simp only [Act.put, List.setIfInBounds_toArray, List.set_cons_zero, List.set_cons_succ]; rfl)))
  (refine rb_want (fun us => rfl) ?_; apply Exists.intro; apply And.intro; (focus (apply rb_pure; (focus (intro b us w h; exact h)); intro b us W_ hC; go_simp; rfl)); apply Exists.intro; apply And.intro; (focus (intro us; simp only [Act.put, List.setIfInBounds_toArray, List.set_cons_zero, List.set_cons_succ]; rfl)))
  (refine rb_want (fun us => rfl) ?_; apply Exists.intro; apply And.intro; (focus (apply rb_pure; (focus (intro b us w h; exact h)); intro b us W_ hC; have q := hq.out W_; have q2 := hgd.out; go_simp; rfl)); apply Exists.intro; apply And.intro; (focus (intro us; simp only [Act.put, List.setIfInBounds_toArray, List.set_cons_zero, List.set_cons_succ]; rfl)))
  (refine rb_want (fun us => rfl) ?_; apply Exists.intro; apply And.intro; (focus (apply rb_pure; (focus (intro b us w h; exact h)); intro b us W_ hC; go_simp; rfl)); apply Exists.intro; apply And.intro; (focus (intro us; simp only [Act.put, List.setIfInBounds_toArray, List.set_cons_zero, List.set_cons_succ]; rfl)))
  (refine rb_want (fun us => rfl) ⟨.bool true, rb_call (f := 29) (args := fun us => #[]) (fun us W_ => ?_) (fun b us W_ hb hon hC => ?_), ?_⟩; (focus (exact rb_enters Try.func29 (by kernel_rfl) rfl (by rfl) W_)); (focus (refine (vm_lives W_).mono ?_; rintro e w1 ⟨rfl, hbw⟩; exact ⟨rfl, below_step hC hbw⟩)); apply Exists.intro; apply And.intro; (focus (intro us; simp only [Act.put, List.setIfInBounds_toArray, List.set_cons_zero, List.set_cons_succ]; rfl)))
  (refine rb_want (fun us => rfl) ?_; apply Exists.intro; apply And.intro; (focus (apply rb_pure; (focus (intro b us w h; exact h)); intro b us W_ hC; go_simp; rfl)); apply Exists.intro; apply And.intro; (focus (intro us; simp only [Act.put, List.setIfInBounds_toArray, List.set_cons_zero, List.set_cons_succ]; rfl)))
  (refine rb_want (fun us => rfl) ?_; apply Exists.intro; apply And.intro; (focus (apply rb_pure; (focus (intro b us w h; exact h)); intro b us W_ hC; go_simp; rfl)); apply Exists.intro; apply And.intro; (focus (intro us; simp only [Act.put, List.setIfInBounds_toArray, List.set_cons_zero, List.set_cons_succ]; rfl)))
  refine rb_done (fun b us W_ hall hC => ?_)
  have hB8 := hC
  clear hC hall
  go_wp2
  go_ret
  exact ⟨rfl, below_step hB0.out hB8⟩
set_option maxRecDepth 100000 in
set_option maxHeartbeats 2000000 in
theorem vmCells_11 (c0 c1 c2 c3 at_ from_ x : Int) (w : World) (ha : inquestref01_Least.f at_ 0 3 = some 1) (hf : inquestref01_Least.f from_ 0 3 = some 1) :
    Calls Try.prog 8 #[.agg #[.int .i64 c0, .int .i64 c1, .int .i64 c2, .int .i64 c3], .int .i64 at_, .int .i64 from_, .int .i64 x] w fun e w' => e = .returned (.bool true) ∧ Below w.heap.size w w' := by
  have ha' := Aside0.mk ha
  have hf' := Aside0.mk hf
  clear ha hf
  have hlit := fun w => vm_lit4 w 6 0 5 1 4 1 18 0
  have ht : Aside0 ((thru ([⟨6, 0⟩, ⟨5, 1⟩, ⟨4, 1⟩, ⟨18, 0⟩] : List S36)).2.2 = 0) := ⟨by decide +kernel⟩
  have hv : Aside0 (vstep [⟨6, 0⟩, ⟨5, 1⟩, ⟨4, 1⟩, ⟨18, 0⟩] [c0, c1, c2, c3] 3 x 4 = some (1, [c0, x, c2, c3], x, 4)) := ⟨by kernel_rfl⟩
  go_enter Try.func8, Try.ntmps8
  go_wp2_with (first | (go_at_call 30; (with_reducible refine (inquestref01_Least.calls at_ 0 3 1 _ ha'.out).mono ?_); rintro e W1 ⟨rfl, ⟨n1, rfl⟩⟩) | (go_at_call 30; (with_reducible refine (inquestref01_Least.calls from_ 0 3 1 _ hf'.out).mono ?_); rintro e W1 ⟨rfl, ⟨n2, rfl⟩⟩) | (go_at_call 23; (with_reducible refine (vm_New_kn _ 4 4 [⟨6, 0⟩, ⟨5, 1⟩, ⟨4, 1⟩, ⟨18, 0⟩] _ rfl (by repeat (first | (with_reducible exact vm_litC4n _ _ (by simp) 6 0 5 1 4 1 18 0) | (with_reducible refine Kd.C_drewN ?_ _))) (by decide) (by decide) ht.out).mono ?_); rintro e WM ⟨gm, vM, rfl, hM, hBM⟩; have hbs := blk_below (blk_alloc (blk_drewN (blk_new w (.cells #[.int .i64 c0, .int .i64 c1, .int .i64 c2, .int .i64 c3] 24)) (n1 + n2)) _) hBM; have s0 := blk_cell hbs 0; have s1 := blk_cell hbs 1; have s2 := blk_cell hbs 2; have s3 := blk_cell hbs 3; simp only [List.getElem?_toArray, List.getElem?_cons_zero, List.getElem?_cons_succ] at s0 s1 s2 s3; replace hbs := Aside0.mk hbs; replace hM := Aside0.mk hM; replace hBM := Aside0.mk hBM))
  refine vm_gen _ (fun W => W.heap[WM.heap.size]? = some (.cells #[.int .i64 c0, .int .i64 x, .int .i64 c2, .int .i64 c3] 24 (0, 0)) ∧ Below WM.heap.size WM W) ⟨blk_new _ _, below_alloc (Below.refl _ _) _⟩ ?_
  clear s0 s1 s2 s3
  rintro WX ⟨hbw, hBX⟩
  have hcs := Aside0.mk (fun (X : World) (hX : Below WX.heap.size WX X) => vm_4c (blk_below (blk_below hbs.out hBX) hX))
  have hcw := Aside0.mk (fun (X : World) (hX : Below WX.heap.size WX X) => vm_4c (blk_below hbw hX))
  have hMX := Aside0.mk (hM.out.came hBX)
  have hB0 : Aside0 (Below w.heap.size w WX) := ⟨below_step (below_step (below_alloc (pw_below_drewN (below_alloc (Below.refl w.heap.size w) _) (n1 + n2)) _) hBM.out) hBX⟩
  have hsz : Aside0 (WX.heap.size ≥ WM.heap.size) := ⟨hBX.size⟩
  have hq := Aside0.mk eqI24_9
  have hgd := Aside0.mk guard38
  clear hbw hBX hbs
  refine region_by (fun b us W_ => Below WX.heap.size WX W_) (by kernel_rfl) (by kernel_rfl) ⟨fun _ => undef, below_drew (Below.refl _ _)⟩ ?_
  (refine rb_want (fun us => rfl) ?_; apply Exists.intro; apply And.intro; (focus (apply rb_pure; (focus (intro b us w h; exact h)); intro b us W_ hC; go_simp; rfl)); apply Exists.intro; apply And.intro; (focus (intro us; simp only [Act.put, List.setIfInBounds_toArray, List.set_cons_zero, List.set_cons_succ]; rfl)))
  (refine rb_want (fun us => rfl) ?_; apply Exists.intro; apply And.intro; (focus (apply rb_pure; (focus (intro b us w h; exact h)); intro b us W_ hC; have y := hcs.out W_ hC; obtain ⟨y0, y1, y2, y3⟩ := y; have z := hcw.out W_ hC; obtain ⟨z0, z1, z2, z3⟩ := z; go_simp; rfl)); apply Exists.intro; apply And.intro; (focus (intro us; simp only [Act.put, List.setIfInBounds_toArray, List.set_cons_zero, List.set_cons_succ]; rfl)))
  (refine rb_want (fun us => rfl) ?_; apply Exists.intro; apply And.intro; (focus (apply rb_pure; (focus (intro b us w h; exact h)); intro b us W_ hC; go_simp; rfl)); apply Exists.intro; apply And.intro; (focus (intro us; simp only [Act.put, List.setIfInBounds_toArray, List.set_cons_zero, List.set_cons_succ]; rfl)))
  (refine rb_want (fun us => rfl) ⟨.agg #[.int .i64 1, .int .i64 c0, .int .i64 x, .int .i64 c2, .int .i64 c3, .int .i64 x, .int .i64 4], rb_call (f := 26) (args := fun us => #[.pointer (some ⟨gm, 0, none⟩), .agg #[.int .i64 c0, .int .i64 c1, .int .i64 c2, .int .i64 c3], .int .i64 3, .int .i64 x, .int .i64 4]) (fun us W_ => ?_) (fun b us W_ hb hon hC => ?_), ?_⟩; (focus (exact rb_enters Try.func26 (by kernel_rfl) rfl (by rfl) W_)); (focus (refine (vm_Step4 (hMX.out.came hC) (Nat.le_trans (by have := hBM.out.size; have := hsz.out; omega) hC.size) (by decide) c0 c1 c2 c3 3 x 4 1 c0 x c2 c3 x 4 hv.out (by decide)).mono ?_; rintro e w1 ⟨rfl, hbw⟩; exact ⟨rfl, below_step hC hbw⟩)); apply Exists.intro; apply And.intro; (focus (intro us; simp only [Act.put, List.setIfInBounds_toArray, List.set_cons_zero, List.set_cons_succ]; rfl)))
  (refine rb_want (fun us => rfl) ?_; apply Exists.intro; apply And.intro; (focus (apply rb_pure; (focus (intro b us w h; exact h)); intro b us W_ hC; have y := hcs.out W_ hC; obtain ⟨y0, y1, y2, y3⟩ := y; have z := hcw.out W_ hC; obtain ⟨z0, z1, z2, z3⟩ := z; go_simp; rfl)); apply Exists.intro; apply And.intro; (focus (intro us; simp only [Act.put, List.setIfInBounds_toArray, List.set_cons_zero, List.set_cons_succ]; rfl)))
  (refine rb_want (fun us => rfl) ?_; apply Exists.intro; apply And.intro; (focus (apply rb_pure; (focus (intro b us w h; exact h)); intro b us W_ hC; go_simp; rfl)); apply Exists.intro; apply And.intro; (focus (intro us; simp only [Act.put, List.setIfInBounds_toArray, List.set_cons_zero, List.set_cons_succ]; rfl)))
  (refine rb_want (fun us => rfl) ?_; apply Exists.intro; apply And.intro; (focus (apply rb_pure; (focus (intro b us w h; exact h)); intro b us W_ hC; go_simp; rfl)); apply Exists.intro; apply And.intro; (focus (intro us; simp only [Act.put, List.setIfInBounds_toArray, List.set_cons_zero, List.set_cons_succ]; rfl)))
  (refine rb_want (fun us => rfl) ?_; apply Exists.intro; apply And.intro; (focus (apply rb_pure; (focus (intro b us w h; exact h)); intro b us W_ hC; have y := hcs.out W_ hC; obtain ⟨y0, y1, y2, y3⟩ := y; have z := hcw.out W_ hC; obtain ⟨z0, z1, z2, z3⟩ := z; go_simp; rfl)); apply Exists.intro; apply And.intro; (focus (intro us; simp only [Act.put, List.setIfInBounds_toArray, List.set_cons_zero, List.set_cons_succ]; rfl)))
  (refine rb_want (fun us => rfl) ?_; apply Exists.intro; apply And.intro; (focus (apply rb_pure; (focus (intro b us w h; exact h)); intro b us W_ hC; go_simp; rfl)); apply Exists.intro; apply And.intro; (focus (intro us; simp only [Act.put, List.setIfInBounds_toArray, List.set_cons_zero, List.set_cons_succ]; rfl)))
  (refine rb_want (fun us => rfl) ?_; apply Exists.intro; apply And.intro; (focus (apply rb_pure; (focus (intro b us w h; exact h)); intro b us W_ hC; have q := hq.out W_; have q2 := hgd.out; go_simp; rfl)); apply Exists.intro; apply And.intro; (focus (intro us; simp only [Act.put, List.setIfInBounds_toArray, List.set_cons_zero, List.set_cons_succ]; rfl)))
  (refine rb_want (fun us => rfl) ?_; apply Exists.intro; apply And.intro; (focus (apply rb_pure; (focus (intro b us w h; exact h)); intro b us W_ hC; go_simp; rfl)); apply Exists.intro; apply And.intro; (focus (intro us; simp only [Act.put, List.setIfInBounds_toArray, List.set_cons_zero, List.set_cons_succ]; rfl)))
  (refine rb_want (fun us => rfl) ⟨.bool true, rb_call (f := 29) (args := fun us => #[]) (fun us W_ => ?_) (fun b us W_ hb hon hC => ?_), ?_⟩; (focus (exact rb_enters Try.func29 (by kernel_rfl) rfl (by rfl) W_)); (focus (refine (vm_lives W_).mono ?_; rintro e w1 ⟨rfl, hbw⟩; exact ⟨rfl, below_step hC hbw⟩)); apply Exists.intro; apply And.intro; (focus (intro us; simp only [Act.put, List.setIfInBounds_toArray, List.set_cons_zero, List.set_cons_succ]; rfl)))
  (refine rb_want (fun us => rfl) ?_; apply Exists.intro; apply And.intro; (focus (apply rb_pure; (focus (intro b us w h; exact h)); intro b us W_ hC; go_simp; rfl)); apply Exists.intro; apply And.intro; (focus (intro us; simp only [Act.put, List.setIfInBounds_toArray, List.set_cons_zero, List.set_cons_succ]; rfl)))
  (refine rb_want (fun us => rfl) ?_; apply Exists.intro; apply And.intro; (focus (apply rb_pure; (focus (intro b us w h; exact h)); intro b us W_ hC; go_simp; rfl)); apply Exists.intro; apply And.intro; (focus (intro us; simp only [Act.put, List.setIfInBounds_toArray, List.set_cons_zero, List.set_cons_succ]; rfl)))
  refine rb_done (fun b us W_ hall hC => ?_)
  have hB8 := hC
  clear hC hall
  go_wp2
  go_ret
  exact ⟨rfl, below_step hB0.out hB8⟩
set_option maxRecDepth 100000 in
set_option maxHeartbeats 2000000 in
theorem vmCells_12 (c0 c1 c2 c3 at_ from_ x : Int) (w : World) (ha : inquestref01_Least.f at_ 0 3 = some 1) (hf : inquestref01_Least.f from_ 0 3 = some 2) :
    Calls Try.prog 8 #[.agg #[.int .i64 c0, .int .i64 c1, .int .i64 c2, .int .i64 c3], .int .i64 at_, .int .i64 from_, .int .i64 x] w fun e w' => e = .returned (.bool true) ∧ Below w.heap.size w w' := by
  have ha' := Aside0.mk ha
  have hf' := Aside0.mk hf
  clear ha hf
  have hlit := fun w => vm_lit4 w 6 0 5 1 4 2 18 0
  have ht : Aside0 ((thru ([⟨6, 0⟩, ⟨5, 1⟩, ⟨4, 2⟩, ⟨18, 0⟩] : List S36)).2.2 = 0) := ⟨by decide +kernel⟩
  have hv : Aside0 (vstep [⟨6, 0⟩, ⟨5, 1⟩, ⟨4, 2⟩, ⟨18, 0⟩] [c0, c1, c2, c3] 3 x 4 = some (1, [c0, x, c2, c3], c2, 4)) := ⟨by kernel_rfl⟩
  go_enter Try.func8, Try.ntmps8
  go_wp2_with (first | (go_at_call 30; (with_reducible refine (inquestref01_Least.calls at_ 0 3 1 _ ha'.out).mono ?_); rintro e W1 ⟨rfl, ⟨n1, rfl⟩⟩) | (go_at_call 30; (with_reducible refine (inquestref01_Least.calls from_ 0 3 2 _ hf'.out).mono ?_); rintro e W1 ⟨rfl, ⟨n2, rfl⟩⟩) | (go_at_call 23; (with_reducible refine (vm_New_kn _ 4 4 [⟨6, 0⟩, ⟨5, 1⟩, ⟨4, 2⟩, ⟨18, 0⟩] _ rfl (by repeat (first | (with_reducible exact vm_litC4n _ _ (by simp) 6 0 5 1 4 2 18 0) | (with_reducible refine Kd.C_drewN ?_ _))) (by decide) (by decide) ht.out).mono ?_); rintro e WM ⟨gm, vM, rfl, hM, hBM⟩; have hbs := blk_below (blk_alloc (blk_drewN (blk_new w (.cells #[.int .i64 c0, .int .i64 c1, .int .i64 c2, .int .i64 c3] 24)) (n1 + n2)) _) hBM; have s0 := blk_cell hbs 0; have s1 := blk_cell hbs 1; have s2 := blk_cell hbs 2; have s3 := blk_cell hbs 3; simp only [List.getElem?_toArray, List.getElem?_cons_zero, List.getElem?_cons_succ] at s0 s1 s2 s3; replace hbs := Aside0.mk hbs; replace hM := Aside0.mk hM; replace hBM := Aside0.mk hBM))
  refine vm_gen _ (fun W => W.heap[WM.heap.size]? = some (.cells #[.int .i64 c0, .int .i64 x, .int .i64 c2, .int .i64 c3] 24 (0, 0)) ∧ Below WM.heap.size WM W) ⟨blk_new _ _, below_alloc (Below.refl _ _) _⟩ ?_
  clear s0 s1 s2 s3
  rintro WX ⟨hbw, hBX⟩
  have hcs := Aside0.mk (fun (X : World) (hX : Below WX.heap.size WX X) => vm_4c (blk_below (blk_below hbs.out hBX) hX))
  have hcw := Aside0.mk (fun (X : World) (hX : Below WX.heap.size WX X) => vm_4c (blk_below hbw hX))
  have hMX := Aside0.mk (hM.out.came hBX)
  have hB0 : Aside0 (Below w.heap.size w WX) := ⟨below_step (below_step (below_alloc (pw_below_drewN (below_alloc (Below.refl w.heap.size w) _) (n1 + n2)) _) hBM.out) hBX⟩
  have hsz : Aside0 (WX.heap.size ≥ WM.heap.size) := ⟨hBX.size⟩
  have hq := Aside0.mk eqI24_9
  have hgd := Aside0.mk guard38
  clear hbw hBX hbs
  refine region_by (fun b us W_ => Below WX.heap.size WX W_) (by kernel_rfl) (by kernel_rfl) ⟨fun _ => undef, below_drew (Below.refl _ _)⟩ ?_
  (refine rb_want (fun us => rfl) ?_; apply Exists.intro; apply And.intro; (focus (apply rb_pure; (focus (intro b us w h; exact h)); intro b us W_ hC; go_simp; rfl)); apply Exists.intro; apply And.intro; (focus (intro us; simp only [Act.put, List.setIfInBounds_toArray, List.set_cons_zero, List.set_cons_succ]; rfl)))
  (refine rb_want (fun us => rfl) ?_; apply Exists.intro; apply And.intro; (focus (apply rb_pure; (focus (intro b us w h; exact h)); intro b us W_ hC; have y := hcs.out W_ hC; obtain ⟨y0, y1, y2, y3⟩ := y; have z := hcw.out W_ hC; obtain ⟨z0, z1, z2, z3⟩ := z; go_simp; rfl)); apply Exists.intro; apply And.intro; (focus (intro us; simp only [Act.put, List.setIfInBounds_toArray, List.set_cons_zero, List.set_cons_succ]; rfl)))
  (refine rb_want (fun us => rfl) ?_; apply Exists.intro; apply And.intro; (focus (apply rb_pure; (focus (intro b us w h; exact h)); intro b us W_ hC; go_simp; rfl)); apply Exists.intro; apply And.intro; (focus (intro us; simp only [Act.put, List.setIfInBounds_toArray, List.set_cons_zero, List.set_cons_succ]; rfl)))
  (refine rb_want (fun us => rfl) ⟨.agg #[.int .i64 1, .int .i64 c0, .int .i64 x, .int .i64 c2, .int .i64 c3, .int .i64 c2, .int .i64 4], rb_call (f := 26) (args := fun us => #[.pointer (some ⟨gm, 0, none⟩), .agg #[.int .i64 c0, .int .i64 c1, .int .i64 c2, .int .i64 c3], .int .i64 3, .int .i64 x, .int .i64 4]) (fun us W_ => ?_) (fun b us W_ hb hon hC => ?_), ?_⟩; (focus (exact rb_enters Try.func26 (by kernel_rfl) rfl (by rfl) W_)); (focus (refine (vm_Step4 (hMX.out.came hC) (Nat.le_trans (by have := hBM.out.size; have := hsz.out; omega) hC.size) (by decide) c0 c1 c2 c3 3 x 4 1 c0 x c2 c3 c2 4 hv.out (by decide)).mono ?_; rintro e w1 ⟨rfl, hbw⟩; exact ⟨rfl, below_step hC hbw⟩)); apply Exists.intro; apply And.intro; (focus (intro us; simp only [Act.put, List.setIfInBounds_toArray, List.set_cons_zero, List.set_cons_succ]; rfl)))
  (refine rb_want (fun us => rfl) ?_; apply Exists.intro; apply And.intro; (focus (apply rb_pure; (focus (intro b us w h; exact h)); intro b us W_ hC; have y := hcs.out W_ hC; obtain ⟨y0, y1, y2, y3⟩ := y; have z := hcw.out W_ hC; obtain ⟨z0, z1, z2, z3⟩ := z; go_simp; rfl)); apply Exists.intro; apply And.intro; (focus (intro us; simp only [Act.put, List.setIfInBounds_toArray, List.set_cons_zero, List.set_cons_succ]; rfl)))
  (refine rb_want (fun us => rfl) ?_; apply Exists.intro; apply And.intro; (focus (apply rb_pure; (focus (intro b us w h; exact h)); intro b us W_ hC; go_simp; rfl)); apply Exists.intro; apply And.intro; (focus (intro us; simp only [Act.put, List.setIfInBounds_toArray, List.set_cons_zero, List.set_cons_succ]; rfl)))
  (refine rb_want (fun us => rfl) ?_; apply Exists.intro; apply And.intro; (focus (apply rb_pure; (focus (intro b us w h; exact h)); intro b us W_ hC; go_simp; rfl)); apply Exists.intro; apply And.intro; (focus (intro us; simp only [Act.put, List.setIfInBounds_toArray, List.set_cons_zero, List.set_cons_succ]; rfl)))
  (refine rb_want (fun us => rfl) ?_; apply Exists.intro; apply And.intro; (focus (apply rb_pure; (focus (intro b us w h; exact h)); intro b us W_ hC; have y := hcs.out W_ hC; obtain ⟨y0, y1, y2, y3⟩ := y; have z := hcw.out W_ hC; obtain ⟨z0, z1, z2, z3⟩ := z; go_simp; rfl)); apply Exists.intro; apply And.intro; (focus (intro us; simp only [Act.put, List.setIfInBounds_toArray, List.set_cons_zero, List.set_cons_succ]; rfl)))
  (refine rb_want (fun us => rfl) ?_; apply Exists.intro; apply And.intro; (focus (apply rb_pure; (focus (intro b us w h; exact h)); intro b us W_ hC; go_simp; rfl)); apply Exists.intro; apply And.intro; (focus (intro us; simp only [Act.put, List.setIfInBounds_toArray, List.set_cons_zero, List.set_cons_succ]; rfl)))
  (refine rb_want (fun us => rfl) ?_; apply Exists.intro; apply And.intro; (focus (apply rb_pure; (focus (intro b us w h; exact h)); intro b us W_ hC; have q := hq.out W_; have q2 := hgd.out; go_simp; rfl)); apply Exists.intro; apply And.intro; (focus (intro us; simp only [Act.put, List.setIfInBounds_toArray, List.set_cons_zero, List.set_cons_succ]; rfl)))
  (refine rb_want (fun us => rfl) ?_; apply Exists.intro; apply And.intro; (focus (apply rb_pure; (focus (intro b us w h; exact h)); intro b us W_ hC; go_simp; rfl)); apply Exists.intro; apply And.intro; (focus (intro us; simp only [Act.put, List.setIfInBounds_toArray, List.set_cons_zero, List.set_cons_succ]; rfl)))
  (refine rb_want (fun us => rfl) ⟨.bool true, rb_call (f := 29) (args := fun us => #[]) (fun us W_ => ?_) (fun b us W_ hb hon hC => ?_), ?_⟩; (focus (exact rb_enters Try.func29 (by kernel_rfl) rfl (by rfl) W_)); (focus (refine (vm_lives W_).mono ?_; rintro e w1 ⟨rfl, hbw⟩; exact ⟨rfl, below_step hC hbw⟩)); apply Exists.intro; apply And.intro; (focus (intro us; simp only [Act.put, List.setIfInBounds_toArray, List.set_cons_zero, List.set_cons_succ]; rfl)))
  (refine rb_want (fun us => rfl) ?_; apply Exists.intro; apply And.intro; (focus (apply rb_pure; (focus (intro b us w h; exact h)); intro b us W_ hC; go_simp; rfl)); apply Exists.intro; apply And.intro; (focus (intro us; simp only [Act.put, List.setIfInBounds_toArray, List.set_cons_zero, List.set_cons_succ]; rfl)))
  (refine rb_want (fun us => rfl) ?_; apply Exists.intro; apply And.intro; (focus (apply rb_pure; (focus (intro b us w h; exact h)); intro b us W_ hC; go_simp; rfl)); apply Exists.intro; apply And.intro; (focus (intro us; simp only [Act.put, List.setIfInBounds_toArray, List.set_cons_zero, List.set_cons_succ]; rfl)))
  refine rb_done (fun b us W_ hall hC => ?_)
  have hB8 := hC
  clear hC hall
  go_wp2
  go_ret
  exact ⟨rfl, below_step hB0.out hB8⟩
set_option maxRecDepth 100000 in
set_option maxHeartbeats 2000000 in
theorem vmCells_13 (c0 c1 c2 c3 at_ from_ x : Int) (w : World) (ha : inquestref01_Least.f at_ 0 3 = some 1) (hf : inquestref01_Least.f from_ 0 3 = some 3) :
    Calls Try.prog 8 #[.agg #[.int .i64 c0, .int .i64 c1, .int .i64 c2, .int .i64 c3], .int .i64 at_, .int .i64 from_, .int .i64 x] w fun e w' => e = .returned (.bool true) ∧ Below w.heap.size w w' := by
  have ha' := Aside0.mk ha
  have hf' := Aside0.mk hf
  clear ha hf
  have hlit := fun w => vm_lit4 w 6 0 5 1 4 3 18 0
  have ht : Aside0 ((thru ([⟨6, 0⟩, ⟨5, 1⟩, ⟨4, 3⟩, ⟨18, 0⟩] : List S36)).2.2 = 0) := ⟨by decide +kernel⟩
  have hv : Aside0 (vstep [⟨6, 0⟩, ⟨5, 1⟩, ⟨4, 3⟩, ⟨18, 0⟩] [c0, c1, c2, c3] 3 x 4 = some (1, [c0, x, c2, c3], c3, 4)) := ⟨by kernel_rfl⟩
  go_enter Try.func8, Try.ntmps8
  go_wp2_with (first | (go_at_call 30; (with_reducible refine (inquestref01_Least.calls at_ 0 3 1 _ ha'.out).mono ?_); rintro e W1 ⟨rfl, ⟨n1, rfl⟩⟩) | (go_at_call 30; (with_reducible refine (inquestref01_Least.calls from_ 0 3 3 _ hf'.out).mono ?_); rintro e W1 ⟨rfl, ⟨n2, rfl⟩⟩) | (go_at_call 23; (with_reducible refine (vm_New_kn _ 4 4 [⟨6, 0⟩, ⟨5, 1⟩, ⟨4, 3⟩, ⟨18, 0⟩] _ rfl (by repeat (first | (with_reducible exact vm_litC4n _ _ (by simp) 6 0 5 1 4 3 18 0) | (with_reducible refine Kd.C_drewN ?_ _))) (by decide) (by decide) ht.out).mono ?_); rintro e WM ⟨gm, vM, rfl, hM, hBM⟩; have hbs := blk_below (blk_alloc (blk_drewN (blk_new w (.cells #[.int .i64 c0, .int .i64 c1, .int .i64 c2, .int .i64 c3] 24)) (n1 + n2)) _) hBM; have s0 := blk_cell hbs 0; have s1 := blk_cell hbs 1; have s2 := blk_cell hbs 2; have s3 := blk_cell hbs 3; simp only [List.getElem?_toArray, List.getElem?_cons_zero, List.getElem?_cons_succ] at s0 s1 s2 s3; replace hbs := Aside0.mk hbs; replace hM := Aside0.mk hM; replace hBM := Aside0.mk hBM))
  refine vm_gen _ (fun W => W.heap[WM.heap.size]? = some (.cells #[.int .i64 c0, .int .i64 x, .int .i64 c2, .int .i64 c3] 24 (0, 0)) ∧ Below WM.heap.size WM W) ⟨blk_new _ _, below_alloc (Below.refl _ _) _⟩ ?_
  clear s0 s1 s2 s3
  rintro WX ⟨hbw, hBX⟩
  have hcs := Aside0.mk (fun (X : World) (hX : Below WX.heap.size WX X) => vm_4c (blk_below (blk_below hbs.out hBX) hX))
  have hcw := Aside0.mk (fun (X : World) (hX : Below WX.heap.size WX X) => vm_4c (blk_below hbw hX))
  have hMX := Aside0.mk (hM.out.came hBX)
  have hB0 : Aside0 (Below w.heap.size w WX) := ⟨below_step (below_step (below_alloc (pw_below_drewN (below_alloc (Below.refl w.heap.size w) _) (n1 + n2)) _) hBM.out) hBX⟩
  have hsz : Aside0 (WX.heap.size ≥ WM.heap.size) := ⟨hBX.size⟩
  have hq := Aside0.mk eqI24_9
  have hgd := Aside0.mk guard38
  clear hbw hBX hbs
  refine region_by (fun b us W_ => Below WX.heap.size WX W_) (by kernel_rfl) (by kernel_rfl) ⟨fun _ => undef, below_drew (Below.refl _ _)⟩ ?_
  (refine rb_want (fun us => rfl) ?_; apply Exists.intro; apply And.intro; (focus (apply rb_pure; (focus (intro b us w h; exact h)); intro b us W_ hC; go_simp; rfl)); apply Exists.intro; apply And.intro; (focus (intro us; simp only [Act.put, List.setIfInBounds_toArray, List.set_cons_zero, List.set_cons_succ]; rfl)))
  (refine rb_want (fun us => rfl) ?_; apply Exists.intro; apply And.intro; (focus (apply rb_pure; (focus (intro b us w h; exact h)); intro b us W_ hC; have y := hcs.out W_ hC; obtain ⟨y0, y1, y2, y3⟩ := y; have z := hcw.out W_ hC; obtain ⟨z0, z1, z2, z3⟩ := z; go_simp; rfl)); apply Exists.intro; apply And.intro; (focus (intro us; simp only [Act.put, List.setIfInBounds_toArray, List.set_cons_zero, List.set_cons_succ]; rfl)))
  (refine rb_want (fun us => rfl) ?_; apply Exists.intro; apply And.intro; (focus (apply rb_pure; (focus (intro b us w h; exact h)); intro b us W_ hC; go_simp; rfl)); apply Exists.intro; apply And.intro; (focus (intro us; simp only [Act.put, List.setIfInBounds_toArray, List.set_cons_zero, List.set_cons_succ]; rfl)))
  (refine rb_want (fun us => rfl) ⟨.agg #[.int .i64 1, .int .i64 c0, .int .i64 x, .int .i64 c2, .int .i64 c3, .int .i64 c3, .int .i64 4], rb_call (f := 26) (args := fun us => #[.pointer (some ⟨gm, 0, none⟩), .agg #[.int .i64 c0, .int .i64 c1, .int .i64 c2, .int .i64 c3], .int .i64 3, .int .i64 x, .int .i64 4]) (fun us W_ => ?_) (fun b us W_ hb hon hC => ?_), ?_⟩; (focus (exact rb_enters Try.func26 (by kernel_rfl) rfl (by rfl) W_)); (focus (refine (vm_Step4 (hMX.out.came hC) (Nat.le_trans (by have := hBM.out.size; have := hsz.out; omega) hC.size) (by decide) c0 c1 c2 c3 3 x 4 1 c0 x c2 c3 c3 4 hv.out (by decide)).mono ?_; rintro e w1 ⟨rfl, hbw⟩; exact ⟨rfl, below_step hC hbw⟩)); apply Exists.intro; apply And.intro; (focus (intro us; simp only [Act.put, List.setIfInBounds_toArray, List.set_cons_zero, List.set_cons_succ]; rfl)))
  (refine rb_want (fun us => rfl) ?_; apply Exists.intro; apply And.intro; (focus (apply rb_pure; (focus (intro b us w h; exact h)); intro b us W_ hC; have y := hcs.out W_ hC; obtain ⟨y0, y1, y2, y3⟩ := y; have z := hcw.out W_ hC; obtain ⟨z0, z1, z2, z3⟩ := z; go_simp; rfl)); apply Exists.intro; apply And.intro; (focus (intro us; simp only [Act.put, List.setIfInBounds_toArray, List.set_cons_zero, List.set_cons_succ]; rfl)))
  (refine rb_want (fun us => rfl) ?_; apply Exists.intro; apply And.intro; (focus (apply rb_pure; (focus (intro b us w h; exact h)); intro b us W_ hC; go_simp; rfl)); apply Exists.intro; apply And.intro; (focus (intro us; simp only [Act.put, List.setIfInBounds_toArray, List.set_cons_zero, List.set_cons_succ]; rfl)))
  (refine rb_want (fun us => rfl) ?_; apply Exists.intro; apply And.intro; (focus (apply rb_pure; (focus (intro b us w h; exact h)); intro b us W_ hC; go_simp; rfl)); apply Exists.intro; apply And.intro; (focus (intro us; simp only [Act.put, List.setIfInBounds_toArray, List.set_cons_zero, List.set_cons_succ]; rfl)))
  (refine rb_want (fun us => rfl) ?_; apply Exists.intro; apply And.intro; (focus (apply rb_pure; (focus (intro b us w h; exact h)); intro b us W_ hC; have y := hcs.out W_ hC; obtain ⟨y0, y1, y2, y3⟩ := y; have z := hcw.out W_ hC; obtain ⟨z0, z1, z2, z3⟩ := z; go_simp; rfl)); apply Exists.intro; apply And.intro; (focus (intro us; simp only [Act.put, List.setIfInBounds_toArray, List.set_cons_zero, List.set_cons_succ]; rfl)))
  (refine rb_want (fun us => rfl) ?_; apply Exists.intro; apply And.intro; (focus (apply rb_pure; (focus (intro b us w h; exact h)); intro b us W_ hC; go_simp; rfl)); apply Exists.intro; apply And.intro; (focus (intro us; simp only [Act.put, List.setIfInBounds_toArray, List.set_cons_zero, List.set_cons_succ]; rfl)))
  (refine rb_want (fun us => rfl) ?_; apply Exists.intro; apply And.intro; (focus (apply rb_pure; (focus (intro b us w h; exact h)); intro b us W_ hC; have q := hq.out W_; have q2 := hgd.out; go_simp; rfl)); apply Exists.intro; apply And.intro; (focus (intro us; simp only [Act.put, List.setIfInBounds_toArray, List.set_cons_zero, List.set_cons_succ]; rfl)))
  (refine rb_want (fun us => rfl) ?_; apply Exists.intro; apply And.intro; (focus (apply rb_pure; (focus (intro b us w h; exact h)); intro b us W_ hC; go_simp; rfl)); apply Exists.intro; apply And.intro; (focus (intro us; simp only [Act.put, List.setIfInBounds_toArray, List.set_cons_zero, List.set_cons_succ]; rfl)))
  (refine rb_want (fun us => rfl) ⟨.bool true, rb_call (f := 29) (args := fun us => #[]) (fun us W_ => ?_) (fun b us W_ hb hon hC => ?_), ?_⟩; (focus (exact rb_enters Try.func29 (by kernel_rfl) rfl (by rfl) W_)); (focus (refine (vm_lives W_).mono ?_; rintro e w1 ⟨rfl, hbw⟩; exact ⟨rfl, below_step hC hbw⟩)); apply Exists.intro; apply And.intro; (focus (intro us; simp only [Act.put, List.setIfInBounds_toArray, List.set_cons_zero, List.set_cons_succ]; rfl)))
  (refine rb_want (fun us => rfl) ?_; apply Exists.intro; apply And.intro; (focus (apply rb_pure; (focus (intro b us w h; exact h)); intro b us W_ hC; go_simp; rfl)); apply Exists.intro; apply And.intro; (focus (intro us; simp only [Act.put, List.setIfInBounds_toArray, List.set_cons_zero, List.set_cons_succ]; rfl)))
  (refine rb_want (fun us => rfl) ?_; apply Exists.intro; apply And.intro; (focus (apply rb_pure; (focus (intro b us w h; exact h)); intro b us W_ hC; go_simp; rfl)); apply Exists.intro; apply And.intro; (focus (intro us; simp only [Act.put, List.setIfInBounds_toArray, List.set_cons_zero, List.set_cons_succ]; rfl)))
  refine rb_done (fun b us W_ hall hC => ?_)
  have hB8 := hC
  clear hC hall
  go_wp2
  go_ret
  exact ⟨rfl, below_step hB0.out hB8⟩
set_option maxRecDepth 100000 in
set_option maxHeartbeats 2000000 in
theorem vmCells_20 (c0 c1 c2 c3 at_ from_ x : Int) (w : World) (ha : inquestref01_Least.f at_ 0 3 = some 2) (hf : inquestref01_Least.f from_ 0 3 = some 0) :
    Calls Try.prog 8 #[.agg #[.int .i64 c0, .int .i64 c1, .int .i64 c2, .int .i64 c3], .int .i64 at_, .int .i64 from_, .int .i64 x] w fun e w' => e = .returned (.bool true) ∧ Below w.heap.size w w' := by
  have ha' := Aside0.mk ha
  have hf' := Aside0.mk hf
  clear ha hf
  have hlit := fun w => vm_lit4 w 6 0 5 2 4 0 18 0
  have ht : Aside0 ((thru ([⟨6, 0⟩, ⟨5, 2⟩, ⟨4, 0⟩, ⟨18, 0⟩] : List S36)).2.2 = 0) := ⟨by decide +kernel⟩
  have hv : Aside0 (vstep [⟨6, 0⟩, ⟨5, 2⟩, ⟨4, 0⟩, ⟨18, 0⟩] [c0, c1, c2, c3] 3 x 4 = some (1, [c0, c1, x, c3], c0, 4)) := ⟨by kernel_rfl⟩
  go_enter Try.func8, Try.ntmps8
  go_wp2_with (first | (go_at_call 30; (with_reducible refine (inquestref01_Least.calls at_ 0 3 2 _ ha'.out).mono ?_); rintro e W1 ⟨rfl, ⟨n1, rfl⟩⟩) | (go_at_call 30; (with_reducible refine (inquestref01_Least.calls from_ 0 3 0 _ hf'.out).mono ?_); rintro e W1 ⟨rfl, ⟨n2, rfl⟩⟩) | (go_at_call 23; (with_reducible refine (vm_New_kn _ 4 4 [⟨6, 0⟩, ⟨5, 2⟩, ⟨4, 0⟩, ⟨18, 0⟩] _ rfl (by repeat (first | (with_reducible exact vm_litC4n _ _ (by simp) 6 0 5 2 4 0 18 0) | (with_reducible refine Kd.C_drewN ?_ _))) (by decide) (by decide) ht.out).mono ?_); rintro e WM ⟨gm, vM, rfl, hM, hBM⟩; have hbs := blk_below (blk_alloc (blk_drewN (blk_new w (.cells #[.int .i64 c0, .int .i64 c1, .int .i64 c2, .int .i64 c3] 24)) (n1 + n2)) _) hBM; have s0 := blk_cell hbs 0; have s1 := blk_cell hbs 1; have s2 := blk_cell hbs 2; have s3 := blk_cell hbs 3; simp only [List.getElem?_toArray, List.getElem?_cons_zero, List.getElem?_cons_succ] at s0 s1 s2 s3; replace hbs := Aside0.mk hbs; replace hM := Aside0.mk hM; replace hBM := Aside0.mk hBM))
  refine vm_gen _ (fun W => W.heap[WM.heap.size]? = some (.cells #[.int .i64 c0, .int .i64 c1, .int .i64 x, .int .i64 c3] 24 (0, 0)) ∧ Below WM.heap.size WM W) ⟨blk_new _ _, below_alloc (Below.refl _ _) _⟩ ?_
  clear s0 s1 s2 s3
  rintro WX ⟨hbw, hBX⟩
  have hcs := Aside0.mk (fun (X : World) (hX : Below WX.heap.size WX X) => vm_4c (blk_below (blk_below hbs.out hBX) hX))
  have hcw := Aside0.mk (fun (X : World) (hX : Below WX.heap.size WX X) => vm_4c (blk_below hbw hX))
  have hMX := Aside0.mk (hM.out.came hBX)
  have hB0 : Aside0 (Below w.heap.size w WX) := ⟨below_step (below_step (below_alloc (pw_below_drewN (below_alloc (Below.refl w.heap.size w) _) (n1 + n2)) _) hBM.out) hBX⟩
  have hsz : Aside0 (WX.heap.size ≥ WM.heap.size) := ⟨hBX.size⟩
  have hq := Aside0.mk eqI24_9
  have hgd := Aside0.mk guard38
  clear hbw hBX hbs
  refine region_by (fun b us W_ => Below WX.heap.size WX W_) (by kernel_rfl) (by kernel_rfl) ⟨fun _ => undef, below_drew (Below.refl _ _)⟩ ?_
  (refine rb_want (fun us => rfl) ?_; apply Exists.intro; apply And.intro; (focus (apply rb_pure; (focus (intro b us w h; exact h)); intro b us W_ hC; go_simp; rfl)); apply Exists.intro; apply And.intro; (focus (intro us; simp only [Act.put, List.setIfInBounds_toArray, List.set_cons_zero, List.set_cons_succ]; rfl)))
  (refine rb_want (fun us => rfl) ?_; apply Exists.intro; apply And.intro; (focus (apply rb_pure; (focus (intro b us w h; exact h)); intro b us W_ hC; have y := hcs.out W_ hC; obtain ⟨y0, y1, y2, y3⟩ := y; have z := hcw.out W_ hC; obtain ⟨z0, z1, z2, z3⟩ := z; go_simp; rfl)); apply Exists.intro; apply And.intro; (focus (intro us; simp only [Act.put, List.setIfInBounds_toArray, List.set_cons_zero, List.set_cons_succ]; rfl)))
  (refine rb_want (fun us => rfl) ?_; apply Exists.intro; apply And.intro; (focus (apply rb_pure; (focus (intro b us w h; exact h)); intro b us W_ hC; go_simp; rfl)); apply Exists.intro; apply And.intro; (focus (intro us; simp only [Act.put, List.setIfInBounds_toArray, List.set_cons_zero, List.set_cons_succ]; rfl)))
  (refine rb_want (fun us => rfl) ⟨.agg #[.int .i64 1, .int .i64 c0, .int .i64 c1, .int .i64 x, .int .i64 c3, .int .i64 c0, .int .i64 4], rb_call (f := 26) (args := fun us => #[.pointer (some ⟨gm, 0, none⟩), .agg #[.int .i64 c0, .int .i64 c1, .int .i64 c2, .int .i64 c3], .int .i64 3, .int .i64 x, .int .i64 4]) (fun us W_ => ?_) (fun b us W_ hb hon hC => ?_), ?_⟩; (focus (exact rb_enters Try.func26 (by kernel_rfl) rfl (by rfl) W_)); (focus (refine (vm_Step4 (hMX.out.came hC) (Nat.le_trans (by have := hBM.out.size; have := hsz.out; omega) hC.size) (by decide) c0 c1 c2 c3 3 x 4 1 c0 c1 x c3 c0 4 hv.out (by decide)).mono ?_; rintro e w1 ⟨rfl, hbw⟩; exact ⟨rfl, below_step hC hbw⟩)); apply Exists.intro; apply And.intro; (focus (intro us; simp only [Act.put, List.setIfInBounds_toArray, List.set_cons_zero, List.set_cons_succ]; rfl)))
  (refine rb_want (fun us => rfl) ?_; apply Exists.intro; apply And.intro; (focus (apply rb_pure; (focus (intro b us w h; exact h)); intro b us W_ hC; have y := hcs.out W_ hC; obtain ⟨y0, y1, y2, y3⟩ := y; have z := hcw.out W_ hC; obtain ⟨z0, z1, z2, z3⟩ := z; go_simp; rfl)); apply Exists.intro; apply And.intro; (focus (intro us; simp only [Act.put, List.setIfInBounds_toArray, List.set_cons_zero, List.set_cons_succ]; rfl)))
  (refine rb_want (fun us => rfl) ?_; apply Exists.intro; apply And.intro; (focus (apply rb_pure; (focus (intro b us w h; exact h)); intro b us W_ hC; go_simp; rfl)); apply Exists.intro; apply And.intro; (focus (intro us; simp only [Act.put, List.setIfInBounds_toArray, List.set_cons_zero, List.set_cons_succ]; rfl)))
  (refine rb_want (fun us => rfl) ?_; apply Exists.intro; apply And.intro; (focus (apply rb_pure; (focus (intro b us w h; exact h)); intro b us W_ hC; go_simp; rfl)); apply Exists.intro; apply And.intro; (focus (intro us; simp only [Act.put, List.setIfInBounds_toArray, List.set_cons_zero, List.set_cons_succ]; rfl)))
  (refine rb_want (fun us => rfl) ?_; apply Exists.intro; apply And.intro; (focus (apply rb_pure; (focus (intro b us w h; exact h)); intro b us W_ hC; have y := hcs.out W_ hC; obtain ⟨y0, y1, y2, y3⟩ := y; have z := hcw.out W_ hC; obtain ⟨z0, z1, z2, z3⟩ := z; go_simp; rfl)); apply Exists.intro; apply And.intro; (focus (intro us; simp only [Act.put, List.setIfInBounds_toArray, List.set_cons_zero, List.set_cons_succ]; rfl)))
  (refine rb_want (fun us => rfl) ?_; apply Exists.intro; apply And.intro; (focus (apply rb_pure; (focus (intro b us w h; exact h)); intro b us W_ hC; go_simp; rfl)); apply Exists.intro; apply And.intro; (focus (intro us; simp only [Act.put, List.setIfInBounds_toArray, List.set_cons_zero, List.set_cons_succ]; rfl)))
  (refine rb_want (fun us => rfl) ?_; apply Exists.intro; apply And.intro; (focus (apply rb_pure; (focus (intro b us w h; exact h)); intro b us W_ hC; have q := hq.out W_; have q2 := hgd.out; go_simp; rfl)); apply Exists.intro; apply And.intro; (focus (intro us; simp only [Act.put, List.setIfInBounds_toArray, List.set_cons_zero, List.set_cons_succ]; rfl)))
  (refine rb_want (fun us => rfl) ?_; apply Exists.intro; apply And.intro; (focus (apply rb_pure; (focus (intro b us w h; exact h)); intro b us W_ hC; go_simp; rfl)); apply Exists.intro; apply And.intro; (focus (intro us; simp only [Act.put, List.setIfInBounds_toArray, List.set_cons_zero, List.set_cons_succ]; rfl)))
  (refine rb_want (fun us => rfl) ⟨.bool true, rb_call (f := 29) (args := fun us => #[]) (fun us W_ => ?_) (fun b us W_ hb hon hC => ?_), ?_⟩; (focus (exact rb_enters Try.func29 (by kernel_rfl) rfl (by rfl) W_)); (focus (refine (vm_lives W_).mono ?_; rintro e w1 ⟨rfl, hbw⟩; exact ⟨rfl, below_step hC hbw⟩)); apply Exists.intro; apply And.intro; (focus (intro us; simp only [Act.put, List.setIfInBounds_toArray, List.set_cons_zero, List.set_cons_succ]; rfl)))
  (refine rb_want (fun us => rfl) ?_; apply Exists.intro; apply And.intro; (focus (apply rb_pure; (focus (intro b us w h; exact h)); intro b us W_ hC; go_simp; rfl)); apply Exists.intro; apply And.intro; (focus (intro us; simp only [Act.put, List.setIfInBounds_toArray, List.set_cons_zero, List.set_cons_succ]; rfl)))
  (refine rb_want (fun us => rfl) ?_; apply Exists.intro; apply And.intro; (focus (apply rb_pure; (focus (intro b us w h; exact h)); intro b us W_ hC; go_simp; rfl)); apply Exists.intro; apply And.intro; (focus (intro us; simp only [Act.put, List.setIfInBounds_toArray, List.set_cons_zero, List.set_cons_succ]; rfl)))
  refine rb_done (fun b us W_ hall hC => ?_)
  have hB8 := hC
  clear hC hall
  go_wp2
  go_ret
  exact ⟨rfl, below_step hB0.out hB8⟩
set_option maxRecDepth 100000 in
set_option maxHeartbeats 2000000 in
theorem vmCells_21 (c0 c1 c2 c3 at_ from_ x : Int) (w : World) (ha : inquestref01_Least.f at_ 0 3 = some 2) (hf : inquestref01_Least.f from_ 0 3 = some 1) :
    Calls Try.prog 8 #[.agg #[.int .i64 c0, .int .i64 c1, .int .i64 c2, .int .i64 c3], .int .i64 at_, .int .i64 from_, .int .i64 x] w fun e w' => e = .returned (.bool true) ∧ Below w.heap.size w w' := by
  have ha' := Aside0.mk ha
  have hf' := Aside0.mk hf
  clear ha hf
  have hlit := fun w => vm_lit4 w 6 0 5 2 4 1 18 0
  have ht : Aside0 ((thru ([⟨6, 0⟩, ⟨5, 2⟩, ⟨4, 1⟩, ⟨18, 0⟩] : List S36)).2.2 = 0) := ⟨by decide +kernel⟩
  have hv : Aside0 (vstep [⟨6, 0⟩, ⟨5, 2⟩, ⟨4, 1⟩, ⟨18, 0⟩] [c0, c1, c2, c3] 3 x 4 = some (1, [c0, c1, x, c3], c1, 4)) := ⟨by kernel_rfl⟩
  go_enter Try.func8, Try.ntmps8
  go_wp2_with (first | (go_at_call 30; (with_reducible refine (inquestref01_Least.calls at_ 0 3 2 _ ha'.out).mono ?_); rintro e W1 ⟨rfl, ⟨n1, rfl⟩⟩) | (go_at_call 30; (with_reducible refine (inquestref01_Least.calls from_ 0 3 1 _ hf'.out).mono ?_); rintro e W1 ⟨rfl, ⟨n2, rfl⟩⟩) | (go_at_call 23; (with_reducible refine (vm_New_kn _ 4 4 [⟨6, 0⟩, ⟨5, 2⟩, ⟨4, 1⟩, ⟨18, 0⟩] _ rfl (by repeat (first | (with_reducible exact vm_litC4n _ _ (by simp) 6 0 5 2 4 1 18 0) | (with_reducible refine Kd.C_drewN ?_ _))) (by decide) (by decide) ht.out).mono ?_); rintro e WM ⟨gm, vM, rfl, hM, hBM⟩; have hbs := blk_below (blk_alloc (blk_drewN (blk_new w (.cells #[.int .i64 c0, .int .i64 c1, .int .i64 c2, .int .i64 c3] 24)) (n1 + n2)) _) hBM; have s0 := blk_cell hbs 0; have s1 := blk_cell hbs 1; have s2 := blk_cell hbs 2; have s3 := blk_cell hbs 3; simp only [List.getElem?_toArray, List.getElem?_cons_zero, List.getElem?_cons_succ] at s0 s1 s2 s3; replace hbs := Aside0.mk hbs; replace hM := Aside0.mk hM; replace hBM := Aside0.mk hBM))
  refine vm_gen _ (fun W => W.heap[WM.heap.size]? = some (.cells #[.int .i64 c0, .int .i64 c1, .int .i64 x, .int .i64 c3] 24 (0, 0)) ∧ Below WM.heap.size WM W) ⟨blk_new _ _, below_alloc (Below.refl _ _) _⟩ ?_
  clear s0 s1 s2 s3
  rintro WX ⟨hbw, hBX⟩
  have hcs := Aside0.mk (fun (X : World) (hX : Below WX.heap.size WX X) => vm_4c (blk_below (blk_below hbs.out hBX) hX))
  have hcw := Aside0.mk (fun (X : World) (hX : Below WX.heap.size WX X) => vm_4c (blk_below hbw hX))
  have hMX := Aside0.mk (hM.out.came hBX)
  have hB0 : Aside0 (Below w.heap.size w WX) := ⟨below_step (below_step (below_alloc (pw_below_drewN (below_alloc (Below.refl w.heap.size w) _) (n1 + n2)) _) hBM.out) hBX⟩
  have hsz : Aside0 (WX.heap.size ≥ WM.heap.size) := ⟨hBX.size⟩
  have hq := Aside0.mk eqI24_9
  have hgd := Aside0.mk guard38
  clear hbw hBX hbs
  refine region_by (fun b us W_ => Below WX.heap.size WX W_) (by kernel_rfl) (by kernel_rfl) ⟨fun _ => undef, below_drew (Below.refl _ _)⟩ ?_
  (refine rb_want (fun us => rfl) ?_; apply Exists.intro; apply And.intro; (focus (apply rb_pure; (focus (intro b us w h; exact h)); intro b us W_ hC; go_simp; rfl)); apply Exists.intro; apply And.intro; (focus (intro us; simp only [Act.put, List.setIfInBounds_toArray, List.set_cons_zero, List.set_cons_succ]; rfl)))
  (refine rb_want (fun us => rfl) ?_; apply Exists.intro; apply And.intro; (focus (apply rb_pure; (focus (intro b us w h; exact h)); intro b us W_ hC; have y := hcs.out W_ hC; obtain ⟨y0, y1, y2, y3⟩ := y; have z := hcw.out W_ hC; obtain ⟨z0, z1, z2, z3⟩ := z; go_simp; rfl)); apply Exists.intro; apply And.intro; (focus (intro us; simp only [Act.put, List.setIfInBounds_toArray, List.set_cons_zero, List.set_cons_succ]; rfl)))
  (refine rb_want (fun us => rfl) ?_; apply Exists.intro; apply And.intro; (focus (apply rb_pure; (focus (intro b us w h; exact h)); intro b us W_ hC; go_simp; rfl)); apply Exists.intro; apply And.intro; (focus (intro us; simp only [Act.put, List.setIfInBounds_toArray, List.set_cons_zero, List.set_cons_succ]; rfl)))
  (refine rb_want (fun us => rfl) ⟨.agg #[.int .i64 1, .int .i64 c0, .int .i64 c1, .int .i64 x, .int .i64 c3, .int .i64 c1, .int .i64 4], rb_call (f := 26) (args := fun us => #[.pointer (some ⟨gm, 0, none⟩), .agg #[.int .i64 c0, .int .i64 c1, .int .i64 c2, .int .i64 c3], .int .i64 3, .int .i64 x, .int .i64 4]) (fun us W_ => ?_) (fun b us W_ hb hon hC => ?_), ?_⟩; (focus (exact rb_enters Try.func26 (by kernel_rfl) rfl (by rfl) W_)); (focus (refine (vm_Step4 (hMX.out.came hC) (Nat.le_trans (by have := hBM.out.size; have := hsz.out; omega) hC.size) (by decide) c0 c1 c2 c3 3 x 4 1 c0 c1 x c3 c1 4 hv.out (by decide)).mono ?_; rintro e w1 ⟨rfl, hbw⟩; exact ⟨rfl, below_step hC hbw⟩)); apply Exists.intro; apply And.intro; (focus (intro us; simp only [Act.put, List.setIfInBounds_toArray, List.set_cons_zero, List.set_cons_succ]; rfl)))
  (refine rb_want (fun us => rfl) ?_; apply Exists.intro; apply And.intro; (focus (apply rb_pure; (focus (intro b us w h; exact h)); intro b us W_ hC; have y := hcs.out W_ hC; obtain ⟨y0, y1, y2, y3⟩ := y; have z := hcw.out W_ hC; obtain ⟨z0, z1, z2, z3⟩ := z; go_simp; rfl)); apply Exists.intro; apply And.intro; (focus (intro us; simp only [Act.put, List.setIfInBounds_toArray, List.set_cons_zero, List.set_cons_succ]; rfl)))
  (refine rb_want (fun us => rfl) ?_; apply Exists.intro; apply And.intro; (focus (apply rb_pure; (focus (intro b us w h; exact h)); intro b us W_ hC; go_simp; rfl)); apply Exists.intro; apply And.intro; (focus (intro us; simp only [Act.put, List.setIfInBounds_toArray, List.set_cons_zero, List.set_cons_succ]; rfl)))
  (refine rb_want (fun us => rfl) ?_; apply Exists.intro; apply And.intro; (focus (apply rb_pure; (focus (intro b us w h; exact h)); intro b us W_ hC; go_simp; rfl)); apply Exists.intro; apply And.intro; (focus (intro us; simp only [Act.put, List.setIfInBounds_toArray, List.set_cons_zero, List.set_cons_succ]; rfl)))
  (refine rb_want (fun us => rfl) ?_; apply Exists.intro; apply And.intro; (focus (apply rb_pure; (focus (intro b us w h; exact h)); intro b us W_ hC; have y := hcs.out W_ hC; obtain ⟨y0, y1, y2, y3⟩ := y; have z := hcw.out W_ hC; obtain ⟨z0, z1, z2, z3⟩ := z; go_simp; rfl)); apply Exists.intro; apply And.intro; (focus (intro us; simp only [Act.put, List.setIfInBounds_toArray, List.set_cons_zero, List.set_cons_succ]; rfl)))
  (refine rb_want (fun us => rfl) ?_; apply Exists.intro; apply And.intro; (focus (apply rb_pure; (focus (intro b us w h; exact h)); intro b us W_ hC; go_simp; rfl)); apply Exists.intro; apply And.intro; (focus (intro us; simp only [Act.put, List.setIfInBounds_toArray, List.set_cons_zero, List.set_cons_succ]; rfl)))
  (refine rb_want (fun us => rfl) ?_; apply Exists.intro; apply And.intro; (focus (apply rb_pure; (focus (intro b us w h; exact h)); intro b us W_ hC; have q := hq.out W_; have q2 := hgd.out; go_simp; rfl)); apply Exists.intro; apply And.intro; (focus (intro us; simp only [Act.put, List.setIfInBounds_toArray, List.set_cons_zero, List.set_cons_succ]; rfl)))
  (refine rb_want (fun us => rfl) ?_; apply Exists.intro; apply And.intro; (focus (apply rb_pure; (focus (intro b us w h; exact h)); intro b us W_ hC; go_simp; rfl)); apply Exists.intro; apply And.intro; (focus (intro us; simp only [Act.put, List.setIfInBounds_toArray, List.set_cons_zero, List.set_cons_succ]; rfl)))
  (refine rb_want (fun us => rfl) ⟨.bool true, rb_call (f := 29) (args := fun us => #[]) (fun us W_ => ?_) (fun b us W_ hb hon hC => ?_), ?_⟩; (focus (exact rb_enters Try.func29 (by kernel_rfl) rfl (by rfl) W_)); (focus (refine (vm_lives W_).mono ?_; rintro e w1 ⟨rfl, hbw⟩; exact ⟨rfl, below_step hC hbw⟩)); apply Exists.intro; apply And.intro; (focus (intro us; simp only [Act.put, List.setIfInBounds_toArray, List.set_cons_zero, List.set_cons_succ]; rfl)))
  (refine rb_want (fun us => rfl) ?_; apply Exists.intro; apply And.intro; (focus (apply rb_pure; (focus (intro b us w h; exact h)); intro b us W_ hC; go_simp; rfl)); apply Exists.intro; apply And.intro; (focus (intro us; simp only [Act.put, List.setIfInBounds_toArray, List.set_cons_zero, List.set_cons_succ]; rfl)))
  (refine rb_want (fun us => rfl) ?_; apply Exists.intro; apply And.intro; (focus (apply rb_pure; (focus (intro b us w h; exact h)); intro b us W_ hC; go_simp; rfl)); apply Exists.intro; apply And.intro; (focus (intro us; simp only [Act.put, List.setIfInBounds_toArray, List.set_cons_zero, List.set_cons_succ]; rfl)))
  refine rb_done (fun b us W_ hall hC => ?_)
  have hB8 := hC
  clear hC hall
  go_wp2
  go_ret
  exact ⟨rfl, below_step hB0.out hB8⟩
set_option maxRecDepth 100000 in
set_option maxHeartbeats 2000000 in
theorem vmCells_22 (c0 c1 c2 c3 at_ from_ x : Int) (w : World) (ha : inquestref01_Least.f at_ 0 3 = some 2) (hf : inquestref01_Least.f from_ 0 3 = some 2) :
    Calls Try.prog 8 #[.agg #[.int .i64 c0, .int .i64 c1, .int .i64 c2, .int .i64 c3], .int .i64 at_, .int .i64 from_, .int .i64 x] w fun e w' => e = .returned (.bool true) ∧ Below w.heap.size w w' := by
  have ha' := Aside0.mk ha
  have hf' := Aside0.mk hf
  clear ha hf
  have hlit := fun w => vm_lit4 w 6 0 5 2 4 2 18 0
  have ht : Aside0 ((thru ([⟨6, 0⟩, ⟨5, 2⟩, ⟨4, 2⟩, ⟨18, 0⟩] : List S36)).2.2 = 0) := ⟨by decide +kernel⟩
  have hv : Aside0 (vstep [⟨6, 0⟩, ⟨5, 2⟩, ⟨4, 2⟩, ⟨18, 0⟩] [c0, c1, c2, c3] 3 x 4 = some (1, [c0, c1, x, c3], x, 4)) := ⟨by kernel_rfl⟩
  go_enter Try.func8, Try.ntmps8
  go_wp2_with (first | (go_at_call 30; (with_reducible refine (inquestref01_Least.calls at_ 0 3 2 _ ha'.out).mono ?_); rintro e W1 ⟨rfl, ⟨n1, rfl⟩⟩) | (go_at_call 30; (with_reducible refine (inquestref01_Least.calls from_ 0 3 2 _ hf'.out).mono ?_); rintro e W1 ⟨rfl, ⟨n2, rfl⟩⟩) | (go_at_call 23; (with_reducible refine (vm_New_kn _ 4 4 [⟨6, 0⟩, ⟨5, 2⟩, ⟨4, 2⟩, ⟨18, 0⟩] _ rfl (by repeat (first | (with_reducible exact vm_litC4n _ _ (by simp) 6 0 5 2 4 2 18 0) | (with_reducible refine Kd.C_drewN ?_ _))) (by decide) (by decide) ht.out).mono ?_); rintro e WM ⟨gm, vM, rfl, hM, hBM⟩; have hbs := blk_below (blk_alloc (blk_drewN (blk_new w (.cells #[.int .i64 c0, .int .i64 c1, .int .i64 c2, .int .i64 c3] 24)) (n1 + n2)) _) hBM; have s0 := blk_cell hbs 0; have s1 := blk_cell hbs 1; have s2 := blk_cell hbs 2; have s3 := blk_cell hbs 3; simp only [List.getElem?_toArray, List.getElem?_cons_zero, List.getElem?_cons_succ] at s0 s1 s2 s3; replace hbs := Aside0.mk hbs; replace hM := Aside0.mk hM; replace hBM := Aside0.mk hBM))
  refine vm_gen _ (fun W => W.heap[WM.heap.size]? = some (.cells #[.int .i64 c0, .int .i64 c1, .int .i64 x, .int .i64 c3] 24 (0, 0)) ∧ Below WM.heap.size WM W) ⟨blk_new _ _, below_alloc (Below.refl _ _) _⟩ ?_
  clear s0 s1 s2 s3
  rintro WX ⟨hbw, hBX⟩
  have hcs := Aside0.mk (fun (X : World) (hX : Below WX.heap.size WX X) => vm_4c (blk_below (blk_below hbs.out hBX) hX))
  have hcw := Aside0.mk (fun (X : World) (hX : Below WX.heap.size WX X) => vm_4c (blk_below hbw hX))
  have hMX := Aside0.mk (hM.out.came hBX)
  have hB0 : Aside0 (Below w.heap.size w WX) := ⟨below_step (below_step (below_alloc (pw_below_drewN (below_alloc (Below.refl w.heap.size w) _) (n1 + n2)) _) hBM.out) hBX⟩
  have hsz : Aside0 (WX.heap.size ≥ WM.heap.size) := ⟨hBX.size⟩
  have hq := Aside0.mk eqI24_9
  have hgd := Aside0.mk guard38
  clear hbw hBX hbs
  refine region_by (fun b us W_ => Below WX.heap.size WX W_) (by kernel_rfl) (by kernel_rfl) ⟨fun _ => undef, below_drew (Below.refl _ _)⟩ ?_
  (refine rb_want (fun us => rfl) ?_; apply Exists.intro; apply And.intro; (focus (apply rb_pure; (focus (intro b us w h; exact h)); intro b us W_ hC; go_simp; rfl)); apply Exists.intro; apply And.intro; (focus (intro us; simp only [Act.put, List.setIfInBounds_toArray, List.set_cons_zero, List.set_cons_succ]; rfl)))
  (refine rb_want (fun us => rfl) ?_; apply Exists.intro; apply And.intro; (focus (apply rb_pure; (focus (intro b us w h; exact h)); intro b us W_ hC; have y := hcs.out W_ hC; obtain ⟨y0, y1, y2, y3⟩ := y; have z := hcw.out W_ hC; obtain ⟨z0, z1, z2, z3⟩ := z; go_simp; rfl)); apply Exists.intro; apply And.intro; (focus (intro us; simp only [Act.put, List.setIfInBounds_toArray, List.set_cons_zero, List.set_cons_succ]; rfl)))
  (refine rb_want (fun us => rfl) ?_; apply Exists.intro; apply And.intro; (focus (apply rb_pure; (focus (intro b us w h; exact h)); intro b us W_ hC; go_simp; rfl)); apply Exists.intro; apply And.intro; (focus (intro us; simp only [Act.put, List.setIfInBounds_toArray, List.set_cons_zero, List.set_cons_succ]; rfl)))
  (refine rb_want (fun us => rfl) ⟨.agg #[.int .i64 1, .int .i64 c0, .int .i64 c1, .int .i64 x, .int .i64 c3, .int .i64 x, .int .i64 4], rb_call (f := 26) (args := fun us => #[.pointer (some ⟨gm, 0, none⟩), .agg #[.int .i64 c0, .int .i64 c1, .int .i64 c2, .int .i64 c3], .int .i64 3, .int .i64 x, .int .i64 4]) (fun us W_ => ?_) (fun b us W_ hb hon hC => ?_), ?_⟩; (focus (exact rb_enters Try.func26 (by kernel_rfl) rfl (by rfl) W_)); (focus (refine (vm_Step4 (hMX.out.came hC) (Nat.le_trans (by have := hBM.out.size; have := hsz.out; omega) hC.size) (by decide) c0 c1 c2 c3 3 x 4 1 c0 c1 x c3 x 4 hv.out (by decide)).mono ?_; rintro e w1 ⟨rfl, hbw⟩; exact ⟨rfl, below_step hC hbw⟩)); apply Exists.intro; apply And.intro; (focus (intro us; simp only [Act.put, List.setIfInBounds_toArray, List.set_cons_zero, List.set_cons_succ]; rfl)))
  (refine rb_want (fun us => rfl) ?_; apply Exists.intro; apply And.intro; (focus (apply rb_pure; (focus (intro b us w h; exact h)); intro b us W_ hC; have y := hcs.out W_ hC; obtain ⟨y0, y1, y2, y3⟩ := y; have z := hcw.out W_ hC; obtain ⟨z0, z1, z2, z3⟩ := z; go_simp; rfl)); apply Exists.intro; apply And.intro; (focus (intro us; simp only [Act.put, List.setIfInBounds_toArray, List.set_cons_zero, List.set_cons_succ]; rfl)))
  (refine rb_want (fun us => rfl) ?_; apply Exists.intro; apply And.intro; (focus (apply rb_pure; (focus (intro b us w h; exact h)); intro b us W_ hC; go_simp; rfl)); apply Exists.intro; apply And.intro; (focus (intro us; simp only [Act.put, List.setIfInBounds_toArray, List.set_cons_zero, List.set_cons_succ]; rfl)))
  (refine rb_want (fun us => rfl) ?_; apply Exists.intro; apply And.intro; (focus (apply rb_pure; (focus (intro b us w h; exact h)); intro b us W_ hC; go_simp; rfl)); apply Exists.intro; apply And.intro; (focus (intro us; simp only [Act.put, List.setIfInBounds_toArray, List.set_cons_zero, List.set_cons_succ]; rfl)))
  (refine rb_want (fun us => rfl) ?_; apply Exists.intro; apply And.intro; (focus (apply rb_pure; (focus (intro b us w h; exact h)); intro b us W_ hC; have y := hcs.out W_ hC; obtain ⟨y0, y1, y2, y3⟩ := y; have z := hcw.out W_ hC; obtain ⟨z0, z1, z2, z3⟩ := z; go_simp; rfl)); apply Exists.intro; apply And.intro; (focus (intro us; simp only [Act.put, List.setIfInBounds_toArray, List.set_cons_zero, List.set_cons_succ]; rfl)))
  (refine rb_want (fun us => rfl) ?_; apply Exists.intro; apply And.intro; (focus (apply rb_pure; (focus (intro b us w h; exact h)); intro b us W_ hC; go_simp; rfl)); apply Exists.intro; apply And.intro; (focus (intro us; simp only [Act.put, List.setIfInBounds_toArray, List.set_cons_zero, List.set_cons_succ]; rfl)))
  (refine rb_want (fun us => rfl) ?_; apply Exists.intro; apply And.intro; (focus (apply rb_pure; (focus (intro b us w h; exact h)); intro b us W_ hC; have q := hq.out W_; have q2 := hgd.out; go_simp; rfl)); apply Exists.intro; apply And.intro; (focus (intro us; simp only [Act.put, List.setIfInBounds_toArray, List.set_cons_zero, List.set_cons_succ]; rfl)))
  (refine rb_want (fun us => rfl) ?_; apply Exists.intro; apply And.intro; (focus (apply rb_pure; (focus (intro b us w h; exact h)); intro b us W_ hC; go_simp; rfl)); apply Exists.intro; apply And.intro; (focus (intro us; simp only [Act.put, List.setIfInBounds_toArray, List.set_cons_zero, List.set_cons_succ]; rfl)))
  (refine rb_want (fun us => rfl) ⟨.bool true, rb_call (f := 29) (args := fun us => #[]) (fun us W_ => ?_) (fun b us W_ hb hon hC => ?_), ?_⟩; (focus (exact rb_enters Try.func29 (by kernel_rfl) rfl (by rfl) W_)); (focus (refine (vm_lives W_).mono ?_; rintro e w1 ⟨rfl, hbw⟩; exact ⟨rfl, below_step hC hbw⟩)); apply Exists.intro; apply And.intro; (focus (intro us; simp only [Act.put, List.setIfInBounds_toArray, List.set_cons_zero, List.set_cons_succ]; rfl)))
  (refine rb_want (fun us => rfl) ?_; apply Exists.intro; apply And.intro; (focus (apply rb_pure; (focus (intro b us w h; exact h)); intro b us W_ hC; go_simp; rfl)); apply Exists.intro; apply And.intro; (focus (intro us; simp only [Act.put, List.setIfInBounds_toArray, List.set_cons_zero, List.set_cons_succ]; rfl)))
  (refine rb_want (fun us => rfl) ?_; apply Exists.intro; apply And.intro; (focus (apply rb_pure; (focus (intro b us w h; exact h)); intro b us W_ hC; go_simp; rfl)); apply Exists.intro; apply And.intro; (focus (intro us; simp only [Act.put, List.setIfInBounds_toArray, List.set_cons_zero, List.set_cons_succ]; rfl)))
  refine rb_done (fun b us W_ hall hC => ?_)
  have hB8 := hC
  clear hC hall
  go_wp2
  go_ret
  exact ⟨rfl, below_step hB0.out hB8⟩
set_option maxRecDepth 100000 in
set_option maxHeartbeats 2000000 in
theorem vmCells_23 (c0 c1 c2 c3 at_ from_ x : Int) (w : World) (ha : inquestref01_Least.f at_ 0 3 = some 2) (hf : inquestref01_Least.f from_ 0 3 = some 3) :
    Calls Try.prog 8 #[.agg #[.int .i64 c0, .int .i64 c1, .int .i64 c2, .int .i64 c3], .int .i64 at_, .int .i64 from_, .int .i64 x] w fun e w' => e = .returned (.bool true) ∧ Below w.heap.size w w' := by
  have ha' := Aside0.mk ha
  have hf' := Aside0.mk hf
  clear ha hf
  have hlit := fun w => vm_lit4 w 6 0 5 2 4 3 18 0
  have ht : Aside0 ((thru ([⟨6, 0⟩, ⟨5, 2⟩, ⟨4, 3⟩, ⟨18, 0⟩] : List S36)).2.2 = 0) := ⟨by decide +kernel⟩
  have hv : Aside0 (vstep [⟨6, 0⟩, ⟨5, 2⟩, ⟨4, 3⟩, ⟨18, 0⟩] [c0, c1, c2, c3] 3 x 4 = some (1, [c0, c1, x, c3], c3, 4)) := ⟨by kernel_rfl⟩
  go_enter Try.func8, Try.ntmps8
  go_wp2_with (first | (go_at_call 30; (with_reducible refine (inquestref01_Least.calls at_ 0 3 2 _ ha'.out).mono ?_); rintro e W1 ⟨rfl, ⟨n1, rfl⟩⟩) | (go_at_call 30; (with_reducible refine (inquestref01_Least.calls from_ 0 3 3 _ hf'.out).mono ?_); rintro e W1 ⟨rfl, ⟨n2, rfl⟩⟩) | (go_at_call 23; (with_reducible refine (vm_New_kn _ 4 4 [⟨6, 0⟩, ⟨5, 2⟩, ⟨4, 3⟩, ⟨18, 0⟩] _ rfl (by repeat (first | (with_reducible exact vm_litC4n _ _ (by simp) 6 0 5 2 4 3 18 0) | (with_reducible refine Kd.C_drewN ?_ _))) (by decide) (by decide) ht.out).mono ?_); rintro e WM ⟨gm, vM, rfl, hM, hBM⟩; have hbs := blk_below (blk_alloc (blk_drewN (blk_new w (.cells #[.int .i64 c0, .int .i64 c1, .int .i64 c2, .int .i64 c3] 24)) (n1 + n2)) _) hBM; have s0 := blk_cell hbs 0; have s1 := blk_cell hbs 1; have s2 := blk_cell hbs 2; have s3 := blk_cell hbs 3; simp only [List.getElem?_toArray, List.getElem?_cons_zero, List.getElem?_cons_succ] at s0 s1 s2 s3; replace hbs := Aside0.mk hbs; replace hM := Aside0.mk hM; replace hBM := Aside0.mk hBM))
  refine vm_gen _ (fun W => W.heap[WM.heap.size]? = some (.cells #[.int .i64 c0, .int .i64 c1, .int .i64 x, .int .i64 c3] 24 (0, 0)) ∧ Below WM.heap.size WM W) ⟨blk_new _ _, below_alloc (Below.refl _ _) _⟩ ?_
  clear s0 s1 s2 s3
  rintro WX ⟨hbw, hBX⟩
  have hcs := Aside0.mk (fun (X : World) (hX : Below WX.heap.size WX X) => vm_4c (blk_below (blk_below hbs.out hBX) hX))
  have hcw := Aside0.mk (fun (X : World) (hX : Below WX.heap.size WX X) => vm_4c (blk_below hbw hX))
  have hMX := Aside0.mk (hM.out.came hBX)
  have hB0 : Aside0 (Below w.heap.size w WX) := ⟨below_step (below_step (below_alloc (pw_below_drewN (below_alloc (Below.refl w.heap.size w) _) (n1 + n2)) _) hBM.out) hBX⟩
  have hsz : Aside0 (WX.heap.size ≥ WM.heap.size) := ⟨hBX.size⟩
  have hq := Aside0.mk eqI24_9
  have hgd := Aside0.mk guard38
  clear hbw hBX hbs
  refine region_by (fun b us W_ => Below WX.heap.size WX W_) (by kernel_rfl) (by kernel_rfl) ⟨fun _ => undef, below_drew (Below.refl _ _)⟩ ?_
  (refine rb_want (fun us => rfl) ?_; apply Exists.intro; apply And.intro; (focus (apply rb_pure; (focus (intro b us w h; exact h)); intro b us W_ hC; go_simp; rfl)); apply Exists.intro; apply And.intro; (focus (intro us; simp only [Act.put, List.setIfInBounds_toArray, List.set_cons_zero, List.set_cons_succ]; rfl)))
  (refine rb_want (fun us => rfl) ?_; apply Exists.intro; apply And.intro; (focus (apply rb_pure; (focus (intro b us w h; exact h)); intro b us W_ hC; have y := hcs.out W_ hC; obtain ⟨y0, y1, y2, y3⟩ := y; have z := hcw.out W_ hC; obtain ⟨z0, z1, z2, z3⟩ := z; go_simp; rfl)); apply Exists.intro; apply And.intro; (focus (intro us; simp only [Act.put, List.setIfInBounds_toArray, List.set_cons_zero, List.set_cons_succ]; rfl)))
  (refine rb_want (fun us => rfl) ?_; apply Exists.intro; apply And.intro; (focus (apply rb_pure; (focus (intro b us w h; exact h)); intro b us W_ hC; go_simp; rfl)); apply Exists.intro; apply And.intro; (focus (intro us; simp only [Act.put, List.setIfInBounds_toArray, List.set_cons_zero, List.set_cons_succ]; rfl)))
  (refine rb_want (fun us => rfl) ⟨.agg #[.int .i64 1, .int .i64 c0, .int .i64 c1, .int .i64 x, .int .i64 c3, .int .i64 c3, .int .i64 4], rb_call (f := 26) (args := fun us => #[.pointer (some ⟨gm, 0, none⟩), .agg #[.int .i64 c0, .int .i64 c1, .int .i64 c2, .int .i64 c3], .int .i64 3, .int .i64 x, .int .i64 4]) (fun us W_ => ?_) (fun b us W_ hb hon hC => ?_), ?_⟩; (focus (exact rb_enters Try.func26 (by kernel_rfl) rfl (by rfl) W_)); (focus (refine (vm_Step4 (hMX.out.came hC) (Nat.le_trans (by have := hBM.out.size; have := hsz.out; omega) hC.size) (by decide) c0 c1 c2 c3 3 x 4 1 c0 c1 x c3 c3 4 hv.out (by decide)).mono ?_; rintro e w1 ⟨rfl, hbw⟩; exact ⟨rfl, below_step hC hbw⟩)); apply Exists.intro; apply And.intro; (focus (intro us; simp only [Act.put, List.setIfInBounds_toArray, List.set_cons_zero, List.set_cons_succ]; rfl)))
  (refine rb_want (fun us => rfl) ?_; apply Exists.intro; apply And.intro; (focus (apply rb_pure; (focus (intro b us w h; exact h)); intro b us W_ hC; have y := hcs.out W_ hC; obtain ⟨y0, y1, y2, y3⟩ := y; have z := hcw.out W_ hC; obtain ⟨z0, z1, z2, z3⟩ := z; go_simp; rfl)); apply Exists.intro; apply And.intro; (focus (intro us; simp only [Act.put, List.setIfInBounds_toArray, List.set_cons_zero, List.set_cons_succ]; rfl)))
  (refine rb_want (fun us => rfl) ?_; apply Exists.intro; apply And.intro; (focus (apply rb_pure; (focus (intro b us w h; exact h)); intro b us W_ hC; go_simp; rfl)); apply Exists.intro; apply And.intro; (focus (intro us; simp only [Act.put, List.setIfInBounds_toArray, List.set_cons_zero, List.set_cons_succ]; rfl)))
  (refine rb_want (fun us => rfl) ?_; apply Exists.intro; apply And.intro; (focus (apply rb_pure; (focus (intro b us w h; exact h)); intro b us W_ hC; go_simp; rfl)); apply Exists.intro; apply And.intro; (focus (intro us; simp only [Act.put, List.setIfInBounds_toArray, List.set_cons_zero, List.set_cons_succ]; rfl)))
  (refine rb_want (fun us => rfl) ?_; apply Exists.intro; apply And.intro; (focus (apply rb_pure; (focus (intro b us w h; exact h)); intro b us W_ hC; have y := hcs.out W_ hC; obtain ⟨y0, y1, y2, y3⟩ := y; have z := hcw.out W_ hC; obtain ⟨z0, z1, z2, z3⟩ := z; go_simp; rfl)); apply Exists.intro; apply And.intro; (focus (intro us; simp only [Act.put, List.setIfInBounds_toArray, List.set_cons_zero, List.set_cons_succ]; rfl)))
  (refine rb_want (fun us => rfl) ?_; apply Exists.intro; apply And.intro; (focus (apply rb_pure; (focus (intro b us w h; exact h)); intro b us W_ hC; go_simp; rfl)); apply Exists.intro; apply And.intro; (focus (intro us; simp only [Act.put, List.setIfInBounds_toArray, List.set_cons_zero, List.set_cons_succ]; rfl)))
  (refine rb_want (fun us => rfl) ?_; apply Exists.intro; apply And.intro; (focus (apply rb_pure; (focus (intro b us w h; exact h)); intro b us W_ hC; have q := hq.out W_; have q2 := hgd.out; go_simp; rfl)); apply Exists.intro; apply And.intro; (focus (intro us; simp only [Act.put, List.setIfInBounds_toArray, List.set_cons_zero, List.set_cons_succ]; rfl)))
  (refine rb_want (fun us => rfl) ?_; apply Exists.intro; apply And.intro; (focus (apply rb_pure; (focus (intro b us w h; exact h)); intro b us W_ hC; go_simp; rfl)); apply Exists.intro; apply And.intro; (focus (intro us; simp only [Act.put, List.setIfInBounds_toArray, List.set_cons_zero, List.set_cons_succ]; rfl)))
  (refine rb_want (fun us => rfl) ⟨.bool true, rb_call (f := 29) (args := fun us => #[]) (fun us W_ => ?_) (fun b us W_ hb hon hC => ?_), ?_⟩; (focus (exact rb_enters Try.func29 (by kernel_rfl) rfl (by rfl) W_)); (focus (refine (vm_lives W_).mono ?_; rintro e w1 ⟨rfl, hbw⟩; exact ⟨rfl, below_step hC hbw⟩)); apply Exists.intro; apply And.intro; (focus (intro us; simp only [Act.put, List.setIfInBounds_toArray, List.set_cons_zero, List.set_cons_succ]; rfl)))
  (refine rb_want (fun us => rfl) ?_; apply Exists.intro; apply And.intro; (focus (apply rb_pure; (focus (intro b us w h; exact h)); intro b us W_ hC; go_simp; rfl)); apply Exists.intro; apply And.intro; (focus (intro us; simp only [Act.put, List.setIfInBounds_toArray, List.set_cons_zero, List.set_cons_succ]; rfl)))
  (refine rb_want (fun us => rfl) ?_; apply Exists.intro; apply And.intro; (focus (apply rb_pure; (focus (intro b us w h; exact h)); intro b us W_ hC; go_simp; rfl)); apply Exists.intro; apply And.intro; (focus (intro us; simp only [Act.put, List.setIfInBounds_toArray, List.set_cons_zero, List.set_cons_succ]; rfl)))
  refine rb_done (fun b us W_ hall hC => ?_)
  have hB8 := hC
  clear hC hall
  go_wp2
  go_ret
  exact ⟨rfl, below_step hB0.out hB8⟩
set_option maxRecDepth 100000 in
set_option maxHeartbeats 2000000 in
theorem vmCells_30 (c0 c1 c2 c3 at_ from_ x : Int) (w : World) (ha : inquestref01_Least.f at_ 0 3 = some 3) (hf : inquestref01_Least.f from_ 0 3 = some 0) :
    Calls Try.prog 8 #[.agg #[.int .i64 c0, .int .i64 c1, .int .i64 c2, .int .i64 c3], .int .i64 at_, .int .i64 from_, .int .i64 x] w fun e w' => e = .returned (.bool true) ∧ Below w.heap.size w w' := by
  have ha' := Aside0.mk ha
  have hf' := Aside0.mk hf
  clear ha hf
  have hlit := fun w => vm_lit4 w 6 0 5 3 4 0 18 0
  have ht : Aside0 ((thru ([⟨6, 0⟩, ⟨5, 3⟩, ⟨4, 0⟩, ⟨18, 0⟩] : List S36)).2.2 = 0) := ⟨by decide +kernel⟩
  have hv : Aside0 (vstep [⟨6, 0⟩, ⟨5, 3⟩, ⟨4, 0⟩, ⟨18, 0⟩] [c0, c1, c2, c3] 3 x 4 = some (1, [c0, c1, c2, x], c0, 4)) := ⟨by kernel_rfl⟩
  go_enter Try.func8, Try.ntmps8
  go_wp2_with (first | (go_at_call 30; (with_reducible refine (inquestref01_Least.calls at_ 0 3 3 _ ha'.out).mono ?_); rintro e W1 ⟨rfl, ⟨n1, rfl⟩⟩) | (go_at_call 30; (with_reducible refine (inquestref01_Least.calls from_ 0 3 0 _ hf'.out).mono ?_); rintro e W1 ⟨rfl, ⟨n2, rfl⟩⟩) | (go_at_call 23; (with_reducible refine (vm_New_kn _ 4 4 [⟨6, 0⟩, ⟨5, 3⟩, ⟨4, 0⟩, ⟨18, 0⟩] _ rfl (by repeat (first | (with_reducible exact vm_litC4n _ _ (by simp) 6 0 5 3 4 0 18 0) | (with_reducible refine Kd.C_drewN ?_ _))) (by decide) (by decide) ht.out).mono ?_); rintro e WM ⟨gm, vM, rfl, hM, hBM⟩; have hbs := blk_below (blk_alloc (blk_drewN (blk_new w (.cells #[.int .i64 c0, .int .i64 c1, .int .i64 c2, .int .i64 c3] 24)) (n1 + n2)) _) hBM; have s0 := blk_cell hbs 0; have s1 := blk_cell hbs 1; have s2 := blk_cell hbs 2; have s3 := blk_cell hbs 3; simp only [List.getElem?_toArray, List.getElem?_cons_zero, List.getElem?_cons_succ] at s0 s1 s2 s3; replace hbs := Aside0.mk hbs; replace hM := Aside0.mk hM; replace hBM := Aside0.mk hBM))
  refine vm_gen _ (fun W => W.heap[WM.heap.size]? = some (.cells #[.int .i64 c0, .int .i64 c1, .int .i64 c2, .int .i64 x] 24 (0, 0)) ∧ Below WM.heap.size WM W) ⟨blk_new _ _, below_alloc (Below.refl _ _) _⟩ ?_
  clear s0 s1 s2 s3
  rintro WX ⟨hbw, hBX⟩
  have hcs := Aside0.mk (fun (X : World) (hX : Below WX.heap.size WX X) => vm_4c (blk_below (blk_below hbs.out hBX) hX))
  have hcw := Aside0.mk (fun (X : World) (hX : Below WX.heap.size WX X) => vm_4c (blk_below hbw hX))
  have hMX := Aside0.mk (hM.out.came hBX)
  have hB0 : Aside0 (Below w.heap.size w WX) := ⟨below_step (below_step (below_alloc (pw_below_drewN (below_alloc (Below.refl w.heap.size w) _) (n1 + n2)) _) hBM.out) hBX⟩
  have hsz : Aside0 (WX.heap.size ≥ WM.heap.size) := ⟨hBX.size⟩
  have hq := Aside0.mk eqI24_9
  have hgd := Aside0.mk guard38
  clear hbw hBX hbs
  refine region_by (fun b us W_ => Below WX.heap.size WX W_) (by kernel_rfl) (by kernel_rfl) ⟨fun _ => undef, below_drew (Below.refl _ _)⟩ ?_
  (refine rb_want (fun us => rfl) ?_; apply Exists.intro; apply And.intro; (focus (apply rb_pure; (focus (intro b us w h; exact h)); intro b us W_ hC; go_simp; rfl)); apply Exists.intro; apply And.intro; (focus (intro us; simp only [Act.put, List.setIfInBounds_toArray, List.set_cons_zero, List.set_cons_succ]; rfl)))
  (refine rb_want (fun us => rfl) ?_; apply Exists.intro; apply And.intro; (focus (apply rb_pure; (focus (intro b us w h; exact h)); intro b us W_ hC; have y := hcs.out W_ hC; obtain ⟨y0, y1, y2, y3⟩ := y; have z := hcw.out W_ hC; obtain ⟨z0, z1, z2, z3⟩ := z; go_simp; rfl)); apply Exists.intro; apply And.intro; (focus (intro us; simp only [Act.put, List.setIfInBounds_toArray, List.set_cons_zero, List.set_cons_succ]; rfl)))
  (refine rb_want (fun us => rfl) ?_; apply Exists.intro; apply And.intro; (focus (apply rb_pure; (focus (intro b us w h; exact h)); intro b us W_ hC; go_simp; rfl)); apply Exists.intro; apply And.intro; (focus (intro us; simp only [Act.put, List.setIfInBounds_toArray, List.set_cons_zero, List.set_cons_succ]; rfl)))
  (refine rb_want (fun us => rfl) ⟨.agg #[.int .i64 1, .int .i64 c0, .int .i64 c1, .int .i64 c2, .int .i64 x, .int .i64 c0, .int .i64 4], rb_call (f := 26) (args := fun us => #[.pointer (some ⟨gm, 0, none⟩), .agg #[.int .i64 c0, .int .i64 c1, .int .i64 c2, .int .i64 c3], .int .i64 3, .int .i64 x, .int .i64 4]) (fun us W_ => ?_) (fun b us W_ hb hon hC => ?_), ?_⟩; (focus (exact rb_enters Try.func26 (by kernel_rfl) rfl (by rfl) W_)); (focus (refine (vm_Step4 (hMX.out.came hC) (Nat.le_trans (by have := hBM.out.size; have := hsz.out; omega) hC.size) (by decide) c0 c1 c2 c3 3 x 4 1 c0 c1 c2 x c0 4 hv.out (by decide)).mono ?_; rintro e w1 ⟨rfl, hbw⟩; exact ⟨rfl, below_step hC hbw⟩)); apply Exists.intro; apply And.intro; (focus (intro us; simp only [Act.put, List.setIfInBounds_toArray, List.set_cons_zero, List.set_cons_succ]; rfl)))
  (refine rb_want (fun us => rfl) ?_; apply Exists.intro; apply And.intro; (focus (apply rb_pure; (focus (intro b us w h; exact h)); intro b us W_ hC; have y := hcs.out W_ hC; obtain ⟨y0, y1, y2, y3⟩ := y; have z := hcw.out W_ hC; obtain ⟨z0, z1, z2, z3⟩ := z; go_simp; rfl)); apply Exists.intro; apply And.intro; (focus (intro us; simp only [Act.put, List.setIfInBounds_toArray, List.set_cons_zero, List.set_cons_succ]; rfl)))
  (refine rb_want (fun us => rfl) ?_; apply Exists.intro; apply And.intro; (focus (apply rb_pure; (focus (intro b us w h; exact h)); intro b us W_ hC; go_simp; rfl)); apply Exists.intro; apply And.intro; (focus (intro us; simp only [Act.put, List.setIfInBounds_toArray, List.set_cons_zero, List.set_cons_succ]; rfl)))
  (refine rb_want (fun us => rfl) ?_; apply Exists.intro; apply And.intro; (focus (apply rb_pure; (focus (intro b us w h; exact h)); intro b us W_ hC; go_simp; rfl)); apply Exists.intro; apply And.intro; (focus (intro us; simp only [Act.put, List.setIfInBounds_toArray, List.set_cons_zero, List.set_cons_succ]; rfl)))
  (refine rb_want (fun us => rfl) ?_; apply Exists.intro; apply And.intro; (focus (apply rb_pure; (focus (intro b us w h; exact h)); intro b us W_ hC; have y := hcs.out W_ hC; obtain ⟨y0, y1, y2, y3⟩ := y; have z := hcw.out W_ hC; obtain ⟨z0, z1, z2, z3⟩ := z; go_simp; rfl)); apply Exists.intro; apply And.intro; (focus (intro us; simp only [Act.put, List.setIfInBounds_toArray, List.set_cons_zero, List.set_cons_succ]; rfl)))
  (refine rb_want (fun us => rfl) ?_; apply Exists.intro; apply And.intro; (focus (apply rb_pure; (focus (intro b us w h; exact h)); intro b us W_ hC; go_simp; rfl)); apply Exists.intro; apply And.intro; (focus (intro us; simp only [Act.put, List.setIfInBounds_toArray, List.set_cons_zero, List.set_cons_succ]; rfl)))
  (refine rb_want (fun us => rfl) ?_; apply Exists.intro; apply And.intro; (focus (apply rb_pure; (focus (intro b us w h; exact h)); intro b us W_ hC; have q := hq.out W_; have q2 := hgd.out; go_simp; rfl)); apply Exists.intro; apply And.intro; (focus (intro us; simp only [Act.put, List.setIfInBounds_toArray, List.set_cons_zero, List.set_cons_succ]; rfl)))
  (refine rb_want (fun us => rfl) ?_; apply Exists.intro; apply And.intro; (focus (apply rb_pure; (focus (intro b us w h; exact h)); intro b us W_ hC; go_simp; rfl)); apply Exists.intro; apply And.intro; (focus (intro us; simp only [Act.put, List.setIfInBounds_toArray, List.set_cons_zero, List.set_cons_succ]; rfl)))
  (refine rb_want (fun us => rfl) ⟨.bool true, rb_call (f := 29) (args := fun us => #[]) (fun us W_ => ?_) (fun b us W_ hb hon hC => ?_), ?_⟩; (focus (exact rb_enters Try.func29 (by kernel_rfl) rfl (by rfl) W_)); (focus (refine (vm_lives W_).mono ?_; rintro e w1 ⟨rfl, hbw⟩; exact ⟨rfl, below_step hC hbw⟩)); apply Exists.intro; apply And.intro; (focus (intro us; simp only [Act.put, List.setIfInBounds_toArray, List.set_cons_zero, List.set_cons_succ]; rfl)))
  (refine rb_want (fun us => rfl) ?_; apply Exists.intro; apply And.intro; (focus (apply rb_pure; (focus (intro b us w h; exact h)); intro b us W_ hC; go_simp; rfl)); apply Exists.intro; apply And.intro; (focus (intro us; simp only [Act.put, List.setIfInBounds_toArray, List.set_cons_zero, List.set_cons_succ]; rfl)))
  (refine rb_want (fun us => rfl) ?_; apply Exists.intro; apply And.intro; (focus (apply rb_pure; (focus (intro b us w h; exact h)); intro b us W_ hC; go_simp; rfl)); apply Exists.intro; apply And.intro; (focus (intro us; simp only [Act.put, List.setIfInBounds_toArray, List.set_cons_zero, List.set_cons_succ]; rfl)))
  refine rb_done (fun b us W_ hall hC => ?_)
  have hB8 := hC
  clear hC hall
  go_wp2
  go_ret
  exact ⟨rfl, below_step hB0.out hB8⟩
set_option maxRecDepth 100000 in
set_option maxHeartbeats 2000000 in
theorem vmCells_31 (c0 c1 c2 c3 at_ from_ x : Int) (w : World) (ha : inquestref01_Least.f at_ 0 3 = some 3) (hf : inquestref01_Least.f from_ 0 3 = some 1) :
    Calls Try.prog 8 #[.agg #[.int .i64 c0, .int .i64 c1, .int .i64 c2, .int .i64 c3], .int .i64 at_, .int .i64 from_, .int .i64 x] w fun e w' => e = .returned (.bool true) ∧ Below w.heap.size w w' := by
  have ha' := Aside0.mk ha
  have hf' := Aside0.mk hf
  clear ha hf
  have hlit := fun w => vm_lit4 w 6 0 5 3 4 1 18 0
  have ht : Aside0 ((thru ([⟨6, 0⟩, ⟨5, 3⟩, ⟨4, 1⟩, ⟨18, 0⟩] : List S36)).2.2 = 0) := ⟨by decide +kernel⟩
  have hv : Aside0 (vstep [⟨6, 0⟩, ⟨5, 3⟩, ⟨4, 1⟩, ⟨18, 0⟩] [c0, c1, c2, c3] 3 x 4 = some (1, [c0, c1, c2, x], c1, 4)) := ⟨by kernel_rfl⟩
  go_enter Try.func8, Try.ntmps8
  go_wp2_with (first | (go_at_call 30; (with_reducible refine (inquestref01_Least.calls at_ 0 3 3 _ ha'.out).mono ?_); rintro e W1 ⟨rfl, ⟨n1, rfl⟩⟩) | (go_at_call 30; (with_reducible refine (inquestref01_Least.calls from_ 0 3 1 _ hf'.out).mono ?_); rintro e W1 ⟨rfl, ⟨n2, rfl⟩⟩) | (go_at_call 23; (with_reducible refine (vm_New_kn _ 4 4 [⟨6, 0⟩, ⟨5, 3⟩, ⟨4, 1⟩, ⟨18, 0⟩] _ rfl (by repeat (first | (with_reducible exact vm_litC4n _ _ (by simp) 6 0 5 3 4 1 18 0) | (with_reducible refine Kd.C_drewN ?_ _))) (by decide) (by decide) ht.out).mono ?_); rintro e WM ⟨gm, vM, rfl, hM, hBM⟩; have hbs := blk_below (blk_alloc (blk_drewN (blk_new w (.cells #[.int .i64 c0, .int .i64 c1, .int .i64 c2, .int .i64 c3] 24)) (n1 + n2)) _) hBM; have s0 := blk_cell hbs 0; have s1 := blk_cell hbs 1; have s2 := blk_cell hbs 2; have s3 := blk_cell hbs 3; simp only [List.getElem?_toArray, List.getElem?_cons_zero, List.getElem?_cons_succ] at s0 s1 s2 s3; replace hbs := Aside0.mk hbs; replace hM := Aside0.mk hM; replace hBM := Aside0.mk hBM))
  refine vm_gen _ (fun W => W.heap[WM.heap.size]? = some (.cells #[.int .i64 c0, .int .i64 c1, .int .i64 c2, .int .i64 x] 24 (0, 0)) ∧ Below WM.heap.size WM W) ⟨blk_new _ _, below_alloc (Below.refl _ _) _⟩ ?_
  clear s0 s1 s2 s3
  rintro WX ⟨hbw, hBX⟩
  have hcs := Aside0.mk (fun (X : World) (hX : Below WX.heap.size WX X) => vm_4c (blk_below (blk_below hbs.out hBX) hX))
  have hcw := Aside0.mk (fun (X : World) (hX : Below WX.heap.size WX X) => vm_4c (blk_below hbw hX))
  have hMX := Aside0.mk (hM.out.came hBX)
  have hB0 : Aside0 (Below w.heap.size w WX) := ⟨below_step (below_step (below_alloc (pw_below_drewN (below_alloc (Below.refl w.heap.size w) _) (n1 + n2)) _) hBM.out) hBX⟩
  have hsz : Aside0 (WX.heap.size ≥ WM.heap.size) := ⟨hBX.size⟩
  have hq := Aside0.mk eqI24_9
  have hgd := Aside0.mk guard38
  clear hbw hBX hbs
  refine region_by (fun b us W_ => Below WX.heap.size WX W_) (by kernel_rfl) (by kernel_rfl) ⟨fun _ => undef, below_drew (Below.refl _ _)⟩ ?_
  (refine rb_want (fun us => rfl) ?_; apply Exists.intro; apply And.intro; (focus (apply rb_pure; (focus (intro b us w h; exact h)); intro b us W_ hC; go_simp; rfl)); apply Exists.intro; apply And.intro; (focus (intro us; simp only [Act.put, List.setIfInBounds_toArray, List.set_cons_zero, List.set_cons_succ]; rfl)))
  (refine rb_want (fun us => rfl) ?_; apply Exists.intro; apply And.intro; (focus (apply rb_pure; (focus (intro b us w h; exact h)); intro b us W_ hC; have y := hcs.out W_ hC; obtain ⟨y0, y1, y2, y3⟩ := y; have z := hcw.out W_ hC; obtain ⟨z0, z1, z2, z3⟩ := z; go_simp; rfl)); apply Exists.intro; apply And.intro; (focus (intro us; simp only [Act.put, List.setIfInBounds_toArray, List.set_cons_zero, List.set_cons_succ]; rfl)))
  (refine rb_want (fun us => rfl) ?_; apply Exists.intro; apply And.intro; (focus (apply rb_pure; (focus (intro b us w h; exact h)); intro b us W_ hC; go_simp; rfl)); apply Exists.intro; apply And.intro; (focus (intro us; simp only [Act.put, List.setIfInBounds_toArray, List.set_cons_zero, List.set_cons_succ]; rfl)))
  (refine rb_want (fun us => rfl) ⟨.agg #[.int .i64 1, .int .i64 c0, .int .i64 c1, .int .i64 c2, .int .i64 x, .int .i64 c1, .int .i64 4], rb_call (f := 26) (args := fun us => #[.pointer (some ⟨gm, 0, none⟩), .agg #[.int .i64 c0, .int .i64 c1, .int .i64 c2, .int .i64 c3], .int .i64 3, .int .i64 x, .int .i64 4]) (fun us W_ => ?_) (fun b us W_ hb hon hC => ?_), ?_⟩; (focus (exact rb_enters Try.func26 (by kernel_rfl) rfl (by rfl) W_)); (focus (refine (vm_Step4 (hMX.out.came hC) (Nat.le_trans (by have := hBM.out.size; have := hsz.out; omega) hC.size) (by decide) c0 c1 c2 c3 3 x 4 1 c0 c1 c2 x c1 4 hv.out (by decide)).mono ?_; rintro e w1 ⟨rfl, hbw⟩; exact ⟨rfl, below_step hC hbw⟩)); apply Exists.intro; apply And.intro; (focus (intro us; simp only [Act.put, List.setIfInBounds_toArray, List.set_cons_zero, List.set_cons_succ]; rfl)))
  (refine rb_want (fun us => rfl) ?_; apply Exists.intro; apply And.intro; (focus (apply rb_pure; (focus (intro b us w h; exact h)); intro b us W_ hC; have y := hcs.out W_ hC; obtain ⟨y0, y1, y2, y3⟩ := y; have z := hcw.out W_ hC; obtain ⟨z0, z1, z2, z3⟩ := z; go_simp; rfl)); apply Exists.intro; apply And.intro; (focus (intro us; simp only [Act.put, List.setIfInBounds_toArray, List.set_cons_zero, List.set_cons_succ]; rfl)))
  (refine rb_want (fun us => rfl) ?_; apply Exists.intro; apply And.intro; (focus (apply rb_pure; (focus (intro b us w h; exact h)); intro b us W_ hC; go_simp; rfl)); apply Exists.intro; apply And.intro; (focus (intro us; simp only [Act.put, List.setIfInBounds_toArray, List.set_cons_zero, List.set_cons_succ]; rfl)))
  (refine rb_want (fun us => rfl) ?_; apply Exists.intro; apply And.intro; (focus (apply rb_pure; (focus (intro b us w h; exact h)); intro b us W_ hC; go_simp; rfl)); apply Exists.intro; apply And.intro; (focus (intro us; simp only [Act.put, List.setIfInBounds_toArray, List.set_cons_zero, List.set_cons_succ]; rfl)))
  (refine rb_want (fun us => rfl) ?_; apply Exists.intro; apply And.intro; (focus (apply rb_pure; (focus (intro b us w h; exact h)); intro b us W_ hC; have y := hcs.out W_ hC; obtain ⟨y0, y1, y2, y3⟩ := y; have z := hcw.out W_ hC; obtain ⟨z0, z1, z2, z3⟩ := z; go_simp; rfl)); apply Exists.intro; apply And.intro; (focus (intro us; simp only [Act.put, List.setIfInBounds_toArray, List.set_cons_zero, List.set_cons_succ]; rfl)))
  (refine rb_want (fun us => rfl) ?_; apply Exists.intro; apply And.intro; (focus (apply rb_pure; (focus (intro b us w h; exact h)); intro b us W_ hC; go_simp; rfl)); apply Exists.intro; apply And.intro; (focus (intro us; simp only [Act.put, List.setIfInBounds_toArray, List.set_cons_zero, List.set_cons_succ]; rfl)))
  (refine rb_want (fun us => rfl) ?_; apply Exists.intro; apply And.intro; (focus (apply rb_pure; (focus (intro b us w h; exact h)); intro b us W_ hC; have q := hq.out W_; have q2 := hgd.out; go_simp; rfl)); apply Exists.intro; apply And.intro; (focus (intro us; simp only [Act.put, List.setIfInBounds_toArray, List.set_cons_zero, List.set_cons_succ]; rfl)))
  (refine rb_want (fun us => rfl) ?_; apply Exists.intro; apply And.intro; (focus (apply rb_pure; (focus (intro b us w h; exact h)); intro b us W_ hC; go_simp; rfl)); apply Exists.intro; apply And.intro; (focus (intro us; simp only [Act.put, List.setIfInBounds_toArray, List.set_cons_zero, List.set_cons_succ]; rfl)))
  (refine rb_want (fun us => rfl) ⟨.bool true, rb_call (f := 29) (args := fun us => #[]) (fun us W_ => ?_) (fun b us W_ hb hon hC => ?_), ?_⟩; (focus (exact rb_enters Try.func29 (by kernel_rfl) rfl (by rfl) W_)); (focus (refine (vm_lives W_).mono ?_; rintro e w1 ⟨rfl, hbw⟩; exact ⟨rfl, below_step hC hbw⟩)); apply Exists.intro; apply And.intro; (focus (intro us; simp only [Act.put, List.setIfInBounds_toArray, List.set_cons_zero, List.set_cons_succ]; rfl)))
  (refine rb_want (fun us => rfl) ?_; apply Exists.intro; apply And.intro; (focus (apply rb_pure; (focus (intro b us w h; exact h)); intro b us W_ hC; go_simp; rfl)); apply Exists.intro; apply And.intro; (focus (intro us; simp only [Act.put, List.setIfInBounds_toArray, List.set_cons_zero, List.set_cons_succ]; rfl)))
  (refine rb_want (fun us => rfl) ?_; apply Exists.intro; apply And.intro; (focus (apply rb_pure; (focus (intro b us w h; exact h)); intro b us W_ hC; go_simp; rfl)); apply Exists.intro; apply And.intro; (focus (intro us; simp only [Act.put, List.setIfInBounds_toArray, List.set_cons_zero, List.set_cons_succ]; rfl)))
  refine rb_done (fun b us W_ hall hC => ?_)
  have hB8 := hC
  clear hC hall
  go_wp2
  go_ret
  exact ⟨rfl, below_step hB0.out hB8⟩
set_option maxRecDepth 100000 in
set_option maxHeartbeats 2000000 in
theorem vmCells_32 (c0 c1 c2 c3 at_ from_ x : Int) (w : World) (ha : inquestref01_Least.f at_ 0 3 = some 3) (hf : inquestref01_Least.f from_ 0 3 = some 2) :
    Calls Try.prog 8 #[.agg #[.int .i64 c0, .int .i64 c1, .int .i64 c2, .int .i64 c3], .int .i64 at_, .int .i64 from_, .int .i64 x] w fun e w' => e = .returned (.bool true) ∧ Below w.heap.size w w' := by
  have ha' := Aside0.mk ha
  have hf' := Aside0.mk hf
  clear ha hf
  have hlit := fun w => vm_lit4 w 6 0 5 3 4 2 18 0
  have ht : Aside0 ((thru ([⟨6, 0⟩, ⟨5, 3⟩, ⟨4, 2⟩, ⟨18, 0⟩] : List S36)).2.2 = 0) := ⟨by decide +kernel⟩
  have hv : Aside0 (vstep [⟨6, 0⟩, ⟨5, 3⟩, ⟨4, 2⟩, ⟨18, 0⟩] [c0, c1, c2, c3] 3 x 4 = some (1, [c0, c1, c2, x], c2, 4)) := ⟨by kernel_rfl⟩
  go_enter Try.func8, Try.ntmps8
  go_wp2_with (first | (go_at_call 30; (with_reducible refine (inquestref01_Least.calls at_ 0 3 3 _ ha'.out).mono ?_); rintro e W1 ⟨rfl, ⟨n1, rfl⟩⟩) | (go_at_call 30; (with_reducible refine (inquestref01_Least.calls from_ 0 3 2 _ hf'.out).mono ?_); rintro e W1 ⟨rfl, ⟨n2, rfl⟩⟩) | (go_at_call 23; (with_reducible refine (vm_New_kn _ 4 4 [⟨6, 0⟩, ⟨5, 3⟩, ⟨4, 2⟩, ⟨18, 0⟩] _ rfl (by repeat (first | (with_reducible exact vm_litC4n _ _ (by simp) 6 0 5 3 4 2 18 0) | (with_reducible refine Kd.C_drewN ?_ _))) (by decide) (by decide) ht.out).mono ?_); rintro e WM ⟨gm, vM, rfl, hM, hBM⟩; have hbs := blk_below (blk_alloc (blk_drewN (blk_new w (.cells #[.int .i64 c0, .int .i64 c1, .int .i64 c2, .int .i64 c3] 24)) (n1 + n2)) _) hBM; have s0 := blk_cell hbs 0; have s1 := blk_cell hbs 1; have s2 := blk_cell hbs 2; have s3 := blk_cell hbs 3; simp only [List.getElem?_toArray, List.getElem?_cons_zero, List.getElem?_cons_succ] at s0 s1 s2 s3; replace hbs := Aside0.mk hbs; replace hM := Aside0.mk hM; replace hBM := Aside0.mk hBM))
  refine vm_gen _ (fun W => W.heap[WM.heap.size]? = some (.cells #[.int .i64 c0, .int .i64 c1, .int .i64 c2, .int .i64 x] 24 (0, 0)) ∧ Below WM.heap.size WM W) ⟨blk_new _ _, below_alloc (Below.refl _ _) _⟩ ?_
  clear s0 s1 s2 s3
  rintro WX ⟨hbw, hBX⟩
  have hcs := Aside0.mk (fun (X : World) (hX : Below WX.heap.size WX X) => vm_4c (blk_below (blk_below hbs.out hBX) hX))
  have hcw := Aside0.mk (fun (X : World) (hX : Below WX.heap.size WX X) => vm_4c (blk_below hbw hX))
  have hMX := Aside0.mk (hM.out.came hBX)
  have hB0 : Aside0 (Below w.heap.size w WX) := ⟨below_step (below_step (below_alloc (pw_below_drewN (below_alloc (Below.refl w.heap.size w) _) (n1 + n2)) _) hBM.out) hBX⟩
  have hsz : Aside0 (WX.heap.size ≥ WM.heap.size) := ⟨hBX.size⟩
  have hq := Aside0.mk eqI24_9
  have hgd := Aside0.mk guard38
  clear hbw hBX hbs
  refine region_by (fun b us W_ => Below WX.heap.size WX W_) (by kernel_rfl) (by kernel_rfl) ⟨fun _ => undef, below_drew (Below.refl _ _)⟩ ?_
  (refine rb_want (fun us => rfl) ?_; apply Exists.intro; apply And.intro; (focus (apply rb_pure; (focus (intro b us w h; exact h)); intro b us W_ hC; go_simp; rfl)); apply Exists.intro; apply And.intro; (focus (intro us; simp only [Act.put, List.setIfInBounds_toArray, List.set_cons_zero, List.set_cons_succ]; rfl)))
  (refine rb_want (fun us => rfl) ?_; apply Exists.intro; apply And.intro; (focus (apply rb_pure; (focus (intro b us w h; exact h)); intro b us W_ hC; have y := hcs.out W_ hC; obtain ⟨y0, y1, y2, y3⟩ := y; have z := hcw.out W_ hC; obtain ⟨z0, z1, z2, z3⟩ := z; go_simp; rfl)); apply Exists.intro; apply And.intro; (focus (intro us; simp only [Act.put, List.setIfInBounds_toArray, List.set_cons_zero, List.set_cons_succ]; rfl)))
  (refine rb_want (fun us => rfl) ?_; apply Exists.intro; apply And.intro; (focus (apply rb_pure; (focus (intro b us w h; exact h)); intro b us W_ hC; go_simp; rfl)); apply Exists.intro; apply And.intro; (focus (intro us; simp only [Act.put, List.setIfInBounds_toArray, List.set_cons_zero, List.set_cons_succ]; rfl)))
  (refine rb_want (fun us => rfl) ⟨.agg #[.int .i64 1, .int .i64 c0, .int .i64 c1, .int .i64 c2, .int .i64 x, .int .i64 c2, .int .i64 4], rb_call (f := 26) (args := fun us => #[.pointer (some ⟨gm, 0, none⟩), .agg #[.int .i64 c0, .int .i64 c1, .int .i64 c2, .int .i64 c3], .int .i64 3, .int .i64 x, .int .i64 4]) (fun us W_ => ?_) (fun b us W_ hb hon hC => ?_), ?_⟩; (focus (exact rb_enters Try.func26 (by kernel_rfl) rfl (by rfl) W_)); (focus (refine (vm_Step4 (hMX.out.came hC) (Nat.le_trans (by have := hBM.out.size; have := hsz.out; omega) hC.size) (by decide) c0 c1 c2 c3 3 x 4 1 c0 c1 c2 x c2 4 hv.out (by decide)).mono ?_; rintro e w1 ⟨rfl, hbw⟩; exact ⟨rfl, below_step hC hbw⟩)); apply Exists.intro; apply And.intro; (focus (intro us; simp only [Act.put, List.setIfInBounds_toArray, List.set_cons_zero, List.set_cons_succ]; rfl)))
  (refine rb_want (fun us => rfl) ?_; apply Exists.intro; apply And.intro; (focus (apply rb_pure; (focus (intro b us w h; exact h)); intro b us W_ hC; have y := hcs.out W_ hC; obtain ⟨y0, y1, y2, y3⟩ := y; have z := hcw.out W_ hC; obtain ⟨z0, z1, z2, z3⟩ := z; go_simp; rfl)); apply Exists.intro; apply And.intro; (focus (intro us; simp only [Act.put, List.setIfInBounds_toArray, List.set_cons_zero, List.set_cons_succ]; rfl)))
  (refine rb_want (fun us => rfl) ?_; apply Exists.intro; apply And.intro; (focus (apply rb_pure; (focus (intro b us w h; exact h)); intro b us W_ hC; go_simp; rfl)); apply Exists.intro; apply And.intro; (focus (intro us; simp only [Act.put, List.setIfInBounds_toArray, List.set_cons_zero, List.set_cons_succ]; rfl)))
  (refine rb_want (fun us => rfl) ?_; apply Exists.intro; apply And.intro; (focus (apply rb_pure; (focus (intro b us w h; exact h)); intro b us W_ hC; go_simp; rfl)); apply Exists.intro; apply And.intro; (focus (intro us; simp only [Act.put, List.setIfInBounds_toArray, List.set_cons_zero, List.set_cons_succ]; rfl)))
  (refine rb_want (fun us => rfl) ?_; apply Exists.intro; apply And.intro; (focus (apply rb_pure; (focus (intro b us w h; exact h)); intro b us W_ hC; have y := hcs.out W_ hC; obtain ⟨y0, y1, y2, y3⟩ := y; have z := hcw.out W_ hC; obtain ⟨z0, z1, z2, z3⟩ := z; go_simp; rfl)); apply Exists.intro; apply And.intro; (focus (intro us; simp only [Act.put, List.setIfInBounds_toArray, List.set_cons_zero, List.set_cons_succ]; rfl)))
  (refine rb_want (fun us => rfl) ?_; apply Exists.intro; apply And.intro; (focus (apply rb_pure; (focus (intro b us w h; exact h)); intro b us W_ hC; go_simp; rfl)); apply Exists.intro; apply And.intro; (focus (intro us; simp only [Act.put, List.setIfInBounds_toArray, List.set_cons_zero, List.set_cons_succ]; rfl)))
  (refine rb_want (fun us => rfl) ?_; apply Exists.intro; apply And.intro; (focus (apply rb_pure; (focus (intro b us w h; exact h)); intro b us W_ hC; have q := hq.out W_; have q2 := hgd.out; go_simp; rfl)); apply Exists.intro; apply And.intro; (focus (intro us; simp only [Act.put, List.setIfInBounds_toArray, List.set_cons_zero, List.set_cons_succ]; rfl)))
  (refine rb_want (fun us => rfl) ?_; apply Exists.intro; apply And.intro; (focus (apply rb_pure; (focus (intro b us w h; exact h)); intro b us W_ hC; go_simp; rfl)); apply Exists.intro; apply And.intro; (focus (intro us; simp only [Act.put, List.setIfInBounds_toArray, List.set_cons_zero, List.set_cons_succ]; rfl)))
  (refine rb_want (fun us => rfl) ⟨.bool true, rb_call (f := 29) (args := fun us => #[]) (fun us W_ => ?_) (fun b us W_ hb hon hC => ?_), ?_⟩; (focus (exact rb_enters Try.func29 (by kernel_rfl) rfl (by rfl) W_)); (focus (refine (vm_lives W_).mono ?_; rintro e w1 ⟨rfl, hbw⟩; exact ⟨rfl, below_step hC hbw⟩)); apply Exists.intro; apply And.intro; (focus (intro us; simp only [Act.put, List.setIfInBounds_toArray, List.set_cons_zero, List.set_cons_succ]; rfl)))
  (refine rb_want (fun us => rfl) ?_; apply Exists.intro; apply And.intro; (focus (apply rb_pure; (focus (intro b us w h; exact h)); intro b us W_ hC; go_simp; rfl)); apply Exists.intro; apply And.intro; (focus (intro us; simp only [Act.put, List.setIfInBounds_toArray, List.set_cons_zero, List.set_cons_succ]; rfl)))
  (refine rb_want (fun us => rfl) ?_; apply Exists.intro; apply And.intro; (focus (apply rb_pure; (focus (intro b us w h; exact h)); intro b us W_ hC; go_simp; rfl)); apply Exists.intro; apply And.intro; (focus (intro us; simp only [Act.put, List.setIfInBounds_toArray, List.set_cons_zero, List.set_cons_succ]; rfl)))
  refine rb_done (fun b us W_ hall hC => ?_)
  have hB8 := hC
  clear hC hall
  go_wp2
  go_ret
  exact ⟨rfl, below_step hB0.out hB8⟩
set_option maxRecDepth 100000 in
set_option maxHeartbeats 2000000 in
theorem vmCells_33 (c0 c1 c2 c3 at_ from_ x : Int) (w : World) (ha : inquestref01_Least.f at_ 0 3 = some 3) (hf : inquestref01_Least.f from_ 0 3 = some 3) :
    Calls Try.prog 8 #[.agg #[.int .i64 c0, .int .i64 c1, .int .i64 c2, .int .i64 c3], .int .i64 at_, .int .i64 from_, .int .i64 x] w fun e w' => e = .returned (.bool true) ∧ Below w.heap.size w w' := by
  have ha' := Aside0.mk ha
  have hf' := Aside0.mk hf
  clear ha hf
  have hlit := fun w => vm_lit4 w 6 0 5 3 4 3 18 0
  have ht : Aside0 ((thru ([⟨6, 0⟩, ⟨5, 3⟩, ⟨4, 3⟩, ⟨18, 0⟩] : List S36)).2.2 = 0) := ⟨by decide +kernel⟩
  have hv : Aside0 (vstep [⟨6, 0⟩, ⟨5, 3⟩, ⟨4, 3⟩, ⟨18, 0⟩] [c0, c1, c2, c3] 3 x 4 = some (1, [c0, c1, c2, x], x, 4)) := ⟨by kernel_rfl⟩
  go_enter Try.func8, Try.ntmps8
  go_wp2_with (first | (go_at_call 30; (with_reducible refine (inquestref01_Least.calls at_ 0 3 3 _ ha'.out).mono ?_); rintro e W1 ⟨rfl, ⟨n1, rfl⟩⟩) | (go_at_call 30; (with_reducible refine (inquestref01_Least.calls from_ 0 3 3 _ hf'.out).mono ?_); rintro e W1 ⟨rfl, ⟨n2, rfl⟩⟩) | (go_at_call 23; (with_reducible refine (vm_New_kn _ 4 4 [⟨6, 0⟩, ⟨5, 3⟩, ⟨4, 3⟩, ⟨18, 0⟩] _ rfl (by repeat (first | (with_reducible exact vm_litC4n _ _ (by simp) 6 0 5 3 4 3 18 0) | (with_reducible refine Kd.C_drewN ?_ _))) (by decide) (by decide) ht.out).mono ?_); rintro e WM ⟨gm, vM, rfl, hM, hBM⟩; have hbs := blk_below (blk_alloc (blk_drewN (blk_new w (.cells #[.int .i64 c0, .int .i64 c1, .int .i64 c2, .int .i64 c3] 24)) (n1 + n2)) _) hBM; have s0 := blk_cell hbs 0; have s1 := blk_cell hbs 1; have s2 := blk_cell hbs 2; have s3 := blk_cell hbs 3; simp only [List.getElem?_toArray, List.getElem?_cons_zero, List.getElem?_cons_succ] at s0 s1 s2 s3; replace hbs := Aside0.mk hbs; replace hM := Aside0.mk hM; replace hBM := Aside0.mk hBM))
  refine vm_gen _ (fun W => W.heap[WM.heap.size]? = some (.cells #[.int .i64 c0, .int .i64 c1, .int .i64 c2, .int .i64 x] 24 (0, 0)) ∧ Below WM.heap.size WM W) ⟨blk_new _ _, below_alloc (Below.refl _ _) _⟩ ?_
  clear s0 s1 s2 s3
  rintro WX ⟨hbw, hBX⟩
  have hcs := Aside0.mk (fun (X : World) (hX : Below WX.heap.size WX X) => vm_4c (blk_below (blk_below hbs.out hBX) hX))
  have hcw := Aside0.mk (fun (X : World) (hX : Below WX.heap.size WX X) => vm_4c (blk_below hbw hX))
  have hMX := Aside0.mk (hM.out.came hBX)
  have hB0 : Aside0 (Below w.heap.size w WX) := ⟨below_step (below_step (below_alloc (pw_below_drewN (below_alloc (Below.refl w.heap.size w) _) (n1 + n2)) _) hBM.out) hBX⟩
  have hsz : Aside0 (WX.heap.size ≥ WM.heap.size) := ⟨hBX.size⟩
  have hq := Aside0.mk eqI24_9
  have hgd := Aside0.mk guard38
  clear hbw hBX hbs
  refine region_by (fun b us W_ => Below WX.heap.size WX W_) (by kernel_rfl) (by kernel_rfl) ⟨fun _ => undef, below_drew (Below.refl _ _)⟩ ?_
  (refine rb_want (fun us => rfl) ?_; apply Exists.intro; apply And.intro; (focus (apply rb_pure; (focus (intro b us w h; exact h)); intro b us W_ hC; go_simp; rfl)); apply Exists.intro; apply And.intro; (focus (intro us; simp only [Act.put, List.setIfInBounds_toArray, List.set_cons_zero, List.set_cons_succ]; rfl)))
  (refine rb_want (fun us => rfl) ?_; apply Exists.intro; apply And.intro; (focus (apply rb_pure; (focus (intro b us w h; exact h)); intro b us W_ hC; have y := hcs.out W_ hC; obtain ⟨y0, y1, y2, y3⟩ := y; have z := hcw.out W_ hC; obtain ⟨z0, z1, z2, z3⟩ := z; go_simp; rfl)); apply Exists.intro; apply And.intro; (focus (intro us; simp only [Act.put, List.setIfInBounds_toArray, List.set_cons_zero, List.set_cons_succ]; rfl)))
  (refine rb_want (fun us => rfl) ?_; apply Exists.intro; apply And.intro; (focus (apply rb_pure; (focus (intro b us w h; exact h)); intro b us W_ hC; go_simp; rfl)); apply Exists.intro; apply And.intro; (focus (intro us; simp only [Act.put, List.setIfInBounds_toArray, List.set_cons_zero, List.set_cons_succ]; rfl)))
  (refine rb_want (fun us => rfl) ⟨.agg #[.int .i64 1, .int .i64 c0, .int .i64 c1, .int .i64 c2, .int .i64 x, .int .i64 x, .int .i64 4], rb_call (f := 26) (args := fun us => #[.pointer (some ⟨gm, 0, none⟩), .agg #[.int .i64 c0, .int .i64 c1, .int .i64 c2, .int .i64 c3], .int .i64 3, .int .i64 x, .int .i64 4]) (fun us W_ => ?_) (fun b us W_ hb hon hC => ?_), ?_⟩; (focus (exact rb_enters Try.func26 (by kernel_rfl) rfl (by rfl) W_)); (focus (refine (vm_Step4 (hMX.out.came hC) (Nat.le_trans (by have := hBM.out.size; have := hsz.out; omega) hC.size) (by decide) c0 c1 c2 c3 3 x 4 1 c0 c1 c2 x x 4 hv.out (by decide)).mono ?_; rintro e w1 ⟨rfl, hbw⟩; exact ⟨rfl, below_step hC hbw⟩)); apply Exists.intro; apply And.intro; (focus (intro us; simp only [Act.put, List.setIfInBounds_toArray, List.set_cons_zero, List.set_cons_succ]; rfl)))
  (refine rb_want (fun us => rfl) ?_; apply Exists.intro; apply And.intro; (focus (apply rb_pure; (focus (intro b us w h; exact h)); intro b us W_ hC; have y := hcs.out W_ hC; obtain ⟨y0, y1, y2, y3⟩ := y; have z := hcw.out W_ hC; obtain ⟨z0, z1, z2, z3⟩ := z; go_simp; rfl)); apply Exists.intro; apply And.intro; (focus (intro us; simp only [Act.put, List.setIfInBounds_toArray, List.set_cons_zero, List.set_cons_succ]; rfl)))
  (refine rb_want (fun us => rfl) ?_; apply Exists.intro; apply And.intro; (focus (apply rb_pure; (focus (intro b us w h; exact h)); intro b us W_ hC; go_simp; rfl)); apply Exists.intro; apply And.intro; (focus (intro us; simp only [Act.put, List.setIfInBounds_toArray, List.set_cons_zero, List.set_cons_succ]; rfl)))
  (refine rb_want (fun us => rfl) ?_; apply Exists.intro; apply And.intro; (focus (apply rb_pure; (focus (intro b us w h; exact h)); intro b us W_ hC; go_simp; rfl)); apply Exists.intro; apply And.intro; (focus (intro us; simp only [Act.put, List.setIfInBounds_toArray, List.set_cons_zero, List.set_cons_succ]; rfl)))
  (refine rb_want (fun us => rfl) ?_; apply Exists.intro; apply And.intro; (focus (apply rb_pure; (focus (intro b us w h; exact h)); intro b us W_ hC; have y := hcs.out W_ hC; obtain ⟨y0, y1, y2, y3⟩ := y; have z := hcw.out W_ hC; obtain ⟨z0, z1, z2, z3⟩ := z; go_simp; rfl)); apply Exists.intro; apply And.intro; (focus (intro us; simp only [Act.put, List.setIfInBounds_toArray, List.set_cons_zero, List.set_cons_succ]; rfl)))
  (refine rb_want (fun us => rfl) ?_; apply Exists.intro; apply And.intro; (focus (apply rb_pure; (focus (intro b us w h; exact h)); intro b us W_ hC; go_simp; rfl)); apply Exists.intro; apply And.intro; (focus (intro us; simp only [Act.put, List.setIfInBounds_toArray, List.set_cons_zero, List.set_cons_succ]; rfl)))
  (refine rb_want (fun us => rfl) ?_; apply Exists.intro; apply And.intro; (focus (apply rb_pure; (focus (intro b us w h; exact h)); intro b us W_ hC; have q := hq.out W_; have q2 := hgd.out; go_simp; rfl)); apply Exists.intro; apply And.intro; (focus (intro us; simp only [Act.put, List.setIfInBounds_toArray, List.set_cons_zero, List.set_cons_succ]; rfl)))
  (refine rb_want (fun us => rfl) ?_; apply Exists.intro; apply And.intro; (focus (apply rb_pure; (focus (intro b us w h; exact h)); intro b us W_ hC; go_simp; rfl)); apply Exists.intro; apply And.intro; (focus (intro us; simp only [Act.put, List.setIfInBounds_toArray, List.set_cons_zero, List.set_cons_succ]; rfl)))
  (refine rb_want (fun us => rfl) ⟨.bool true, rb_call (f := 29) (args := fun us => #[]) (fun us W_ => ?_) (fun b us W_ hb hon hC => ?_), ?_⟩; (focus (exact rb_enters Try.func29 (by kernel_rfl) rfl (by rfl) W_)); (focus (refine (vm_lives W_).mono ?_; rintro e w1 ⟨rfl, hbw⟩; exact ⟨rfl, below_step hC hbw⟩)); apply Exists.intro; apply And.intro; (focus (intro us; simp only [Act.put, List.setIfInBounds_toArray, List.set_cons_zero, List.set_cons_succ]; rfl)))
  (refine rb_want (fun us => rfl) ?_; apply Exists.intro; apply And.intro; (focus (apply rb_pure; (focus (intro b us w h; exact h)); intro b us W_ hC; go_simp; rfl)); apply Exists.intro; apply And.intro; (focus (intro us; simp only [Act.put, List.setIfInBounds_toArray, List.set_cons_zero, List.set_cons_succ]; rfl)))
  (refine rb_want (fun us => rfl) ?_; apply Exists.intro; apply And.intro; (focus (apply rb_pure; (focus (intro b us w h; exact h)); intro b us W_ hC; go_simp; rfl)); apply Exists.intro; apply And.intro; (focus (intro us; simp only [Act.put, List.setIfInBounds_toArray, List.set_cons_zero, List.set_cons_succ]; rfl)))
  refine rb_done (fun b us W_ hall hC => ?_)
  have hB8 := hC
  clear hC hall
  go_wp2
  go_ret
  exact ⟨rfl, below_step hB0.out hB8⟩
theorem inquestlaw16_VmCells.any (c0 c1 c2 c3 at_ from_ x : Int) (w : World) (_ : (Lit.int .i64 c0).wf = true) (_ : (Lit.int .i64 c1).wf = true) (_ : (Lit.int .i64 c2).wf = true) (_ : (Lit.int .i64 c3).wf = true) (_ : (Lit.int .i64 at_).wf = true) (_ : (Lit.int .i64 from_).wf = true) (_ : (Lit.int .i64 x).wf = true) :
    Calls Try.prog 8 #[.agg #[.int .i64 c0, .int .i64 c1, .int .i64 c2, .int .i64 c3], .int .i64 at_, .int .i64 from_, .int .i64 x] w fun e w' => e = .returned (.bool true) ∧ Below w.heap.size w w' := by
  obtain ⟨a, ha, a0, a1⟩ := least_3 at_
  obtain ⟨f, hf, f0, f1⟩ := least_3 from_
  rcases three_of a ⟨a0, a1⟩ with rfl | rfl | rfl | rfl <;> rcases three_of f ⟨f0, f1⟩ with rfl | rfl | rfl | rfl
  · exact vmCells_00 c0 c1 c2 c3 at_ from_ x w ha hf
  · exact vmCells_01 c0 c1 c2 c3 at_ from_ x w ha hf
  · exact vmCells_02 c0 c1 c2 c3 at_ from_ x w ha hf
  · exact vmCells_03 c0 c1 c2 c3 at_ from_ x w ha hf
  · exact vmCells_10 c0 c1 c2 c3 at_ from_ x w ha hf
  · exact vmCells_11 c0 c1 c2 c3 at_ from_ x w ha hf
  · exact vmCells_12 c0 c1 c2 c3 at_ from_ x w ha hf
  · exact vmCells_13 c0 c1 c2 c3 at_ from_ x w ha hf
  · exact vmCells_20 c0 c1 c2 c3 at_ from_ x w ha hf
  · exact vmCells_21 c0 c1 c2 c3 at_ from_ x w ha hf
  · exact vmCells_22 c0 c1 c2 c3 at_ from_ x w ha hf
  · exact vmCells_23 c0 c1 c2 c3 at_ from_ x w ha hf
  · exact vmCells_30 c0 c1 c2 c3 at_ from_ x w ha hf
  · exact vmCells_31 c0 c1 c2 c3 at_ from_ x w ha hf
  · exact vmCells_32 c0 c1 c2 c3 at_ from_ x w ha hf
  · exact vmCells_33 c0 c1 c2 c3 at_ from_ x w ha hf

end Go.Proofs.Ytddkoimaghcbeaa.PVmSteps
