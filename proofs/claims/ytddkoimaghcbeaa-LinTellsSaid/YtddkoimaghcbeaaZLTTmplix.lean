/- A part of what the law LinTells stands on, only as far as it is needed (the words and walks were printed or written in this seat; this text was cut by a program of this session, wip/bin/trim.py). No condition beyond what each theorem says. -/
import Derived.WalkSpells
import Derived.Lib.LazyBuf
import Derived.Test.YtddkoimaghcbeaaZLTPVmStepsx0
import Derived.Test.YtddkoimaghcbeaaZLTPVmStepsx2
import Derived.Test.YtddkoimaghcbeaaZLTPVmStepsx3
import Derived.Test.YtddkoimaghcbeaaZLTPVmStepsx4
import Derived.Test.YtddkoimaghcbeaaZLTPVmStepsx5
import Derived.Test.YtddkoimaghcbeaaZLTPVmStepsx6
import Derived.Test.YtddkoimaghcbeaaZLTTmpliw
namespace Go.Proofs.Ytddkoimaghcbeaa.PVmSteps
open Go.RowKit Go.Proofs.YtddkoimaghcbeaaW.PrintWords Go.Proofs.YtddkoimaghcbeaaW.PrintLast Go.Proofs.YtddkoimaghcbeaaW.PrintMore
set_option linter.unusedVariables false
set_option linter.unusedSimpArgs false
set_option maxRecDepth 100000 in
theorem lin_CloneO (ad : Addr) (c : Nat) (l : List S65) (w : World) (hC : Kd.C k65 w (some ad) l.length l) (hl : l.length ≤ 1000) :
    Calls Try.prog 65 #[.slice (some ad) l.length c] w fun e w' => ∃ v, e = .returned v ∧ Kd.R k65 65 w' w.heap.size (fun _ => True) v l ∧ Below w.heap.size w w' := by
  have hC' := Aside0.mk hC
  clear hC
  obtain ⟨i0, hi0, hz0, hs0, hb0⟩ := info_parts info65
  have heq : ∀ w : World, (binOp .eql 55 (.slice (some ad) l.length c) (.slice none 0 0)).run Try.prog w = .ok (.bool false) w := fun w => Lib.run_eql_slice_nil w _ 65 (some ad) _ _ 0 0 Try.underlying55
  have hbs : ∀ w : World, (Instr.buildSlice 55 0 #[]).run Try.prog w = .ok (.slice (some ⟨w.heap.size, 0, none⟩) 0 0) (w.alloc (.cells #[] 65)) := by intro w; simp [Instr.buildSlice, run_underlying Try.underlying55, sizeOf, typeInfo, hi0, Instr.fill, newRow, show Array.range 0 = #[] from rfl]
  go_enter Try.func65, Try.ntmps65
  have hR0 : Aside0 (Kd.R k65 65 (w.alloc (.cells #[] 65)) w.heap.size (fun _ => True) (.slice (some ⟨w.heap.size, 0, none⟩) 0 0) ([] : List S65)) := ⟨⟨fun _ _ => trivial, OwnRow.lit w w.heap.size (Reps.none _ _) (Nat.le_refl _) (by simp)⟩⟩
  go_wp2_with (first | ((with_reducible refine gate_builtin (b := .append) (xs := #[.tmp 5, .tmp 6]) rfl ?_); at_builtin; refine Kd.R_append_rows k65 (w0 := w) w.heap.size rfl (.tmp 5) (.tmp 6) 55 65 (.agg #[.int .i64 0, .int .i64 0, .int .i64 0, .bool false, .int .i64 0, .int .i64 0, .int .i64 0]) 56 rfl Try.underlying55 info65 rfl (by decide) (by omega) _ ([] : List S65) l _ _ _ (fun _ => True) (fun _ => False) rfl rfl hR0.out (Kd.C_alloc hC'.out _) (fun _ _ h => h) (fun _ h => h.elim) (fun _ _ => trivial) (below_alloc (Below.refl _ w) _) (by simp) (by simp; omega) ?_; intro v1 w1 hR hB hg hat; rw [List.nil_append] at hR; replace hR := Aside0.mk hR; replace hB := Aside0.mk hB; clear hg hat))
  exact bodyPost_ret (v := v1) (by simp [results, Try.results65, go_sem]) rfl ⟨_, rfl, hR.out, hB.out⟩
set_option maxRecDepth 100000 in
theorem lin_CloneI (ad : Addr) (c : Nat) (l : List Int) (w : World) (hC : Kd.C (Kd.int .i64) w (some ad) l.length l) (hl : l.length ≤ 1073741825) :
    Calls Try.prog 71 #[.slice (some ad) l.length c] w fun e w' => ∃ v, e = .returned v ∧ Kd.R (Kd.int .i64) 3 w' w.heap.size (fun _ => True) v l ∧ Below w.heap.size w w' := by
  have hC' := Aside0.mk hC
  clear hC
  obtain ⟨i0, hi0, hz0, hs0, hb0⟩ := info_parts or_info3
  have heq : ∀ w : World, (binOp .eql 56 (.slice (some ad) l.length c) (.slice none 0 0)).run Try.prog w = .ok (.bool false) w := fun w => Lib.run_eql_slice_nil w _ 3 (some ad) _ _ 0 0 Try.underlying56
  have hbs : ∀ w : World, (Instr.buildSlice 56 0 #[]).run Try.prog w = .ok (.slice (some ⟨w.heap.size, 0, none⟩) 0 0) (w.alloc (.cells #[] 3)) := by intro w; simp [Instr.buildSlice, run_underlying Try.underlying56, sizeOf, typeInfo, hi0, Instr.fill, newRow, show Array.range 0 = #[] from rfl]
  go_enter Try.func71, Try.ntmps71
  have hR0 : Aside0 (Kd.R (Kd.int .i64) 3 (w.alloc (.cells #[] 3)) w.heap.size (fun _ => True) (.slice (some ⟨w.heap.size, 0, none⟩) 0 0) ([] : List Int)) := ⟨⟨fun _ _ => trivial, OwnRow.lit w w.heap.size (Reps.none _ _) (Nat.le_refl _) (by simp)⟩⟩
  go_wp2_with (first | ((with_reducible refine gate_builtin (b := .append) (xs := #[.tmp 5, .tmp 6]) rfl ?_); at_builtin; refine Kd.R_append_rows (Kd.int .i64) (w0 := w) w.heap.size rfl (.tmp 5) (.tmp 6) 56 3 (.int .i64 0) 8 rfl Try.underlying56 or_info3 rfl (by decide) (by omega) _ ([] : List Int) l _ _ _ (fun _ => True) (fun _ => False) rfl rfl hR0.out (Kd.C_alloc hC'.out _) (fun _ _ h => h) (fun _ h => h.elim) (fun _ _ => trivial) (below_alloc (Below.refl _ w) _) (by simp) (by simp; omega) ?_; intro v1 w1 hR hB hg hat; rw [List.nil_append] at hR; replace hR := Aside0.mk hR; replace hB := Aside0.mk hB; clear hg hat))
  exact bodyPost_ret (v := v1) (by simp [results, Try.results71, go_sem]) rfl ⟨_, rfl, hR.out, hB.out⟩
theorem lin_CloneO0 (c : Nat) (w : World) : Calls Try.prog 65 #[.slice none 0 c] w fun e w' => e = .returned (.slice none 0 0) ∧ Below w.heap.size w w' := by
  have heq : ∀ w : World, (binOp .eql 55 (.slice none 0 c) (.slice none 0 0)).run Try.prog w = .ok (.bool true) w := fun w => Lib.run_eql_slice_nil w _ 65 none _ _ 0 0 Try.underlying55
  go_enter Try.func65, Try.ntmps65
  go_wp2
  go_ret
  exact ⟨rfl, Below.refl _ _⟩
theorem lin_CloneI0 (c : Nat) (w : World) : Calls Try.prog 71 #[.slice none 0 c] w fun e w' => e = .returned (.slice none 0 0) ∧ Below w.heap.size w w' := by
  have heq : ∀ w : World, (binOp .eql 56 (.slice none 0 c) (.slice none 0 0)).run Try.prog w = .ok (.bool true) w := fun w => Lib.run_eql_slice_nil w _ 3 none _ _ 0 0 Try.underlying56
  go_enter Try.func71, Try.ntmps71
  go_wp2
  go_ret
  exact ⟨rfl, Below.refl _ _⟩
theorem lin_CloneOp (A : Option Addr) (c : Nat) (l : List S65) (w : World) (hC : Kd.C k65 w A l.length l) (hl : l.length ≤ 1000) :
    Calls Try.prog 65 #[.slice A l.length c] w fun e w' => ∃ v, e = .returned v ∧ Kd.R k65 65 w' w.heap.size (fun _ => True) v l ∧ Below w.heap.size w w' := by
  cases A with
  | some ad => exact lin_CloneO ad c l w hC hl
  | none =>
    have h0 : l.length = 0 := by
      rcases Nat.eq_zero_or_pos l.length with h | h
      · exact h
      · obtain ⟨ad, e, _⟩ := hC.2.2 h; cases e
    obtain rfl := List.eq_nil_of_length_eq_zero h0
    exact (lin_CloneO0 c w).mono (by rintro e w' ⟨rfl, hb⟩; exact ⟨_, rfl, Kd.R_nil _ _ _ _ _, hb⟩)
theorem lin_CloneIn (A : Option Addr) (c : Nat) (l : List Int) (w : World) (hC : Kd.C (Kd.int .i64) w A l.length l) (hl : l.length ≤ 1073741825) :
    Calls Try.prog 71 #[.slice A l.length c] w fun e w' => ∃ v, e = .returned v ∧ Kd.R (Kd.int .i64) 3 w' w.heap.size (fun _ => True) v l ∧ Below w.heap.size w w' := by
  cases A with
  | some ad => exact lin_CloneI ad c l w hC hl
  | none =>
    have h0 : l.length = 0 := by
      rcases Nat.eq_zero_or_pos l.length with h | h
      · exact h
      · obtain ⟨ad, e, _⟩ := hC.2.2 h; cases e
    obtain rfl := List.eq_nil_of_length_eq_zero h0
    exact (lin_CloneI0 c w).mono (by rintro e w' ⟨rfl, hb⟩; exact ⟨_, rfl, Kd.R_nil _ _ _ _ _, hb⟩)
def verZ : Obj := .cells #[.int .i64 0, .slice none 0 0, .int .i64 0] 75
def verO (k : Int) (v : Value) (t : Int) : Obj := .cells #[.int .i64 k, v, .int .i64 t] 75
set_option maxRecDepth 100000 in
set_option maxHeartbeats 8000000 in
theorem lin_Verdict {w0 W : World} {q : LinQ} {g : Nat} {st : LinS} (h : LinT w0 W q g st) (ho : st.order.length ≤ 1073741824) :
    Calls Try.prog 43 #[.pointer (some ⟨g, 0, none⟩)] W fun e w' => ∃ v, e = .returned (.tuple #[.agg #[.int .i64 (if st.over = true then st.kind else 0), v, .int .i64 (if st.over = true then (st.tries : Int) else 0)], .bool st.over]) ∧ Kd.R (Kd.int .i64) 3 w' W.heap.size (fun _ => True) v (if st.over = true ∧ st.kind = 1 then st.order else []) ∧ Below W.heap.size W w' := by
  have hT := Aside0.mk h
  obtain ⟨gm, bm, vM, vO, vA, vL, vR, hM⟩ := h
  obtain ⟨AR, cR, rfl, hRc, hRC⟩ := Kd.R_reads hM.hR
  have hM0 := Aside0.mk hM
  replace hRC := Aside0.mk hRC
  replace ho := Aside0.mk ho
  clear hM hRc
  cases hov : st.over with
  | false =>
    rw [if_neg (show ¬ (false = true ∧ st.kind = 1) from fun e => by cases e.1), if_neg (by decide), if_neg (by decide)]
    go_enter Try.func43, Try.ntmps43
    go_wp2_with (first | (go_at_call 44; (with_reducible refine (lin_Over (hT.out.came (below_alloc (Below.refl _ _) _))).mono ?_); rw [hov]; rintro e W2 ⟨rfl, hB2⟩; have hbs := blk_below (blk_new W verZ) hB2; have s0 := blk_cell hbs 0; have s1 := blk_cell hbs 1; have s2 := blk_cell hbs 2; have g0 := blk_frozen hbs 0; have g1 := blk_frozen hbs 1; have g2 := blk_frozen hbs 2; simp only [List.getElem?_toArray, List.getElem?_cons_zero, List.getElem?_cons_succ] at s0 s1 s2; replace hbs := Aside0.mk hbs; replace hB2 := Aside0.mk hB2))
    have h3 : Aside0 ((((W2.setCell ⟨W.heap.size, 0, none⟩ (.int .i64 0)).setCell ⟨W.heap.size, 1, none⟩ (.slice none 0 0)).setCell ⟨W.heap.size, 2, none⟩ (.int .i64 0)).heap[W.heap.size]? = some (Obj.cells #[.int .i64 0, .slice none 0 0, .int .i64 0] 75 (0, 0))) := ⟨by simpa [verZ] using blk_set (blk_set (blk_set hbs.out 0 (.int .i64 0)) 1 (.slice none 0 0)) 2 (.int .i64 0)⟩
    refine bodyPost_ret (results_ct Try.results43 _ _ W.heap.size _ _ _ _ rfl h3.out Try.underlying75 rfl (by kernel_rfl)) rfl ?_
    exact ⟨.slice none 0 0, rfl, Kd.R_nil _ _ _ _ _, below_set (below_set (below_set (below_step (below_alloc (Below.refl _ _) _) hB2.out) (Nat.le_refl _)) (Nat.le_refl _)) (Nat.le_refl _)⟩
  | true =>
    by_cases hk : st.kind = 1
    · have hkb : (st.kind == 1) = true := by simpa using hk
      rw [if_pos (show true = true ∧ st.kind = 1 from ⟨rfl, hk⟩), if_pos rfl, if_pos rfl, hk]
      replace hk := Aside0.mk hk
      go_enter Try.func43, Try.ntmps43
      go_wp2_with (first | (go_at_call 44; (with_reducible refine (lin_Over (hT.out.came (below_alloc (Below.refl _ _) _))).mono ?_); rw [hov]; rintro e W2 ⟨rfl, hB2⟩; have hbs := blk_below (blk_new W verZ) hB2; have s0 := blk_cell hbs 0; have s1 := blk_cell hbs 1; have s2 := blk_cell hbs 2; have g0 := blk_frozen hbs 0; have g1 := blk_frozen hbs 1; have g2 := blk_frozen hbs 2; simp only [List.getElem?_toArray, List.getElem?_cons_zero, List.getElem?_cons_succ] at s0 s1 s2; replace hbs := Aside0.mk hbs; replace hB2 := Aside0.mk hB2))
      have hM2 := Aside0.mk (hM0.out.came (below_step (below_alloc (Below.refl _ _) _) hB2.out))
      have hcel : Aside0 (∀ W_ : World, Below W2.heap.size W2 W_ → W_.cell? ⟨g, 11, none⟩ = some (.int .i64 st.kind) ∧ W_.cell? ⟨g, 9, none⟩ = some (.int .i64 (st.tries : Int))) := ⟨fun W_ hb => by
        obtain ⟨c0, c1, c2, c3, c4, c5, c6, c7, c8, c9, c10, c11⟩ := hM2.out.cells W_ hb
        exact ⟨c11, c9⟩⟩
      clear s0 s1 s2 g0 g1 g2
      refine region_by (fun b us W_ => OneC W2 9 10 verZ (verO st.kind (.slice none 0 0) (st.tries : Int)) b us W_) (by kernel_rfl) (by kernel_rfl) ⟨fun _ => undef, OneC.start W2 9 10 _ _ _⟩ ?_
      iterate 3 (refine rb_want (fun us => rfl) ?_; apply Exists.intro; apply And.intro; (focus (apply rb_pure; (focus (intro b us w h; exact h.off (by decide) (by decide))); intro b us W_ hC; go_simp; rfl)); apply Exists.intro; apply And.intro; (focus (intro us; simp only [Act.put, List.setIfInBounds_toArray, List.set_cons_zero, List.set_cons_succ]; rfl)))
      (refine rb_want (fun us => rfl) ?_; apply Exists.intro; apply And.intro; (focus (apply rb_pure; (focus (intro b us w h; exact h.off (by decide) (by decide))); intro b us W_ hC; have y := hcel.out W_ hC.hB; obtain ⟨y0, y1⟩ := y; go_simp; rfl)); apply Exists.intro; apply And.intro; (focus (intro us; simp only [Act.put, List.setIfInBounds_toArray, List.set_cons_zero, List.set_cons_succ]; rfl)))
      iterate 3 (refine rb_want (fun us => rfl) ?_; apply Exists.intro; apply And.intro; (focus (apply rb_pure; (focus (intro b us w h; exact h.off (by decide) (by decide))); intro b us W_ hC; go_simp; rfl)); apply Exists.intro; apply And.intro; (focus (intro us; simp only [Act.put, List.setIfInBounds_toArray, List.set_cons_zero, List.set_cons_succ]; rfl)))
      (refine rb_want (fun us => rfl) ?_; apply Exists.intro; apply And.intro; (focus (apply rb_pure; (focus (intro b us w h; exact h.off (by decide) (by decide))); intro b us W_ hC; have y := hcel.out W_ hC.hB; obtain ⟨y0, y1⟩ := y; go_simp; rfl)); apply Exists.intro; apply And.intro; (focus (intro us; simp only [Act.put, List.setIfInBounds_toArray, List.set_cons_zero, List.set_cons_succ]; rfl)))
      (refine rb_want (fun us => rfl) ?_; apply Exists.intro; apply And.intro; (focus (apply rb_pure; (focus (intro b us w h; exact h.off (by decide) (by decide))); intro b us W_ hC; go_simp; rfl)); apply Exists.intro; apply And.intro; (focus (intro us; simp only [Act.put, List.setIfInBounds_toArray, List.set_cons_zero, List.set_cons_succ]; rfl)))
      (refine rb_open (fun us => rfl) (rb_new (fun b us W_ hb hon hC => ⟨.pointer (some ⟨W_.heap.size, 0, none⟩), W_.alloc verZ, ?_, ?_⟩)) ?_; (focus (first | (go_simp; done) | (go_simp; rfl))); (focus (exact hC.new (by decide) hb)); apply Exists.intro; apply And.intro; (focus (intro us; simp only [Act.put, List.setIfInBounds_toArray, List.set_cons_zero, List.set_cons_succ]; rfl)))
      (refine rb_want (fun us => rfl) ⟨undef, rb_store (fun b us W_ hb hon hC => ?_), ?_⟩; (focus (obtain ⟨gs, eg, hg, hbk⟩ := hC.at (hon 9 (by decide) (by decide)) hb; have h3 := blk_set (blk_set (blk_set hbk 0 (.int .i64 st.kind)) 1 (.slice none 0 0)) 2 (.int .i64 (st.tries : Int)); refine ⟨((W_.setCell ⟨gs, 0, none⟩ (.int .i64 st.kind)).setCell ⟨gs, 1, none⟩ (.slice none 0 0)).setCell ⟨gs, 2, none⟩ (.int .i64 (st.tries : Int)), ?_, hC.put (by decide) (hon 9 (by decide) (by decide)) eg hg (below_set (below_set (below_set hC.hB hg) hg) hg) (by simpa [verO] using h3)⟩; clear h3; unfold verZ at hbk; have k0 := blk_cell hbk 0; have v0 := blk_frozen hbk 0; have k1 := blk_cell hbk 1; have v1 := blk_frozen hbk 1; have k2 := blk_cell hbk 2; have v2 := blk_frozen hbk 2; simp only [List.getElem?_toArray, List.getElem?_cons_zero, List.getElem?_cons_succ] at k0 k1 k2; rw [eg]; clear hbk; first | (go_simp; done) | (go_simp; rfl))); apply Exists.intro; apply And.intro; (focus (intro us; simp only [Act.put, List.setIfInBounds_toArray, List.set_cons_zero, List.set_cons_succ]; rfl)))
      refine rb_done (fun b us W3 hall hC => ?_)
      obtain ⟨gx, ex, hgx, hbk⟩ := hC.done (hall 9 (by decide)) (hall 10 (by decide))
      have hB3 := Aside0.mk hC.hB
      try dsimp only
      rw [ex]
      clear ex hC hall
      clear us b
      have hM3 := Aside0.mk (hM2.out.came hB3.out)
      obtain ⟨c0, c1, c2, c3, c4, c5, c6, c7, c8, c9, c10, c11⟩ := hM3.out.cells W3 (Below.refl _ _)
      clear c0 c1 c2 c3 c4 c5 c6 c7 c9 c10
      have hbs3 := Aside0.mk (blk_below hbs.out hB3.out)
      have s0 := blk_cell hbs3.out 0
      have s1 := blk_cell hbs3.out 1
      have s2 := blk_cell hbs3.out 2
      have g0 := blk_frozen hbs3.out 0
      have g1 := blk_frozen hbs3.out 1
      have g2 := blk_frozen hbs3.out 2
      have kx := hbk
      unfold verO at kx
      have k0 := blk_cell kx 0
      have k1 := blk_cell kx 1
      have k2 := blk_cell kx 2
      simp only [List.getElem?_toArray, List.getElem?_cons_zero, List.getElem?_cons_succ] at s0 s1 s2 k0 k1 k2
      have hgx0 : Aside0 (W.heap.size ≤ gx) := ⟨Nat.le_trans (below_step (below_alloc (Below.refl _ _) _) hB2.out).size hgx⟩
      have hgne : Aside0 (W.heap.size ≠ gx) := ⟨fun e => by have := blk_lt hbs.out; omega⟩
      have hn1 : W.heap.size ≠ gx := hgne.out
      have hn2 : gx ≠ W.heap.size := fun e => hgne.out e.symm
      have hsz8 : Aside0 (W.heap.size ≤ W3.heap.size) := ⟨Nat.le_trans (below_step (below_alloc (Below.refl _ _) _) hB2.out).size hB3.out.size⟩
      have hclo : Aside0 (∀ W_ : World, Below W3.heap.size W3 W_ → Calls Try.prog 71 #[.slice AR st.order.length cR] W_ fun e w' => ∃ v, e = .returned v ∧ Kd.R (Kd.int .i64) 3 w' W_.heap.size (fun _ => True) v st.order ∧ Below W_.heap.size W_ w') := ⟨fun W_ hb => lin_CloneIn AR cR st.order W_ (Kd.C_below (Kd.C_below (Kd.C_below hRC.out (below_step (below_alloc (Below.refl _ _) _) hB2.out)) hB3.out) hb) (by have := ho.out; omega)⟩
      replace hbk := Aside0.mk hbk
      replace kx := Aside0.mk kx
      clear hgx
      go_wp2_with (first | (go_at_call 71; (with_reducible refine (hclo.out _ ?hbw).mono ?_); (case hbw => repeat (first | exact Below.refl _ _ | apply pw_below_drewN)); rintro e W8 ⟨v8, rfl, hR8, hB8⟩; obtain ⟨A8, c8_, rfl⟩ := Kd.R_slice hR8; have hb8 := blk_below hbk.out hB8; have hs8 := blk_below hbs3.out hB8; unfold verO at hb8; have k0 := blk_cell hb8 0; have k1 := blk_cell hb8 1; have k2 := blk_cell hb8 2; have f1 := blk_frozen hb8 1; have s0 := blk_cell hs8 0; have s1 := blk_cell hs8 1; have s2 := blk_cell hs8 2; have g0 := blk_frozen hs8 0; have g1 := blk_frozen hs8 1; have g2 := blk_frozen hs8 2; simp only [List.getElem?_toArray, List.getElem?_cons_zero, List.getElem?_cons_succ] at k0 k1 k2 s0 s1 s2; replace hb8 := Aside0.mk hb8; replace hs8 := Aside0.mk hs8; replace hR8 := Aside0.mk hR8; replace hB8 := Aside0.mk hB8))
      have h3 : Aside0 (((((W8.setCell ⟨gx, 1, none⟩ (.slice A8 st.order.length c8_)).setCell ⟨W.heap.size, 0, none⟩ (.int .i64 st.kind)).setCell ⟨W.heap.size, 1, none⟩ (.slice A8 st.order.length c8_)).setCell ⟨W.heap.size, 2, none⟩ (.int .i64 (st.tries : Int))).heap[W.heap.size]? = some (Obj.cells #[.int .i64 st.kind, .slice A8 st.order.length c8_, .int .i64 (st.tries : Int)] 75 (0, 0))) := ⟨by
        have y := (Below.heap_setCell W8 ⟨gx, 1, none⟩ (.slice A8 st.order.length c8_) W.heap.size hgne.out).trans hs8.out
        simpa [verZ] using blk_set (blk_set (blk_set y 0 (.int .i64 st.kind)) 1 (.slice A8 st.order.length c8_)) 2 (.int .i64 (st.tries : Int))⟩
      refine bodyPost_ret (results_ct Try.results43 _ _ W.heap.size _ _ _ _ rfl h3.out Try.underlying75 rfl (by kernel_rfl)) rfl ?_
      have hsame : ∀ t : Nat, t = 3 → SameT W8 ((((W8.setCell ⟨gx, 1, none⟩ (.slice A8 st.order.length c8_)).setCell ⟨W.heap.size, 0, none⟩ (.int .i64 st.kind)).setCell ⟨W.heap.size, 1, none⟩ (.slice A8 st.order.length c8_)).setCell ⟨W.heap.size, 2, none⟩ (.int .i64 (st.tries : Int))) t := fun t ht => by
        have y := (Below.heap_setCell W8 ⟨gx, 1, none⟩ (.slice A8 st.order.length c8_) W.heap.size hgne.out).trans hs8.out
        subst ht
        exact (((SameT.set hb8.out (by decide) _ _).trans (.set y (by decide) _ _)).trans (.set (blk_set y _ _) (by decide) _ _)).trans (.set (blk_set (blk_set y _ _) _ _) (by decide) _ _)
      refine ⟨.slice A8 st.order.length c8_, (by rw [hk.out]; rfl), ?_, ?_⟩
      · exact R1_same rfl (Kd.R_lower hR8.out hsz8.out) (hsame _ rfl)
      · have y0 := below_step (below_step (below_step (below_alloc (Below.refl _ _) _) hB2.out) hB3.out) hB8.out
        exact below_set (below_set (below_set (below_set y0 hgx0.out) (Nat.le_refl _)) (Nat.le_refl _)) (Nat.le_refl _)
    · have hkb : (st.kind == 1) = false := by simpa using hk
      rw [if_neg (show ¬ (true = true ∧ st.kind = 1) from fun e => hk e.2), if_pos rfl, if_pos rfl]
      replace hk := Aside0.mk hk
      go_enter Try.func43, Try.ntmps43
      go_wp2_with (first | (go_at_call 44; (with_reducible refine (lin_Over (hT.out.came (below_alloc (Below.refl _ _) _))).mono ?_); rw [hov]; rintro e W2 ⟨rfl, hB2⟩; have hbs := blk_below (blk_new W verZ) hB2; have s0 := blk_cell hbs 0; have s1 := blk_cell hbs 1; have s2 := blk_cell hbs 2; have g0 := blk_frozen hbs 0; have g1 := blk_frozen hbs 1; have g2 := blk_frozen hbs 2; simp only [List.getElem?_toArray, List.getElem?_cons_zero, List.getElem?_cons_succ] at s0 s1 s2; replace hbs := Aside0.mk hbs; replace hB2 := Aside0.mk hB2))
      have hM2 := Aside0.mk (hM0.out.came (below_step (below_alloc (Below.refl _ _) _) hB2.out))
      have hcel : Aside0 (∀ W_ : World, Below W2.heap.size W2 W_ → W_.cell? ⟨g, 11, none⟩ = some (.int .i64 st.kind) ∧ W_.cell? ⟨g, 9, none⟩ = some (.int .i64 (st.tries : Int))) := ⟨fun W_ hb => by
        obtain ⟨c0, c1, c2, c3, c4, c5, c6, c7, c8, c9, c10, c11⟩ := hM2.out.cells W_ hb
        exact ⟨c11, c9⟩⟩
      clear s0 s1 s2 g0 g1 g2
      refine region_by (fun b us W_ => OneC W2 9 10 verZ (verO st.kind (.slice none 0 0) (st.tries : Int)) b us W_) (by kernel_rfl) (by kernel_rfl) ⟨fun _ => undef, OneC.start W2 9 10 _ _ _⟩ ?_
      iterate 3 (refine rb_want (fun us => rfl) ?_; apply Exists.intro; apply And.intro; (focus (apply rb_pure; (focus (intro b us w h; exact h.off (by decide) (by decide))); intro b us W_ hC; go_simp; rfl)); apply Exists.intro; apply And.intro; (focus (intro us; simp only [Act.put, List.setIfInBounds_toArray, List.set_cons_zero, List.set_cons_succ]; rfl)))
      (refine rb_want (fun us => rfl) ?_; apply Exists.intro; apply And.intro; (focus (apply rb_pure; (focus (intro b us w h; exact h.off (by decide) (by decide))); intro b us W_ hC; have y := hcel.out W_ hC.hB; obtain ⟨y0, y1⟩ := y; go_simp; rfl)); apply Exists.intro; apply And.intro; (focus (intro us; simp only [Act.put, List.setIfInBounds_toArray, List.set_cons_zero, List.set_cons_succ]; rfl)))
      iterate 3 (refine rb_want (fun us => rfl) ?_; apply Exists.intro; apply And.intro; (focus (apply rb_pure; (focus (intro b us w h; exact h.off (by decide) (by decide))); intro b us W_ hC; go_simp; rfl)); apply Exists.intro; apply And.intro; (focus (intro us; simp only [Act.put, List.setIfInBounds_toArray, List.set_cons_zero, List.set_cons_succ]; rfl)))
      (refine rb_want (fun us => rfl) ?_; apply Exists.intro; apply And.intro; (focus (apply rb_pure; (focus (intro b us w h; exact h.off (by decide) (by decide))); intro b us W_ hC; have y := hcel.out W_ hC.hB; obtain ⟨y0, y1⟩ := y; go_simp; rfl)); apply Exists.intro; apply And.intro; (focus (intro us; simp only [Act.put, List.setIfInBounds_toArray, List.set_cons_zero, List.set_cons_succ]; rfl)))
      (refine rb_want (fun us => rfl) ?_; apply Exists.intro; apply And.intro; (focus (apply rb_pure; (focus (intro b us w h; exact h.off (by decide) (by decide))); intro b us W_ hC; go_simp; rfl)); apply Exists.intro; apply And.intro; (focus (intro us; simp only [Act.put, List.setIfInBounds_toArray, List.set_cons_zero, List.set_cons_succ]; rfl)))
      (refine rb_open (fun us => rfl) (rb_new (fun b us W_ hb hon hC => ⟨.pointer (some ⟨W_.heap.size, 0, none⟩), W_.alloc verZ, ?_, ?_⟩)) ?_; (focus (first | (go_simp; done) | (go_simp; rfl))); (focus (exact hC.new (by decide) hb)); apply Exists.intro; apply And.intro; (focus (intro us; simp only [Act.put, List.setIfInBounds_toArray, List.set_cons_zero, List.set_cons_succ]; rfl)))
      (refine rb_want (fun us => rfl) ⟨undef, rb_store (fun b us W_ hb hon hC => ?_), ?_⟩; (focus (obtain ⟨gs, eg, hg, hbk⟩ := hC.at (hon 9 (by decide) (by decide)) hb; have h3 := blk_set (blk_set (blk_set hbk 0 (.int .i64 st.kind)) 1 (.slice none 0 0)) 2 (.int .i64 (st.tries : Int)); refine ⟨((W_.setCell ⟨gs, 0, none⟩ (.int .i64 st.kind)).setCell ⟨gs, 1, none⟩ (.slice none 0 0)).setCell ⟨gs, 2, none⟩ (.int .i64 (st.tries : Int)), ?_, hC.put (by decide) (hon 9 (by decide) (by decide)) eg hg (below_set (below_set (below_set hC.hB hg) hg) hg) (by simpa [verO] using h3)⟩; clear h3; unfold verZ at hbk; have k0 := blk_cell hbk 0; have v0 := blk_frozen hbk 0; have k1 := blk_cell hbk 1; have v1 := blk_frozen hbk 1; have k2 := blk_cell hbk 2; have v2 := blk_frozen hbk 2; simp only [List.getElem?_toArray, List.getElem?_cons_zero, List.getElem?_cons_succ] at k0 k1 k2; rw [eg]; clear hbk; first | (go_simp; done) | (go_simp; rfl))); apply Exists.intro; apply And.intro; (focus (intro us; simp only [Act.put, List.setIfInBounds_toArray, List.set_cons_zero, List.set_cons_succ]; rfl)))
      refine rb_done (fun b us W3 hall hC => ?_)
      obtain ⟨gx, ex, hgx, hbk⟩ := hC.done (hall 9 (by decide)) (hall 10 (by decide))
      have hB3 := Aside0.mk hC.hB
      try dsimp only
      rw [ex]
      clear ex hC hall
      clear us b
      have hM3 := Aside0.mk (hM2.out.came hB3.out)
      obtain ⟨c0, c1, c2, c3, c4, c5, c6, c7, c8, c9, c10, c11⟩ := hM3.out.cells W3 (Below.refl _ _)
      clear c0 c1 c2 c3 c4 c5 c6 c7 c9 c10
      have hbs3 := Aside0.mk (blk_below hbs.out hB3.out)
      have s0 := blk_cell hbs3.out 0
      have s1 := blk_cell hbs3.out 1
      have s2 := blk_cell hbs3.out 2
      have g0 := blk_frozen hbs3.out 0
      have g1 := blk_frozen hbs3.out 1
      have g2 := blk_frozen hbs3.out 2
      have kx := hbk
      unfold verO at kx
      have k0 := blk_cell kx 0
      have k1 := blk_cell kx 1
      have k2 := blk_cell kx 2
      simp only [List.getElem?_toArray, List.getElem?_cons_zero, List.getElem?_cons_succ] at s0 s1 s2 k0 k1 k2
      have hgx0 : Aside0 (W.heap.size ≤ gx) := ⟨Nat.le_trans (below_step (below_alloc (Below.refl _ _) _) hB2.out).size hgx⟩
      have hgne : Aside0 (W.heap.size ≠ gx) := ⟨fun e => by have := blk_lt hbs.out; omega⟩
      have hn1 : W.heap.size ≠ gx := hgne.out
      have hn2 : gx ≠ W.heap.size := fun e => hgne.out e.symm
      have hsz8 : Aside0 (W.heap.size ≤ W3.heap.size) := ⟨Nat.le_trans (below_step (below_alloc (Below.refl _ _) _) hB2.out).size hB3.out.size⟩
      have hclo : Aside0 (∀ W_ : World, Below W3.heap.size W3 W_ → Calls Try.prog 71 #[.slice AR st.order.length cR] W_ fun e w' => ∃ v, e = .returned v ∧ Kd.R (Kd.int .i64) 3 w' W_.heap.size (fun _ => True) v st.order ∧ Below W_.heap.size W_ w') := ⟨fun W_ hb => lin_CloneIn AR cR st.order W_ (Kd.C_below (Kd.C_below (Kd.C_below hRC.out (below_step (below_alloc (Below.refl _ _) _) hB2.out)) hB3.out) hb) (by have := ho.out; omega)⟩
      replace hbk := Aside0.mk hbk
      replace kx := Aside0.mk kx
      clear hgx
      go_wp2
      have h3 : Aside0 ((((W3.setCell ⟨W.heap.size, 0, none⟩ (.int .i64 st.kind)).setCell ⟨W.heap.size, 1, none⟩ (.slice none 0 0)).setCell ⟨W.heap.size, 2, none⟩ (.int .i64 (st.tries : Int))).heap[W.heap.size]? = some (Obj.cells #[.int .i64 st.kind, .slice none 0 0, .int .i64 (st.tries : Int)] 75 (0, 0))) := ⟨by
        simpa [verZ] using blk_set (blk_set (blk_set hbs3.out 0 (.int .i64 st.kind)) 1 (.slice none 0 0)) 2 (.int .i64 (st.tries : Int))⟩
      refine bodyPost_ret (results_ct Try.results43 _ _ W.heap.size _ _ _ _ rfl h3.out Try.underlying75 rfl (by kernel_rfl)) rfl ?_
      refine ⟨.slice none 0 0, rfl, Kd.R_nil _ _ _ _ _, ?_⟩
      exact below_set (below_set (below_set (below_step (below_step (below_alloc (Below.refl _ _) _) hB2.out) hB3.out) (Nat.le_refl _)) (Nat.le_refl _)) (Nat.le_refl _)
end Go.Proofs.Ytddkoimaghcbeaa.PVmSteps
