/- A part of what the law LinTells stands on, only as far as it is needed (the words and walks were printed or written in this seat; this text was cut by a program of this session, wip/bin/trim.py). No condition beyond what each theorem says. -/
import Derived.Test.YtddkoimaghcbeaaZLTPVmStepsx0
import Derived.Test.YtddkoimaghcbeaaZLTPVmStepsx2
import Derived.Test.YtddkoimaghcbeaaZLTPVmStepsx3
import Derived.Test.YtddkoimaghcbeaaZLTPVmStepsx4
import Derived.Test.YtddkoimaghcbeaaZLTPVmStepsx5
import Derived.Test.YtddkoimaghcbeaaZLTPVmStepsx6
import Derived.Test.YtddkoimaghcbeaaZLTTmplin
namespace Go.Proofs.Ytddkoimaghcbeaa.PVmSteps
open Go.RowKit Go.Proofs.YtddkoimaghcbeaaW.PrintWords Go.Proofs.YtddkoimaghcbeaaW.PrintLast Go.Proofs.YtddkoimaghcbeaaW.PrintMore
set_option linter.unusedVariables false
set_option linter.unusedSimpArgs false
theorem list_snoc {α : Type} (l : List α) : l = [] ∨ ∃ r x, l = r ++ [x] := by
  rcases List.eq_nil_or_concat l with h | ⟨r, x, h⟩
  · exact .inl h
  · exact .inr ⟨r, x, by rw [h]; simp⟩
theorem dueZ_here (ops : List S65) {p : Ps} {i : Nat} {r : List Fr} {o : List Int} (hi : i < ops.length) (hf : freeZ ops p.1 i = true) : dueZ ops ((p, i) :: r) o = (true, (p, i) :: r, o) := by
  rw [dueZ, nexZ_here ops p.1 i hi hf, if_pos hi]
theorem dueZ_step (ops : List S65) {p : Ps} {i : Nat} {r : List Fr} {o : List Int} (hi : i < ops.length) (hf : freeZ ops p.1 i = false) : dueZ ops ((p, i) :: r) o = dueZ ops ((p, i + 1) :: r) o := by
  rw [dueZ, dueZ, nexZ_step ops p.1 i hi hf]
theorem dueZ_pop (ops : List S65) {p : Ps} {i : Nat} {r : List Fr} {o : List Int} (hi : ops.length ≤ i) : dueZ ops ((p, i) :: r) o = dueZ ops r o.dropLast := by
  rw [dueZ, nexZ_end ops p.1 i hi, if_neg (by omega)]
set_option maxRecDepth 100000 in
set_option maxHeartbeats 8000000 in
theorem lin_due {w0 W : World} {q : LinQ} {g gm bm : Nat} {vM vO vA vL vR : Value} {st : LinS} (h : LinM w0 W q g gm bm vM vO vA vL vR st) (hW : LinW q st) :
    Calls Try.prog 68 #[.pointer (some ⟨g, 0, none⟩)] W fun e w' => e = .returned (.bool (dueZ q.ops st.l st.order).1) ∧ ∃ vL' vR', LinM w0 w' q g gm bm vM vO vA vL' vR' { st with l := (dueZ q.ops st.l st.order).2.1, order := (dueZ q.ops st.l st.order).2.2 } := by
  have hfr := Aside0.mk hW.fr
  have hn64 := Aside0.mk hW.n64
  have hll := Aside0.mk hW.ll
  have hol := Aside0.mk hW.ol
  have htb : Aside0 (st.tries ≤ 1073741824) := ⟨by have a := hW.tb; have b := hW.b1; omega⟩
  obtain ⟨D, hD⟩ : ∃ D, D = dueZ q.ops st.l st.order := ⟨_, rfl⟩
  rw [← hD]
  obtain ⟨AO, cO, rfl, hOc, hOC⟩ := Kd.R_reads h.hO
  obtain ⟨AA, cA, rfl, hAc, hAC⟩ := Kd.R_reads h.hA
  replace hOC := Aside0.mk hOC
  replace hAC := Aside0.mk hAC
  clear hOc hAc
  have h0 := Aside0.mk h
  replace hD := Aside0.mk hD
  clear h hW
  go_enter Try.func68, Try.ntmps68
  go_wp2
  go_loopg [3] st.l.length (fun kk v3 W_ => ∃ (l : List Fr) (o : List Int) (vL1 vR1 : Value), Aside0 (kk = l.length ∧ l.length ≤ st.l.length ∧ o.length ≤ st.order.length) ∧ Aside0 (dueZ q.ops l o = D) ∧ Aside0 (∀ f ∈ l, f.1.1 < 2 ^ q.ops.length ∧ f.1.2.length = 4 ∧ f.2 ≤ q.ops.length) ∧ Aside0 (LinM w0 W_ q g gm bm vM (.slice AO q.ops.length cO) (.slice AA (aheadL q.ops).length cA) vL1 vR1 { st with l := l, order := o }))
  case atStart => exact ⟨st.l, st.order, vL, vR, ⟨rfl, Nat.le_refl _, Nat.le_refl _⟩, ⟨hD.out.symm⟩, hfr, h0⟩
  case round =>
    obtain ⟨l, o, vL1, vR1, hk, hd, hf, hM⟩ := hrel
    obtain ⟨c0, c1, c2, c3, c4, c5, c6, c7, c8, c9, c10, c11⟩ := hM.out.cells wr (Below.refl _ _)
    clear c0 c1 c2 c5 c6 c9 c10 c11
    cases gk with
    | zero =>
      obtain rfl : l = [] := List.eq_nil_of_length_eq_zero hk.out.1.symm
      obtain ⟨A, c, rfl⟩ := Kd.R_slice hM.out.hL
      go_wp2
      go_ret
      rw [← hd.out]
      exact ⟨rfl, _, _, hM.out⟩
    | succ j =>
      obtain ⟨⟨p, i⟩, r, rfl⟩ : ∃ f r, l = f :: r := by
        cases l with
        | nil => have := hk.out.1; simp at this
        | cons f r => exact ⟨f, r, rfl⟩
      obtain ⟨bl, c, rfl, hb, hrc, hcs, ht⟩ := hM.out.top rfl
      have hrl : Aside0 (r.length ≤ 1073741824) := ⟨by have a1 := hk.out.2.1; have a2 := hll.out; have a3 := htb.out; simp at a1; omega⟩
      have hwl : wrap64 (r.length : Int) = r.length := w64 (by omega) (by have := hrl.out; omega)
      have q0 : 0 ≤ wrap64 (r.length : Int) := by rw [hwl]; omega
      have q1 : wrap64 (r.length : Int) < ((r.length : Nat) : Int) + 1 := by rw [hwl]; omega
      have q2 : wrap64 (r.length : Int) ≤ (c : Int) := by rw [hwl]; omega
      replace hwl := Aside0.mk hwl
      have e7 : IntKind.i64.wrap (r.length : Int) = r.length := IntWalk.i64_in _ ⟨by omega, by have := hrl.out; omega⟩
      have q5 : Aside0 (0 ≤ IntKind.i64.wrap (r.length : Int) ∧ IntKind.i64.wrap (r.length : Int) ≤ (c : Int) ∧ IntKind.i64.wrap (r.length : Int) < ((r.length : Nat) : Int) + 1) := ⟨by rw [e7]; omega⟩
      replace e7 : Aside0 ((IntKind.i64.wrap (r.length : Int)).toNat = r.length) := ⟨by rw [e7]; simp⟩
      clear ht hcs
      go_wp2
      go_quiet (fail)
      have e6 : (wrap64 (r.length : Int)).toNat = r.length := by rw [hwl.out]; simp
      rw [e6]
      replace e6 := Aside0.mk e6
      refine vm_gen _ (fun W => Below wr.heap.size wr W) (by repeat (first | exact Below.refl _ _ | apply pw_below_drewN)) ?_
      intro W1 hB1
      have hM1 := Aside0.mk (hM.out.came hB1)
      have hi0 : Aside0 (i ≤ q.ops.length) := ⟨(hf.out (p, i) (by simp)).2.2⟩
      clear hB1 hM c3 c4 c7 c8
      go_wp2
      go_loopg [21] (q.ops.length - i) (fun kk v21 W_ => ∃ (i2 : Nat), Aside0 (kk + i2 = q.ops.length) ∧ Aside0 (dueZ q.ops ((p, i2) :: r) o = D) ∧ Aside0 (LinM w0 W_ q g gm bm vM (.slice AO q.ops.length cO) (.slice AA (aheadL q.ops).length cA) (.slice (some ⟨bl, 0, none⟩) (r.length + 1) c) vR1 { st with l := (p, i2) :: r, order := o }))
      case atStart => exact ⟨i, ⟨by have := hi0.out; omega⟩, hd, hM1⟩
      case round =>
        obtain ⟨i2, hk2, hd2, hM2⟩ := hrel
        obtain ⟨c0, c1, c2, c3, c4, c5, c6, c7, c8, c9, c10, c11⟩ := hM2.out.cells wr (Below.refl _ _)
        clear c0 c1 c2 c5 c6 c9 c10 c11
        obtain ⟨_, _, _, t0, t1, t2, t3, t4, t5, tz⟩ := hM2.out.topc rfl wr (Below.refl _ _)
        clear t1 t2 t3 t4
        cases gk with
        | zero =>
          obtain rfl : i2 = q.ops.length := by have := hk2.out; omega
          have hlt : decide ((q.ops.length : Int) < (q.ops.length : Int)) = false := decide_eq_false (by omega)
          go_wp2
          go_quiet (fail)
          go_wp2
          refine vm_gen _ (fun W => Below wr.heap.size wr W) (by repeat (first | exact Below.refl _ _ | apply pw_below_drewN)) ?_
          intro W2 hB2
          have hM3 := Aside0.mk (hM2.out.came hB2)
          clear hM2 hB2 c3 c4 c7 c8 t0 t5 tz hlt
          obtain ⟨c0, c1, c2, c3, c4, c5, c6, c7, c8, c9, c10, c11⟩ := hM3.out.cells W2 (Below.refl _ _)
          have z7 := hM3.out.free 7
          clear c0 c1 c2 c3 c4 c5 c6 c9 c10 c11
          go_wp2
          refine region_by (fun b us W_ => StC W2.drew (W2.drew.setCell ⟨g, 7, none⟩ (.slice (some ⟨bl, 0, none⟩) (IntKind.i64.wrap (r.length : Int)).toNat c)) 14 [4, 8] b us W_) (by kernel_rfl) (by kernel_rfl) ⟨fun _ => undef, StC.start _ _ _ _ _⟩ ?_
          iterate 4 (refine rb_want (fun us => rfl) ?_; apply Exists.intro; apply And.intro; (focus (apply rb_pure; (focus (intro b us w h; exact h.off (by decide))); intro b us W_ hC; go_simp; rfl)); apply Exists.intro; apply And.intro; (focus (intro us; simp only [Act.put, List.setIfInBounds_toArray, List.set_cons_zero, List.set_cons_succ]; rfl)))
          (refine rb_want (fun us => rfl) ?_; apply Exists.intro; apply And.intro; (focus (apply rb_read; (focus (intro b us w h; exact h.off (by decide))); intro b us W_ hb hon hC; have e := hC.read (j := 4) (by decide) hb; subst e; first | (go_simp; done) | (go_simp; rfl))); apply Exists.intro; apply And.intro; (focus (intro us; simp only [Act.put, List.setIfInBounds_toArray, List.set_cons_zero, List.set_cons_succ]; rfl)))
          iterate 3 (refine rb_want (fun us => rfl) ?_; apply Exists.intro; apply And.intro; (focus (apply rb_pure; (focus (intro b us w h; exact h.off (by decide))); intro b us W_ hC; go_simp; rfl)); apply Exists.intro; apply And.intro; (focus (intro us; simp only [Act.put, List.setIfInBounds_toArray, List.set_cons_zero, List.set_cons_succ]; rfl)))
          (refine rb_want (fun us => rfl) ?_; apply Exists.intro; apply And.intro; (focus (apply rb_read; (focus (intro b us w h; exact h.off (by decide))); intro b us W_ hb hon hC; have e := hC.read (j := 8) (by decide) hb; subst e; first | (go_simp; done) | (go_simp; rfl))); apply Exists.intro; apply And.intro; (focus (intro us; simp only [Act.put, List.setIfInBounds_toArray, List.set_cons_zero, List.set_cons_succ]; rfl)))
          iterate 2 (refine rb_want (fun us => rfl) ?_; apply Exists.intro; apply And.intro; (focus (apply rb_pure; (focus (intro b us w h; exact h.off (by decide))); intro b us W_ hC; go_simp; rfl)); apply Exists.intro; apply And.intro; (focus (intro us; simp only [Act.put, List.setIfInBounds_toArray, List.set_cons_zero, List.set_cons_succ]; rfl)))
          (refine rb_want (fun us => rfl) ?_; apply Exists.intro; apply And.intro; (focus (apply rb_pure; (focus (intro b us w h; exact h.off (by decide))); intro b us W_ hC; have y := q5.out; obtain ⟨y1, y2, y3⟩ := y; go_simp; rfl)); apply Exists.intro; apply And.intro; (focus (intro us; simp only [Act.put, List.setIfInBounds_toArray, List.set_cons_zero, List.set_cons_succ]; rfl)))
          iterate 2 (refine rb_want (fun us => rfl) ?_; apply Exists.intro; apply And.intro; (focus (apply rb_pure; (focus (intro b us w h; exact h.off (by decide))); intro b us W_ hC; go_simp; rfl)); apply Exists.intro; apply And.intro; (focus (intro us; simp only [Act.put, List.setIfInBounds_toArray, List.set_cons_zero, List.set_cons_succ]; rfl)))
          (refine rb_want (fun us => rfl) ⟨undef, rb_store (fun b us W_ hb hon hC => ?_), ?_⟩; (focus (have e := hC.at hb; subst e; refine ⟨W2.drew.setCell ⟨g, 7, none⟩ (.slice (some ⟨bl, 0, none⟩) (IntKind.i64.wrap (r.length : Int)).toNat c), ?_, hC.put (fun j hj => by simp at hj; rcases hj with rfl | rfl; exact hon 4 (by decide) (by decide); exact hon 8 (by decide) (by decide))⟩; first | (go_simp; done) | (go_simp; rfl))); apply Exists.intro; apply And.intro; (focus (intro us; simp only [Act.put, List.setIfInBounds_toArray, List.set_cons_zero, List.set_cons_succ]; rfl)))
          refine rb_done (fun b us W_ hall hC => ?_)
          have hW_ := hC.done (hall 14 (by decide))
          subst hW_
          clear hC hall
          clear us b
          rw [e7.out]
          have hM4 : Aside0 (LinM w0 (W2.drew.setCell ⟨g, 7, none⟩ (.slice (some ⟨bl, 0, none⟩) r.length c)) q g gm bm vM (.slice AO q.ops.length cO) (.slice AA (aheadL q.ops).length cA) (.slice (some ⟨bl, 0, none⟩) r.length c) vR1 { st with l := r, order := o }) := ⟨by
            have hd3 := hM3.out.came (below_drew (Below.refl _ _))
            have hL := hd3.hL
            rw [show ({ st with l := (p, q.ops.length) :: r, order := o } : LinS).l.reverse = r.reverse ++ [(p, q.ops.length)] by simp] at hL
            have hR2 := Kd.R_take hL (m := r.length) (by simp)
            rw [List.take_left' (by simp)] at hR2
            exact hd3.setL _ r hR2⟩
          clear c7 c8 z7 hM3
          refine vm_gen _ (fun W => LinM w0 W q g gm bm vM (.slice AO q.ops.length cO) (.slice AA (aheadL q.ops).length cA) (.slice (some ⟨bl, 0, none⟩) r.length c) vR1 { st with l := r, order := o }) hM4.out ?_
          intro W4 hM5
          replace hM5 := Aside0.mk hM5
          clear hM4
          obtain ⟨c0, c1, c2, c3, c4, c5, c6, c7, c8, c9, c10, c11⟩ := hM5.out.cells W4 (Below.refl _ _)
          clear c0 c1 c2 c3 c4 c5 c6 c7 c9 c10 c11
          rcases list_snoc o with rfl | ⟨r9, x9, rfl⟩
          · obtain ⟨A9, c9, rfl⟩ := Kd.R_slice hM5.out.hR
            go_wp2
            go_roundg j
            case measure => omega
            case rel => exact ⟨r, [], _, _, ⟨by have := hk.out; simp at this ⊢; omega⟩, ⟨by rw [← hd2.out, dueZ_pop q.ops (Nat.le_refl _)]; rfl⟩, ⟨fun f hf' => hf.out f (by simp [hf'])⟩, hM5⟩
          · have hlen9 : (r9 ++ [x9]).length = r9.length + 1 := by simp
            have hQ9 : Kd.R (Kd.int .i64) 3 W4 w0.heap.size (fun _ => True) vR1 (r9 ++ [x9]) := hM5.out.hR
            obtain ⟨b9, c9, e9, _, _, _⟩ := Kd.R_form hQ9 (by rw [hlen9]; omega)
            obtain ⟨A9, c9', e9', hle9, _⟩ := Kd.R_reads hQ9
            rw [e9] at e9'
            rw [hlen9] at e9 e9' hle9
            injection e9' with _ _ e3
            subst e3
            subst e9
            have z8 := hM5.out.free 8
            have h9 : Aside0 (r9.length ≤ 1073741824) := ⟨by have a1 := hk.out.2.2; have a2 := hol.out; have a3 := htb.out; simp at a1; omega⟩
            have e10 : IntKind.i64.wrap (r9.length : Int) = r9.length := IntWalk.i64_in _ ⟨by omega, by have := h9.out; omega⟩
            have q9 : Aside0 (0 ≤ IntKind.i64.wrap (r9.length : Int) ∧ IntKind.i64.wrap (r9.length : Int) ≤ (c9 : Int) ∧ IntKind.i64.wrap (r9.length : Int) < ((r9.length : Nat) : Int) + 1) := ⟨by rw [e10]; omega⟩
            replace e10 : Aside0 ((IntKind.i64.wrap (r9.length : Int)).toNat = r9.length) := ⟨by rw [e10]; simp⟩
            clear hle9 hlen9
            go_wp2
            refine region_by (fun b us W_ => StC W4.drew (W4.drew.setCell ⟨g, 8, none⟩ (.slice (some ⟨b9, 0, none⟩) (IntKind.i64.wrap (r9.length : Int)).toNat c9)) 14 [4, 8] b us W_) (by kernel_rfl) (by kernel_rfl) ⟨fun _ => undef, StC.start _ _ _ _ _⟩ ?_
            iterate 4 (refine rb_want (fun us => rfl) ?_; apply Exists.intro; apply And.intro; (focus (apply rb_pure; (focus (intro b us w h; exact h.off (by decide))); intro b us W_ hC; go_simp; rfl)); apply Exists.intro; apply And.intro; (focus (intro us; simp only [Act.put, List.setIfInBounds_toArray, List.set_cons_zero, List.set_cons_succ]; rfl)))
            (refine rb_want (fun us => rfl) ?_; apply Exists.intro; apply And.intro; (focus (apply rb_read; (focus (intro b us w h; exact h.off (by decide))); intro b us W_ hb hon hC; have e := hC.read (j := 4) (by decide) hb; subst e; first | (go_simp; done) | (go_simp; rfl))); apply Exists.intro; apply And.intro; (focus (intro us; simp only [Act.put, List.setIfInBounds_toArray, List.set_cons_zero, List.set_cons_succ]; rfl)))
            iterate 3 (refine rb_want (fun us => rfl) ?_; apply Exists.intro; apply And.intro; (focus (apply rb_pure; (focus (intro b us w h; exact h.off (by decide))); intro b us W_ hC; go_simp; rfl)); apply Exists.intro; apply And.intro; (focus (intro us; simp only [Act.put, List.setIfInBounds_toArray, List.set_cons_zero, List.set_cons_succ]; rfl)))
            (refine rb_want (fun us => rfl) ?_; apply Exists.intro; apply And.intro; (focus (apply rb_read; (focus (intro b us w h; exact h.off (by decide))); intro b us W_ hb hon hC; have e := hC.read (j := 8) (by decide) hb; subst e; first | (go_simp; done) | (go_simp; rfl))); apply Exists.intro; apply And.intro; (focus (intro us; simp only [Act.put, List.setIfInBounds_toArray, List.set_cons_zero, List.set_cons_succ]; rfl)))
            iterate 2 (refine rb_want (fun us => rfl) ?_; apply Exists.intro; apply And.intro; (focus (apply rb_pure; (focus (intro b us w h; exact h.off (by decide))); intro b us W_ hC; go_simp; rfl)); apply Exists.intro; apply And.intro; (focus (intro us; simp only [Act.put, List.setIfInBounds_toArray, List.set_cons_zero, List.set_cons_succ]; rfl)))
            (refine rb_want (fun us => rfl) ?_; apply Exists.intro; apply And.intro; (focus (apply rb_pure; (focus (intro b us w h; exact h.off (by decide))); intro b us W_ hC; have y := q9.out; obtain ⟨y1, y2, y3⟩ := y; go_simp; rfl)); apply Exists.intro; apply And.intro; (focus (intro us; simp only [Act.put, List.setIfInBounds_toArray, List.set_cons_zero, List.set_cons_succ]; rfl)))
            iterate 2 (refine rb_want (fun us => rfl) ?_; apply Exists.intro; apply And.intro; (focus (apply rb_pure; (focus (intro b us w h; exact h.off (by decide))); intro b us W_ hC; go_simp; rfl)); apply Exists.intro; apply And.intro; (focus (intro us; simp only [Act.put, List.setIfInBounds_toArray, List.set_cons_zero, List.set_cons_succ]; rfl)))
            (refine rb_want (fun us => rfl) ⟨undef, rb_store (fun b us W_ hb hon hC => ?_), ?_⟩; (focus (have e := hC.at hb; subst e; refine ⟨W4.drew.setCell ⟨g, 8, none⟩ (.slice (some ⟨b9, 0, none⟩) (IntKind.i64.wrap (r9.length : Int)).toNat c9), ?_, hC.put (fun j hj => by simp at hj; rcases hj with rfl | rfl; exact hon 4 (by decide) (by decide); exact hon 8 (by decide) (by decide))⟩; first | (go_simp; done) | (go_simp; rfl))); apply Exists.intro; apply And.intro; (focus (intro us; simp only [Act.put, List.setIfInBounds_toArray, List.set_cons_zero, List.set_cons_succ]; rfl)))
            refine rb_done (fun b us W_ hall hC => ?_)
            have hW_ := hC.done (hall 14 (by decide))
            subst hW_
            clear hC hall
            clear us b
            rw [e10.out]
            have hM6 : Aside0 (LinM w0 (W4.drew.setCell ⟨g, 8, none⟩ (.slice (some ⟨b9, 0, none⟩) r9.length c9)) q g gm bm vM (.slice AO q.ops.length cO) (.slice AA (aheadL q.ops).length cA) (.slice (some ⟨bl, 0, none⟩) r.length c) (.slice (some ⟨b9, 0, none⟩) r9.length c9) { st with l := r, order := r9 }) := ⟨by
              have hd3 := hM5.out.came (below_drew (Below.refl _ _))
              have hR2 := Kd.R_take hd3.hR (m := r9.length) (by simp)
              rw [List.take_left' rfl] at hR2
              exact hd3.setR _ r9 hR2⟩
            go_wp2
            go_roundg j
            case measure => omega
            case rel => exact ⟨r, r9, _, _, ⟨by have := hk.out; simp at this ⊢; omega⟩, ⟨by rw [← hd2.out, dueZ_pop q.ops (Nat.le_refl _)]; simp⟩, ⟨fun f hf' => hf.out f (by simp [hf'])⟩, hM6⟩
        | succ j2 =>
          have hlt : decide ((i2 : Int) < (q.ops.length : Int)) = true := decide_eq_true (by have := hk2.out; omega)
          have hlt2 : i2 < q.ops.length := by have := hk2.out; omega
          have hs64 : Aside0 (p.1 < 2 ^ 64) := ⟨Nat.lt_of_lt_of_le (hf.out (p, i) (by simp)).1 (Nat.pow_le_pow_right (by decide) hn64.out)⟩
          have hsh := u_bit p.1 i2 hs64.out
          have hi64 : (i2 : Int) ≤ 64 := by have := hn64.out; omega
          by_cases hbt : p.1.testBit i2 = true
          · have hfr2 : Aside0 (freeZ q.ops p.1 i2 = false) := ⟨by simp [freeZ, hbt]⟩
            rw [if_pos hbt] at hsh
            clear hbt
            go_wp2
            go_quiet (fail)
            go_wp2
            go_quiet (fail)
            have hs2 : wrap64 ((i2 : Int) + 1) = ((i2 + 1 : Nat) : Int) := by rw [w64 (by omega) (by have := hn64.out; omega)]; simp
            replace hs2 := Aside0.mk hs2
            refine vm_gen _ (fun W => Below wr.heap.size wr W) (by repeat (first | exact Below.refl _ _ | apply pw_below_drewN)) ?_
            intro W5 hB5
            have hM5 := Aside0.mk (hM2.out.came hB5)
            obtain ⟨_, _, _, x0, x1, x2, x3, x4, x5, xz⟩ := hM5.out.topc rfl W5 (Below.refl _ _)
            clear hB5 hM2 x0 x1 x2 x3 x4 t0 t5 tz c3 c4 c7 c8
            go_wp2
            go_roundg j2
            case measure => omega
            case rel => exact ⟨i2 + 1, ⟨by have := hk2.out; omega⟩, ⟨by rw [← hd2.out, dueZ_step q.ops hlt2 hfr2.out]⟩, ⟨hM5.out.next rfl rfl (i2 + 1)⟩⟩
          · rw [if_neg hbt] at hsh
            have hln : (aheadL q.ops).length = q.ops.length := by simp [aheadL]
            obtain ⟨_, _, hAW⟩ := Kd.R_reads' hM2.out.hA
            obtain ⟨ad, ead, hac⟩ := Kd.at_int hAW (i2 : Int) (by omega) (by rw [hln]; omega)
            cases ead
            have hrd : rd (aheadL q.ops) (i2 : Int) = (aheadZ q.ops i2 : Int) := by
              simp [rd, aheadL, List.getElem?_map, List.getElem?_range, hlt2]
            rw [hrd] at hac
            simp only [Int.toNat_natCast] at hac
            rw [hln] at c4
            have hlk := u_lack (aheadZ q.ops i2) p.1 (mask_lt64 _ hn64.out) hs64.out
            clear hAW hrd
            by_cases hz : lackZ (aheadZ q.ops i2) p.1 = 0
            · have hfr2 : Aside0 (freeZ q.ops p.1 i2 = true) := ⟨by simp [freeZ, hz]; simpa using hbt⟩
              rw [hz] at hlk
              clear hbt hz
              go_wp2
              go_quiet (fail)
              go_wp2
              go_quiet (fail)
              go_wp2
              go_ret
              rw [← hd2.out, dueZ_here q.ops hlt2 hfr2.out]
              exact ⟨rfl, _, _, hM2.out.came (by repeat (first | exact Below.refl _ _ | apply pw_below_drewN))⟩
            · have hfr2 : Aside0 (freeZ q.ops p.1 i2 = false) := ⟨by simp [freeZ, hz]⟩
              have hz2 : (((lackZ (aheadZ q.ops i2) p.1 : Nat) : Int) == 0) = false := by simpa using hz
              clear hbt hz
              go_wp2
              go_quiet (fail)
              go_wp2
              go_quiet (fail)
              have hs2 : wrap64 ((i2 : Int) + 1) = ((i2 + 1 : Nat) : Int) := by rw [w64 (by omega) (by have := hn64.out; omega)]; simp
              replace hs2 := Aside0.mk hs2
              refine vm_gen _ (fun W => Below wr.heap.size wr W) (by repeat (first | exact Below.refl _ _ | apply pw_below_drewN)) ?_
              intro W5 hB5
              have hM5 := Aside0.mk (hM2.out.came hB5)
              obtain ⟨_, _, _, x0, x1, x2, x3, x4, x5, xz⟩ := hM5.out.topc rfl W5 (Below.refl _ _)
              clear hB5 hM2 x0 x1 x2 x3 x4 t0 t5 tz c3 c4 c7 c8
              go_wp2
              go_roundg j2
              case measure => omega
              case rel => exact ⟨i2 + 1, ⟨by have := hk2.out; omega⟩, ⟨by rw [← hd2.out, dueZ_step q.ops hlt2 hfr2.out]⟩, ⟨hM5.out.next rfl rfl (i2 + 1)⟩⟩
end Go.Proofs.Ytddkoimaghcbeaa.PVmSteps
