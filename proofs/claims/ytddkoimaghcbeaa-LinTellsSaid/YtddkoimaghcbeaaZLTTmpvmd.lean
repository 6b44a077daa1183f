/- A part of what the law LinTells stands on, only as far as it is needed (the words and walks were printed or written in this seat; this text was cut by a program of this session, wip/bin/trim.py). No condition beyond what each theorem says. -/
import Derived.StillTailTactics
import Derived.Deep.RegionHeld3
import Derived.Test.YtddkoimaghcbeaaZLTPVmStepsx0
import Derived.Test.YtddkoimaghcbeaaZLTPVmStepsx2
import Derived.Test.YtddkoimaghcbeaaZLTPVmStepsx3
import Derived.Test.YtddkoimaghcbeaaZLTPVmStepsx4
import Derived.Test.YtddkoimaghcbeaaZLTPVmStepsx5
import Derived.Test.YtddkoimaghcbeaaZLTPVmStepsx6
import Derived.Test.YtddkoimaghcbeaaZLTTmpvma
namespace Go.Proofs.Ytddkoimaghcbeaa.PVmSteps
open Go.RowKit Go.Proofs.YtddkoimaghcbeaaW.PrintWords Go.Proofs.YtddkoimaghcbeaaW.PrintLast Go.Proofs.YtddkoimaghcbeaaW.PrintMore
set_option linter.unusedVariables false
set_option linter.unusedSimpArgs false
set_option maxHeartbeats 1000000 in
theorem vdo_push {w0 w : World} {K : List (Nat × Obj)} {g : Nat} {cs st : List Int} {at_ en rt : Int} (n kind arg : Int) (h : VrB w0 w K g ⟨cs, st, at_, en, rt⟩) (hsm : st.length ≤ 990) :
    Calls Try.prog 79 #[.pointer (some ⟨g, 0, none⟩), .agg #[.int .i64 0, .int .i64 n], .int .i64 kind, .int .i64 arg] w fun e w' => e = .returned (.tuple #[]) ∧ VrB w0 w' K g ⟨cs, n :: st, wrap64 (at_ + 1), en, rt⟩ := by
  obtain ⟨vS, hv⟩ := h
  have hvl := blk_lt hv.hk
  have n1 : g ≠ w.heap.size := Nat.ne_of_lt hvl
  have n2 : w.heap.size ≠ g := fun e => n1 e.symm
  have hbk := blk_below hv.hk (below_alloc (Below.refl w.heap.size w) (.cells #[.int .i64 0, .int .i64 n] 36))
  have b5 := blk_cell hbk 5
  have z5 := blk_frozen hbk 5
  simp only [List.getElem?_toArray, List.getElem?_cons_zero, List.getElem?_cons_succ] at b5
  have h1 : VrB w0 ((w.setCell ⟨g, 5, none⟩ (.int .i64 (wrap64 (at_ + 1)))).alloc (.cells #[.int .i64 0, .int .i64 n] 36)) ((w.heap.size, .cells #[.int .i64 0, .int .i64 n] 36) :: K) g ⟨cs, st, wrap64 (at_ + 1), en, rt⟩ := (VrB.setAt ⟨vS, hv⟩ _).moreAt _ _ (vm_ssz _ _ _)
  have h0 : Aside0 (VrB w0 w K g ⟨cs, st, at_, en, rt⟩) := ⟨⟨vS, hv⟩⟩
  replace h1 := Aside0.mk h1
  clear hbk
  replace hv := Aside0.mk hv
  go_enter Try.func79, Try.ntmps79
  go_wp2_with (first | (go_at_call 90; (with_reducible refine (vr_push w0 _ _ g _ _ h1.out (by first | omega | (simp only [List.length_cons]; omega))).mono ?_); rintro e Wh2 ⟨rfl, h2⟩; replace h2 := Aside0.mk h2))
  go_end0
  exact ⟨rfl, h2.out.less (fun q hq => List.mem_cons_of_mem _ hq)⟩
set_option maxHeartbeats 1000000 in
theorem vdo_pop {w0 w : World} {K : List (Nat × Obj)} {g : Nat} {cs st : List Int} {at_ en rt : Int} (n kind arg x : Int) (h : VrB w0 w K g ⟨cs, x :: st, at_, en, rt⟩) (hsm : st.length ≤ 990) :
    Calls Try.prog 79 #[.pointer (some ⟨g, 0, none⟩), .agg #[.int .i64 1, .int .i64 n], .int .i64 kind, .int .i64 arg] w fun e w' => e = .returned (.tuple #[]) ∧ VrB w0 w' K g ⟨cs, st, wrap64 (at_ + 1), en, rt⟩ := by
  obtain ⟨vS, hv⟩ := h
  have hvl := blk_lt hv.hk
  have n1 : g ≠ w.heap.size := Nat.ne_of_lt hvl
  have n2 : w.heap.size ≠ g := fun e => n1 e.symm
  have hbk := blk_below hv.hk (below_alloc (Below.refl w.heap.size w) (.cells #[.int .i64 1, .int .i64 n] 36))
  have b5 := blk_cell hbk 5
  have z5 := blk_frozen hbk 5
  simp only [List.getElem?_toArray, List.getElem?_cons_zero, List.getElem?_cons_succ] at b5
  have h1 : VrB w0 ((w.setCell ⟨g, 5, none⟩ (.int .i64 (wrap64 (at_ + 1)))).alloc (.cells #[.int .i64 1, .int .i64 n] 36)) ((w.heap.size, .cells #[.int .i64 1, .int .i64 n] 36) :: K) g ⟨cs, x :: st, wrap64 (at_ + 1), en, rt⟩ := (VrB.setAt ⟨vS, hv⟩ _).moreAt _ _ (vm_ssz _ _ _)
  have h0 : Aside0 (VrB w0 w K g ⟨cs, x :: st, at_, en, rt⟩) := ⟨⟨vS, hv⟩⟩
  replace h1 := Aside0.mk h1
  clear hbk
  replace hv := Aside0.mk hv
  go_enter Try.func79, Try.ntmps79
  go_wp2_with (first | (go_at_call 91; (with_reducible refine (vr_pop w0 _ _ g _ _ _ h1.out rfl).mono ?_); rintro e Wh2 ⟨rfl, h2⟩; replace h2 := Aside0.mk h2))
  go_end0
  exact ⟨rfl, h2.out.less (fun q hq => List.mem_cons_of_mem _ hq)⟩
set_option maxHeartbeats 1000000 in
theorem vdo_dup {w0 w : World} {K : List (Nat × Obj)} {g : Nat} {cs st : List Int} {at_ en rt : Int} (n kind arg x : Int) (h : VrB w0 w K g ⟨cs, x :: st, at_, en, rt⟩) (hsm : st.length ≤ 990) :
    Calls Try.prog 79 #[.pointer (some ⟨g, 0, none⟩), .agg #[.int .i64 2, .int .i64 n], .int .i64 kind, .int .i64 arg] w fun e w' => e = .returned (.tuple #[]) ∧ VrB w0 w' K g ⟨cs, x :: x :: st, wrap64 (at_ + 1), en, rt⟩ := by
  obtain ⟨vS, hv⟩ := h
  have hvl := blk_lt hv.hk
  have n1 : g ≠ w.heap.size := Nat.ne_of_lt hvl
  have n2 : w.heap.size ≠ g := fun e => n1 e.symm
  have hbk := blk_below hv.hk (below_alloc (Below.refl w.heap.size w) (.cells #[.int .i64 2, .int .i64 n] 36))
  have b5 := blk_cell hbk 5
  have z5 := blk_frozen hbk 5
  simp only [List.getElem?_toArray, List.getElem?_cons_zero, List.getElem?_cons_succ] at b5
  have h1 : VrB w0 ((w.setCell ⟨g, 5, none⟩ (.int .i64 (wrap64 (at_ + 1)))).alloc (.cells #[.int .i64 2, .int .i64 n] 36)) ((w.heap.size, .cells #[.int .i64 2, .int .i64 n] 36) :: K) g ⟨cs, x :: st, wrap64 (at_ + 1), en, rt⟩ := (VrB.setAt ⟨vS, hv⟩ _).moreAt _ _ (vm_ssz _ _ _)
  have h0 : Aside0 (VrB w0 w K g ⟨cs, x :: st, at_, en, rt⟩) := ⟨⟨vS, hv⟩⟩
  replace h1 := Aside0.mk h1
  clear hbk
  replace hv := Aside0.mk hv
  go_enter Try.func79, Try.ntmps79
  go_wp2_with (first | (go_at_call 91; (with_reducible refine (vr_pop w0 _ _ g _ _ _ h1.out rfl).mono ?_); rintro e Wh2 ⟨rfl, h2⟩; replace h2 := Aside0.mk h2) | (go_at_call 90; (with_reducible refine (vr_push w0 _ _ g _ _ h2.out (by first | omega | (simp only [List.length_cons]; omega))).mono ?_); rintro e Wh3 ⟨rfl, h3⟩; replace h3 := Aside0.mk h3) | (go_at_call 90; (with_reducible refine (vr_push w0 _ _ g _ _ h3.out (by first | omega | (simp only [List.length_cons]; omega))).mono ?_); rintro e Wh4 ⟨rfl, h4⟩; replace h4 := Aside0.mk h4))
  go_end0
  exact ⟨rfl, h4.out.less (fun q hq => List.mem_cons_of_mem _ hq)⟩
set_option maxHeartbeats 1000000 in
theorem vdo_swap {w0 w : World} {K : List (Nat × Obj)} {g : Nat} {cs st : List Int} {at_ en rt : Int} (n kind arg a b : Int) (h : VrB w0 w K g ⟨cs, b :: a :: st, at_, en, rt⟩) (hsm : st.length ≤ 990) :
    Calls Try.prog 79 #[.pointer (some ⟨g, 0, none⟩), .agg #[.int .i64 3, .int .i64 n], .int .i64 kind, .int .i64 arg] w fun e w' => e = .returned (.tuple #[]) ∧ VrB w0 w' K g ⟨cs, a :: b :: st, wrap64 (at_ + 1), en, rt⟩ := by
  obtain ⟨vS, hv⟩ := h
  have hvl := blk_lt hv.hk
  have n1 : g ≠ w.heap.size := Nat.ne_of_lt hvl
  have n2 : w.heap.size ≠ g := fun e => n1 e.symm
  have hbk := blk_below hv.hk (below_alloc (Below.refl w.heap.size w) (.cells #[.int .i64 3, .int .i64 n] 36))
  have b5 := blk_cell hbk 5
  have z5 := blk_frozen hbk 5
  simp only [List.getElem?_toArray, List.getElem?_cons_zero, List.getElem?_cons_succ] at b5
  have h1 : VrB w0 ((w.setCell ⟨g, 5, none⟩ (.int .i64 (wrap64 (at_ + 1)))).alloc (.cells #[.int .i64 3, .int .i64 n] 36)) ((w.heap.size, .cells #[.int .i64 3, .int .i64 n] 36) :: K) g ⟨cs, b :: a :: st, wrap64 (at_ + 1), en, rt⟩ := (VrB.setAt ⟨vS, hv⟩ _).moreAt _ _ (vm_ssz _ _ _)
  have h0 : Aside0 (VrB w0 w K g ⟨cs, b :: a :: st, at_, en, rt⟩) := ⟨⟨vS, hv⟩⟩
  replace h1 := Aside0.mk h1
  clear hbk
  replace hv := Aside0.mk hv
  go_enter Try.func79, Try.ntmps79
  go_wp2_with (first | (go_at_call 91; (with_reducible refine (vr_pop w0 _ _ g _ _ _ h1.out rfl).mono ?_); rintro e Wh2 ⟨rfl, h2⟩; replace h2 := Aside0.mk h2) | (go_at_call 91; (with_reducible refine (vr_pop w0 _ _ g _ _ _ h2.out rfl).mono ?_); rintro e Wh3 ⟨rfl, h3⟩; replace h3 := Aside0.mk h3) | (go_at_call 90; (with_reducible refine (vr_push w0 _ _ g _ _ h3.out (by first | omega | (simp only [List.length_cons]; omega))).mono ?_); rintro e Wh4 ⟨rfl, h4⟩; replace h4 := Aside0.mk h4) | (go_at_call 90; (with_reducible refine (vr_push w0 _ _ g _ _ h4.out (by first | omega | (simp only [List.length_cons]; omega))).mono ?_); rintro e Wh5 ⟨rfl, h5⟩; replace h5 := Aside0.mk h5))
  go_end0
  exact ⟨rfl, h5.out.less (fun q hq => List.mem_cons_of_mem _ hq)⟩
set_option maxHeartbeats 1000000 in
theorem vdo_arg {w0 w : World} {K : List (Nat × Obj)} {g : Nat} {cs st : List Int} {at_ en rt : Int} (n kind arg : Int) (h : VrB w0 w K g ⟨cs, st, at_, en, rt⟩) (hsm : st.length ≤ 990) :
    Calls Try.prog 79 #[.pointer (some ⟨g, 0, none⟩), .agg #[.int .i64 6, .int .i64 n], .int .i64 kind, .int .i64 arg] w fun e w' => e = .returned (.tuple #[]) ∧ VrB w0 w' K g ⟨cs, arg :: st, wrap64 (at_ + 1), en, rt⟩ := by
  obtain ⟨vS, hv⟩ := h
  have hvl := blk_lt hv.hk
  have n1 : g ≠ w.heap.size := Nat.ne_of_lt hvl
  have n2 : w.heap.size ≠ g := fun e => n1 e.symm
  have hbk := blk_below hv.hk (below_alloc (Below.refl w.heap.size w) (.cells #[.int .i64 6, .int .i64 n] 36))
  have b5 := blk_cell hbk 5
  have z5 := blk_frozen hbk 5
  simp only [List.getElem?_toArray, List.getElem?_cons_zero, List.getElem?_cons_succ] at b5
  have h1 : VrB w0 ((w.setCell ⟨g, 5, none⟩ (.int .i64 (wrap64 (at_ + 1)))).alloc (.cells #[.int .i64 6, .int .i64 n] 36)) ((w.heap.size, .cells #[.int .i64 6, .int .i64 n] 36) :: K) g ⟨cs, st, wrap64 (at_ + 1), en, rt⟩ := (VrB.setAt ⟨vS, hv⟩ _).moreAt _ _ (vm_ssz _ _ _)
  have h0 : Aside0 (VrB w0 w K g ⟨cs, st, at_, en, rt⟩) := ⟨⟨vS, hv⟩⟩
  replace h1 := Aside0.mk h1
  clear hbk
  replace hv := Aside0.mk hv
  go_enter Try.func79, Try.ntmps79
  go_wp2_with (first | (go_at_call 90; (with_reducible refine (vr_push w0 _ _ g _ _ h1.out (by first | omega | (simp only [List.length_cons]; omega))).mono ?_); rintro e Wh2 ⟨rfl, h2⟩; replace h2 := Aside0.mk h2))
  go_end0
  exact ⟨rfl, h2.out.less (fun q hq => List.mem_cons_of_mem _ hq)⟩
set_option maxHeartbeats 1000000 in
theorem vdo_kind {w0 w : World} {K : List (Nat × Obj)} {g : Nat} {cs st : List Int} {at_ en rt : Int} (n kind arg : Int) (h : VrB w0 w K g ⟨cs, st, at_, en, rt⟩) (hsm : st.length ≤ 990) :
    Calls Try.prog 79 #[.pointer (some ⟨g, 0, none⟩), .agg #[.int .i64 7, .int .i64 n], .int .i64 kind, .int .i64 arg] w fun e w' => e = .returned (.tuple #[]) ∧ VrB w0 w' K g ⟨cs, kind :: st, wrap64 (at_ + 1), en, rt⟩ := by
  obtain ⟨vS, hv⟩ := h
  have hvl := blk_lt hv.hk
  have n1 : g ≠ w.heap.size := Nat.ne_of_lt hvl
  have n2 : w.heap.size ≠ g := fun e => n1 e.symm
  have hbk := blk_below hv.hk (below_alloc (Below.refl w.heap.size w) (.cells #[.int .i64 7, .int .i64 n] 36))
  have b5 := blk_cell hbk 5
  have z5 := blk_frozen hbk 5
  simp only [List.getElem?_toArray, List.getElem?_cons_zero, List.getElem?_cons_succ] at b5
  have h1 : VrB w0 ((w.setCell ⟨g, 5, none⟩ (.int .i64 (wrap64 (at_ + 1)))).alloc (.cells #[.int .i64 7, .int .i64 n] 36)) ((w.heap.size, .cells #[.int .i64 7, .int .i64 n] 36) :: K) g ⟨cs, st, wrap64 (at_ + 1), en, rt⟩ := (VrB.setAt ⟨vS, hv⟩ _).moreAt _ _ (vm_ssz _ _ _)
  have h0 : Aside0 (VrB w0 w K g ⟨cs, st, at_, en, rt⟩) := ⟨⟨vS, hv⟩⟩
  replace h1 := Aside0.mk h1
  clear hbk
  replace hv := Aside0.mk hv
  go_enter Try.func79, Try.ntmps79
  go_wp2_with (first | (go_at_call 90; (with_reducible refine (vr_push w0 _ _ g _ _ h1.out (by first | omega | (simp only [List.length_cons]; omega))).mono ?_); rintro e Wh2 ⟨rfl, h2⟩; replace h2 := Aside0.mk h2))
  go_end0
  exact ⟨rfl, h2.out.less (fun q hq => List.mem_cons_of_mem _ hq)⟩
set_option maxHeartbeats 1000000 in
theorem vdo_not1 {w0 w : World} {K : List (Nat × Obj)} {g : Nat} {cs st : List Int} {at_ en rt : Int} (n kind arg x : Int) (hx : x = 0) (h : VrB w0 w K g ⟨cs, x :: st, at_, en, rt⟩) (hsm : st.length ≤ 990) :
    Calls Try.prog 79 #[.pointer (some ⟨g, 0, none⟩), .agg #[.int .i64 15, .int .i64 n], .int .i64 kind, .int .i64 arg] w fun e w' => e = .returned (.tuple #[]) ∧ VrB w0 w' K g ⟨cs, 1 :: st, wrap64 (at_ + 1), en, rt⟩ := by
  obtain ⟨vS, hv⟩ := h
  have hvl := blk_lt hv.hk
  have n1 : g ≠ w.heap.size := Nat.ne_of_lt hvl
  have n2 : w.heap.size ≠ g := fun e => n1 e.symm
  have hbk := blk_below hv.hk (below_alloc (Below.refl w.heap.size w) (.cells #[.int .i64 15, .int .i64 n] 36))
  have b5 := blk_cell hbk 5
  have z5 := blk_frozen hbk 5
  simp only [List.getElem?_toArray, List.getElem?_cons_zero, List.getElem?_cons_succ] at b5
  have h1 : VrB w0 ((w.setCell ⟨g, 5, none⟩ (.int .i64 (wrap64 (at_ + 1)))).alloc (.cells #[.int .i64 15, .int .i64 n] 36)) ((w.heap.size, .cells #[.int .i64 15, .int .i64 n] 36) :: K) g ⟨cs, x :: st, wrap64 (at_ + 1), en, rt⟩ := (VrB.setAt ⟨vS, hv⟩ _).moreAt _ _ (vm_ssz _ _ _)
  have h0 : Aside0 (VrB w0 w K g ⟨cs, x :: st, at_, en, rt⟩) := ⟨⟨vS, hv⟩⟩
  replace h1 := Aside0.mk h1
  clear hbk
  replace hv := Aside0.mk hv
  have hxb : (x == 0) = true := beq_iff_eq.mpr hx
  clear hx
  go_enter Try.func79, Try.ntmps79
  go_wp2_with (first | (go_at_call 91; (with_reducible refine (vr_pop w0 _ _ g _ _ _ h1.out rfl).mono ?_); rintro e Wh2 ⟨rfl, h2⟩; replace h2 := Aside0.mk h2) | (go_at_call 92; (with_reducible refine (vm_bit.calls true 1 _ rfl).mono ?_); rintro e Wh3 ⟨rfl, ⟨nd, rfl⟩⟩; have h3 := Aside0.mk (h2.out.came (pw_below_drewN (Below.refl _ _) nd))) | (go_at_call 90; (with_reducible refine (vr_push w0 _ _ g _ _ h3.out (by first | omega | (simp only [List.length_cons]; omega))).mono ?_); rintro e Wh4 ⟨rfl, h4⟩; replace h4 := Aside0.mk h4))
  go_end0
  exact ⟨rfl, h4.out.less (fun q hq => List.mem_cons_of_mem _ hq)⟩
set_option maxHeartbeats 1000000 in
theorem vdo_not0 {w0 w : World} {K : List (Nat × Obj)} {g : Nat} {cs st : List Int} {at_ en rt : Int} (n kind arg x : Int) (hx : ¬ x = 0) (h : VrB w0 w K g ⟨cs, x :: st, at_, en, rt⟩) (hsm : st.length ≤ 990) :
    Calls Try.prog 79 #[.pointer (some ⟨g, 0, none⟩), .agg #[.int .i64 15, .int .i64 n], .int .i64 kind, .int .i64 arg] w fun e w' => e = .returned (.tuple #[]) ∧ VrB w0 w' K g ⟨cs, 0 :: st, wrap64 (at_ + 1), en, rt⟩ := by
  obtain ⟨vS, hv⟩ := h
  have hvl := blk_lt hv.hk
  have n1 : g ≠ w.heap.size := Nat.ne_of_lt hvl
  have n2 : w.heap.size ≠ g := fun e => n1 e.symm
  have hbk := blk_below hv.hk (below_alloc (Below.refl w.heap.size w) (.cells #[.int .i64 15, .int .i64 n] 36))
  have b5 := blk_cell hbk 5
  have z5 := blk_frozen hbk 5
  simp only [List.getElem?_toArray, List.getElem?_cons_zero, List.getElem?_cons_succ] at b5
  have h1 : VrB w0 ((w.setCell ⟨g, 5, none⟩ (.int .i64 (wrap64 (at_ + 1)))).alloc (.cells #[.int .i64 15, .int .i64 n] 36)) ((w.heap.size, .cells #[.int .i64 15, .int .i64 n] 36) :: K) g ⟨cs, x :: st, wrap64 (at_ + 1), en, rt⟩ := (VrB.setAt ⟨vS, hv⟩ _).moreAt _ _ (vm_ssz _ _ _)
  have h0 : Aside0 (VrB w0 w K g ⟨cs, x :: st, at_, en, rt⟩) := ⟨⟨vS, hv⟩⟩
  replace h1 := Aside0.mk h1
  clear hbk
  replace hv := Aside0.mk hv
  have hxb : (x == 0) = false := beq_eq_false_iff_ne.mpr hx
  clear hx
  go_enter Try.func79, Try.ntmps79
  go_wp2_with (first | (go_at_call 91; (with_reducible refine (vr_pop w0 _ _ g _ _ _ h1.out rfl).mono ?_); rintro e Wh2 ⟨rfl, h2⟩; replace h2 := Aside0.mk h2) | (go_at_call 92; (with_reducible refine (vm_bit.calls false 0 _ rfl).mono ?_); rintro e Wh3 ⟨rfl, ⟨nd, rfl⟩⟩; have h3 := Aside0.mk (h2.out.came (pw_below_drewN (Below.refl _ _) nd))) | (go_at_call 90; (with_reducible refine (vr_push w0 _ _ g _ _ h3.out (by first | omega | (simp only [List.length_cons]; omega))).mono ?_); rintro e Wh4 ⟨rfl, h4⟩; replace h4 := Aside0.mk h4))
  go_end0
  exact ⟨rfl, h4.out.less (fun q hq => List.mem_cons_of_mem _ hq)⟩
set_option maxHeartbeats 1000000 in
theorem vdo_jump {w0 w : World} {K : List (Nat × Obj)} {g : Nat} {cs st : List Int} {at_ en rt : Int} (n kind arg : Int) (h : VrB w0 w K g ⟨cs, st, at_, en, rt⟩) (hsm : st.length ≤ 990) :
    Calls Try.prog 79 #[.pointer (some ⟨g, 0, none⟩), .agg #[.int .i64 16, .int .i64 n], .int .i64 kind, .int .i64 arg] w fun e w' => e = .returned (.tuple #[]) ∧ VrB w0 w' K g ⟨cs, st, n, en, rt⟩ := by
  obtain ⟨vS, hv⟩ := h
  have hvl := blk_lt hv.hk
  have n1 : g ≠ w.heap.size := Nat.ne_of_lt hvl
  have n2 : w.heap.size ≠ g := fun e => n1 e.symm
  have hbk := blk_below hv.hk (below_alloc (Below.refl w.heap.size w) (.cells #[.int .i64 16, .int .i64 n] 36))
  have b5 := blk_cell hbk 5
  have z5 := blk_frozen hbk 5
  simp only [List.getElem?_toArray, List.getElem?_cons_zero, List.getElem?_cons_succ] at b5
  have h1 : VrB w0 ((w.setCell ⟨g, 5, none⟩ (.int .i64 (wrap64 (at_ + 1)))).alloc (.cells #[.int .i64 16, .int .i64 n] 36)) ((w.heap.size, .cells #[.int .i64 16, .int .i64 n] 36) :: K) g ⟨cs, st, wrap64 (at_ + 1), en, rt⟩ := (VrB.setAt ⟨vS, hv⟩ _).moreAt _ _ (vm_ssz _ _ _)
  have h0 : Aside0 (VrB w0 w K g ⟨cs, st, at_, en, rt⟩) := ⟨⟨vS, hv⟩⟩
  replace h1 := Aside0.mk h1
  clear hbk
  replace hv := Aside0.mk hv
  have c5 := blk_cell hv.out.hk 5
  have y5 := blk_frozen hv.out.hk 5
  simp only [List.getElem?_toArray, List.getElem?_cons_zero, List.getElem?_cons_succ] at c5
  obtain ⟨v1, q1⟩ := h1.out
  have c6_5 := blk_cell q1.hk 5
  have y6_5 := blk_frozen q1.hk 5
  simp only [List.getElem?_toArray, List.getElem?_cons_zero, List.getElem?_cons_succ] at c6_5
  clear q1
  go_enter Try.func79, Try.ntmps79
  go_wp2
  go_end0
  first | exact ⟨rfl, (h0.out.setAt _).came (below_alloc (Below.refl _ _) _)⟩ | exact ⟨rfl, ((h0.out.setAt _).setAt _).came (below_alloc (Below.refl _ _) _)⟩
set_option maxHeartbeats 1000000 in
theorem vdo_refuse {w0 w : World} {K : List (Nat × Obj)} {g : Nat} {cs st : List Int} {at_ en rt : Int} (n kind arg : Int) (h : VrB w0 w K g ⟨cs, st, at_, en, rt⟩) (hsm : st.length ≤ 990) :
    Calls Try.prog 79 #[.pointer (some ⟨g, 0, none⟩), .agg #[.int .i64 19, .int .i64 n], .int .i64 kind, .int .i64 arg] w fun e w' => e = .returned (.tuple #[]) ∧ VrB w0 w' K g ⟨cs, st, wrap64 (at_ + 1), 2, rt⟩ := by
  obtain ⟨vS, hv⟩ := h
  have hvl := blk_lt hv.hk
  have n1 : g ≠ w.heap.size := Nat.ne_of_lt hvl
  have n2 : w.heap.size ≠ g := fun e => n1 e.symm
  have hbk := blk_below hv.hk (below_alloc (Below.refl w.heap.size w) (.cells #[.int .i64 19, .int .i64 n] 36))
  have b5 := blk_cell hbk 5
  have z5 := blk_frozen hbk 5
  simp only [List.getElem?_toArray, List.getElem?_cons_zero, List.getElem?_cons_succ] at b5
  have h1 : VrB w0 ((w.setCell ⟨g, 5, none⟩ (.int .i64 (wrap64 (at_ + 1)))).alloc (.cells #[.int .i64 19, .int .i64 n] 36)) ((w.heap.size, .cells #[.int .i64 19, .int .i64 n] 36) :: K) g ⟨cs, st, wrap64 (at_ + 1), en, rt⟩ := (VrB.setAt ⟨vS, hv⟩ _).moreAt _ _ (vm_ssz _ _ _)
  have h0 : Aside0 (VrB w0 w K g ⟨cs, st, at_, en, rt⟩) := ⟨⟨vS, hv⟩⟩
  replace h1 := Aside0.mk h1
  clear hbk
  replace hv := Aside0.mk hv
  have c7 := blk_cell hv.out.hk 6
  have y7 := blk_frozen hv.out.hk 6
  simp only [List.getElem?_toArray, List.getElem?_cons_zero, List.getElem?_cons_succ] at c7
  obtain ⟨v1, q1⟩ := h1.out
  have c6_6 := blk_cell q1.hk 6
  have y6_6 := blk_frozen q1.hk 6
  simp only [List.getElem?_toArray, List.getElem?_cons_zero, List.getElem?_cons_succ] at c6_6
  clear q1
  go_enter Try.func79, Try.ntmps79
  go_wp2
  go_end0
  exact ⟨rfl, ((h0.out.setAt _).setEnd _).came (below_alloc (Below.refl _ _) _)⟩
set_option maxHeartbeats 1000000 in
theorem vdo_answer {w0 w : World} {K : List (Nat × Obj)} {g : Nat} {cs st : List Int} {at_ en rt : Int} (n kind arg x : Int) (h : VrB w0 w K g ⟨cs, x :: st, at_, en, rt⟩) (hsm : st.length ≤ 990) :
    Calls Try.prog 79 #[.pointer (some ⟨g, 0, none⟩), .agg #[.int .i64 18, .int .i64 n], .int .i64 kind, .int .i64 arg] w fun e w' => e = .returned (.tuple #[]) ∧ VrB w0 w' K g ⟨cs, st, wrap64 (at_ + 1), 1, x⟩ := by
  obtain ⟨vS, hv⟩ := h
  have hvl := blk_lt hv.hk
  have n1 : g ≠ w.heap.size := Nat.ne_of_lt hvl
  have n2 : w.heap.size ≠ g := fun e => n1 e.symm
  have hbk := blk_below hv.hk (below_alloc (Below.refl w.heap.size w) (.cells #[.int .i64 18, .int .i64 n] 36))
  have b5 := blk_cell hbk 5
  have z5 := blk_frozen hbk 5
  simp only [List.getElem?_toArray, List.getElem?_cons_zero, List.getElem?_cons_succ] at b5
  have h1 : VrB w0 ((w.setCell ⟨g, 5, none⟩ (.int .i64 (wrap64 (at_ + 1)))).alloc (.cells #[.int .i64 18, .int .i64 n] 36)) ((w.heap.size, .cells #[.int .i64 18, .int .i64 n] 36) :: K) g ⟨cs, x :: st, wrap64 (at_ + 1), en, rt⟩ := (VrB.setAt ⟨vS, hv⟩ _).moreAt _ _ (vm_ssz _ _ _)
  have h0 : Aside0 (VrB w0 w K g ⟨cs, x :: st, at_, en, rt⟩) := ⟨⟨vS, hv⟩⟩
  replace h1 := Aside0.mk h1
  clear hbk
  replace hv := Aside0.mk hv
  go_enter Try.func79, Try.ntmps79
  go_wp2_with (first | (go_at_call 91; (with_reducible refine (vr_pop w0 _ _ g _ _ _ h1.out rfl).mono ?_); rintro e Wh2 ⟨rfl, h2⟩; replace h2 := Aside0.mk h2; obtain ⟨v2, q2⟩ := h2.out; have d6 := blk_cell q2.hk 6; have e6 := blk_frozen q2.hk 6; simp only [List.getElem?_toArray, List.getElem?_cons_zero, List.getElem?_cons_succ] at d6; have d7 := blk_cell q2.hk 7; have e7 := blk_frozen q2.hk 7; simp only [List.getElem?_toArray, List.getElem?_cons_zero, List.getElem?_cons_succ] at d7; clear q2))
  go_end0
  exact ⟨rfl, ((h2.out.setEnd _).setRet _).less (fun q hq => List.mem_cons_of_mem _ hq)⟩
set_option maxHeartbeats 1000000 in
theorem vdo_unless0 {w0 w : World} {K : List (Nat × Obj)} {g : Nat} {cs st : List Int} {at_ en rt : Int} (n kind arg x : Int) (hx : x = 0) (h : VrB w0 w K g ⟨cs, x :: st, at_, en, rt⟩) (hsm : st.length ≤ 990) :
    Calls Try.prog 79 #[.pointer (some ⟨g, 0, none⟩), .agg #[.int .i64 17, .int .i64 n], .int .i64 kind, .int .i64 arg] w fun e w' => e = .returned (.tuple #[]) ∧ VrB w0 w' K g ⟨cs, st, n, en, rt⟩ := by
  obtain ⟨vS, hv⟩ := h
  have hvl := blk_lt hv.hk
  have n1 : g ≠ w.heap.size := Nat.ne_of_lt hvl
  have n2 : w.heap.size ≠ g := fun e => n1 e.symm
  have hbk := blk_below hv.hk (below_alloc (Below.refl w.heap.size w) (.cells #[.int .i64 17, .int .i64 n] 36))
  have b5 := blk_cell hbk 5
  have z5 := blk_frozen hbk 5
  simp only [List.getElem?_toArray, List.getElem?_cons_zero, List.getElem?_cons_succ] at b5
  have h1 : VrB w0 ((w.setCell ⟨g, 5, none⟩ (.int .i64 (wrap64 (at_ + 1)))).alloc (.cells #[.int .i64 17, .int .i64 n] 36)) ((w.heap.size, .cells #[.int .i64 17, .int .i64 n] 36) :: K) g ⟨cs, x :: st, wrap64 (at_ + 1), en, rt⟩ := (VrB.setAt ⟨vS, hv⟩ _).moreAt _ _ (vm_ssz _ _ _)
  have h0 : Aside0 (VrB w0 w K g ⟨cs, x :: st, at_, en, rt⟩) := ⟨⟨vS, hv⟩⟩
  replace h1 := Aside0.mk h1
  clear hbk
  replace hv := Aside0.mk hv
  have hxb : (x == 0) = true := beq_iff_eq.mpr hx
  clear hx
  go_enter Try.func79, Try.ntmps79
  go_wp2_with (first | (go_at_call 91; (with_reducible refine (vr_pop w0 _ _ g _ _ _ h1.out rfl).mono ?_); rintro e Wh2 ⟨rfl, h2⟩; replace h2 := Aside0.mk h2; obtain ⟨v2, q2⟩ := h2.out; have d5 := blk_cell q2.hk 5; have e5 := blk_frozen q2.hk 5; simp only [List.getElem?_toArray, List.getElem?_cons_zero, List.getElem?_cons_succ] at d5; have k1 := blk_cell (q2.kept _ List.mem_cons_self).1 1; simp only [List.getElem?_toArray, List.getElem?_cons_zero, List.getElem?_cons_succ] at k1; clear q2))
  go_end0
  exact ⟨rfl, (h2.out.setAt _).less (fun q hq => List.mem_cons_of_mem _ hq)⟩
set_option maxHeartbeats 1000000 in
theorem vdo_unless1 {w0 w : World} {K : List (Nat × Obj)} {g : Nat} {cs st : List Int} {at_ en rt : Int} (n kind arg x : Int) (hx : ¬ x = 0) (h : VrB w0 w K g ⟨cs, x :: st, at_, en, rt⟩) (hsm : st.length ≤ 990) :
    Calls Try.prog 79 #[.pointer (some ⟨g, 0, none⟩), .agg #[.int .i64 17, .int .i64 n], .int .i64 kind, .int .i64 arg] w fun e w' => e = .returned (.tuple #[]) ∧ VrB w0 w' K g ⟨cs, st, wrap64 (at_ + 1), en, rt⟩ := by
  obtain ⟨vS, hv⟩ := h
  have hvl := blk_lt hv.hk
  have n1 : g ≠ w.heap.size := Nat.ne_of_lt hvl
  have n2 : w.heap.size ≠ g := fun e => n1 e.symm
  have hbk := blk_below hv.hk (below_alloc (Below.refl w.heap.size w) (.cells #[.int .i64 17, .int .i64 n] 36))
  have b5 := blk_cell hbk 5
  have z5 := blk_frozen hbk 5
  simp only [List.getElem?_toArray, List.getElem?_cons_zero, List.getElem?_cons_succ] at b5
  have h1 : VrB w0 ((w.setCell ⟨g, 5, none⟩ (.int .i64 (wrap64 (at_ + 1)))).alloc (.cells #[.int .i64 17, .int .i64 n] 36)) ((w.heap.size, .cells #[.int .i64 17, .int .i64 n] 36) :: K) g ⟨cs, x :: st, wrap64 (at_ + 1), en, rt⟩ := (VrB.setAt ⟨vS, hv⟩ _).moreAt _ _ (vm_ssz _ _ _)
  have h0 : Aside0 (VrB w0 w K g ⟨cs, x :: st, at_, en, rt⟩) := ⟨⟨vS, hv⟩⟩
  replace h1 := Aside0.mk h1
  clear hbk
  replace hv := Aside0.mk hv
  have hxb : (x == 0) = false := beq_eq_false_iff_ne.mpr hx
  clear hx
  go_enter Try.func79, Try.ntmps79
  go_wp2_with (first | (go_at_call 91; (with_reducible refine (vr_pop w0 _ _ g _ _ _ h1.out rfl).mono ?_); rintro e Wh2 ⟨rfl, h2⟩; replace h2 := Aside0.mk h2; obtain ⟨v2, q2⟩ := h2.out; have d5 := blk_cell q2.hk 5; have e5 := blk_frozen q2.hk 5; simp only [List.getElem?_toArray, List.getElem?_cons_zero, List.getElem?_cons_succ] at d5; have k1 := blk_cell (q2.kept _ List.mem_cons_self).1 1; simp only [List.getElem?_toArray, List.getElem?_cons_zero, List.getElem?_cons_succ] at k1; clear q2))
  go_end0
  exact ⟨rfl, h2.out.less (fun q hq => List.mem_cons_of_mem _ hq)⟩
set_option maxHeartbeats 1000000 in
theorem vdo_two {w0 w : World} {K : List (Nat × Obj)} {g : Nat} {cs st : List Int} {at_ en rt : Int} (n kind arg op a b v : Int) (hop : 8 ≤ op ∧ op ≤ 14) (hv2 : vtwo op a b = some v) (h : VrB w0 w K g ⟨cs, b :: a :: st, at_, en, rt⟩) (hsm : st.length ≤ 990) :
    Calls Try.prog 79 #[.pointer (some ⟨g, 0, none⟩), .agg #[.int .i64 op, .int .i64 n], .int .i64 kind, .int .i64 arg] w fun e w' => e = .returned (.tuple #[]) ∧ VrB w0 w' K g ⟨cs, v :: st, wrap64 (at_ + 1), en, rt⟩ := by
  obtain ⟨vS, hv⟩ := h
  have hvl := blk_lt hv.hk
  have n1 : g ≠ w.heap.size := Nat.ne_of_lt hvl
  have n2 : w.heap.size ≠ g := fun e => n1 e.symm
  have hbk := blk_below hv.hk (below_alloc (Below.refl w.heap.size w) (.cells #[.int .i64 op, .int .i64 n] 36))
  have b5 := blk_cell hbk 5
  have z5 := blk_frozen hbk 5
  simp only [List.getElem?_toArray, List.getElem?_cons_zero, List.getElem?_cons_succ] at b5
  have h1 : VrB w0 ((w.setCell ⟨g, 5, none⟩ (.int .i64 (wrap64 (at_ + 1)))).alloc (.cells #[.int .i64 op, .int .i64 n] 36)) ((w.heap.size, .cells #[.int .i64 op, .int .i64 n] 36) :: K) g ⟨cs, b :: a :: st, wrap64 (at_ + 1), en, rt⟩ := (VrB.setAt ⟨vS, hv⟩ _).moreAt _ _ (vm_ssz _ _ _)
  have h0 : Aside0 (VrB w0 w K g ⟨cs, b :: a :: st, at_, en, rt⟩) := ⟨⟨vS, hv⟩⟩
  replace h1 := Aside0.mk h1
  clear hbk
  replace hv := Aside0.mk hv
  have k0 : (op == 0) = false := beq_eq_false_iff_ne.mpr (by omega)
  have k1 : (op == 1) = false := beq_eq_false_iff_ne.mpr (by omega)
  have k2 : (op == 2) = false := beq_eq_false_iff_ne.mpr (by omega)
  have k3 : (op == 3) = false := beq_eq_false_iff_ne.mpr (by omega)
  have k4 : (op == 4) = false := beq_eq_false_iff_ne.mpr (by omega)
  have k5 : (op == 5) = false := beq_eq_false_iff_ne.mpr (by omega)
  have k6 : (op == 6) = false := beq_eq_false_iff_ne.mpr (by omega)
  have k7 : (op == 7) = false := beq_eq_false_iff_ne.mpr (by omega)
  have k15 : (op == 15) = false := beq_eq_false_iff_ne.mpr (by omega)
  have k16 : (op == 16) = false := beq_eq_false_iff_ne.mpr (by omega)
  have k17 : (op == 17) = false := beq_eq_false_iff_ne.mpr (by omega)
  have k18 : (op == 18) = false := beq_eq_false_iff_ne.mpr (by omega)
  have k19 : (op == 19) = false := beq_eq_false_iff_ne.mpr (by omega)
  clear hop
  replace hv2 := Aside0.mk hv2
  go_enter Try.func79, Try.ntmps79
  go_wp2_with (first | (go_at_call 91; (with_reducible refine (vr_pop w0 _ _ g _ _ _ h1.out rfl).mono ?_); rintro e Wh2 ⟨rfl, h2⟩; replace h2 := Aside0.mk h2) | (go_at_call 91; (with_reducible refine (vr_pop w0 _ _ g _ _ _ h2.out rfl).mono ?_); rintro e Wh3 ⟨rfl, h3⟩; replace h3 := Aside0.mk h3; obtain ⟨v2, q2⟩ := h3.out; have k0_ := blk_cell (q2.kept _ List.mem_cons_self).1 0; simp only [List.getElem?_toArray, List.getElem?_cons_zero, List.getElem?_cons_succ] at k0_; clear q2) | (go_at_call 93; (with_reducible refine (vtwo_some op a b v _ hv2.out).mono ?_); rintro e W4 ⟨rfl, ⟨nd, rfl⟩⟩; have h4 := Aside0.mk (h3.out.came (pw_below_drewN (Below.refl _ _) nd))) | (go_at_call 90; (with_reducible refine (vr_push w0 _ _ g _ _ h4.out (by first | omega | (simp only [List.length_cons]; omega))).mono ?_); rintro e Wh5 ⟨rfl, h5⟩; replace h5 := Aside0.mk h5))
  go_end0
  exact ⟨rfl, h5.out.less (fun q hq => List.mem_cons_of_mem _ hq)⟩
set_option maxHeartbeats 1000000 in
theorem vdo_twono {w0 w : World} {K : List (Nat × Obj)} {g : Nat} {cs st : List Int} {at_ en rt : Int} (n kind arg op a b : Int) (hop : 8 ≤ op ∧ op ≤ 14) (hv2 : vtwo op a b = none) (h : VrB w0 w K g ⟨cs, b :: a :: st, at_, en, rt⟩) (hsm : st.length ≤ 990) :
    Calls Try.prog 79 #[.pointer (some ⟨g, 0, none⟩), .agg #[.int .i64 op, .int .i64 n], .int .i64 kind, .int .i64 arg] w fun e w' => e = .panicked [{ v := .iface 139 (.agg #[]), recovered := false }] ∧ VrB w0 w' K g ⟨cs, st, wrap64 (at_ + 1), en, rt⟩ := by
  obtain ⟨vS, hv⟩ := h
  have hvl := blk_lt hv.hk
  have n1 : g ≠ w.heap.size := Nat.ne_of_lt hvl
  have n2 : w.heap.size ≠ g := fun e => n1 e.symm
  have hbk := blk_below hv.hk (below_alloc (Below.refl w.heap.size w) (.cells #[.int .i64 op, .int .i64 n] 36))
  have b5 := blk_cell hbk 5
  have z5 := blk_frozen hbk 5
  simp only [List.getElem?_toArray, List.getElem?_cons_zero, List.getElem?_cons_succ] at b5
  have h1 : VrB w0 ((w.setCell ⟨g, 5, none⟩ (.int .i64 (wrap64 (at_ + 1)))).alloc (.cells #[.int .i64 op, .int .i64 n] 36)) ((w.heap.size, .cells #[.int .i64 op, .int .i64 n] 36) :: K) g ⟨cs, b :: a :: st, wrap64 (at_ + 1), en, rt⟩ := (VrB.setAt ⟨vS, hv⟩ _).moreAt _ _ (vm_ssz _ _ _)
  have h0 : Aside0 (VrB w0 w K g ⟨cs, b :: a :: st, at_, en, rt⟩) := ⟨⟨vS, hv⟩⟩
  replace h1 := Aside0.mk h1
  clear hbk
  replace hv := Aside0.mk hv
  have k0 : (op == 0) = false := beq_eq_false_iff_ne.mpr (by omega)
  have k1 : (op == 1) = false := beq_eq_false_iff_ne.mpr (by omega)
  have k2 : (op == 2) = false := beq_eq_false_iff_ne.mpr (by omega)
  have k3 : (op == 3) = false := beq_eq_false_iff_ne.mpr (by omega)
  have k4 : (op == 4) = false := beq_eq_false_iff_ne.mpr (by omega)
  have k5 : (op == 5) = false := beq_eq_false_iff_ne.mpr (by omega)
  have k6 : (op == 6) = false := beq_eq_false_iff_ne.mpr (by omega)
  have k7 : (op == 7) = false := beq_eq_false_iff_ne.mpr (by omega)
  have k15 : (op == 15) = false := beq_eq_false_iff_ne.mpr (by omega)
  have k16 : (op == 16) = false := beq_eq_false_iff_ne.mpr (by omega)
  have k17 : (op == 17) = false := beq_eq_false_iff_ne.mpr (by omega)
  have k18 : (op == 18) = false := beq_eq_false_iff_ne.mpr (by omega)
  have k19 : (op == 19) = false := beq_eq_false_iff_ne.mpr (by omega)
  clear hop
  replace hv2 := Aside0.mk hv2
  go_enter Try.func79, Try.ntmps79
  go_wp2_with (first | (go_at_call 91; (with_reducible refine (vr_pop w0 _ _ g _ _ _ h1.out rfl).mono ?_); rintro e Wh2 ⟨rfl, h2⟩; replace h2 := Aside0.mk h2) | (go_at_call 91; (with_reducible refine (vr_pop w0 _ _ g _ _ _ h2.out rfl).mono ?_); rintro e Wh3 ⟨rfl, h3⟩; replace h3 := Aside0.mk h3; obtain ⟨v2, q2⟩ := h3.out; have k0_ := blk_cell (q2.kept _ List.mem_cons_self).1 0; simp only [List.getElem?_toArray, List.getElem?_cons_zero, List.getElem?_cons_succ] at k0_; clear q2) | (go_at_call 93; (with_reducible refine (vtwo_none op a b _ hv2.out).mono ?_); rintro e W4 ⟨rfl, rfl⟩))
  simp only [bodyPost]
  exact ⟨trivial, trivial, h3.out.less (fun q hq => List.mem_cons_of_mem _ hq)⟩
set_option maxRecDepth 100000 in
set_option maxHeartbeats 1000000 in
theorem vdo_load0 {w0 w : World} {K : List (Nat × Obj)} {g : Nat} {cs st : List Int} {at_ en rt : Int} (n kind arg : Int) (hn : n = 0) (h : VrB w0 w K g ⟨cs, st, at_, en, rt⟩) (hsm : st.length ≤ 990) :
    Calls Try.prog 79 #[.pointer (some ⟨g, 0, none⟩), .agg #[.int .i64 4, .int .i64 n], .int .i64 kind, .int .i64 arg] w fun e w' => e = .returned (.tuple #[]) ∧ VrB w0 w' K g ⟨cs, rdOf 0 cs 0 :: st, wrap64 (at_ + 1), en, rt⟩ := by
  subst hn
  obtain ⟨vS, hv⟩ := h
  have hvl := blk_lt hv.hk
  have n1 : g ≠ w.heap.size := Nat.ne_of_lt hvl
  have n2 : w.heap.size ≠ g := fun e => n1 e.symm
  have hbk := blk_below hv.hk (below_alloc (Below.refl w.heap.size w) (.cells #[.int .i64 4, .int .i64 0] 36))
  have b5 := blk_cell hbk 5
  have z5 := blk_frozen hbk 5
  simp only [List.getElem?_toArray, List.getElem?_cons_zero, List.getElem?_cons_succ] at b5
  have h1 : VrB w0 ((w.setCell ⟨g, 5, none⟩ (.int .i64 (wrap64 (at_ + 1)))).alloc (.cells #[.int .i64 4, .int .i64 0] 36)) ((w.heap.size, .cells #[.int .i64 4, .int .i64 0] 36) :: K) g ⟨cs, st, wrap64 (at_ + 1), en, rt⟩ := (VrB.setAt ⟨vS, hv⟩ _).moreAt _ _ (vm_ssz _ _ _)
  have h0 : Aside0 (VrB w0 w K g ⟨cs, st, at_, en, rt⟩) := ⟨⟨vS, hv⟩⟩
  replace h1 := Aside0.mk h1
  clear hbk
  replace hv := Aside0.mk hv
  go_enter Try.func79, Try.ntmps79
  go_wp2
  refine vm_gen _ (fun W => VrB w0 W ((w.heap.size, .cells #[.int .i64 4, .int .i64 0] 36) :: K) g ⟨cs, st, wrap64 (at_ + 1), en, rt⟩) h1.out ?_
  clear h1 b5 z5
  intro W h1
  obtain ⟨v1, q1⟩ := h1
  have k1 := blk_cell (q1.kept _ List.mem_cons_self).1 1
  have ck := blk_cell q1.hk 0
  have yk := blk_frozen q1.hk 0
  have h1 : Aside0 (VrB w0 W ((w.heap.size, .cells #[.int .i64 4, .int .i64 0] 36) :: K) g ⟨cs, st, wrap64 (at_ + 1), en, rt⟩) := ⟨⟨v1, q1⟩⟩
  have hgl : g < W.heap.size := blk_lt q1.hk
  clear q1
  simp only [List.getElem?_toArray, List.getElem?_cons_zero, List.getElem?_cons_succ] at k1 ck
  go_region_held3 (fun W_ => W_.cell? ⟨g, 0, none⟩ = some (.int .i64 (rdOf 0 cs 0)) ∧ W_.cell? ⟨w.heap.size, 1, none⟩ = some (.int .i64 0)) (first | assumption | exact ⟨ck, k1⟩ | exact ⟨ck2, k2⟩) ((go_at_call 90; (with_reducible refine (vr_push w0 _ _ g _ _ h1.out.drew (by first | omega | (simp only [List.length_cons]; omega))).mono ?_); rintro e W2 ⟨rfl, h2⟩; obtain ⟨v2, q2⟩ := h2; have k2 := blk_cell (q2.kept _ List.mem_cons_self).1 1; have ck2 := blk_cell q2.hk 0; simp only [List.getElem?_toArray, List.getElem?_cons_zero, List.getElem?_cons_succ] at k2 ck2; replace h2 : Aside0 (VrB w0 W2 _ _ _) := ⟨⟨v2, q2⟩⟩; clear q2))
  go_wp2
  go_end0
  exact ⟨rfl, h2.out.less (fun q hq => List.mem_cons_of_mem _ hq)⟩
set_option maxRecDepth 100000 in
set_option maxHeartbeats 1000000 in
theorem vdo_store0 {w0 w : World} {K : List (Nat × Obj)} {g : Nat} {cs st : List Int} {at_ en rt : Int} (n kind arg x : Int) (hn : n = 0) (h : VrB w0 w K g ⟨cs, x :: st, at_, en, rt⟩) (hsm : st.length ≤ 990) :
    Calls Try.prog 79 #[.pointer (some ⟨g, 0, none⟩), .agg #[.int .i64 5, .int .i64 n], .int .i64 kind, .int .i64 arg] w fun e w' => e = .returned (.tuple #[]) ∧ VrB w0 w' K g ⟨cs.set 0 x, st, wrap64 (at_ + 1), en, rt⟩ := by
  subst hn
  obtain ⟨vS, hv⟩ := h
  have hvl := blk_lt hv.hk
  have n1 : g ≠ w.heap.size := Nat.ne_of_lt hvl
  have n2 : w.heap.size ≠ g := fun e => n1 e.symm
  have hbk := blk_below hv.hk (below_alloc (Below.refl w.heap.size w) (.cells #[.int .i64 5, .int .i64 0] 36))
  have b5 := blk_cell hbk 5
  have z5 := blk_frozen hbk 5
  simp only [List.getElem?_toArray, List.getElem?_cons_zero, List.getElem?_cons_succ] at b5
  have h1 : VrB w0 ((w.setCell ⟨g, 5, none⟩ (.int .i64 (wrap64 (at_ + 1)))).alloc (.cells #[.int .i64 5, .int .i64 0] 36)) ((w.heap.size, .cells #[.int .i64 5, .int .i64 0] 36) :: K) g ⟨cs, x :: st, wrap64 (at_ + 1), en, rt⟩ := (VrB.setAt ⟨vS, hv⟩ _).moreAt _ _ (vm_ssz _ _ _)
  have h0 : Aside0 (VrB w0 w K g ⟨cs, x :: st, at_, en, rt⟩) := ⟨⟨vS, hv⟩⟩
  replace h1 := Aside0.mk h1
  clear hbk
  replace hv := Aside0.mk hv
  go_enter Try.func79, Try.ntmps79
  go_wp2
  refine vm_gen _ (fun W => VrB w0 W ((w.heap.size, .cells #[.int .i64 5, .int .i64 0] 36) :: K) g ⟨cs, x :: st, wrap64 (at_ + 1), en, rt⟩) h1.out ?_
  clear h1 b5 z5
  intro W h1
  obtain ⟨v1, q1⟩ := h1
  have k1 := blk_cell (q1.kept _ List.mem_cons_self).1 1
  have ck := blk_cell q1.hk 0
  have yk := blk_frozen q1.hk 0
  have h1 : Aside0 (VrB w0 W ((w.heap.size, .cells #[.int .i64 5, .int .i64 0] 36) :: K) g ⟨cs, x :: st, wrap64 (at_ + 1), en, rt⟩) := ⟨⟨v1, q1⟩⟩
  have hgl : g < W.heap.size := blk_lt q1.hk
  clear q1
  simp only [List.getElem?_toArray, List.getElem?_cons_zero, List.getElem?_cons_succ] at k1 ck
  go_region_held3 (fun W_ => W_.cell? ⟨w.heap.size, 1, none⟩ = some (.int .i64 0)) (first | assumption | exact k1 | exact k2 | exact vm_box (h2.out.setCs0 _)) ((go_at_call 91; (with_reducible refine (vr_pop w0 _ _ g _ _ _ h1.out.drew rfl).mono ?_); rintro e W2 ⟨rfl, h2⟩; obtain ⟨v2, q2⟩ := h2; have k2 := blk_cell (q2.kept _ List.mem_cons_self).1 1; have ck2 := blk_cell q2.hk 0; have yk2 := blk_frozen q2.hk 0; simp only [List.getElem?_toArray, List.getElem?_cons_zero, List.getElem?_cons_succ] at k2 ck2; replace h2 : Aside0 (VrB w0 W2 _ _ _) := ⟨⟨v2, q2⟩⟩; clear q2))
  go_wp2
  go_end0
  exact ⟨rfl, (h2.out.setCs0 x).less (fun q hq => List.mem_cons_of_mem _ hq)⟩
set_option maxRecDepth 100000 in
set_option maxHeartbeats 1000000 in
theorem vdo_load1 {w0 w : World} {K : List (Nat × Obj)} {g : Nat} {cs st : List Int} {at_ en rt : Int} (n kind arg : Int) (hn : n = 1) (h : VrB w0 w K g ⟨cs, st, at_, en, rt⟩) (hsm : st.length ≤ 990) :
    Calls Try.prog 79 #[.pointer (some ⟨g, 0, none⟩), .agg #[.int .i64 4, .int .i64 n], .int .i64 kind, .int .i64 arg] w fun e w' => e = .returned (.tuple #[]) ∧ VrB w0 w' K g ⟨cs, rdOf 0 cs 1 :: st, wrap64 (at_ + 1), en, rt⟩ := by
  subst hn
  obtain ⟨vS, hv⟩ := h
  have hvl := blk_lt hv.hk
  have n1 : g ≠ w.heap.size := Nat.ne_of_lt hvl
  have n2 : w.heap.size ≠ g := fun e => n1 e.symm
  have hbk := blk_below hv.hk (below_alloc (Below.refl w.heap.size w) (.cells #[.int .i64 4, .int .i64 1] 36))
  have b5 := blk_cell hbk 5
  have z5 := blk_frozen hbk 5
  simp only [List.getElem?_toArray, List.getElem?_cons_zero, List.getElem?_cons_succ] at b5
  have h1 : VrB w0 ((w.setCell ⟨g, 5, none⟩ (.int .i64 (wrap64 (at_ + 1)))).alloc (.cells #[.int .i64 4, .int .i64 1] 36)) ((w.heap.size, .cells #[.int .i64 4, .int .i64 1] 36) :: K) g ⟨cs, st, wrap64 (at_ + 1), en, rt⟩ := (VrB.setAt ⟨vS, hv⟩ _).moreAt _ _ (vm_ssz _ _ _)
  have h0 : Aside0 (VrB w0 w K g ⟨cs, st, at_, en, rt⟩) := ⟨⟨vS, hv⟩⟩
  replace h1 := Aside0.mk h1
  clear hbk
  replace hv := Aside0.mk hv
  go_enter Try.func79, Try.ntmps79
  go_wp2
  refine vm_gen _ (fun W => VrB w0 W ((w.heap.size, .cells #[.int .i64 4, .int .i64 1] 36) :: K) g ⟨cs, st, wrap64 (at_ + 1), en, rt⟩) h1.out ?_
  clear h1 b5 z5
  intro W h1
  obtain ⟨v1, q1⟩ := h1
  have k1 := blk_cell (q1.kept _ List.mem_cons_self).1 1
  have ck := blk_cell q1.hk 1
  have yk := blk_frozen q1.hk 1
  have h1 : Aside0 (VrB w0 W ((w.heap.size, .cells #[.int .i64 4, .int .i64 1] 36) :: K) g ⟨cs, st, wrap64 (at_ + 1), en, rt⟩) := ⟨⟨v1, q1⟩⟩
  have hgl : g < W.heap.size := blk_lt q1.hk
  clear q1
  simp only [List.getElem?_toArray, List.getElem?_cons_zero, List.getElem?_cons_succ] at k1 ck
  go_region_held3 (fun W_ => W_.cell? ⟨g, 1, none⟩ = some (.int .i64 (rdOf 0 cs 1)) ∧ W_.cell? ⟨w.heap.size, 1, none⟩ = some (.int .i64 1)) (first | assumption | exact ⟨ck, k1⟩ | exact ⟨ck2, k2⟩) ((go_at_call 90; (with_reducible refine (vr_push w0 _ _ g _ _ h1.out.drew (by first | omega | (simp only [List.length_cons]; omega))).mono ?_); rintro e W2 ⟨rfl, h2⟩; obtain ⟨v2, q2⟩ := h2; have k2 := blk_cell (q2.kept _ List.mem_cons_self).1 1; have ck2 := blk_cell q2.hk 1; simp only [List.getElem?_toArray, List.getElem?_cons_zero, List.getElem?_cons_succ] at k2 ck2; replace h2 : Aside0 (VrB w0 W2 _ _ _) := ⟨⟨v2, q2⟩⟩; clear q2))
  go_wp2
  go_end0
  exact ⟨rfl, h2.out.less (fun q hq => List.mem_cons_of_mem _ hq)⟩
set_option maxRecDepth 100000 in
set_option maxHeartbeats 1000000 in
theorem vdo_store1 {w0 w : World} {K : List (Nat × Obj)} {g : Nat} {cs st : List Int} {at_ en rt : Int} (n kind arg x : Int) (hn : n = 1) (h : VrB w0 w K g ⟨cs, x :: st, at_, en, rt⟩) (hsm : st.length ≤ 990) :
    Calls Try.prog 79 #[.pointer (some ⟨g, 0, none⟩), .agg #[.int .i64 5, .int .i64 n], .int .i64 kind, .int .i64 arg] w fun e w' => e = .returned (.tuple #[]) ∧ VrB w0 w' K g ⟨cs.set 1 x, st, wrap64 (at_ + 1), en, rt⟩ := by
  subst hn
  obtain ⟨vS, hv⟩ := h
  have hvl := blk_lt hv.hk
  have n1 : g ≠ w.heap.size := Nat.ne_of_lt hvl
  have n2 : w.heap.size ≠ g := fun e => n1 e.symm
  have hbk := blk_below hv.hk (below_alloc (Below.refl w.heap.size w) (.cells #[.int .i64 5, .int .i64 1] 36))
  have b5 := blk_cell hbk 5
  have z5 := blk_frozen hbk 5
  simp only [List.getElem?_toArray, List.getElem?_cons_zero, List.getElem?_cons_succ] at b5
  have h1 : VrB w0 ((w.setCell ⟨g, 5, none⟩ (.int .i64 (wrap64 (at_ + 1)))).alloc (.cells #[.int .i64 5, .int .i64 1] 36)) ((w.heap.size, .cells #[.int .i64 5, .int .i64 1] 36) :: K) g ⟨cs, x :: st, wrap64 (at_ + 1), en, rt⟩ := (VrB.setAt ⟨vS, hv⟩ _).moreAt _ _ (vm_ssz _ _ _)
  have h0 : Aside0 (VrB w0 w K g ⟨cs, x :: st, at_, en, rt⟩) := ⟨⟨vS, hv⟩⟩
  replace h1 := Aside0.mk h1
  clear hbk
  replace hv := Aside0.mk hv
  go_enter Try.func79, Try.ntmps79
  go_wp2
  refine vm_gen _ (fun W => VrB w0 W ((w.heap.size, .cells #[.int .i64 5, .int .i64 1] 36) :: K) g ⟨cs, x :: st, wrap64 (at_ + 1), en, rt⟩) h1.out ?_
  clear h1 b5 z5
  intro W h1
  obtain ⟨v1, q1⟩ := h1
  have k1 := blk_cell (q1.kept _ List.mem_cons_self).1 1
  have ck := blk_cell q1.hk 1
  have yk := blk_frozen q1.hk 1
  have h1 : Aside0 (VrB w0 W ((w.heap.size, .cells #[.int .i64 5, .int .i64 1] 36) :: K) g ⟨cs, x :: st, wrap64 (at_ + 1), en, rt⟩) := ⟨⟨v1, q1⟩⟩
  have hgl : g < W.heap.size := blk_lt q1.hk
  clear q1
  simp only [List.getElem?_toArray, List.getElem?_cons_zero, List.getElem?_cons_succ] at k1 ck
  go_region_held3 (fun W_ => W_.cell? ⟨w.heap.size, 1, none⟩ = some (.int .i64 1)) (first | assumption | exact k1 | exact k2 | exact vm_box (h2.out.setCs1 _)) ((go_at_call 91; (with_reducible refine (vr_pop w0 _ _ g _ _ _ h1.out.drew rfl).mono ?_); rintro e W2 ⟨rfl, h2⟩; obtain ⟨v2, q2⟩ := h2; have k2 := blk_cell (q2.kept _ List.mem_cons_self).1 1; have ck2 := blk_cell q2.hk 1; have yk2 := blk_frozen q2.hk 1; simp only [List.getElem?_toArray, List.getElem?_cons_zero, List.getElem?_cons_succ] at k2 ck2; replace h2 : Aside0 (VrB w0 W2 _ _ _) := ⟨⟨v2, q2⟩⟩; clear q2))
  go_wp2
  go_end0
  exact ⟨rfl, (h2.out.setCs1 x).less (fun q hq => List.mem_cons_of_mem _ hq)⟩
set_option maxRecDepth 100000 in
set_option maxHeartbeats 1000000 in
theorem vdo_load2 {w0 w : World} {K : List (Nat × Obj)} {g : Nat} {cs st : List Int} {at_ en rt : Int} (n kind arg : Int) (hn : n = 2) (h : VrB w0 w K g ⟨cs, st, at_, en, rt⟩) (hsm : st.length ≤ 990) :
    Calls Try.prog 79 #[.pointer (some ⟨g, 0, none⟩), .agg #[.int .i64 4, .int .i64 n], .int .i64 kind, .int .i64 arg] w fun e w' => e = .returned (.tuple #[]) ∧ VrB w0 w' K g ⟨cs, rdOf 0 cs 2 :: st, wrap64 (at_ + 1), en, rt⟩ := by
  subst hn
  obtain ⟨vS, hv⟩ := h
  have hvl := blk_lt hv.hk
  have n1 : g ≠ w.heap.size := Nat.ne_of_lt hvl
  have n2 : w.heap.size ≠ g := fun e => n1 e.symm
  have hbk := blk_below hv.hk (below_alloc (Below.refl w.heap.size w) (.cells #[.int .i64 4, .int .i64 2] 36))
  have b5 := blk_cell hbk 5
  have z5 := blk_frozen hbk 5
  simp only [List.getElem?_toArray, List.getElem?_cons_zero, List.getElem?_cons_succ] at b5
  have h1 : VrB w0 ((w.setCell ⟨g, 5, none⟩ (.int .i64 (wrap64 (at_ + 1)))).alloc (.cells #[.int .i64 4, .int .i64 2] 36)) ((w.heap.size, .cells #[.int .i64 4, .int .i64 2] 36) :: K) g ⟨cs, st, wrap64 (at_ + 1), en, rt⟩ := (VrB.setAt ⟨vS, hv⟩ _).moreAt _ _ (vm_ssz _ _ _)
  have h0 : Aside0 (VrB w0 w K g ⟨cs, st, at_, en, rt⟩) := ⟨⟨vS, hv⟩⟩
  replace h1 := Aside0.mk h1
  clear hbk
  replace hv := Aside0.mk hv
  go_enter Try.func79, Try.ntmps79
  go_wp2
  refine vm_gen _ (fun W => VrB w0 W ((w.heap.size, .cells #[.int .i64 4, .int .i64 2] 36) :: K) g ⟨cs, st, wrap64 (at_ + 1), en, rt⟩) h1.out ?_
  clear h1 b5 z5
  intro W h1
  obtain ⟨v1, q1⟩ := h1
  have k1 := blk_cell (q1.kept _ List.mem_cons_self).1 1
  have ck := blk_cell q1.hk 2
  have yk := blk_frozen q1.hk 2
  have h1 : Aside0 (VrB w0 W ((w.heap.size, .cells #[.int .i64 4, .int .i64 2] 36) :: K) g ⟨cs, st, wrap64 (at_ + 1), en, rt⟩) := ⟨⟨v1, q1⟩⟩
  have hgl : g < W.heap.size := blk_lt q1.hk
  clear q1
  simp only [List.getElem?_toArray, List.getElem?_cons_zero, List.getElem?_cons_succ] at k1 ck
  go_region_held3 (fun W_ => W_.cell? ⟨g, 2, none⟩ = some (.int .i64 (rdOf 0 cs 2)) ∧ W_.cell? ⟨w.heap.size, 1, none⟩ = some (.int .i64 2)) (first | assumption | exact ⟨ck, k1⟩ | exact ⟨ck2, k2⟩) ((go_at_call 90; (with_reducible refine (vr_push w0 _ _ g _ _ h1.out.drew (by first | omega | (simp only [List.length_cons]; omega))).mono ?_); rintro e W2 ⟨rfl, h2⟩; obtain ⟨v2, q2⟩ := h2; have k2 := blk_cell (q2.kept _ List.mem_cons_self).1 1; have ck2 := blk_cell q2.hk 2; simp only [List.getElem?_toArray, List.getElem?_cons_zero, List.getElem?_cons_succ] at k2 ck2; replace h2 : Aside0 (VrB w0 W2 _ _ _) := ⟨⟨v2, q2⟩⟩; clear q2))
  go_wp2
  go_end0
  exact ⟨rfl, h2.out.less (fun q hq => List.mem_cons_of_mem _ hq)⟩
set_option maxRecDepth 100000 in
set_option maxHeartbeats 1000000 in
theorem vdo_store2 {w0 w : World} {K : List (Nat × Obj)} {g : Nat} {cs st : List Int} {at_ en rt : Int} (n kind arg x : Int) (hn : n = 2) (h : VrB w0 w K g ⟨cs, x :: st, at_, en, rt⟩) (hsm : st.length ≤ 990) :
    Calls Try.prog 79 #[.pointer (some ⟨g, 0, none⟩), .agg #[.int .i64 5, .int .i64 n], .int .i64 kind, .int .i64 arg] w fun e w' => e = .returned (.tuple #[]) ∧ VrB w0 w' K g ⟨cs.set 2 x, st, wrap64 (at_ + 1), en, rt⟩ := by
  subst hn
  obtain ⟨vS, hv⟩ := h
  have hvl := blk_lt hv.hk
  have n1 : g ≠ w.heap.size := Nat.ne_of_lt hvl
  have n2 : w.heap.size ≠ g := fun e => n1 e.symm
  have hbk := blk_below hv.hk (below_alloc (Below.refl w.heap.size w) (.cells #[.int .i64 5, .int .i64 2] 36))
  have b5 := blk_cell hbk 5
  have z5 := blk_frozen hbk 5
  simp only [List.getElem?_toArray, List.getElem?_cons_zero, List.getElem?_cons_succ] at b5
  have h1 : VrB w0 ((w.setCell ⟨g, 5, none⟩ (.int .i64 (wrap64 (at_ + 1)))).alloc (.cells #[.int .i64 5, .int .i64 2] 36)) ((w.heap.size, .cells #[.int .i64 5, .int .i64 2] 36) :: K) g ⟨cs, x :: st, wrap64 (at_ + 1), en, rt⟩ := (VrB.setAt ⟨vS, hv⟩ _).moreAt _ _ (vm_ssz _ _ _)
  have h0 : Aside0 (VrB w0 w K g ⟨cs, x :: st, at_, en, rt⟩) := ⟨⟨vS, hv⟩⟩
  replace h1 := Aside0.mk h1
  clear hbk
  replace hv := Aside0.mk hv
  go_enter Try.func79, Try.ntmps79
  go_wp2
  refine vm_gen _ (fun W => VrB w0 W ((w.heap.size, .cells #[.int .i64 5, .int .i64 2] 36) :: K) g ⟨cs, x :: st, wrap64 (at_ + 1), en, rt⟩) h1.out ?_
  clear h1 b5 z5
  intro W h1
  obtain ⟨v1, q1⟩ := h1
  have k1 := blk_cell (q1.kept _ List.mem_cons_self).1 1
  have ck := blk_cell q1.hk 2
  have yk := blk_frozen q1.hk 2
  have h1 : Aside0 (VrB w0 W ((w.heap.size, .cells #[.int .i64 5, .int .i64 2] 36) :: K) g ⟨cs, x :: st, wrap64 (at_ + 1), en, rt⟩) := ⟨⟨v1, q1⟩⟩
  have hgl : g < W.heap.size := blk_lt q1.hk
  clear q1
  simp only [List.getElem?_toArray, List.getElem?_cons_zero, List.getElem?_cons_succ] at k1 ck
  go_region_held3 (fun W_ => W_.cell? ⟨w.heap.size, 1, none⟩ = some (.int .i64 2)) (first | assumption | exact k1 | exact k2 | exact vm_box (h2.out.setCs2 _)) ((go_at_call 91; (with_reducible refine (vr_pop w0 _ _ g _ _ _ h1.out.drew rfl).mono ?_); rintro e W2 ⟨rfl, h2⟩; obtain ⟨v2, q2⟩ := h2; have k2 := blk_cell (q2.kept _ List.mem_cons_self).1 1; have ck2 := blk_cell q2.hk 2; have yk2 := blk_frozen q2.hk 2; simp only [List.getElem?_toArray, List.getElem?_cons_zero, List.getElem?_cons_succ] at k2 ck2; replace h2 : Aside0 (VrB w0 W2 _ _ _) := ⟨⟨v2, q2⟩⟩; clear q2))
  go_wp2
  go_end0
  exact ⟨rfl, (h2.out.setCs2 x).less (fun q hq => List.mem_cons_of_mem _ hq)⟩
set_option maxRecDepth 100000 in
set_option maxHeartbeats 1000000 in
theorem vdo_load3 {w0 w : World} {K : List (Nat × Obj)} {g : Nat} {cs st : List Int} {at_ en rt : Int} (n kind arg : Int) (hn : n = 3) (h : VrB w0 w K g ⟨cs, st, at_, en, rt⟩) (hsm : st.length ≤ 990) :
    Calls Try.prog 79 #[.pointer (some ⟨g, 0, none⟩), .agg #[.int .i64 4, .int .i64 n], .int .i64 kind, .int .i64 arg] w fun e w' => e = .returned (.tuple #[]) ∧ VrB w0 w' K g ⟨cs, rdOf 0 cs 3 :: st, wrap64 (at_ + 1), en, rt⟩ := by
  subst hn
  obtain ⟨vS, hv⟩ := h
  have hvl := blk_lt hv.hk
  have n1 : g ≠ w.heap.size := Nat.ne_of_lt hvl
  have n2 : w.heap.size ≠ g := fun e => n1 e.symm
  have hbk := blk_below hv.hk (below_alloc (Below.refl w.heap.size w) (.cells #[.int .i64 4, .int .i64 3] 36))
  have b5 := blk_cell hbk 5
  have z5 := blk_frozen hbk 5
  simp only [List.getElem?_toArray, List.getElem?_cons_zero, List.getElem?_cons_succ] at b5
  have h1 : VrB w0 ((w.setCell ⟨g, 5, none⟩ (.int .i64 (wrap64 (at_ + 1)))).alloc (.cells #[.int .i64 4, .int .i64 3] 36)) ((w.heap.size, .cells #[.int .i64 4, .int .i64 3] 36) :: K) g ⟨cs, st, wrap64 (at_ + 1), en, rt⟩ := (VrB.setAt ⟨vS, hv⟩ _).moreAt _ _ (vm_ssz _ _ _)
  have h0 : Aside0 (VrB w0 w K g ⟨cs, st, at_, en, rt⟩) := ⟨⟨vS, hv⟩⟩
  replace h1 := Aside0.mk h1
  clear hbk
  replace hv := Aside0.mk hv
  go_enter Try.func79, Try.ntmps79
  go_wp2
  refine vm_gen _ (fun W => VrB w0 W ((w.heap.size, .cells #[.int .i64 4, .int .i64 3] 36) :: K) g ⟨cs, st, wrap64 (at_ + 1), en, rt⟩) h1.out ?_
  clear h1 b5 z5
  intro W h1
  obtain ⟨v1, q1⟩ := h1
  have k1 := blk_cell (q1.kept _ List.mem_cons_self).1 1
  have ck := blk_cell q1.hk 3
  have yk := blk_frozen q1.hk 3
  have h1 : Aside0 (VrB w0 W ((w.heap.size, .cells #[.int .i64 4, .int .i64 3] 36) :: K) g ⟨cs, st, wrap64 (at_ + 1), en, rt⟩) := ⟨⟨v1, q1⟩⟩
  have hgl : g < W.heap.size := blk_lt q1.hk
  clear q1
  simp only [List.getElem?_toArray, List.getElem?_cons_zero, List.getElem?_cons_succ] at k1 ck
  go_region_held3 (fun W_ => W_.cell? ⟨g, 3, none⟩ = some (.int .i64 (rdOf 0 cs 3)) ∧ W_.cell? ⟨w.heap.size, 1, none⟩ = some (.int .i64 3)) (first | assumption | exact ⟨ck, k1⟩ | exact ⟨ck2, k2⟩) ((go_at_call 90; (with_reducible refine (vr_push w0 _ _ g _ _ h1.out.drew (by first | omega | (simp only [List.length_cons]; omega))).mono ?_); rintro e W2 ⟨rfl, h2⟩; obtain ⟨v2, q2⟩ := h2; have k2 := blk_cell (q2.kept _ List.mem_cons_self).1 1; have ck2 := blk_cell q2.hk 3; simp only [List.getElem?_toArray, List.getElem?_cons_zero, List.getElem?_cons_succ] at k2 ck2; replace h2 : Aside0 (VrB w0 W2 _ _ _) := ⟨⟨v2, q2⟩⟩; clear q2))
  go_wp2
  go_end0
  exact ⟨rfl, h2.out.less (fun q hq => List.mem_cons_of_mem _ hq)⟩
set_option maxRecDepth 100000 in
set_option maxHeartbeats 1000000 in
theorem vdo_store3 {w0 w : World} {K : List (Nat × Obj)} {g : Nat} {cs st : List Int} {at_ en rt : Int} (n kind arg x : Int) (hn : n = 3) (h : VrB w0 w K g ⟨cs, x :: st, at_, en, rt⟩) (hsm : st.length ≤ 990) :
    Calls Try.prog 79 #[.pointer (some ⟨g, 0, none⟩), .agg #[.int .i64 5, .int .i64 n], .int .i64 kind, .int .i64 arg] w fun e w' => e = .returned (.tuple #[]) ∧ VrB w0 w' K g ⟨cs.set 3 x, st, wrap64 (at_ + 1), en, rt⟩ := by
  subst hn
  obtain ⟨vS, hv⟩ := h
  have hvl := blk_lt hv.hk
  have n1 : g ≠ w.heap.size := Nat.ne_of_lt hvl
  have n2 : w.heap.size ≠ g := fun e => n1 e.symm
  have hbk := blk_below hv.hk (below_alloc (Below.refl w.heap.size w) (.cells #[.int .i64 5, .int .i64 3] 36))
  have b5 := blk_cell hbk 5
  have z5 := blk_frozen hbk 5
  simp only [List.getElem?_toArray, List.getElem?_cons_zero, List.getElem?_cons_succ] at b5
  have h1 : VrB w0 ((w.setCell ⟨g, 5, none⟩ (.int .i64 (wrap64 (at_ + 1)))).alloc (.cells #[.int .i64 5, .int .i64 3] 36)) ((w.heap.size, .cells #[.int .i64 5, .int .i64 3] 36) :: K) g ⟨cs, x :: st, wrap64 (at_ + 1), en, rt⟩ := (VrB.setAt ⟨vS, hv⟩ _).moreAt _ _ (vm_ssz _ _ _)
  have h0 : Aside0 (VrB w0 w K g ⟨cs, x :: st, at_, en, rt⟩) := ⟨⟨vS, hv⟩⟩
  replace h1 := Aside0.mk h1
  clear hbk
  replace hv := Aside0.mk hv
  go_enter Try.func79, Try.ntmps79
  go_wp2
  refine vm_gen _ (fun W => VrB w0 W ((w.heap.size, .cells #[.int .i64 5, .int .i64 3] 36) :: K) g ⟨cs, x :: st, wrap64 (at_ + 1), en, rt⟩) h1.out ?_
  clear h1 b5 z5
  intro W h1
  obtain ⟨v1, q1⟩ := h1
  have k1 := blk_cell (q1.kept _ List.mem_cons_self).1 1
  have ck := blk_cell q1.hk 3
  have yk := blk_frozen q1.hk 3
  have h1 : Aside0 (VrB w0 W ((w.heap.size, .cells #[.int .i64 5, .int .i64 3] 36) :: K) g ⟨cs, x :: st, wrap64 (at_ + 1), en, rt⟩) := ⟨⟨v1, q1⟩⟩
  have hgl : g < W.heap.size := blk_lt q1.hk
  clear q1
  simp only [List.getElem?_toArray, List.getElem?_cons_zero, List.getElem?_cons_succ] at k1 ck
  go_region_held3 (fun W_ => W_.cell? ⟨w.heap.size, 1, none⟩ = some (.int .i64 3)) (first | assumption | exact k1 | exact k2 | exact vm_box (h2.out.setCs3 _)) ((go_at_call 91; (with_reducible refine (vr_pop w0 _ _ g _ _ _ h1.out.drew rfl).mono ?_); rintro e W2 ⟨rfl, h2⟩; obtain ⟨v2, q2⟩ := h2; have k2 := blk_cell (q2.kept _ List.mem_cons_self).1 1; have ck2 := blk_cell q2.hk 3; have yk2 := blk_frozen q2.hk 3; simp only [List.getElem?_toArray, List.getElem?_cons_zero, List.getElem?_cons_succ] at k2 ck2; replace h2 : Aside0 (VrB w0 W2 _ _ _) := ⟨⟨v2, q2⟩⟩; clear q2))
  go_wp2
  go_end0
  exact ⟨rfl, (h2.out.setCs3 x).less (fun q hq => List.mem_cons_of_mem _ hq)⟩
end Go.Proofs.Ytddkoimaghcbeaa.PVmSteps
